/- The plain law of FnCheapHands: what is drawn. -/
import Derived.Test.YtjmjmpbphhbmpaaDoorYC
import Derived.Laws.BitsLemmas
namespace Go.Proofs.YtjmjmpbphhbmpaaDoor.QCB
open Go.RowKit Go.Proofs.YtjmjmpbphhbmpaaDoorQ Go.Proofs.YtjmjmpbphhbmpaaDoorW.PrintWords Go.Proofs.YtjmjmpbphhbmpaaDoorW.PrintLast Go.Proofs.YtjmjmpbphhbmpaaDoorW.PrintMore Go.Proofs.YtjmjmpbphhbmpaaDoor.ZA

def Bytes (l : List Int) : Prop := l.length ≤ 100000 ∧ ∀ x ∈ l, 0 ≤ x ∧ x ≤ 255
theorem rd_byte {l : List Int} (h : Bytes l) (i : Int) : 0 ≤ rd l i ∧ rd l i ≤ 255 := by
  unfold rd
  rw [List.getD_eq_getElem?_getD]
  cases hc : l[i.toNat]? with
  | none => simp
  | some x => exact h.2 x (List.mem_of_getElem? hc)
theorem u64_wrap (n : Int) : IntKind.u64.wrap n = n % 18446744073709551616 := by simp [IntKind.wrap, IntKind.bits, IntKind.signed]
theorem and255 (x : Int) (h0 : 0 ≤ x) (h1 : x < 18446744073709551616) : Go.bits .and .u64 x 255 = x % 256 :=
  bits_mask .u64 64 (by decide) (fun n h0 h1 => by rw [u64_wrap]; omega) 8 (by decide) x h0 h1
theorem next_ok {l : List Int} (hb : Bytes l) (a sd : Int) (h0 : 0 ≤ a) (h1 : a ≤ 1000000000) : ∃ v sd', spec_l00Src_next.f l a sd = some (v, a + 1, sd') ∧ 0 ≤ v ∧ v ≤ 255 := by
  have hr := rd_byte hb a
  have hw : wrap64 (a + 1) = a + 1 := w64 (by omega) (by omega)
  have hm : ∀ x : Int, 0 ≤ wrap64 (Go.bits .and .u64 (IntKind.u64.wrap x / 1099511627776) 255) ∧ wrap64 (Go.bits .and .u64 (IntKind.u64.wrap x / 1099511627776) 255) ≤ 255 := fun x => by
    rw [u64_wrap, and255 _ (by omega) (by omega), w64 (by omega) (by omega)]
    omega
  unfold spec_l00Src_next.f
  rw [hw]
  by_cases c : a < (l.length : Int)
  · rw [if_pos c, if_pos h0, if_pos (by omega)]
    exact ⟨_, _, rfl, by rw [w64 (by omega) (by omega)]; omega⟩
  · rw [if_neg c, if_neg (by omega)]
    exact ⟨_, _, rfl, hm _⟩
theorem pick_ok {l : List Int} (hb : Bytes l) (a sd n : Int) (h0 : 0 ≤ a) (h1 : a ≤ 900000000) : ∃ v a' sd', spec_l00Src_pick.f l a sd n = some (v, a', sd') ∧ a ≤ a' ∧ a' ≤ a + 2 ∧ 0 ≤ v ∧ (1 ≤ n → v < n) ∧ (n ≤ 1 → v = 0) := by
  unfold spec_l00Src_pick.f
  by_cases c : n ≤ 1
  · rw [if_pos c]
    exact ⟨0, a, sd, rfl, by omega, by omega, by omega, fun h => by omega, fun _ => rfl⟩
  · rw [if_neg c]
    obtain ⟨v, sd1, e1, b0, b1⟩ := next_ok hb a sd h0 (by omega)
    rw [e1]
    simp only [Option.bind_some]
    by_cases d : n > 200
    · rw [if_pos d]
      obtain ⟨v2, sd2, e2, b2, b3⟩ := next_ok hb (a + 1) sd1 (by omega) (by omega)
      rw [e2]
      simp only [Option.bind_some]
      rw [if_neg (by omega), w64 (n := v * 256) (by omega) (by omega), w64 (by omega) (by omega), Int.tmod_eq_emod_of_nonneg (by omega)]
      exact ⟨_, _, _, rfl, by omega, by omega, Int.emod_nonneg _ (by omega), fun _ => Int.emod_lt_of_pos _ (by omega), fun h => by omega⟩
    · rw [if_neg d, if_neg (by omega), Int.tmod_eq_emod_of_nonneg (by omega)]
      exact ⟨_, _, _, rfl, by omega, by omega, Int.emod_nonneg _ (by omega), fun _ => Int.emod_lt_of_pos _ (by omega), fun h => by omega⟩
theorem one_ok {l : List Int} (hb : Bytes l) (a sd n : Int) (h0 : 0 ≤ a) (h1 : a ≤ 900000000) : ∃ b a' sd', spec_l00Src_one.f l a sd n = some (b, a', sd') ∧ a ≤ a' ∧ a' ≤ a + 2 := by
  obtain ⟨v, a', sd', e, g0, g1, _⟩ := pick_ok hb a sd n h0 h1
  unfold spec_l00Src_one.f
  rw [e]
  exact ⟨_, _, _, rfl, g0, g1⟩

/-! ### hands -/
structure Gd (x : S33) : Prop where
  len : x.f1.length ≤ 6
  mins : ∀ m ∈ x.f1, 0 ≤ m ∧ m ≤ 690
  wage : 0 ≤ x.f2 ∧ x.f2 ≤ 3900
theorem new_loop {l : List Int} (hb : Bytes l) (nm : ByteArray) : ∀ (n : Nat) (mins : List Int) (a sd : Int), 0 ≤ a → a + 4 * n ≤ 700000000 → mins.length + n ≤ 100 → (∀ m ∈ mins, 0 ≤ m ∧ m ≤ 690) →
    ∃ mins' wg a' sd', Ev (fun k => spec_l26New.l0 k (n : Int) l a sd nm mins 0) (nm, mins', wg, a', sd') ∧ a ≤ a' ∧ a' ≤ a + 4 * n + 2 ∧ mins'.length = mins.length + n ∧ (∀ m ∈ mins', 0 ≤ m ∧ m ≤ 690) ∧ 0 ≤ wg ∧ wg ≤ 3900 := by
  intro n
  induction n with
  | zero =>
    intro mins a sd h0 h1 h2 h3
    obtain ⟨v, a1, sd1, e1, g1, q1, b0, b1, _⟩ := pick_ok hb a sd 40 h0 (by omega)
    have := b1 (by omega)
    refine ⟨mins, 100 * v, a1, sd1, Ev.step (f := fun _ => some (nm, mins, 100 * v, a1, sd1)) (fun k => ?_) (Ev.now _), by omega, by omega, by simp, h3, by omega, by omega⟩
    simp only [spec_l26New.l0]
    rw [if_neg (by omega), e1, Option.bind_some, w64 (by omega) (by omega)]
  | succ n ih =>
    intro mins a sd h0 h1 h2 h3
    obtain ⟨b, a1, sd1, e1, g1, q1⟩ := one_ok hb a sd 4 h0 (by omega)
    have hw : wrap64 (((n + 1 : Nat) : Int) - 1) = (n : Int) := by rw [w64 (by omega) (by omega)]; omega
    cases b with
    | true =>
      obtain ⟨mins', wg, a', sd', he, c1, c2, c3, c4, c5⟩ := ih (mins ++ [0]) a1 sd1 (by omega) (by omega) (by simp; omega) (by
        intro m hm
        rcases List.mem_append.1 hm with hm | hm
        · exact h3 m hm
        · rw [List.mem_singleton.1 hm]; omega)
      refine ⟨mins', wg, a', sd', Ev.step (fun k => ?_) he, by omega, by omega, by rw [c3]; simp; omega, c4, c5⟩
      simp only [spec_l26New.l0]
      rw [if_pos (by omega), e1, Option.bind_some, if_pos rfl, if_pos (by omega), hw]
    | false =>
      obtain ⟨v, a2, sd2, e2, g2, q2, b0, b1, _⟩ := pick_ok hb a1 sd1 24 (by omega) (by omega)
      have := b1 (by omega)
      obtain ⟨mins', wg, a', sd', he, c1, c2, c3, c4, c5⟩ := ih (mins ++ [30 * v]) a2 sd2 (by omega) (by omega) (by simp; omega) (by
        intro m hm
        rcases List.mem_append.1 hm with hm | hm
        · exact h3 m hm
        · rw [List.mem_singleton.1 hm]; omega)
      refine ⟨mins', wg, a', sd', Ev.step (fun k => ?_) he, by omega, by omega, by rw [c3]; simp; omega, c4, c5⟩
      simp only [spec_l26New.l0]
      rw [if_pos (by omega), e1, Option.bind_some, if_neg (show ¬ (false = true) by decide), e2, Option.bind_some, if_pos (by omega), hw, w64 (n := 30 * v) (by omega) (by omega)]
theorem hand_ok' {l : List Int} (hb : Bytes l) (nm : ByteArray) (a sd : Int) (h0 : 0 ≤ a) (h1 : a ≤ 600000000) : ∃ mins wg a' sd', Ev (fun k => spec_l26New.f k l a sd nm) (nm, mins, wg, a', sd') ∧ a ≤ a' ∧ a' ≤ a + 30 ∧ Gd ⟨nm, mins, wg⟩ := by
  obtain ⟨v, a1, sd1, e1, g1, q1, b0, b1, _⟩ := pick_ok hb a sd 7 h0 (by omega)
  have := b1 (by omega)
  obtain ⟨mins', wg, a', sd', he, c1, c2, c3, c4, c5⟩ := new_loop hb nm v.toNat [] a1 sd1 (by omega) (by omega) (by simp; omega) (by simp)
  rw [Int.toNat_of_nonneg b0] at he
  refine ⟨mins', wg, a', sd', Ev.congr (fun k => ?_) he, by omega, by omega, ⟨by show mins'.length ≤ 6; rw [c3]; simp; omega, c4, c5⟩⟩
  unfold spec_l26New.f
  rw [e1, Option.bind_some]
abbrev six : List ByteArray := [(⟨#[109, 101, 103]⟩ : ByteArray), (⟨#[116, 111, 109]⟩ : ByteArray), (⟨#[97, 100, 97, 45, 50]⟩ : ByteArray), (⟨#[106, 111, 101]⟩ : ByteArray), (⟨#[101, 118, 101]⟩ : ByteArray), (⟨#[115, 97, 109]⟩ : ByteArray)]
theorem rdOf_six (n : Nat) (h : n < 6) : six.take (n + 1) = six.take n ++ [rdOf ByteArray.empty six (n : Int)] := by
  rw [List.take_add_one, List.getElem?_eq_getElem (show n < six.length from h)]
  simp [rdOf, List.getD_eq_getElem?_getD, List.getElem?_eq_getElem (show n < six.length from h)]
theorem draw_loop {l : List Int} (hb : Bytes l) : ∀ (n : Nat) (out : List S33) (a sd : Int), 0 ≤ a → a + 30 * n ≤ 500000000 → out.length + n ≤ 6 → (∀ x ∈ out, Gd x) → out.map S33.f0 = six.take out.length →
    ∃ r a' sd', Ev (fun k => spec_l26Draw.l0 k six out (n : Int) l a sd) (r, a', sd') ∧ r.length = out.length + n ∧ (∀ x ∈ r, Gd x) ∧ r.map S33.f0 = six.take r.length := by
  intro n
  induction n with
  | zero =>
    intro out a sd h0 h1 h2 h3 h4
    refine ⟨out, a, sd, Ev.step (f := fun _ => some (out, a, sd)) (fun k => ?_) (Ev.now _), by simp, h3, h4⟩
    simp only [spec_l26Draw.l0]
    rw [if_neg (by omega)]
  | succ n ih =>
    intro out a sd h0 h1 h2 h3 h4
    obtain ⟨mins, wg, a1, sd1, e1, g1, q1, hg⟩ := hand_ok' hb (rdOf ByteArray.empty six (out.length : Int)) a sd h0 (by omega)
    have hw : wrap64 (((n + 1 : Nat) : Int) - 1) = (n : Int) := by rw [w64 (by omega) (by omega)]; omega
    obtain ⟨r, a', sd', he, c1, c2, c3⟩ := ih (out ++ [⟨rdOf ByteArray.empty six (out.length : Int), mins, wg⟩]) a1 sd1 (by omega) (by omega) (by simp; omega) (by
        intro x hx
        rcases List.mem_append.1 hx with hx | hx
        · exact h3 x hx
        · rw [List.mem_singleton.1 hx]; exact hg) (by
        rw [List.map_append, h4, List.length_append, List.length_singleton, rdOf_six _ (by omega)]; rfl)
    refine ⟨r, a', sd', Ev.step (f := fun k => (spec_l26New.f k l a sd (rdOf ByteArray.empty six (out.length : Int))).bind fun bt144 => (if out.length < 2932031007402 then (spec_l26Draw.l0 k six (out ++ [(⟨bt144.1, bt144.2.1, bt144.2.2.1⟩ : S33)]) (n : Int) l bt144.2.2.2.1 bt144.2.2.2.2) else (none))) (fun k => ?_) (Ev.bind e1 (Ev.congr (fun k => if_pos (by omega)) he)), by rw [c1]; simp; omega, c2, c3⟩
    simp only [spec_l26Draw.l0]
    rw [if_pos (by omega), if_pos (by omega), if_pos (show (out.length : Int) < (six.length : Int) by show (out.length : Int) < 6; omega), hw]
theorem hands_drawn {l : List Int} (hb : Bytes l) : ∃ H, Ev (fun k => spec_A2Hands.f k l) H ∧ H.length ≤ 6 ∧ (∀ x ∈ H, Gd x) ∧ H.map S33.f0 = six.take H.length := by
  obtain ⟨v, a1, sd1, e1, g1, q1, b0, b1, _⟩ := pick_ok hb 0 0 7 (by omega) (by omega)
  have := b1 (by omega)
  obtain ⟨r, a', sd', he, c1, c2, c3⟩ := draw_loop hb v.toNat [] a1 sd1 (by omega) (by omega) (by simp; omega) (by simp) rfl
  rw [Int.toNat_of_nonneg b0] at he
  have hd : Ev (fun k => spec_l26Draw.f k l 0 0) (r, a', sd') := by
    refine Ev.congr (fun k => ?_) he
    unfold spec_l26Draw.f
    rw [e1, Option.bind_some]
  refine ⟨r, Ev.congr (f := fun k => (spec_l26Draw.f k l 0 0).bind fun bt159 => some bt159.1) (fun k => rfl) (Ev.bind hd (Ev.now _)), by rw [c1]; simp; omega, c2, c3⟩
theorem six_names : ∀ s ∈ six, nameB s = true := by decide
theorem six_nodup : six.Nodup := by decide
theorem ok_from : ∀ (ys pre : List S33), (∀ x ∈ ys, oneB x = true) → ((pre ++ ys).map S33.f0).Nodup → okFrom pre ys = true := by
  intro ys
  induction ys with
  | nil => intro pre _ _; rfl
  | cons y ys ih =>
    intro pre h1 h2
    rw [okFrom, h1 y List.mem_cons_self, ih (pre ++ [y]) (fun x hx => h1 x (List.mem_cons_of_mem _ hx)) (by rwa [← snoc])]
    have : (pre.any fun p => eqN p y) = false := by
      rw [List.any_eq_false]
      intro p hp e
      have e : p.f0 = y.f0 := by
        unfold eqN at e
        rw [beq_iff_eq] at e
        exact L_inj (by rw [← toList_L, ← toList_L, e])
      rw [List.map_append, List.nodup_append] at h2
      exact h2.2.2 _ (List.mem_map_of_mem hp) _ (List.mem_map_of_mem (List.mem_cons_self)) e
    rw [this]; rfl
theorem hands_valid {H : List S33} (h1 : H.length ≤ 6) (h2 : ∀ x ∈ H, Gd x) (h3 : H.map S33.f0 = six.take H.length) : (∀ x ∈ H, oneB x = true) ∧ okB H = true := by
  have ho : ∀ x ∈ H, oneB x = true := by
    intro x hx
    obtain ⟨g1, g2, g3⟩ := h2 x hx
    have hn : nameB x.f0 = true := six_names _ (by
      have : x.f0 ∈ six.take H.length := by rw [← h3]; exact List.mem_map_of_mem hx
      exact List.mem_of_mem_take this)
    unfold oneB inB
    rw [hn, decide_eq_true (show x.f1.length ≤ 14 by omega), decide_eq_true (show 0 ≤ x.f2 ∧ x.f2 ≤ 100000 by omega)]
    simp only [Bool.and_true, List.all_eq_true, decide_eq_true_eq]
    intro m hm
    have := g2 m hm
    omega
  refine ⟨ho, ?_⟩
  unfold okB
  rw [ok_from H [] ho (by rw [List.nil_append, h3]; exact six_nodup.sublist (List.take_sublist _ _)), decide_eq_true (by omega)]
  rfl
end Go.Proofs.YtjmjmpbphhbmpaaDoor.QCB
