/- The plain law of FnExactCheapestHands: the two searches find the same; what was marked is held; all together. -/
import Derived.Test.YtjmjmpbphhbmpaaCh10
namespace Go.Proofs.Ytjmjmpbphhbmpaa.QCH
open Go.RowKit Go.Proofs.YtjmjmpbphhbmpaaQ Go.Proofs.YtjmjmpbphhbmpaaW.PrintWords Go.Proofs.YtjmjmpbphhbmpaaW.PrintLast Go.Proofs.YtjmjmpbphhbmpaaW.PrintMore

/-! ### the search -/
theorem upd_dear (need : Int) (set : List Int) (wk py : Int) (st : List Int × Int) (h0 : 0 ≤ st.2) (h1 : st.2 ≤ py) : chUpd need set wk py st = st := by
  unfold chUpd
  split
  · rw [if_neg (by omega), if_neg (by omega)]
  · rfl
/-- Behind a set that is dear nothing is found. -/
theorem all_dear (mn pa : S43 → Int) (need : Int) : ∀ (l : List S43) (i : Int) (set : List Int) (wk py : Int) (st : List Int × Int),
    (∀ x ∈ l, 0 ≤ pa x ∧ pa x ≤ 100000000) → 0 ≤ py → py + l.length * 100000000 ≤ 9223372036854775807 → 0 ≤ st.2 → st.2 ≤ py → chAll mn pa need l i set wk py st = st
  | [], _, _, _, _, _, _, _, _, _, _ => rfl
  | x :: xs, i, set, wk, py, st, h, hp, hb, h0, h1 => by
    have hx := h x (by simp)
    rw [List.length_cons] at hb
    have hw : wrap64 (py + pa x) = py + pa x := w64 (by omega) (by omega)
    rw [chAll, hw, upd_dear _ _ _ _ _ h0 (by omega), all_dear mn pa need xs _ _ _ (py + pa x) st (fun q hq => h q (by simp [hq])) (by omega) (by omega) h0 (by omega)]
    exact all_dear mn pa need xs _ _ _ py st (fun q hq => h q (by simp [hq])) hp (by omega) h0 h1
theorem sp_see (mn pa : S43 → Int) (need : Int) (l : List S43) (i : Int) (set : List Int) (wk py : Int) (st : List Int × Int)
    (h : ∀ x ∈ l, 0 ≤ pa x ∧ pa x ≤ 100000000) (hp : 0 ≤ py) (hb : py + l.length * 100000000 ≤ 9223372036854775807) (ha : spAll mn pa need l i set wk py st = chAll mn pa need l i set wk py st) :
    spSee mn pa need l i set wk py st = chAll mn pa need l i set wk py (chUpd need set wk py st) := by
  unfold spSee
  by_cases c1 : st.2 ≥ 0 ∧ py ≥ st.2
  · rw [if_pos c1, upd_dear _ _ _ _ _ c1.1 c1.2, all_dear mn pa need l i set wk py st h hp hb c1.1 c1.2]
  · rw [if_neg c1]
    by_cases c2 : wk ≥ need
    · rw [if_pos c2]
      have hu : chUpd need set wk py st = (set, py) := by
        unfold chUpd
        rw [if_pos c2]
        by_cases c3 : st.2 < 0
        · rw [if_pos c3]
        · rw [if_neg c3, if_pos (by omega)]
      rw [hu, all_dear mn pa need l i set wk py (set, py) h hp hb hp (Int.le_refl _)]
    · rw [if_neg c2, ha]
      unfold chUpd
      rw [if_neg c2]
theorem sp_all (mn pa : S43 → Int) (need : Int) : ∀ (l : List S43) (i : Int) (set : List Int) (wk py : Int) (st : List Int × Int),
    (∀ x ∈ l, 0 ≤ pa x ∧ pa x ≤ 100000000) → 0 ≤ py → py + l.length * 100000000 ≤ 9223372036854775807 → spAll mn pa need l i set wk py st = chAll mn pa need l i set wk py st
  | [], _, _, _, _, _, _, _, _ => rfl
  | x :: xs, i, set, wk, py, st, h, hp, hb => by
    have hx := h x (by simp)
    rw [List.length_cons] at hb
    have hw : wrap64 (py + pa x) = py + pa x := w64 (by omega) (by omega)
    have h' : ∀ q ∈ xs, 0 ≤ pa q ∧ pa q ≤ 100000000 := fun q hq => h q (by simp [hq])
    have hs := sp_see mn pa need xs (i + 1) (set ++ [i]) (wrap64 (wk + mn x)) (py + pa x) st h' (by omega) (by omega) (sp_all mn pa need xs _ _ _ _ _ h' (by omega) (by omega))
    rw [spAll, chAll, hw, ← hs, sp_all mn pa need xs _ _ _ _ _ h' hp (by omega)]
    rfl
theorem sp_ch (mn pa : S43 → Int) (need : Int) (l : List S43) (h : ∀ x ∈ l, 0 ≤ pa x ∧ pa x ≤ 100000000) (hb : l.length ≤ 10) : spRes mn pa need l = chRes mn pa need l := by
  unfold spRes chRes
  rw [sp_see mn pa need l 0 [] 0 0 ([], -1) h (by omega) (by omega) (sp_all mn pa need l _ _ _ _ _ h (by omega) (by omega))]
theorem all_len (mn pa : S43 → Int) (need : Int) (N : Nat) : ∀ (l : List S43) (i : Int) (set : List Int) (wk py : Int) (st : List Int × Int), set.length + l.length ≤ N → st.1.length ≤ N → (chAll mn pa need l i set wk py st).1.length ≤ N
  | [], _, _, _, _, _, _, h => h
  | x :: xs, i, set, wk, py, st, h, h1 => by
    rw [List.length_cons] at h
    rw [chAll]
    refine all_len mn pa need N xs _ _ _ _ _ (by omega) (all_len mn pa need N xs _ _ _ _ _ (by simp; omega) ?_)
    unfold chUpd
    repeat' split
    all_goals first | exact h1 | (simp; omega)
theorem ch_len (mn pa : S43 → Int) (need : Int) (l : List S43) : (chRes mn pa need l).1.length ≤ l.length := by
  unfold chRes
  split
  · simp
  · refine all_len mn pa need l.length l 0 [] 0 0 _ (by simp) ?_
    unfold chUpd
    repeat' split
    all_goals simp

/-! ### the same, marks, what is held -/
theorem eq_loop (l : List Int) (hl : (l.length : Int) < 9223372036854775807) : ∀ (ys pre : List Int), l = pre ++ ys → Ev (fun k => laws_eqInt64S.l0 k l l (pre.length : Int)) true
  | [], pre, e => by
    have hp : ¬ ((pre.length : Nat) : Int) < (l.length : Int) := by rw [e]; exact len_end _
    refine Ev.step (f := fun _ => some true) (fun k => ?_) (Ev.now _)
    simp only [laws_eqInt64S.l0]
    rw [if_neg hp]
  | y :: ys, pre, e => by
    have hn : wrap64 ((pre.length : Int) + 1) = (((pre ++ [y]).length : Nat) : Int) := next_mid _ _ (by rw [e] at hl; simp at hl; omega)
    have hp : ((pre.length : Nat) : Int) < (l.length : Int) := by rw [e]; exact len_mid _ _ _
    refine Ev.step (fun k => ?_) (eq_loop l hl ys (pre ++ [y]) (by rw [e]; simp))
    simp only [laws_eqInt64S.l0]
    rw [if_pos hp, if_pos (by omega), if_pos hp, if_pos trivial, hn]
theorem eq_self (l : List Int) (hl : (l.length : Int) < 9223372036854775807) : Ev (fun k => laws_eqInt64S.f k l l) true := by
  refine Ev.congr (fun k => ?_) (eq_loop l hl l [] rfl)
  unfold laws_eqInt64S.f
  rw [if_pos rfl]
  rfl
theorem eqh_self (x : S43) (hl : (x.f1.length : Int) < 9223372036854775807) : Ev (fun k => laws_eqHand.f k x.f0 x.f1 x.f2 x.f0 x.f1 x.f2) true := by
  refine Ev.congr (f := fun k => (laws_eqInt64S.f k x.f1 x.f1).bind fun t => some t) (fun k => ?_) (Ev.bind (eq_self x.f1 hl) (Ev.now _))
  unfold laws_eqHand.f
  rw [if_pos rfl]
  congr 1
  funext t
  cases t <;> simp
theorem eqhs_loop (l : List S43) (hl : (l.length : Int) < 9223372036854775807) (hb : ∀ x ∈ l, (x.f1.length : Int) < 9223372036854775807) : ∀ (ys pre : List S43), l = pre ++ ys → Ev (fun k => laws_eqHandS.l0 k l l (pre.length : Int)) true
  | [], pre, e => by
    have hp : ¬ ((pre.length : Nat) : Int) < (l.length : Int) := by rw [e]; exact len_end _
    refine Ev.step (f := fun _ => some true) (fun k => ?_) (Ev.now _)
    simp only [laws_eqHandS.l0]
    rw [if_neg hp]
  | y :: ys, pre, e => by
    have hn : wrap64 ((pre.length : Int) + 1) = (((pre ++ [y]).length : Nat) : Int) := next_mid _ _ (by rw [e] at hl; simp at hl; omega)
    have hp : ((pre.length : Nat) : Int) < (l.length : Int) := by rw [e]; exact len_mid _ _ _
    have hr : rd_T43 l (pre.length : Int) = y := by rw [e]; exact rdT43_mid _ _ _
    refine Ev.step (f := fun k => (laws_eqHand.f k y.f0 y.f1 y.f2 y.f0 y.f1 y.f2).bind fun t => if t = true then laws_eqHandS.l0 k l l ((pre ++ [y]).length : Int) else some false) (fun k => ?_) (Ev.bind (eqh_self y (hb y (by rw [e]; simp))) (eqhs_loop l hl hb ys (pre ++ [y]) (by rw [e]; simp)))
    simp only [laws_eqHandS.l0]
    rw [if_pos hp, if_pos (by omega), if_pos hp, hr, hn]
theorem eqhs_self (l : List S43) (hl : (l.length : Int) < 9223372036854775807) (hb : ∀ x ∈ l, (x.f1.length : Int) < 9223372036854775807) : Ev (fun k => laws_eqHandS.f k l l) true := by
  refine Ev.congr (fun k => ?_) (eqhs_loop l hl hb l [] rfl)
  unfold laws_eqHandS.f
  rw [if_pos rfl]
  rfl
def seq : Nat → Int → List Int
  | 0, _ => []
  | n + 1, a => a :: seq n (a + 1)
theorem seq_len : ∀ (n : Nat) (a : Int), (seq n a).length = n
  | 0, _ => rfl
  | n + 1, a => by rw [seq, List.length_cons, seq_len n]
theorem mark_loop : ∀ (ys pre : List Int) (a : Int), 0 ≤ a → a + ys.length ≤ 1000000000 → (pre.length : Int) + ys.length ≤ 1000000000 →
    Ev (fun k => laws_markInt64S.l0 k (pre ++ ys) a (pre.length : Int)) (a + ys.length, pre ++ seq ys.length a) := by
  intro ys
  induction ys with
  | nil =>
    intro pre a h0 h1 h2
    have hp : ¬ ((pre.length : Nat) : Int) < ((pre ++ []).length : Int) := len_end _
    have he : (a + (([] : List Int).length : Int), pre ++ seq ([] : List Int).length a) = (a, pre ++ []) := by rw [List.length_nil, seq, Int.natCast_zero, Int.add_zero]
    rw [he]
    refine Ev.step (f := fun _ => some (a, pre ++ [])) (fun k => ?_) (Ev.now _)
    simp only [laws_markInt64S.l0]
    rw [if_neg hp]
  | cons y ys ihy =>
    intro pre a h0 h1 h2
    rw [List.length_cons] at h1 h2
    have hn : wrap64 ((pre.length : Int) + 1) = (((pre ++ [a]).length : Nat) : Int) := next_mid _ _ (by omega)
    have hp : ((pre.length : Nat) : Int) < ((pre ++ y :: ys).length : Int) := len_mid _ _ _
    have ih := ihy (pre ++ [a]) (a + 1) (by omega) (by omega) (by simp; omega)
    refine Ev.step (fun k => ?_) (show Ev _ _ from (show ((a + 1 + ys.length : Int), (pre ++ [a]) ++ seq ys.length (a + 1)) = (a + (y :: ys).length, pre ++ seq (y :: ys).length a) by rw [List.length_cons, seq, List.append_assoc]; simp; omega) ▸ ih)
    simp only [laws_markInt64S.l0]
    rw [if_pos hp, if_pos (by omega), hn, set_mid, w64 (n := a + 1) (by omega) (by omega), ← snoc]
theorem mark_ints (l : List Int) (a : Int) (h0 : 0 ≤ a) (h1 : a + l.length ≤ 1000000000) : Ev (fun k => laws_markInt64S.f k l a) (a + l.length, seq l.length a) := mark_loop l [] a h0 h1 (by simp; omega)
theorem held_loop (l : List Int) : ∀ (n : Nat) (pre : List Int) (a : Int), l = pre ++ seq n a → 0 ≤ a → a + n ≤ 1000000000 → (pre.length : Int) + n ≤ 1000000000 → Ev (fun k => laws_heldInt64S.l0 k l a (pre.length : Int)) (a + n) := by
  intro n
  induction n with
  | zero =>
    intro pre a e h0 h1 h2
    have hp : ¬ ((pre.length : Nat) : Int) < (l.length : Int) := by rw [e]; exact len_end _
    rw [Int.natCast_zero, Int.add_zero]
    refine Ev.step (f := fun _ => some a) (fun k => ?_) (Ev.now _)
    simp only [laws_heldInt64S.l0]
    rw [if_neg hp]
  | succ n ihn =>
    intro pre a e h0 h1 h2
    rw [seq] at e
    have hn : wrap64 ((pre.length : Int) + 1) = (((pre ++ [a]).length : Nat) : Int) := next_mid _ _ (by omega)
    have hp : ((pre.length : Nat) : Int) < (l.length : Int) := by rw [e]; exact len_mid _ _ _
    have hr : rd l (pre.length : Int) = a := by rw [e]; exact rd_mid _ _ _
    have ih := ihn (pre ++ [a]) (a + 1) (by rw [e]; simp) (by omega) (by omega) (by simp; omega)
    refine Ev.step (fun k => ?_) ((show a + 1 + (n : Int) = a + ((n + 1 : Nat) : Int) by omega) ▸ ih)
    simp only [laws_heldInt64S.l0]
    rw [if_pos hp, if_pos (by omega), hr, if_pos rfl, hn, w64 (n := a + 1) (by omega) (by omega)]
theorem held_ints (n : Nat) (a : Int) (h0 : 0 ≤ a) (h1 : a + n ≤ 1000000000) : Ev (fun k => laws_heldInt64S.f k (seq n a) a) (a + n) := held_loop (seq n a) n [] a rfl h0 h1 (by simp; omega)
theorem text_loop : ∀ (n : Nat) (s : ByteArray), (n : Int) + s.size ≤ 1000000000 → ∃ r, Ev (fun k => laws_markText.l0 k (n : Int) s) r := by
  intro n
  induction n using Nat.strongRecOn with
  | ind n ih =>
    intro s h
    by_cases c : n = 0
    · subst c
      refine ⟨_, Ev.step (f := fun _ => some ((⟨#[109]⟩ : ByteArray) ++ s)) (fun k => ?_) (Ev.now _)⟩
      simp only [laws_markText.l0]
      rw [if_neg (by omega), if_pos (by omega)]
    · have hd : wrap64 (Int.tdiv (n : Int) 10) = ((n / 10 : Nat) : Int) := by
        rw [Int.tdiv_eq_ediv_of_nonneg (by omega), w64 (by omega) (by omega)]; omega
      have hz : ((strOfNums [(wrap64 (48 + (Int.tmod (n : Int) 10))) % 256]) ++ s).size = 1 + s.size := by
        rw [ByteArray.size_append]; rfl
      obtain ⟨r, hr⟩ := ih (n / 10) (by omega) ((strOfNums [(wrap64 (48 + (Int.tmod (n : Int) 10))) % 256]) ++ s) (by rw [hz]; omega)
      refine ⟨r, Ev.step (fun k => ?_) hr⟩
      simp only [laws_markText.l0]
      rw [if_pos (by omega)]
      simp only [Option.bind_some]
      rw [if_pos (by rw [← ByteArray.size_append, hz]; omega), hd]
theorem mark_text (a : Int) (h0 : 0 ≤ a) (h1 : a ≤ 900000000) : ∃ r, Ev (fun k => laws_markText.f k a) r := by
  by_cases c : a ≤ 0
  · refine ⟨(⟨#[109, 48]⟩ : ByteArray), ⟨0, fun k _ => ?_⟩⟩
    unfold laws_markText.f
    exact if_pos c
  · obtain ⟨r, hr⟩ := text_loop a.toNat (⟨#[]⟩ : ByteArray) (by show _ + ((0 : Nat) : Int) ≤ _; omega)
    refine ⟨r, Ev.congr (fun k => ?_) hr⟩
    unfold laws_markText.f
    rw [if_neg c, Int.toNat_of_nonneg (by omega)]
def room : List S43 → Int
  | [] => 0
  | x :: xs => x.f1.length + 2 + room xs
theorem room_nn : ∀ l : List S43, 0 ≤ room l
  | [] => Int.le_refl _
  | x :: xs => by have := room_nn xs; unfold room; omega
theorem mark_hands : ∀ (l : List S43) (a : Int), 0 ≤ a → a + room l ≤ 900000000 → Ev (fun k => markH k l a) (a + room l)
  | [], a, _, _ => by
    unfold markH room
    rw [Int.add_zero]
    exact Ev.now _
  | x :: xs, a, h0, h1 => by
    have hn := room_nn xs
    rw [room] at h1
    obtain ⟨t, ht⟩ := mark_text a h0 (by omega)
    have hm := mark_ints x.f1 (a + 1) (by omega) (by omega)
    have ih := mark_hands xs (a + 1 + x.f1.length + 1) (by omega) (by omega)
    rw [show a + room (x :: xs) = a + 1 + x.f1.length + 1 + room xs by rw [room]; omega]
    refine Ev.congr (f := fun k => (laws_markText.f k a).bind fun _ => (laws_markInt64S.f k x.f1 (a + 1)).bind fun r => markH k xs (wrap64 (r.1 + 1))) (fun k => ?_) (Ev.bind ht (Ev.bind hm ?_))
    · rw [markH, w64 (n := a + 1) (by omega) (by omega)]
    · dsimp only
      rw [w64 (n := a + 1 + (x.f1.length : Int) + 1) (by omega) (by omega)]
      exact ih

/-! ### all together -/
def mnW (x : S43) : Int := sumW 0 x.f1
theorem all_congr {mn pa mn' pa' : S43 → Int} (need : Int) : ∀ (l : List S43) (i : Int) (set : List Int) (wk py : Int) (st : List Int × Int), (∀ x ∈ l, mn x = mn' x) → (∀ x ∈ l, pa x = pa' x) → chAll mn pa need l i set wk py st = chAll mn' pa' need l i set wk py st
  | [], _, _, _, _, _, _, _ => rfl
  | x :: xs, i, set, wk, py, st, h, g => by
    have ih := fun i set wk py st => all_congr need xs i set wk py st (fun q hq => h q (by simp [hq])) (fun q hq => g q (by simp [hq]))
    rw [chAll, chAll, h x (by simp), g x (by simp), ih, ih]
theorem res_congr {mn pa mn' pa' : S43 → Int} (need : Int) (l : List S43) (h : ∀ x ∈ l, mn x = mn' x) (g : ∀ x ∈ l, pa x = pa' x) : chRes mn pa need l = chRes mn' pa' need l := by
  unfold chRes
  rw [all_congr need l 0 [] 0 0 _ h g]
theorem room_bulk : ∀ l : List S36, room (l.map toS) ≤ bulk l + 2 * l.length
  | [] => by simp [room, bulk]
  | x :: xs => by
    have := room_bulk xs
    rw [List.map_cons, room, bulk, List.length_cons]
    have : ((toS x).f1.length : Int) = x.f1.length := rfl
    omega
theorem bulk_mem : ∀ (l : List S36), ∀ x ∈ l, (x.f1.length : Int) ≤ bulk l
  | [], x, h => by cases h
  | y :: ys, x, h => by
    have hn := bulk_nn ys
    rw [bulk]
    rcases List.mem_cons.1 h with rfl | h
    · omega
    · have := bulk_mem ys x h
      omega
theorem law (l : List S36) (need : Int) (hl : (l.length : Int) < 9223372036853727232) (hb : ∀ x ∈ l, x.f0.size ≤ 9223372036853727232 ∧ x.f1.length ≤ 9223372036853727232) :
    ∃ (k : Nat) (sz : Int), laws_szHandS.f k l 1048576 = some sz ∧ (sz < 0 ∨ 0 ≤ sz ∧ ∃ (mn pa : S43 → Int) (m : List S43) (v t : Bool) (r1 r1' : List Int) (r2 r3 K M : Int),
      laws_toHandS.f k l = some m ∧ spec_l26Ok.f k m = some v ∧ spec_l00In.f need 0 20000 = some t ∧
      (v = true → t = true → m.length ≤ 10) ∧
      (v = true → t = true → ∀ x ∈ m, spec_l00Sum.f k x.f1 = some (mn x)) ∧ (v = true → t = true → ∀ x ∈ m, spec_l26Pay.f k [x] 1440 0 = some (pa x)) ∧
      (if v = true then if t = true then spRes mn pa need m else ([], 0, 2) else ([], 0, 1)) = (r1, r2, r3) ∧
      impl_CheapestHands.f k m need = some (r1, r2, r3) ∧
      laws_eqInt64S.f k r1 r1 = some true ∧ laws_eqHandS.f k m m = some true ∧
      markH k m 1 = some K ∧ 0 ≤ K ∧ laws_markInt64S.f k r1 1 = some (M, r1') ∧ 0 ≤ M ∧ laws_heldInt64S.f k r1' 1 = some M) := by
  obtain ⟨sz, hsz, hs⟩ := sz_hands l hl hb
  rcases hs with hs | ⟨hs, hk⟩
  · obtain ⟨k, h⟩ := hsz.rounds
    exact ⟨k, sz, h, .inl hs⟩
  have hbn := bulk_nn l
  have hbm := bulk_mem l
  have hmem : ∀ x ∈ l.map toS, (x.f1.length : Int) ≤ 1048576 := by
    intro x hx
    obtain ⟨y, hy, rfl⟩ := List.mem_map.1 hx
    have := hbm y hy
    show (y.f1.length : Int) ≤ _
    omega
  have hlm : ((l.map toS).length : Int) ≤ 1048576 := by rw [List.length_map]; omega
  have hrm := room_bulk l
  generalize hm : l.map toS = m at *
  have e1 := to_hands l (by omega) (fun x hx => by have := hbm x hx; omega)
  rw [hm] at e1
  have e2 := spec_ok m (by omega) (fun x hx => by have := hmem x hx; omega)
  have e3 := impl_ok m (fun x hx => by have := hmem x hx; omega)
  have e4 := eqhs_self m (by omega) (fun x hx => by have := hmem x hx; omega)
  have e5 := mark_hands m 1 (by omega) (by omega)
  have hone : okB m = true → ∀ x ∈ m, oneB x = true := by
    intro h
    have hf : ∀ (ys pre : List S43), okFrom pre ys = true → ∀ x ∈ ys, oneB x = true := by
      intro ys
      induction ys with
      | nil => intro pre _ x hx; cases hx
      | cons y ys ih =>
        intro pre h x hx
        simp only [okFrom, Bool.and_eq_true] at h
        rcases List.mem_cons.1 hx with rfl | hx
        · exact h.1
        · exact ih _ h.2.2 x hx
    simp only [okB, Bool.and_eq_true] at h
    exact hf m [] h.1
  have e6 := ev_all m (p := fun k x => spec_l00Sum.f k x.f1 = some (sumW 0 x.f1)) (fun x hx => spec_sum x.f1 (by have := hmem x hx; omega))
  have e7 := ev_all m (p := fun k x => spec_l26Pay.f k [x] 1440 0 = some (payW x)) (fun x hx => spec_pay x (by have := hmem x hx; omega))
  have e8 := ev_all m (p := fun k x => impl_extraMinutes.f k x.f0 x.f1 x.f2 0 = some (extW 0 0 x.f1)) (fun x hx => impl_ext x 0 (by have := hmem x hx; omega))
  have e9 := ev_all m (p := fun k x => oneB x = true → impl_payOf.f k x.f0 x.f1 x.f2 1440 0 = some (payW x)) (fun x hx => by
    by_cases c : oneB x = true
    · obtain ⟨K, h⟩ := impl_pay x (by have := hmem x hx; omega) (one_facts c).1
      exact ⟨K, fun k hk _ => h k hk⟩
    · exact ⟨0, fun _ _ h => absurd h c⟩)
  let R : List Int × Int × Int := if okB m = true then if inB need 0 20000 = true then chRes mnW payW need m else ([], 0, 2) else ([], 0, 1)
  have hR : R.1.length ≤ 10 := by
    show (if okB m = true then if inB need 0 20000 = true then chRes mnW payW need m else ([], 0, 2) else ([], 0, 1)).1.length ≤ 10
    split
    · rename_i h
      split
      · have := ch_len mnW payW need m
        simp only [okB, Bool.and_eq_true, decide_eq_true_eq] at h
        omega
      · simp
    · simp
  have e10 := eq_self R.1 (by omega)
  have e11 := mark_ints R.1 1 (by omega) (by omega)
  have e12 := held_ints R.1.length 1 (by omega) (by omega)
  obtain ⟨k, hk⟩ := ev_and hsz (ev_and e1 (ev_and e2 (ev_and e3 (ev_and e4 (ev_and e5 (ev_and e6 (ev_and e7 (ev_and e8 (ev_and e9 (ev_and e10 (ev_and e11 e12)))))))))))
  obtain ⟨h0, h1, h2, h3, h4, h5, h6, h7, h8, h9, h10, h11, h12⟩ := hk k (Nat.le_refl _)
  have hokl : okB m = true → m.length ≤ 10 := by
    intro h
    simp only [okB, Bool.and_eq_true, decide_eq_true_eq] at h
    exact h.2
  have hpb : okB m = true → ∀ x ∈ m, 0 ≤ payW x ∧ payW x ≤ 100000000 := fun h x hx => pay_bound (hone h x hx)
  refine ⟨k, sz, h0, .inr ⟨hs, mnW, payW, m, okB m, inB need 0 20000, R.1, seq R.1.length 1, R.2.1, R.2.2, 1 + room m, 1 + R.1.length, h1, h2, spec_in _ _ _, fun h _ => hokl h, fun _ _ => h6, fun _ _ => h7, ?_, ?_, h10, h4, h5, by have := room_nn m; omega, h11, by omega, h12⟩⟩
  · show (if okB m = true then if inB need 0 20000 = true then spRes mnW payW need m else ([], 0, 2) else ([], 0, 1)) = R
    by_cases c : okB m = true
    · rw [sp_ch mnW payW need m (hpb c) (hokl c)]
    · show (if okB m = true then _ else _) = (if okB m = true then _ else _)
      rw [if_neg c, if_neg c]
  · show impl_CheapestHands.f k m need = some (if okB m = true then if inB need 0 20000 = true then chRes mnW payW need m else ([], 0, 2) else ([], 0, 1))
    dsimp only at h3
    unfold impl_CheapestHands.f
    rw [h3, impl_in]
    simp only [Option.bind_some]
    by_cases c : okB m = true
    · rw [if_pos c, if_pos c]
      by_cases d : inB need 0 20000 = true
      · rw [if_pos d, if_pos d, if_pos ⟨hokl c, by
          rw [List.all_eq_true]
          intro x hx
          rw [h8 x hx, h9 x hx (hone c x hx)]
          rfl⟩]
        congr 1
        refine res_congr need m (fun x hx => ?_) (fun x hx => ?_)
        · rw [h8 x hx]
          exact sum_ext _ _ (one_facts (hone c x hx)).1
        · rw [h9 x hx (hone c x hx)]
          rfl
      · rw [if_neg d, if_neg d]
    · rw [if_neg c, if_neg c]
end Go.Proofs.Ytjmjmpbphhbmpaa.QCH
