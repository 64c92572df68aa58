/- The plain law of FnExactCheapestHands: what its functions answer. -/
import Derived.Test.YtjmjmpbphhbmpaaCh7
namespace Go.Proofs.Ytjmjmpbphhbmpaa.QCH
open Go.RowKit Go.Proofs.YtjmjmpbphhbmpaaQ Go.Proofs.YtjmjmpbphhbmpaaW.PrintWords Go.Proofs.YtjmjmpbphhbmpaaW.PrintLast Go.Proofs.YtjmjmpbphhbmpaaW.PrintMore

/-! ### numbers and places in lists -/
theorem w64 {n : Int} (h0 : -9223372036854775808 ≤ n) (h1 : n ≤ 9223372036854775807) : wrap64 n = n := by unfold wrap64; omega
theorem len_mid {α : Type} (pre ys : List α) (y : α) : ((pre.length : Nat) : Int) < ((pre ++ y :: ys).length : Int) := by simp; omega
theorem len_end {α : Type} (pre : List α) : ¬ ((pre.length : Nat) : Int) < ((pre ++ []).length : Int) := by simp
theorem next_mid {α : Type} (pre : List α) (y : α) (h : (pre.length : Int) < 9223372036854775807) : wrap64 ((pre.length : Int) + 1) = (((pre ++ [y]).length : Nat) : Int) := by
  rw [w64 (by omega) (by omega)]; simp
theorem get_mid {α : Type} (pre ys : List α) (y d : α) : (pre ++ y :: ys).getD ((pre.length : Nat) : Int).toNat d = y := by simp [List.getD_eq_getElem?_getD]
theorem rd_mid (pre ys : List Int) (y : Int) : rd (pre ++ y :: ys) (pre.length : Int) = y := get_mid ..
theorem set_mid {α : Type} (pre ys : List α) (y z : α) : (pre ++ y :: ys).set ((pre.length : Nat) : Int).toNat z = pre ++ z :: ys := by simp
theorem snoc {α : Type} (pre ys : List α) (y : α) : pre ++ y :: ys = (pre ++ [y]) ++ ys := by simp

theorem ev_and {p q : Nat → Prop} (h : ∃ K, ∀ k, K ≤ k → p k) (h2 : ∃ K, ∀ k, K ≤ k → q k) : ∃ K, ∀ k, K ≤ k → p k ∧ q k := by
  obtain ⟨a, ha⟩ := h
  obtain ⟨b, hb⟩ := h2
  exact ⟨max a b, fun k hk => ⟨ha k (by omega), hb k (by omega)⟩⟩
theorem ev_all {α : Type} (l : List α) {p : Nat → α → Prop} (h : ∀ x ∈ l, ∃ K, ∀ k, K ≤ k → p k x) : ∃ K, ∀ k, K ≤ k → ∀ x ∈ l, p k x := by
  induction l with
  | nil => exact ⟨0, fun k _ x hx => by cases hx⟩
  | cons y ys ih =>
    obtain ⟨a, ha⟩ := h y (by simp)
    obtain ⟨b, hb⟩ := ih (fun x hx => h x (by simp [hx]))
    refine ⟨max a b, fun k hk x hx => ?_⟩
    rcases List.mem_cons.1 hx with rfl | hx
    · exact ha k (by omega)
    · exact hb k (by omega) x hx

/-! ### the sizes -/
theorem sz_int (l : List Int) (a : Int) (h0 : 0 ≤ a) (h1 : a ≤ 1048576) (hl : l.length ≤ 9223372036853727232) : laws_szInt64S.f l a = some (if a - l.length < 0 then -1 else a - l.length) := by
  unfold laws_szInt64S.f
  rw [w64 (by omega) (by omega)]
  split <;> rfl
theorem sz_hand (x : S36) (a : Int) (h0 : 0 ≤ a) (h1 : a ≤ 1048576) (hs : x.f0.size ≤ 9223372036853727232) (hl : x.f1.length ≤ 9223372036853727232) :
    laws_szHand.f x.f0 x.f1 x.f2 a = some (if a - x.f0.size - x.f1.length < 0 then -1 else a - x.f0.size - x.f1.length) := by
  unfold laws_szHand.f
  rw [w64 (by omega) (by omega)]
  by_cases c : a - (x.f0.size : Int) < 0
  · rw [if_pos c, if_pos (by omega)]
  · rw [if_neg c, sz_int _ _ (by omega) (by omega) hl]
    simp only [Option.bind_some]
    split
    · rw [if_pos (by omega)]
    · rfl
def bulk : List S36 → Int
  | [] => 0
  | x :: xs => x.f0.size + x.f1.length + bulk xs
theorem bulk_nn : ∀ l : List S36, 0 ≤ bulk l
  | [] => Int.le_refl _
  | x :: xs => by have := bulk_nn xs; unfold bulk; omega
theorem rdT36_mid (pre ys : List S36) (y : S36) : rd_T36 (pre ++ y :: ys) (pre.length : Int) = y := get_mid ..
theorem sz_loop (l : List S36) (hl : (l.length : Int) < 9223372036854775807) (hb : ∀ x ∈ l, x.f0.size ≤ 9223372036853727232 ∧ x.f1.length ≤ 9223372036853727232) :
    ∀ (ys pre : List S36) (a : Int), l = pre ++ ys → 0 ≤ a → a ≤ 1048576 → ∃ r, Ev (fun k => laws_szHandS.l0 k l a (pre.length : Int)) r ∧ (r = -1 ∨ 0 ≤ r ∧ r = a - bulk ys)
  | [], pre, a, e, h0, h1 => by
    subst e
    refine ⟨a, Ev.step (f := fun _ => some a) (fun k => by simp only [laws_szHandS.l0]; rw [if_neg (len_end _)]) (Ev.now _), .inr ⟨h0, by simp [bulk]⟩⟩
  | y :: ys, pre, a, e, h0, h1 => by
    have hy := hb y (by rw [e]; simp)
    have hs := sz_hand y a h0 h1 hy.1 hy.2
    have hn : wrap64 ((pre.length : Int) + 1) = (((pre ++ [y]).length : Nat) : Int) := next_mid _ _ (by rw [e] at hl; simp at hl; omega)
    have hbn := bulk_nn ys
    by_cases c : a - (y.f0.size : Int) - (y.f1.length : Int) < 0
    · rw [if_pos c] at hs
      refine ⟨-1, Ev.step (f := fun _ => some (-1)) (fun k => ?_) (Ev.now _), .inl rfl⟩
      simp only [laws_szHandS.l0]
      rw [e, if_pos (len_mid _ _ _), if_pos (by omega), rdT36_mid, hs]
      rfl
    · rw [if_neg c] at hs
      obtain ⟨r, hr, h⟩ := sz_loop l hl hb ys (pre ++ [y]) (a - y.f0.size - y.f1.length) (by rw [e]; simp) (by omega) (by omega)
      refine ⟨r, Ev.step (fun k => ?_) hr, ?_⟩
      · simp only [laws_szHandS.l0]
        rw [if_pos (by rw [e]; exact len_mid _ _ _), if_pos (by omega)]
        rw [show rd_T36 l (pre.length : Int) = y by rw [e]; exact rdT36_mid _ _ _, hs]
        simp only [Option.bind_some]
        rw [if_neg (by omega), hn]
      · rcases h with h | h
        · exact .inl h
        · exact .inr ⟨h.1, by rw [h.2]; simp only [bulk]; omega⟩
theorem sz_hands (l : List S36) (hl : (l.length : Int) < 9223372036853727232) (hb : ∀ x ∈ l, x.f0.size ≤ 9223372036853727232 ∧ x.f1.length ≤ 9223372036853727232) :
    ∃ r, Ev (fun k => laws_szHandS.f k l 1048576) r ∧ (r < 0 ∨ 0 ≤ r ∧ l.length + bulk l ≤ 1048576) := by
  by_cases c : (1048576 : Int) - l.length < 0
  · refine ⟨-1, ⟨0, fun k _ => ?_⟩, .inl (by omega)⟩
    unfold laws_szHandS.f
    rw [w64 (by omega) (by omega)]
    exact if_pos c
  · obtain ⟨r, hr, h⟩ := sz_loop l (by omega) hb l [] (1048576 - l.length) rfl (by omega) (by omega)
    refine ⟨r, Ev.congr (fun k => ?_) hr, ?_⟩
    · unfold laws_szHandS.f
      rw [w64 (by omega) (by omega), if_neg c]
      rfl
    · omega

/-! ### copies -/
theorem to_loop (l : List Int) (hl : (l.length : Int) < 9223372036854775807) :
    ∀ (ys pre : List Int), l = pre ++ ys → Ev (fun k => laws_toInt64S.l0 k l (pre ++ List.replicate ys.length 0) (pre.length : Int)) l
  | [], pre, e => by
    refine Ev.step (f := fun _ => some l) (fun k => ?_) (Ev.now _)
    simp only [laws_toInt64S.l0]
    rw [if_neg (by rw [e]; exact len_end _), e]
    simp
  | y :: ys, pre, e => by
    have hn : wrap64 ((pre.length : Int) + 1) = (((pre ++ [y]).length : Nat) : Int) := next_mid _ _ (by rw [e] at hl; simp at hl; omega)
    refine Ev.step (fun k => ?_) (to_loop l hl ys (pre ++ [y]) (by rw [e]; simp))
    simp only [laws_toInt64S.l0]
    rw [if_pos (by rw [e]; exact len_mid _ _ _), if_pos (by omega), if_pos (by simp; omega), hn, List.length_cons, List.replicate_succ, set_mid, show rd l (pre.length : Int) = y by rw [e]; exact rd_mid _ _ _, ← snoc]
theorem to_ints (l : List Int) (hl : l.length ≤ 35184372088832) : Ev (fun k => laws_toInt64S.f k l) l := by
  refine Ev.congr (fun k => ?_) (to_loop l (by omega) l [] rfl)
  unfold laws_toInt64S.f
  rw [if_pos (by omega), if_pos (by simpa using hl)]
  simp
def toS (x : S36) : S43 := ⟨x.f0, x.f1, x.f2⟩
theorem tos_loop (l : List S36) (hl : (l.length : Int) < 9223372036854775807) (hb : ∀ x ∈ l, x.f1.length ≤ 35184372088832) :
    ∀ (ys pre : List S36), l = pre ++ ys → Ev (fun k => laws_toHandS.l0 k l (pre.map toS ++ List.replicate ys.length z43) (pre.length : Int)) (l.map toS)
  | [], pre, e => by
    refine Ev.step (f := fun _ => some (l.map toS)) (fun k => ?_) (Ev.now _)
    simp only [laws_toHandS.l0]
    rw [if_neg (by rw [e]; exact len_end _), e]
    simp
  | y :: ys, pre, e => by
    have hn : wrap64 ((pre.length : Int) + 1) = (((pre ++ [y]).length : Nat) : Int) := next_mid _ _ (by rw [e] at hl; simp at hl; omega)
    have hy := to_ints y.f1 (hb y (by rw [e]; simp))
    refine Ev.step (f := fun k => (laws_toInt64S.f k y.f1).bind fun t => laws_toHandS.l0 k l (pre.map toS ++ ⟨y.f0, t, y.f2⟩ :: List.replicate ys.length z43) ((pre ++ [y]).length : Int)) (fun k => ?_) (Ev.bind hy (Ev.congr (fun k => ?_) (tos_loop l hl hb ys (pre ++ [y]) (by rw [e]; simp))))
    · simp only [laws_toHandS.l0]
      rw [if_pos (by rw [e]; exact len_mid _ _ _), if_pos (by omega), show rd_T36 l (pre.length : Int) = y by rw [e]; exact rdT36_mid _ _ _]
      unfold laws_toHand.f
      rw [Option.bind_assoc]
      congr 1
      funext t
      simp only [Option.bind_some]
      rw [if_pos (by simp; omega), hn, List.length_cons, List.replicate_succ]
      congr 1
      have := set_mid (pre.map toS) (List.replicate ys.length z43) z43 ⟨y.f0, t, y.f2⟩
      rwa [List.length_map] at this
    · simp [toS]
theorem to_hands (l : List S36) (hl : l.length ≤ 5864062014805) (hb : ∀ x ∈ l, x.f1.length ≤ 35184372088832) : Ev (fun k => laws_toHandS.f k l) (l.map toS) := by
  refine Ev.congr (fun k => ?_) (tos_loop l (by omega) hb l [] rfl)
  unfold laws_toHandS.f
  rw [if_pos (by omega), if_pos (by simpa using hl)]
  simp
end Go.Proofs.Ytjmjmpbphhbmpaa.QCH
