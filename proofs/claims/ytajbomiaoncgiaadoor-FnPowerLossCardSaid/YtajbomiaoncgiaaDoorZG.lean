/- What the reference's reading of frames answers, and both roads' reading of all frames. -/
import Derived.Test.YtajbomiaoncgiaaDoorZF
import Derived.Test.YtajbomiaoncgiaaDoorQPLx11
import Derived.Test.YtajbomiaoncgiaaDoorQPLx12
import Derived.Test.YtajbomiaoncgiaaDoorQPLx13
import Derived.Test.YtajbomiaoncgiaaDoorQPLx14
namespace Go.Proofs.YtajbomiaoncgiaaDoor.QPL
open Go.RowKit Go.Proofs.YtajbomiaoncgiaaDoorQ Go.Proofs.YtajbomiaoncgiaaDoorW.PrintWords Go.Proofs.YtajbomiaoncgiaaDoorW.PrintLast Go.Proofs.YtajbomiaoncgiaaDoor.ZA

/-! ### a body -/
def bodyL (b : Bs) : Option E :=
  match split3 b with
  | none => none
  | some (w0, w1, w2) => match rdNum w0 with
    | none => none
    | some d => if validE ⟨d, w1, w2⟩ = true then some ⟨d, w1, w2⟩ else none
def outB (o : Option E) : Int × ByteArray × ByteArray × Bool := match o with | none => (0, ofL [], ofL [], false) | some e => (e.day, ofL e.kind, ofL e.text, true)
theorem body_j3 (b : ByteArray) (hs : b.size < 4294967281) (w0 w1 w2 : Bs) (h : L b = w0 ++ 32 :: (w1 ++ 32 :: w2)) (h0 : (32 : UInt8) ∉ w0) (h1 : (32 : UInt8) ∉ w1) :
    Ev (fun k => spec_l27Body.j3 k b (w0.length : Int) (((w0.length + 1 + w1.length : Nat)) : Int)) (outB (bodyL (L b))) := by
  have hz : b.size = w0.length + 1 + w1.length + 1 + w2.length := by rw [size_L, h]; simp; omega
  have hsp : split3 (L b) = some (w0, w1, w2) := by
    unfold split3
    rw [h, cut_mid 32 _ _ h0]
    simp only
    rw [cut_mid 32 _ _ h1]
  have e0 : b.extract 0 ((w0.length : Nat) : Int).toNat = ofL w0 := L_inj (by rw [L_ext, L_of, List.drop_zero, Int.toNat_natCast, h, List.take_left' rfl])
  have e1 : b.extract (w0.length + 1) (w0.length + 1 + w1.length) = ofL w1 := L_inj (by
    rw [L_ext, L_of, h]
    rw [show w0 ++ 32 :: (w1 ++ 32 :: w2) = (w0 ++ [32]) ++ (w1 ++ (32 :: w2)) by simp, show w0.length + 1 + w1.length = (w0 ++ [32]).length + w1.length by simp, List.take_length_add_append, show w0.length + 1 = (w0 ++ [32]).length by simp, List.drop_left' rfl, List.take_left' rfl])
  have e2 : b.extract (w0.length + 1 + w1.length + 1) b.size = ofL w2 := L_inj (by
    rw [L_ext, L_of, size_L, List.take_length, h]
    rw [show w0 ++ 32 :: (w1 ++ 32 :: w2) = (w0 ++ [32] ++ w1 ++ [32]) ++ w2 by simp, show w0.length + 1 + w1.length + 1 = (w0 ++ [32] ++ w1 ++ [32]).length by simp; omega, List.drop_left' rfl])
  have hw1 : wrap64 ((w0.length : Int) + 1) = ((w0.length + 1 : Nat) : Int) := by rw [w64 (by omega) (by omega)]; omega
  have hw2 : wrap64 (((w0.length + 1 + w1.length : Nat) : Int) + 1) = ((w0.length + 1 + w1.length + 1 : Nat) : Int) := by rw [w64 (by omega) (by omega)]; omega
  have hstep : ∀ k, spec_l27Body.j3 (k + 1) b (w0.length : Int) (((w0.length + 1 + w1.length : Nat)) : Int) = (spec_l01Number.f k (ofL w0)).bind fun bt275 => if bt275.2 = true then (spec_l27One.f k [(⟨bt275.1, ofL w1, ofL w2⟩ : S39)]).bind fun t278 => (if t278 = true then (some (bt275.1, ofL w1, ofL w2, true)) else (some (0, (⟨#[]⟩ : ByteArray), (⟨#[]⟩ : ByteArray), false))) else (some (0, (⟨#[]⟩ : ByteArray), (⟨#[]⟩ : ByteArray), false)) := fun k => by
    simp only [spec_l27Body.j3]
    rw [if_neg (by omega), if_pos (by omega), if_pos (by omega), e0]
    congr 1
    funext q
    rw [hw1, hw2, if_pos (by omega), if_pos (by omega), if_pos (by omega), if_pos (by omega), if_pos (by omega), Int.toNat_natCast, Int.toNat_natCast, Int.toNat_natCast, e1, e2]
  unfold bodyL
  rw [hsp]
  simp only
  cases hr : rdNum w0 with
  | none =>
    have hn : Ev (fun k => spec_l01Number.f k (ofL w0)) (0, false) := ev_same (spec_num (ofL w0)) (by rw [L_of, hr]; rfl)
    exact Ev.step hstep (Ev.bind hn (Ev.congr (fun k => if_neg (by decide)) (Ev.now _)))
  | some d =>
    have hn : Ev (fun k => spec_l01Number.f k (ofL w0)) (d, true) := ev_same (spec_num (ofL w0)) (by rw [L_of, hr]; rfl)
    have hv := spec_valid ⟨d, ofL w1, ofL w2⟩ (by show (ofL w2).size < _; rw [size_of]; omega)
    have hE : e39 ⟨d, ofL w1, ofL w2⟩ = ⟨d, w1, w2⟩ := by unfold e39 toE; rw [L_of, L_of]
    rw [hE] at hv
    refine Ev.step hstep (Ev.bind hn (Ev.congr (fun k => if_pos rfl) (Ev.bind hv ?_)))
    simp only
    by_cases c : validE ⟨d, w1, w2⟩ = true
    · rw [c]; exact Ev.now _
    · rw [Bool.eq_false_iff.2 c]; exact Ev.now _
theorem bodyL_none {b : Bs} (h : split3 b = none) : bodyL b = none := by unfold bodyL; rw [h]
theorem body_end (b : ByteArray) (x : Int) (n : Nat) (h : (n : Int) ≥ (b.size : Int)) (hb : split3 (L b) = none) : Ev (fun k => spec_l27Body.j3 k b x (n : Int)) (outB (bodyL (L b))) := by
  rw [bodyL_none hb]
  refine Ev.step (f := fun _ => some (outB none)) (fun k => ?_) (Ev.now _)
  simp only [spec_l27Body.j3]
  rw [if_pos h]
  rfl
theorem body_l1 (b : ByteArray) (hs : b.size < 4294967281) (w0 r : Bs) (h : L b = w0 ++ 32 :: r) (h0 : (32 : UInt8) ∉ w0) : ∀ (ys pre : Bs), r = pre ++ ys → (32 : UInt8) ∉ pre →
    Ev (fun k => spec_l27Body.l1 k b (w0.length : Int) (((w0.length + 1 + pre.length : Nat)) : Int)) (outB (bodyL (L b)))
  | [], pre, e, hp => by
    have hz : b.size = w0.length + 1 + pre.length := by rw [size_L, h, e]; simp; omega
    have hsp : split3 (L b) = none := by
      unfold split3
      rw [h, cut_mid 32 _ _ h0]
      simp only
      rw [cut_none 32 r (by rw [e]; simpa using hp)]
    refine Ev.step (fun k => ?_) (body_end b (w0.length : Int) (w0.length + 1 + pre.length) (by omega) hsp)
    simp only [spec_l27Body.l1]
    rw [if_neg (by omega)]
  | c :: ys, pre, e, hp => by
    have hL : L b = (w0 ++ [32] ++ pre) ++ c :: ys := by rw [h, e]; simp
    have hlen : (w0 ++ [32] ++ pre).length = w0.length + 1 + pre.length := by simp; omega
    have hi := in_lt hL
    have hb := bt_L hL
    rw [hlen] at hi hb
    by_cases d : c = 32
    · subst d
      refine Ev.step (fun k => ?_) (body_j3 b hs w0 pre ys (by rw [h, e]) h0 hp)
      simp only [spec_l27Body.l1]
      rw [if_pos hi, if_pos (by omega), hb, if_pos (by rfl)]
    · have ih := body_l1 b hs w0 r h h0 ys (pre ++ [c]) (by rw [e]; simp) (by simp [hp]; exact fun q => d q.symm)
      refine Ev.step (fun k => ?_) ih
      have d' : ¬ (c.toNat : Int) = 32 := fun q => d (UInt8.toNat_inj.1 (by rw [show (32 : UInt8).toNat = 32 from rfl]; omega))
      simp only [spec_l27Body.l1]
      rw [if_pos hi, if_pos (by omega), hb, if_neg d', w64 (by omega) (by omega)]
      congr 1
      simp; omega
theorem body_l0 (b : ByteArray) (hs : b.size < 4294967281) : ∀ (ys pre : Bs), L b = pre ++ ys → (32 : UInt8) ∉ pre → Ev (fun k => spec_l27Body.l0 k b (pre.length : Int)) (outB (bodyL (L b)))
  | [], pre, e, hp => by
    have hz : b.size = pre.length := by rw [size_L, e]; simp
    have hsp : split3 (L b) = none := by
      unfold split3
      rw [cut_none 32 (L b) (by rw [e]; simpa using hp)]
    have hw : wrap64 ((pre.length : Int) + 1) = ((pre.length + 1 : Nat) : Int) := by rw [w64 (by omega) (by omega)]; omega
    refine Ev.step (f := fun k => spec_l27Body.j1 k b (pre.length : Int)) (fun k => ?_) (Ev.step (f := fun k => spec_l27Body.l1 k b (pre.length : Int) ((pre.length + 1 : Nat) : Int)) (fun k => ?_) (Ev.step (fun k => ?_) (body_end b (pre.length : Int) (pre.length + 1) (by omega) hsp)))
    · simp only [spec_l27Body.l0]
      rw [if_neg (by omega)]
    · simp only [spec_l27Body.j1]
      rw [hw]
    · simp only [spec_l27Body.l1]
      rw [if_neg (by omega)]
  | c :: ys, pre, e, hp => by
    have hi := in_lt e
    by_cases d : c = 32
    · subst d
      have hw : wrap64 ((pre.length : Int) + 1) = ((pre.length + 1 + ([] : Bs).length : Nat) : Int) := by rw [w64 (by omega) (by omega)]; simp
      refine Ev.step (f := fun k => spec_l27Body.j1 k b (pre.length : Int)) (fun k => ?_) (Ev.step (fun k => ?_) (body_l1 b hs pre ys e hp ys [] rfl (by simp)))
      · simp only [spec_l27Body.l0]
        rw [if_pos hi, if_pos (by omega), bt_L e, if_pos (by rfl)]
      · simp only [spec_l27Body.j1]
        rw [hw]
    · have d' : ¬ (c.toNat : Int) = 32 := fun q => d (UInt8.toNat_inj.1 (by rw [show (32 : UInt8).toNat = 32 from rfl]; omega))
      refine Ev.step (fun k => ?_) (body_l0 b hs ys (pre ++ [c]) (in_snoc e) (by simp [hp]; exact fun q => d q.symm))
      simp only [spec_l27Body.l0]
      rw [if_pos hi, if_pos (by omega), bt_L e, if_neg d', in_next e (by omega)]
theorem spec_body (b : ByteArray) (hs : b.size < 4294967281) : Ev (fun k => spec_l27Body.f k b) (outB (bodyL (L b))) := body_l0 b hs (L b) [] rfl (by simp)

/-! ### one frame, the reference's reading -/
def outX (o : Option E) : Int × ByteArray × ByteArray × Int × Bool := match o with | none => (0, ofL [], ofL [], 0, false) | some e => (e.day, ofL e.kind, ofL e.text, ((frame e).length : Int), true)
theorem next_yes (s : ByteArray) (c : Int) (n : Int) : Ev (fun k => spec_l27Next.j2 k s c n true) (outX none) := Ev.step (f := fun _ => some (outX none)) (fun k => by simp [spec_l27Next.j2, outX, lit0]) (Ev.now _)
theorem tail_body (s b : Bs) : tailL s b = (match bodyL b with | none => none | some e => if (frame e).isPrefixOf s = true then some e else none) := by
  unfold tailL bodyL
  cases split3 b with
  | none => rfl
  | some p =>
    obtain ⟨w0, w1, w2⟩ := p
    simp only
    cases rdNum w0 with
    | none => rfl
    | some d =>
      simp only
      by_cases hv : validE ⟨d, w1, w2⟩ = true
      · rw [if_pos hv]
        simp only
        by_cases hp : (frame ⟨d, w1, w2⟩).isPrefixOf s = true
        · rw [if_pos ⟨hv, hp⟩, if_pos hp]
        · rw [if_neg (fun h => hp h.2), if_neg hp]
      · rw [if_neg hv, if_neg (fun h => hv h.1)]
theorem next_no (s : ByteArray) (hs : s.size < 4294967281) (c n : Nat) (h1 : c + 1 + n ≤ s.size) : Ev (fun k => spec_l27Next.j2 k s (c : Int) (n : Int) false) (outX (tailL (L s) (((L s).drop (c + 1)).take n))) := by
  have hw1 : wrap64 ((c : Int) + 1) = ((c + 1 : Nat) : Int) := by rw [w64 (by omega) (by omega)]; omega
  have hw2 : wrap64 (((c + 1 : Nat) : Int) + (n : Int)) = ((c + 1 + n : Nat) : Int) := by rw [w64 (by omega) (by omega)]; omega
  have hx : L (s.extract (c + 1) (c + 1 + n)) = ((L s).drop (c + 1)).take n := by
    rw [L_ext, List.drop_take, show c + 1 + n - (c + 1) = n by omega]
  have hb := spec_body (s.extract (c + 1) (c + 1 + n)) (by rw [size_L, hx, List.length_take, List.length_drop, ← size_L]; omega)
  rw [hx] at hb
  rw [tail_body]
  have hstep : ∀ k, spec_l27Next.j2 (k + 1) s (c : Int) (n : Int) false = (spec_l27Body.f k (s.extract (c + 1) (c + 1 + n))).bind fun bt282 => (if bt282.2.2.2 = true then ((spec_l27Frame.f k [(⟨bt282.1, bt282.2.1, bt282.2.2.1⟩ : S39)]).bind fun t287 => (if (s.size : Int) < (t287.size : Int) then (some (0, (⟨#[]⟩ : ByteArray), (⟨#[]⟩ : ByteArray), 0, false)) else (if 0 ≤ (t287.size : Int) then (if (t287.size : Int) ≤ (s.size : Int) then (if (s.extract 0 t287.size).toList = t287.toList then (some (bt282.1, bt282.2.1, bt282.2.2.1, (t287.size : Int), true)) else (some (0, (⟨#[]⟩ : ByteArray), (⟨#[]⟩ : ByteArray), 0, false))) else (none)) else (none)))) else (some (0, (⟨#[]⟩ : ByteArray), (⟨#[]⟩ : ByteArray), 0, false))) := fun k => by
    simp only [spec_l27Next.j2]
    rw [if_neg (by decide), hw1, hw2, if_pos (by omega), if_pos (by omega), if_pos (by omega), Int.toNat_natCast, Int.toNat_natCast]
  cases hB : bodyL (((L s).drop (c + 1)).take n) with
  | none =>
    rw [hB] at hb
    exact Ev.step hstep (Ev.bind hb (Ev.congr (fun k => if_neg (by decide)) (Ev.now _)))
  | some e =>
    rw [hB] at hb
    have hv : validE e = true := by
      unfold bodyL at hB
      split at hB
      · cases hB
      · split at hB
        · cases hB
        · split at hB
          · rename_i hq
            rw [← Option.some.inj hB]; exact hq
          · cases hB
    have hE : e39 ⟨e.day, ofL e.kind, ofL e.text⟩ = e := by unfold e39 toE; rw [L_of, L_of]
    have hf := spec_frame ⟨e.day, ofL e.kind, ofL e.text⟩ (by rw [hE]; exact hv)
    rw [hE] at hf
    refine Ev.step hstep (Ev.bind hb (Ev.congr (fun k => if_pos rfl) (Ev.bind hf ?_)))
    simp only [size_of]
    by_cases hp : (frame e).isPrefixOf (L s) = true
    · have hq : (if (frame e).isPrefixOf (L s) = true then some e else none) = some e := if_pos hp
      rw [hq]
      have hpre := List.isPrefixOf_iff_prefix.1 hp
      have hl := hpre.length_le
      rw [← size_L] at hl
      refine Ev.congr (f := fun _ => some (outX (some e))) (fun k => ?_) (Ev.now _)
      rw [if_neg (by omega), if_pos (by omega), if_pos (by omega), if_pos (by rw [toList_L, toList_L, L_ext, L_of, List.drop_zero]; exact (List.prefix_iff_eq_take.1 hpre).symm)]
      rfl
    · have hq : (if (frame e).isPrefixOf (L s) = true then some e else none) = none := if_neg hp
      rw [hq]
      refine Ev.congr (f := fun _ => some (outX none)) (fun k => ?_) (Ev.now _)
      by_cases hl : (s.size : Int) < ((frame e).length : Int)
      · rw [if_pos hl]; rfl
      · rw [if_neg hl, if_pos (by omega), if_pos (by omega), if_neg (by
          rw [toList_L, toList_L, L_ext, L_of, List.drop_zero]
          exact fun q => hp (List.isPrefixOf_iff_prefix.2 (List.prefix_iff_eq_take.2 q.symm)))]
        rfl
theorem rd_bound {s : Bs} {n : Int} (h : rdNum s = some n) : n < 1000000000000000000 ∧ -1000000000000000000 < n := by
  unfold rdNum at h
  by_cases c : (trim s).length < 1 ∨ 18 < (trim s).length
  · rw [if_pos c] at h; cases h
  · rw [if_neg c] at h
    cases hm : digs (trim s) 0 with
    | none => rw [hm] at h; cases h
    | some m =>
      rw [hm] at h
      simp only at h
      have hb := digs_bound _ 0 m 0 (by omega) (by decide) hm
      have := pow_le18 (p := 0 + (trim s).length) (by omega)
      by_cases d : dec (if (trim s).length < s.length then -m else m) = s
      · rw [if_pos d] at h
        have hq := Option.some.inj h
        by_cases g : (trim s).length < s.length
        · rw [if_pos g] at hq; omega
        · rw [if_neg g] at hq; omega
      · rw [if_neg d] at h; cases h
theorem next_j1 (s : ByteArray) (hs : s.size < 4294967281) (h : colon (L s) ≤ s.size) : Ev (fun k => spec_l27Next.j1 k s (colon (L s) : Int)) (outX (specN (L s))) := by
  have hx : s.extract 0 ((colon (L s) : Nat) : Int).toNat = ofL ((L s).take (colon (L s))) := L_inj (by rw [L_ext, L_of, List.drop_zero, Int.toNat_natCast])
  have hstep : ∀ k, spec_l27Next.j1 (k + 1) s (colon (L s) : Int) = (spec_l01Number.f k (ofL ((L s).take (colon (L s))))).bind fun bt280 => (if bt280.2 = true then (if bt280.1 < 1 then (spec_l27Next.j2 k s (colon (L s) : Int) bt280.1 true) else (spec_l27Next.j2 k s (colon (L s) : Int) bt280.1 (decide ((s.size : Int) < (wrap64 ((wrap64 ((colon (L s) : Int) + 1)) + bt280.1)))))) else (spec_l27Next.j2 k s (colon (L s) : Int) bt280.1 true)) := fun k => by
    simp only [spec_l27Next.j1]
    rw [if_pos (by omega), if_pos (by omega), hx]
  unfold specN
  cases hr : rdNum ((L s).take (colon (L s))) with
  | none =>
    have hn : Ev (fun k => spec_l01Number.f k (ofL ((L s).take (colon (L s))))) (0, false) := ev_same (spec_num _) (by rw [L_of, hr]; rfl)
    exact Ev.step hstep (Ev.bind hn (Ev.congr (fun k => if_neg (by decide)) (next_yes _ _ _)))
  | some n =>
    have hn : Ev (fun k => spec_l01Number.f k (ofL ((L s).take (colon (L s))))) (n, true) := ev_same (spec_num _) (by rw [L_of, hr]; rfl)
    have hbnd := rd_bound hr
    refine Ev.step hstep (Ev.bind hn (Ev.congr (fun k => if_pos rfl) ?_))
    simp only
    by_cases c1 : n < 1
    · rw [if_pos (.inl c1)]
      exact Ev.congr (fun k => if_pos c1) (next_yes _ _ _)
    · have hw : wrap64 ((wrap64 ((colon (L s) : Int) + 1)) + n) = (colon (L s) : Int) + 1 + n := by rw [w64 (n := (colon (L s) : Int) + 1) (by omega) (by omega), w64 (by omega) (by omega)]
      refine Ev.congr (fun k => (if_neg c1).trans (by rw [hw])) ?_
      by_cases c2 : (s.size : Int) < (colon (L s) : Int) + 1 + n
      · rw [if_pos (.inr (by rw [← size_L]; exact c2)), decide_eq_true c2]
        exact next_yes _ _ _
      · obtain ⟨m, rfl⟩ := Int.eq_ofNat_of_zero_le (show 0 ≤ n by omega)
        rw [if_neg (by rw [← size_L]; omega), decide_eq_false c2, Int.toNat_natCast]
        exact next_no s hs (colon (L s)) m (by omega)
theorem next_l0 (s : ByteArray) (hs : s.size < 4294967281) : ∀ (n : Nat) (ys pre : Bs), L s = pre ++ ys → pre.length + n = 4 → pre.length + colon.go n ys = colon (L s) → Ev (fun k => spec_l27Next.l0 k s (pre.length : Int)) (outX (specN (L s)))
  | n, [], pre, e, h4, hc => by
    have hz : s.size = pre.length := by rw [size_L, e]; simp
    have hc' : colon (L s) = pre.length := by rw [← hc]; cases n <;> simp [colon.go]
    refine Ev.step (f := fun k => spec_l27Next.j1 k s (colon (L s) : Int)) (fun k => ?_) (next_j1 s hs (by omega))
    simp only [spec_l27Next.l0]
    rw [if_neg (by omega), hc']
  | 0, c :: ys, pre, e, h4, hc => by
    have hi := in_lt e
    have hc' : colon (L s) = pre.length := by rw [← hc]; simp [colon.go]
    refine Ev.step (f := fun k => spec_l27Next.j1 k s (colon (L s) : Int)) (fun k => ?_) (next_j1 s hs (by omega))
    simp only [spec_l27Next.l0]
    rw [if_pos hi, if_neg (by omega), hc']
  | n + 1, c :: ys, pre, e, h4, hc => by
    have hi := in_lt e
    by_cases d : c = 58
    · subst d
      have hc' : colon (L s) = pre.length := by rw [← hc]; simp [colon.go]
      refine Ev.step (f := fun k => spec_l27Next.j1 k s (colon (L s) : Int)) (fun k => ?_) (next_j1 s hs (by omega))
      simp only [spec_l27Next.l0]
      rw [if_pos hi, if_pos (by omega), if_pos (by omega), bt_L e, if_pos (by rfl), hc']
    · have d' : ¬ (c.toNat : Int) = 58 := fun q => d (UInt8.toNat_inj.1 (by rw [show (58 : UInt8).toNat = 58 from rfl]; omega))
      refine Ev.step (fun k => ?_) (next_l0 s hs n ys (pre ++ [c]) (in_snoc e) (by simp; omega) (by rw [← hc, colon.go, if_neg d]; simp; omega))
      simp only [spec_l27Next.l0]
      rw [if_pos hi, if_pos (by omega), if_pos (by omega), bt_L e, if_neg d', in_next e (by omega)]
theorem spec_next (s : ByteArray) (hs : s.size < 4294967281) : Ev (fun k => spec_l27Next.f k s) (outX (specN (L s))) := next_l0 s hs 4 (L s) [] rfl rfl (by simp [colon])

/-! ### all frames -/
def r39 (e : E) : S39 := ⟨e.day, ofL e.kind, ofL e.text⟩
theorem rest_step {t : Bs} {e : E} {es : List E} {r : Bs} (h : t = frames (e :: es) ++ r) (hv : allV (e :: es)) : implN t = some e ∧ t.drop (frame e).length = frames es ++ r ∧ (frame e).length ≤ t.length := by
  rw [frames_cons, List.append_assoc] at h
  exact ⟨impl_complete ⟨hv e (by simp), _, h⟩, by rw [h, List.drop_left' rfl], by rw [h]; simp⟩
theorem ext_from (s : ByteArray) (i : Nat) : L (s.extract i s.size) = (L s).drop i := by rw [L_ext, size_L, List.take_length]
theorem impl_frames_loop (s : ByteArray) (hs : s.size < 4294967281) : ∀ (es : List E) (r : Bs) (acc : List S39) (i : Nat), i ≤ s.size → (L s).drop i = frames es ++ r → allV es → implN r = none → acc.length + es.length < 4294967281 →
    Ev (fun k => impl_ReadFrames.l0 k s acc (i : Int)) (acc ++ es.map r39, ((i + (frames es).length : Nat) : Int))
  | [], r, acc, i, hi, h, hv, hr, hl => by
    have hx := impl_read (s.extract i s.size) (by rw [size_L, ext_from, List.length_drop, ← size_L]; omega)
    rw [ext_from, h] at hx
    have hx' : Ev (fun k => impl_readFrame.f k (s.extract i s.size)) (outF none) := ev_same hx (by rw [show frames [] ++ r = r from rfl, hr])
    refine Ev.step (f := fun k => (impl_readFrame.f k (s.extract i s.size)).bind fun bt247 => (if bt247.2.2.2 = 0 then (some (acc, (i : Int))) else (if acc.length < 3518437208883 then (impl_ReadFrames.l0 k s (acc ++ [(⟨bt247.1, bt247.2.1, bt247.2.2.1⟩ : S39)]) (wrap64 ((i : Int) + bt247.2.2.2))) else (none)))) (fun k => ?_) (Ev.bind hx' (ev_same (Ev.congr (fun k => if_pos rfl) (Ev.now _)) (by simp [frames])))
    simp only [impl_ReadFrames.l0]
    rw [if_pos (by omega), if_pos (by omega), Int.toNat_natCast]
  | e :: es, r, acc, i, hi, h, hv, hr, hl => by
    obtain ⟨h1, h2, h3⟩ := rest_step h hv
    have hve := hv e (by simp)
    have hfl := frame_len hve
    rw [List.length_drop, ← size_L] at h3
    have hx := impl_read (s.extract i s.size) (by rw [size_L, ext_from, List.length_drop, ← size_L]; omega)
    rw [ext_from, h1] at hx
    rw [List.drop_drop] at h2
    rw [List.length_cons] at hl
    have ih := impl_frames_loop s hs es r (acc ++ [r39 e]) (i + (frame e).length) (by omega) h2 (fun q hq => hv q (by simp [hq])) hr (by simp; omega)
    refine Ev.step (f := fun k => (impl_readFrame.f k (s.extract i s.size)).bind fun bt247 => (if bt247.2.2.2 = 0 then (some (acc, (i : Int))) else (if acc.length < 3518437208883 then (impl_ReadFrames.l0 k s (acc ++ [(⟨bt247.1, bt247.2.1, bt247.2.2.1⟩ : S39)]) (wrap64 ((i : Int) + bt247.2.2.2))) else (none)))) (fun k => ?_) (Ev.bind hx (ev_same (Ev.congr (fun k => ?_) ih) ?_))
    · simp only [impl_ReadFrames.l0]
      rw [if_pos (by omega), if_pos (by omega), Int.toNat_natCast]
    · have hne : ¬ (outF (some e)).2.2.2 = 0 := by
        show ¬ ((frame e).length : Int) = 0
        omega
      refine (if_neg hne).trans ((if_pos (by omega)).trans ?_)
      show impl_ReadFrames.l0 k s (acc ++ [r39 e]) (wrap64 ((i : Int) + ((frame e).length : Int))) = _
      rw [w64 (by omega) (by omega)]
      congr 1
    · rw [frames_cons, List.length_append]
      simp [Nat.add_assoc]
theorem spec_frames_loop (s : ByteArray) (hs : s.size < 4294967281) : ∀ (es : List E) (r : Bs) (acc : List S39) (i : Nat), i ≤ s.size → (L s).drop i = frames es ++ r → allV es → implN r = none → acc.length + es.length < 4294967281 →
    Ev (fun k => spec_l27Read.l0 k s acc (i : Int)) (acc ++ es.map r39, ((i + (frames es).length : Nat) : Int))
  | [], r, acc, i, hi, h, hv, hr, hl => by
    have hx := spec_next (s.extract i s.size) (by rw [size_L, ext_from, List.length_drop, ← size_L]; omega)
    rw [ext_from, h, spec_impl] at hx
    have hx' : Ev (fun k => spec_l27Next.f k (s.extract i s.size)) (outX none) := ev_same hx (by rw [show frames [] ++ r = r from rfl, hr])
    refine Ev.step (f := fun k => (spec_l27Next.f k (s.extract i s.size)).bind fun bt291 => (if bt291.2.2.2.2 = true then (if acc.length < 3518437208883 then (spec_l27Read.l0 k s (acc ++ [(⟨bt291.1, bt291.2.1, bt291.2.2.1⟩ : S39)]) (wrap64 ((i : Int) + bt291.2.2.2.1))) else (none)) else (some (acc, (i : Int))))) (fun k => ?_) (Ev.bind hx' (ev_same (Ev.congr (fun k => if_neg (by decide)) (Ev.now _)) (by simp [frames])))
    simp only [spec_l27Read.l0]
    rw [if_pos (by omega), if_pos (by omega), Int.toNat_natCast]
  | e :: es, r, acc, i, hi, h, hv, hr, hl => by
    obtain ⟨h1, h2, h3⟩ := rest_step h hv
    have hve := hv e (by simp)
    have hfl := frame_len hve
    rw [List.length_drop, ← size_L] at h3
    have hx := spec_next (s.extract i s.size) (by rw [size_L, ext_from, List.length_drop, ← size_L]; omega)
    rw [ext_from, spec_impl, h1] at hx
    rw [List.drop_drop] at h2
    rw [List.length_cons] at hl
    have ih := spec_frames_loop s hs es r (acc ++ [r39 e]) (i + (frame e).length) (by omega) h2 (fun q hq => hv q (by simp [hq])) hr (by simp; omega)
    refine Ev.step (f := fun k => (spec_l27Next.f k (s.extract i s.size)).bind fun bt291 => (if bt291.2.2.2.2 = true then (if acc.length < 3518437208883 then (spec_l27Read.l0 k s (acc ++ [(⟨bt291.1, bt291.2.1, bt291.2.2.1⟩ : S39)]) (wrap64 ((i : Int) + bt291.2.2.2.1))) else (none)) else (some (acc, (i : Int))))) (fun k => ?_) (Ev.bind hx (ev_same (Ev.congr (fun k => ?_) ih) ?_))
    · simp only [spec_l27Read.l0]
      rw [if_pos (by omega), if_pos (by omega), Int.toNat_natCast]
    · refine (if_pos rfl).trans ((if_pos (by omega)).trans ?_)
      show spec_l27Read.l0 k s (acc ++ [r39 e]) (wrap64 ((i : Int) + ((frame e).length : Int))) = _
      rw [w64 (by omega) (by omega)]
      congr 1
    · rw [frames_cons, List.length_append]
      simp [Nat.add_assoc]
noncomputable def rents (s : ByteArray) : List S39 := (ents (L s)).map r39
theorem impl_frames (s : ByteArray) (hs : s.size < 4294967280) : Ev (fun k => impl_ReadFrames.f k s) (rents s, (plen (L s) : Int)) := by
  have h := ents_spec (L s)
  have hl := ents_len (L s)
  rw [← size_L] at hl
  have := impl_frames_loop s (by omega) (ents (L s)) (rest (L s)) [] 0 (by omega) (by rw [List.drop_zero]; exact h.1) h.2.1 h.2.2 (by simp; omega)
  exact ev_same this (by rw [List.nil_append, Nat.zero_add]; rfl)
theorem spec_read (s : ByteArray) (hs : s.size < 4294967280) : Ev (fun k => spec_l27Read.f k s) (rents s, (plen (L s) : Int)) := by
  have h := ents_spec (L s)
  have hl := ents_len (L s)
  rw [← size_L] at hl
  have := spec_frames_loop s (by omega) (ents (L s)) (rest (L s)) [] 0 (by omega) (by rw [List.drop_zero]; exact h.1) h.2.1 h.2.2 (by simp; omega)
  exact ev_same this (by rw [List.nil_append, Nat.zero_add]; rfl)
end Go.Proofs.YtajbomiaoncgiaaDoor.QPL
