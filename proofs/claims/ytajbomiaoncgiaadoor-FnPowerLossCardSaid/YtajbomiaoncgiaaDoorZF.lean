/- What the functions that make a frame, and the program's reading of one, answer. -/
import Derived.Test.YtajbomiaoncgiaaDoorZE
import Derived.Test.YtajbomiaoncgiaaDoorQPLx4
namespace Go.Proofs.YtajbomiaoncgiaaDoor.QPL
open Go.RowKit Go.Proofs.YtajbomiaoncgiaaDoorQ Go.Proofs.YtajbomiaoncgiaaDoorW.PrintWords Go.Proofs.YtajbomiaoncgiaaDoorW.PrintLast Go.Proofs.YtajbomiaoncgiaaDoor.ZA

/-! ### frames -/
theorem lit32 : (⟨#[32]⟩ : ByteArray) = ofL [32] := rfl
theorem lit58 : (⟨#[58]⟩ : ByteArray) = ofL [58] := rfl
theorem lit35 : (⟨#[35]⟩ : ByteArray) = ofL [35] := rfl
theorem lit10 : (⟨#[10]⟩ : ByteArray) = ofL [10] := rfl
theorem lit0 : (⟨#[]⟩ : ByteArray) = ofL [] := rfl
theorem impl_frame_list (e : E) (hv : validE e = true) : Ev (fun k => impl_FrameOf.f k e.day (ofL e.kind) (ofL e.text)) (ofL (frame e)) := by
  obtain ⟨⟨d0, d1⟩, _, hk, ht⟩ := validE_facts hv
  have hb := body_len hv
  have hs := sum_bound (body e) 7 (by omega) (by omega)
  have l1 := day_len d0 d1
  have l2 := day_len (n := ((body e).length : Int)) (by omega) (by omega)
  have l3 := day_len (n := sumL (body e) 7) hs.1 (by omega)
  have hE : toE e.day (ofL e.kind) (ofL e.text) = e := by unfold toE; rw [L_of, L_of]
  obtain ⟨K1, h1⟩ := impl_valid e.day (ofL e.kind) (ofL e.text)
  obtain ⟨K2, h2⟩ := impl_sum (ofL (body e)) (by rw [size_of]; omega)
  refine ⟨max K1 K2, fun k hq => ?_⟩
  have h1 := h1 k (by omega)
  have h2 := h2 k (by omega)
  dsimp only at h1 h2 ⊢
  rw [hE, hv] at h1
  rw [L_of] at h2
  unfold impl_FrameOf.f
  rw [h1]
  simp only [Option.bind_some, if_true]
  rw [impl_dec _ (by omega) (by omega)]
  simp only [Option.bind_some, lit32, of_app]
  rw [show dec e.day ++ [32] ++ e.kind ++ [32] ++ e.text = body e from rfl]
  simp only [size_of]
  rw [if_pos (by omega), if_pos (by simp only [List.length_append, List.length_singleton]; omega), if_pos (by simp only [List.length_append, List.length_singleton]; omega), if_pos (by simp only [List.length_append, List.length_singleton]; omega), impl_dec _ (by omega) (by omega)]
  simp only [Option.bind_some, lit58, of_app, size_of]
  rw [if_pos (by omega), if_pos (by simp only [List.length_append, List.length_singleton]; omega), if_pos (by simp only [List.length_append, List.length_singleton]; omega), h2]
  simp only [Option.bind_some]
  rw [impl_dec _ (by omega) (by omega)]
  simp only [Option.bind_some, lit35, lit10, of_app, size_of]
  rw [if_pos (by simp only [List.length_append, List.length_singleton]; omega), if_pos (by simp only [List.length_append, List.length_singleton]; omega)]
  rfl
def frV (e : E) : Bs := if validE e = true then frame e else []
theorem frV_pos {e : E} (h : validE e = true) : frV e = frame e := if_pos h
theorem frV_neg {e : E} (h : ¬ validE e = true) : frV e = [] := if_neg h
theorem impl_frame (d : Int) (kd t : ByteArray) : Ev (fun k => impl_FrameOf.f k d kd t) (ofL (frV (toE d kd t))) := by
  by_cases hv : validE (toE d kd t) = true
  · rw [frV_pos hv]
    have := impl_frame_list (toE d kd t) hv
    unfold toE at this ⊢
    dsimp only at this
    rw [of_L, of_L] at this
    exact this
  · rw [frV_neg hv]
    refine Ev.congr (f := fun k => (impl_ValidEntry.f k d kd t).bind fun b => if b = true then impl_FrameOf.f k d kd t else some (ofL [])) (fun k => ?_) (Ev.bind (impl_valid d kd t) ?_)
    · cases h : impl_ValidEntry.f k d kd t with
      | none => unfold impl_FrameOf.f; rw [h]; rfl
      | some b =>
        cases b
        · unfold impl_FrameOf.f; rw [h]; rfl
        · rfl
    · rw [Bool.eq_false_iff.2 hv]
      exact Ev.now _
theorem spec_frame (x : S39) (hv : validE (e39 x) = true) : Ev (fun k => spec_l27Frame.f k [x]) (ofL (frame (e39 x))) := by
  obtain ⟨⟨d0, d1⟩, _, hk, ht⟩ := validE_facts hv
  have hb := body_len hv
  have hs := sum_bound (body (e39 x)) 7 (by omega) (by omega)
  have l1 := day_len d0 d1
  have l2 := day_len (n := ((body (e39 x)).length : Int)) (by omega) (by omega)
  have l3 := day_len (n := sumL (body (e39 x)) 7) hs.1 (by omega)
  have q0 : x.f0 = (e39 x).day := rfl
  have q1 : x.f1 = ofL (e39 x).kind := (of_L x.f1).symm
  have q2 : x.f2 = ofL (e39 x).text := (of_L x.f2).symm
  generalize e39 x = e at *
  obtain ⟨K1, h1⟩ := spec_dec e.day (by omega)
  obtain ⟨K2, h2⟩ := spec_sum (ofL (body e)) (by rw [size_of]; omega)
  obtain ⟨K3, h3⟩ := spec_dec ((body e).length : Int) (by omega)
  obtain ⟨K4, h4⟩ := spec_dec (sumL (body e) 7) (by omega)
  refine ⟨max (max K1 K2) (max K3 K4), fun k hq => ?_⟩
  have h1 := h1 k (by omega)
  have h2 := h2 k (by omega)
  have h3 := h3 k (by omega)
  have h4 := h4 k (by omega)
  dsimp only at h1 h2 h3 h4 ⊢
  rw [L_of] at h2
  unfold spec_l27Frame.f
  rw [rdT39_one, q0, q1, q2, h1]
  simp only [Option.bind_some, lit32, of_app]
  rw [show dec e.day ++ [32] ++ e.kind ++ [32] ++ e.text = body e from rfl]
  simp only [size_of]
  rw [if_pos (by omega), if_pos (by simp only [List.length_append, List.length_singleton]; omega), if_pos (by simp only [List.length_append, List.length_singleton]; omega), if_pos (by simp only [List.length_append, List.length_singleton]; omega), h3]
  simp only [Option.bind_some, lit58, of_app, size_of]
  rw [if_pos (by omega), if_pos (by simp only [List.length_append, List.length_singleton]; omega), if_pos (by simp only [List.length_append, List.length_singleton]; omega), h2]
  simp only [Option.bind_some]
  rw [h4]
  simp only [Option.bind_some, lit35, lit10, of_app, size_of]
  rw [if_pos (by simp only [List.length_append, List.length_singleton]; omega), if_pos (by simp only [List.length_append, List.length_singleton]; omega)]
  rfl

/-! ### one frame, the program's reading -/
theorem index_cut (c : UInt8) : ∀ l : Bs, Lib.indexByte l c = (match cutAt c l with | none => -1 | some p => (p.1.length : Int))
  | [] => rfl
  | x :: xs => by
    rw [Lib.indexByte, cutAt, index_cut c xs]
    by_cases h : x = c
    · rw [if_pos (by simpa using h), if_pos h]; rfl
    · rw [if_neg (by simpa using h), if_neg h]
      cases cutAt c xs with
      | none => rfl
      | some p =>
        simp only [Option.map_some]
        have hne : ¬ ((p.1.length : Int) == -1) = true := by simp
        rw [if_neg hne]
        simp
theorem lib_cut (c : UInt8) (l : Bs) : Lib.cut l [c] = (match cutAt c l with | none => (l, [], false) | some p => (p.1, p.2, true)) := by
  unfold Lib.cut
  rw [Lib.index_one, index_cut]
  rcases cut_cases c l with ⟨_, h⟩ | ⟨a, b, h1, _, h⟩
  · rw [h]; rfl
  · rw [h]
    simp only
    rw [if_pos (by omega), Int.toNat_natCast, h1, List.take_left' rfl]
    simp only [List.length_singleton]
    rw [← List.drop_drop, List.drop_left' rfl, List.drop_one, List.tail_cons]
theorem impl_cut (s : ByteArray) (hs : s.size < 4294967281) : strings_Cut.f s (⟨#[58]⟩ : ByteArray) = some (match cutAt 58 (L s) with | none => (s, ofL [], false) | some p => (ofL p.1, ofL p.2, true)) := by
  unfold strings_Cut.f
  rw [if_pos hs, show (⟨#[58]⟩ : ByteArray).data.toList = [58] from rfl, lib_cut]
  cases h : cutAt 58 (L s) with
  | none => simp only [L] at h ⊢; exact congrArg (fun z => some (z, ofL [], false)) (of_L s)
  | some p => simp only [L] at h ⊢; rfl
theorem indexB_cut (s : ByteArray) : Lib.indexB s (⟨#[32]⟩ : ByteArray) = (match cutAt 32 (L s) with | none => -1 | some p => (p.1.length : Int)) := by
  unfold Lib.indexB
  rw [show (⟨#[32]⟩ : ByteArray).data.toList = [32] from rfl, Lib.index_one, index_cut]
theorem split_miss (s : ByteArray) (k : Nat) (h : cutAt 32 (L s) = none) : Lib.splitB (⟨#[32]⟩ : ByteArray) 0 k s = [s] := Lib.splitB_miss _ _ _ _ (by rw [indexB_cut, h])
theorem split_hit (s : ByteArray) (k : Nat) (a b : Bs) (h : cutAt 32 (L s) = some (a, b)) : Lib.splitB (⟨#[32]⟩ : ByteArray) 0 (k + 1) s = ofL a :: Lib.splitB (⟨#[32]⟩ : ByteArray) 0 k (ofL b) := by
  obtain ⟨h1, _⟩ := cut_some 32 h
  rw [Lib.splitB_hit _ _ _ _ a.length (by rw [indexB_cut, h])]
  congr 1
  · refine L_inj ?_
    rw [L_ext, L_of, List.drop_zero, Nat.add_zero, h1, List.take_left' rfl]
  · congr 1
    refine L_inj ?_
    rw [L_ext, L_of, show (⟨#[32]⟩ : ByteArray).size = 1 from rfl, size_L, List.take_length, h1, ← List.drop_drop, List.drop_left' rfl]
    rfl
theorem impl_split (s : ByteArray) (hs : s.size < 4294967281) : ∃ W, strings_SplitN.f s (⟨#[32]⟩ : ByteArray) 3 = some W ∧ (match split3 (L s) with | none => (W.length : Int) ≠ 3 | some p => W = [ofL p.1, ofL p.2.1, ofL p.2.2]) := by
  refine ⟨Lib.splitB (⟨#[32]⟩ : ByteArray) 0 (min (3 : Int).toNat (s.size + 1) - 1) s, ?_, ?_⟩
  · unfold strings_SplitN.f
    rw [if_pos ⟨hs, by decide, by decide, by decide⟩]
  · have h3 : (3 : Int).toNat = 3 := rfl
    rw [h3]
    unfold split3
    rcases cut_cases 32 (L s) with ⟨_, h⟩ | ⟨a, r, h1, _, h⟩
    · rw [h, split_miss s _ h]
      simp
    · have hz : s.size = a.length + (r.length + 1) := by rw [size_L, h1]; simp
      rcases cut_cases 32 r with ⟨_, g⟩ | ⟨b, t, g1, _, g⟩
      · rw [h]
        simp only [g]
        obtain ⟨q, hq⟩ : ∃ q, min 3 (s.size + 1) - 1 = q + 1 := ⟨min 3 (s.size + 1) - 2, by omega⟩
        rw [hq, split_hit s q a r h, split_miss (ofL r) q (by rw [L_of]; exact g)]
        simp
      · rw [h]
        simp only [g]
        have hz2 : r.length = b.length + (t.length + 1) := by rw [g1]; simp
        have hq : min 3 (s.size + 1) - 1 = 1 + 1 := by omega
        rw [hq, split_hit s 1 a r h, split_hit (ofL r) 0 b t (by rw [L_of]; exact g)]
        rfl
def outF (o : Option E) : Int × ByteArray × ByteArray × Int := match o with | none => (0, ofL [], ofL [], 0) | some e => (e.day, ofL e.kind, ofL e.text, ((frame e).length : Int))
theorem j1_yes (x13 : ByteArray) (d : Int) (kd t : ByteArray) : Ev (fun k => impl_readFrame.j1 k x13 true d kd t) (outF none) := Ev.step (f := fun _ => some (outF none)) (fun k => by simp [impl_readFrame.j1, outF, lit0]) (Ev.now _)
theorem j1_no (x13 : ByteArray) (d : Int) (kd t : ByteArray) : Ev (fun k => impl_readFrame.j1 k x13 false d kd t) (d, kd, t, (x13.size : Int)) := Ev.step (f := fun _ => some (d, kd, t, (x13.size : Int))) (fun k => by simp [impl_readFrame.j1]) (Ev.now _)
theorem frame_ne {e : E} (h : validE e = true) : frame e ≠ [] := fun q => by
  have := frame_len h
  rw [q] at this
  simp at this
theorem j0_yes (s x5 : ByteArray) (n : Int) : Ev (fun k => impl_readFrame.j0 k s x5 n true) (outF none) := Ev.step (f := fun _ => some (outF none)) (fun k => by simp [impl_readFrame.j0, outF, lit0]) (Ev.now _)
theorem j0_no (s r : ByteArray) (n : Int) (h0 : 0 ≤ n) (h1 : n ≤ (r.size : Int)) (hr : r.size < 4294967281) : Ev (fun k => impl_readFrame.j0 k s r n false) (outF (tailL (L s) ((L r).take n.toNat))) := by
  have hx : L (r.extract 0 n.toNat) = (L r).take n.toNat := by rw [L_ext, List.drop_zero]
  obtain ⟨W, hW, hm⟩ := impl_split (r.extract 0 n.toNat) (by rw [size_L, hx, List.length_take, ← size_L]; omega)
  rw [hx] at hm
  unfold tailL
  cases hc : split3 ((L r).take n.toNat) with
  | none =>
    rw [hc] at hm
    refine Ev.step (f := fun _ => some (outF none)) (fun k => ?_) (Ev.now _)
    simp only [impl_readFrame.j0]
    rw [if_neg (by decide), if_pos h0, if_pos h1, hW]
    simp only [Option.bind_some]
    rw [if_neg hm]
    rfl
  | some p =>
    obtain ⟨w0, w1, w2⟩ := p
    rw [hc] at hm
    simp only at hm ⊢
    subst hm
    have hstep : ∀ k, impl_readFrame.j0 (k + 1) s r n false = (impl_ReadDecimal.f k (ofL w0)).bind fun bt237 => (impl_FrameOf.f k bt237.1 (ofL w1) (ofL w2)).bind fun t242 => (if bt237.2 = true then (if t242.toList = ([] : List UInt8) then (impl_readFrame.j1 k t242 true bt237.1 (ofL w1) (ofL w2)) else ((strings_HasPrefix.f s t242).bind fun t243 => (impl_readFrame.j1 k t242 (!t243) bt237.1 (ofL w1) (ofL w2)))) else (impl_readFrame.j1 k t242 true bt237.1 (ofL w1) (ofL w2))) := fun k => by
      simp only [impl_readFrame.j0]
      rw [if_neg (by decide), if_pos h0, if_pos h1, hW]
      simp [rdOf]
    cases hr2 : rdNum w0 with
    | none =>
      have hn : Ev (fun k => impl_ReadDecimal.f k (ofL w0)) (0, false) := ev_same (impl_num (ofL w0)) (by rw [L_of, hr2]; rfl)
      exact Ev.step hstep (Ev.bind hn (Ev.bind (impl_frame 0 (ofL w1) (ofL w2)) (Ev.congr (fun k => if_neg (by decide)) (j1_yes _ _ _ _))))
    | some d =>
      have hn : Ev (fun k => impl_ReadDecimal.f k (ofL w0)) (d, true) := ev_same (impl_num (ofL w0)) (by rw [L_of, hr2]; rfl)
      have hE : toE d (ofL w1) (ofL w2) = ⟨d, w1, w2⟩ := by unfold toE; rw [L_of, L_of]
      have hf := impl_frame d (ofL w1) (ofL w2)
      rw [hE] at hf
      refine Ev.step hstep (Ev.bind hn (Ev.bind hf (Ev.congr (f := fun k => if (ofL (frV ⟨d, w1, w2⟩)).toList = ([] : List UInt8) then impl_readFrame.j1 k (ofL (frV ⟨d, w1, w2⟩)) true d (ofL w1) (ofL w2) else (strings_HasPrefix.f s (ofL (frV ⟨d, w1, w2⟩))).bind fun t243 => impl_readFrame.j1 k (ofL (frV ⟨d, w1, w2⟩)) (!t243) d (ofL w1) (ofL w2)) (fun k => if_pos rfl) ?_)))
      by_cases hv : validE ⟨d, w1, w2⟩ = true
      · have hne : ¬ (ofL (frV ⟨d, w1, w2⟩)).toList = [] := by rw [frV_pos hv, toList_L, L_of]; exact frame_ne hv
        refine Ev.congr (f := fun k => impl_readFrame.j1 k (ofL (frV ⟨d, w1, w2⟩)) (!((frame ⟨d, w1, w2⟩).isPrefixOf (L s))) d (ofL w1) (ofL w2)) (fun k => by
          rw [if_neg hne, has_prefix, L_of, frV_pos hv]; rfl) ?_
        by_cases hp : (frame ⟨d, w1, w2⟩).isPrefixOf (L s) = true
        · have hq : (if validE ⟨d, w1, w2⟩ = true ∧ (frame ⟨d, w1, w2⟩).isPrefixOf (L s) = true then some (⟨d, w1, w2⟩ : E) else none) = some ⟨d, w1, w2⟩ := if_pos ⟨hv, hp⟩
          simp only [hq]
          rw [hp]
          exact ev_same (j1_no _ _ _ _) (by rw [frV_pos hv, size_of]; rfl)
        · have hq : (if validE ⟨d, w1, w2⟩ = true ∧ (frame ⟨d, w1, w2⟩).isPrefixOf (L s) = true then some (⟨d, w1, w2⟩ : E) else none) = none := if_neg (fun h => hp h.2)
          simp only [hq]
          rw [Bool.eq_false_iff.2 hp]
          exact j1_yes _ _ _ _
      · have hnil : (ofL (frV ⟨d, w1, w2⟩)).toList = [] := by rw [frV_neg hv, toList_L, L_of]
        have hq : (if validE ⟨d, w1, w2⟩ = true ∧ (frame ⟨d, w1, w2⟩).isPrefixOf (L s) = true then some (⟨d, w1, w2⟩ : E) else none) = none := if_neg (fun h => hv h.1)
        simp only [hq]
        exact Ev.congr (fun k => if_pos hnil) (j1_yes _ _ _ _)
theorem impl_read (s : ByteArray) (hs : s.size < 4294967281) : Ev (fun k => impl_readFrame.f k s) (outF (implN (L s))) := by
  unfold implN
  rcases cut_cases 58 (L s) with ⟨_, h⟩ | ⟨a, r, h1, _, h⟩
  · rw [h]
    simp only
    refine Ev.congr (f := fun k => (impl_ReadDecimal.f k s).bind fun bt230 => impl_readFrame.j0 k s (ofL []) bt230.1 true) (fun k => ?_) (Ev.bind (impl_num s) (j0_yes _ _ _))
    unfold impl_readFrame.f
    rw [impl_cut s hs, h]
    simp only [Option.bind_some]
    congr 1
  · have hl : r.length ≤ s.size := by rw [size_L, h1]; simp; omega
    rw [h]
    simp only
    refine Ev.congr (f := fun k => (impl_ReadDecimal.f k (ofL a)).bind fun bt230 => if bt230.2 = true then impl_readFrame.j0 k s (ofL r) bt230.1 (!inB bt230.1 0 r.length) else impl_readFrame.j0 k s (ofL r) bt230.1 true) (fun k => ?_) (Ev.bind (impl_num (ofL a)) ?_)
    · unfold impl_readFrame.f
      rw [impl_cut s hs, h]
      simp only [Option.bind_some, impl_in, if_true, size_of]
    · rw [L_of]
      cases hr : rdNum a with
      | none =>
        simp only [outN, Option.isSome_none, Bool.false_eq_true, if_false]
        exact j0_yes _ _ _
      | some n =>
        simp only [outN, Option.isSome_some, if_true, Option.getD_some]
        by_cases c : 0 ≤ n ∧ n ≤ (r.length : Int)
        · have hb : inB n 0 r.length = true := decide_eq_true c
          rw [hb, if_pos c]
          have := j0_no s (ofL r) n c.1 (by rw [size_of]; exact c.2) (by rw [size_of]; omega)
          rw [L_of] at this
          exact this
        · have hb : inB n 0 r.length = false := decide_eq_false c
          rw [hb, if_neg c]
          exact j0_yes _ _ _
end Go.Proofs.YtajbomiaoncgiaaDoor.QPL
