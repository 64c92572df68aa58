/- What the functions on logs answer, both roads; and the plain law of FnPowerLoss. -/
import Derived.Test.YtajbomiaoncgiaaDoorZH
namespace Go.Proofs.YtajbomiaoncgiaaDoor.QPL
open Go.RowKit Go.Proofs.YtajbomiaoncgiaaDoorQ Go.Proofs.YtajbomiaoncgiaaDoorW.PrintWords Go.Proofs.YtajbomiaoncgiaaDoorW.PrintLast Go.Proofs.YtajbomiaoncgiaaDoor.ZA

noncomputable def okL (K W : ByteArray) : Bool := decide (plen (L W) = W.size) && decide (K.size + W.size ≤ 4000)
theorem impl_ok (K W : ByteArray) (hK : K.size ≤ 1000000) (hW : W.size ≤ 1000000) : Ev (fun k => impl_validLog.f k K W) (okL K W) := by
  refine Ev.bind (impl_frames W (by omega)) ?_
  unfold okL
  have hw : wrap64 ((K.size : Int) + (W.size : Int)) = (K.size : Int) + W.size := w64 (by omega) (by omega)
  simp only [hw]
  by_cases c : plen (L W) = W.size
  · rw [decide_eq_true c, Bool.true_and]
    refine Ev.congr (fun k => if_pos (by rw [c])) (ev_same (Ev.now _) ?_)
    simp; omega
  · rw [decide_eq_false c, Bool.false_and]
    exact Ev.congr (fun k => if_neg (by omega)) (Ev.now _)
theorem rdT25_one (y : S25) : rd_T25 [y] 0 = y := by unfold rd_T25; simp
theorem spec_okl (K W : ByteArray) (hK : K.size ≤ 1000000) (hW : W.size ≤ 1000000) : Ev (fun k => spec_l27Ok.f k [(⟨K, W⟩ : S25)]) (okL K W) := by
  have hw : wrap64 ((K.size : Int) + (W.size : Int)) = (K.size : Int) + W.size := w64 (by omega) (by omega)
  refine Ev.congr (f := fun k => (spec_l27Read.f k W).bind fun bt301 => (if bt301.2 = (W.size : Int) then (some (decide ((K.size : Int) + W.size ≤ 4000))) else (some false))) (fun k => by unfold spec_l27Ok.f; rw [rdT25_one, hw]) (Ev.bind (spec_read W (by omega)) ?_)
  unfold okL
  simp only
  by_cases c : plen (L W) = W.size
  · rw [decide_eq_true c, Bool.true_and]
    refine Ev.congr (fun k => if_pos (by rw [c])) (ev_same (Ev.now _) ?_)
    simp; omega
  · rw [decide_eq_false c, Bool.false_and]
    exact Ev.congr (fun k => if_neg (by omega)) (Ev.now _)
noncomputable def loseR (K W : ByteArray) (n : Int) : ByteArray × ByteArray × Int :=
  if okL K W = true then if inB n 0 W.size = true then (K ++ W.extract 0 n.toNat, ofL [], 0) else (ofL [], ofL [], 2) else (ofL [], ofL [], 1)
theorem ext_size (W : ByteArray) (m : Nat) : (W.extract 0 m).size ≤ W.size := by
  rw [size_L, L_ext, List.drop_zero, List.length_take, ← size_L]; omega
theorem lose_tail (K W : ByteArray) (n : Int) (hK : K.size ≤ 1000000) (hW : W.size ≤ 1000000) (h : inB n 0 W.size = true) :
    (if 0 ≤ n then (if n ≤ (W.size : Int) then (if K.size + (W.extract 0 n.toNat).size ≤ 9223372036854775807 then (some (K ++ W.extract 0 n.toNat, (⟨#[]⟩ : ByteArray), (0 : Int))) else none) else none) else none) = some (K ++ W.extract 0 n.toNat, ofL [], 0) := by
  have h' := of_decide_eq_true h
  have := ext_size W n.toNat
  rw [if_pos h'.1, if_pos h'.2, if_pos (by omega)]
  rfl
theorem impl_lose (K W : ByteArray) (n : Int) (hK : K.size ≤ 1000000) (hW : W.size ≤ 1000000) : Ev (fun k => impl_LosePower.f k K W n) (loseR K W n) := by
  refine Ev.bind (impl_ok K W hK hW) ?_
  by_cases c : okL K W = true
  · rw [c]
    refine Ev.congr (fun k => if_pos rfl) ?_
    refine Ev.congr (f := fun _ => if inB n 0 W.size = true then (if 0 ≤ n then (if n ≤ (W.size : Int) then (if K.size + (W.extract 0 n.toNat).size ≤ 9223372036854775807 then (some (K ++ W.extract 0 n.toNat, (⟨#[]⟩ : ByteArray), (0 : Int))) else none) else none) else none) else some ((⟨#[]⟩ : ByteArray), (⟨#[]⟩ : ByteArray), 2)) (fun k => by rw [impl_in]; rfl) ?_
    by_cases d : inB n 0 W.size = true
    · exact ev_same (Ev.congr (fun k => (if_pos d).trans (lose_tail K W n hK hW d)) (Ev.now _)) (by unfold loseR; rw [if_pos c, if_pos d])
    · exact ev_same (Ev.congr (fun k => if_neg d) (Ev.now _)) (by unfold loseR; rw [if_pos c, if_neg d]; rfl)
  · rw [Bool.eq_false_iff.2 c]
    exact ev_same (Ev.congr (fun k => if_neg (by decide)) (Ev.now _)) (by unfold loseR; rw [if_neg c]; rfl)
theorem spec_lose (K W : ByteArray) (n : Int) (hK : K.size ≤ 1000000) (hW : W.size ≤ 1000000) : Ev (fun k => spec_LosePower.f k K W n) (loseR K W n) := by
  refine Ev.bind (spec_okl K W hK hW) ?_
  by_cases c : okL K W = true
  · rw [c]
    refine Ev.congr (fun k => if_pos rfl) ?_
    refine Ev.congr (f := fun _ => if inB n 0 W.size = true then (if 0 ≤ n then (if n ≤ (W.size : Int) then (if K.size + (W.extract 0 n.toNat).size ≤ 9223372036854775807 then (some (K ++ W.extract 0 n.toNat, (⟨#[]⟩ : ByteArray), (0 : Int))) else none) else none) else none) else some ((⟨#[]⟩ : ByteArray), (⟨#[]⟩ : ByteArray), 2)) (fun k => by rw [spec_in]; rfl) ?_
    by_cases d : inB n 0 W.size = true
    · exact ev_same (Ev.congr (fun k => (if_pos d).trans (lose_tail K W n hK hW d)) (Ev.now _)) (by unfold loseR; rw [if_pos c, if_pos d])
    · exact ev_same (Ev.congr (fun k => if_neg d) (Ev.now _)) (by unfold loseR; rw [if_pos c, if_neg d]; rfl)
  · rw [Bool.eq_false_iff.2 c]
    exact ev_same (Ev.congr (fun k => if_neg (by decide)) (Ev.now _)) (by unfold loseR; rw [if_neg c]; rfl)
noncomputable def flushR (K W : ByteArray) : ByteArray × ByteArray × Int := if okL K W = true then (K ++ W, ofL [], 0) else (ofL [], ofL [], 1)
theorem impl_flush (K W : ByteArray) (hK : K.size ≤ 1000000) (hW : W.size ≤ 1000000) : Ev (fun k => impl_FlushLog.f k K W) (flushR K W) := by
  refine Ev.bind (impl_ok K W hK hW) ?_
  by_cases c : okL K W = true
  · rw [c]
    exact ev_same (Ev.congr (fun k => (if_pos rfl).trans (if_pos (by omega))) (Ev.now _)) (by unfold flushR; rw [if_pos c]; rfl)
  · rw [Bool.eq_false_iff.2 c]
    exact ev_same (Ev.congr (fun k => if_neg (by decide)) (Ev.now _)) (by unfold flushR; rw [if_neg c]; rfl)
theorem spec_flush (K W : ByteArray) (hK : K.size ≤ 1000000) (hW : W.size ≤ 1000000) : Ev (fun k => spec_FlushLog.f k K W) (flushR K W) := by
  refine Ev.bind (spec_okl K W hK hW) ?_
  by_cases c : okL K W = true
  · rw [c]
    exact ev_same (Ev.congr (fun k => (if_pos rfl).trans (if_pos (by omega))) (Ev.now _)) (by unfold flushR; rw [if_pos c]; rfl)
  · rw [Bool.eq_false_iff.2 c]
    exact ev_same (Ev.congr (fun k => if_neg (by decide)) (Ev.now _)) (by unfold flushR; rw [if_neg c]; rfl)
noncomputable def recR (K W : ByteArray) : ByteArray × ByteArray × Int × Int :=
  if okL K W = true then
    if plen (L K) < K.size ∧ W.toList ≠ [] then (ofL [], ofL [], 0, 6) else (K.extract 0 (plen (L K)), W, (K.size : Int) - plen (L K), 0)
  else (ofL [], ofL [], 0, 1)
theorem plen_size (K : ByteArray) : plen (L K) ≤ K.size := by rw [size_L]; exact plen_le _
theorem impl_rec (K W : ByteArray) (hK : K.size ≤ 1000000) (hW : W.size ≤ 1000000) : Ev (fun k => impl_RecoverLog.f k K W) (recR K W) := by
  have hp := plen_size K
  have hw : wrap64 ((K.size : Int) - (plen (L K) : Int)) = (K.size : Int) - plen (L K) := w64 (by omega) (by omega)
  have ht : (if 0 ≤ (plen (L K) : Int) then (if (plen (L K) : Int) ≤ (K.size : Int) then (some (K.extract 0 ((plen (L K) : Int)).toNat, W, (K.size : Int) - plen (L K), (0 : Int))) else none) else none) = some (K.extract 0 (plen (L K)), W, (K.size : Int) - plen (L K), 0) := by
    rw [if_pos (by omega), if_pos (by omega), Int.toNat_natCast]
  refine Ev.bind (impl_ok K W hK hW) ?_
  by_cases c : okL K W = true
  · rw [c]
    refine Ev.congr (fun k => if_pos rfl) (Ev.bind (impl_frames K (by omega)) ?_)
    refine Ev.congr (f := fun _ => if (K.size : Int) - plen (L K) > 0 then (if W.toList = ([] : List UInt8) then some (K.extract 0 (plen (L K)), W, (K.size : Int) - plen (L K), 0) else (some ((⟨#[]⟩ : ByteArray), (⟨#[]⟩ : ByteArray), 0, 6))) else some (K.extract 0 (plen (L K)), W, (K.size : Int) - plen (L K), 0)) (fun k => by simp only [hw]; rw [ht]) ?_
    by_cases d : plen (L K) < K.size
    · refine Ev.congr (fun k => if_pos (by omega)) ?_
      by_cases e : W.toList = []
      · exact ev_same (Ev.congr (fun k => if_pos e) (Ev.now _)) (by unfold recR; rw [if_pos c, if_neg (fun h => h.2 e)])
      · exact ev_same (Ev.congr (fun k => if_neg e) (Ev.now _)) (by unfold recR; rw [if_pos c, if_pos ⟨d, e⟩]; rfl)
    · exact ev_same (Ev.congr (fun k => if_neg (by omega)) (Ev.now _)) (by unfold recR; rw [if_pos c, if_neg (fun h => d h.1)])
  · rw [Bool.eq_false_iff.2 c]
    exact ev_same (Ev.congr (fun k => if_neg (by decide)) (Ev.now _)) (by unfold recR; rw [if_neg c]; rfl)
theorem spec_rec (K W : ByteArray) (hK : K.size ≤ 1000000) (hW : W.size ≤ 1000000) : Ev (fun k => spec_RecoverLog.f k K W) (recR K W) := by
  have hp := plen_size K
  have hw : wrap64 ((K.size : Int) - (plen (L K) : Int)) = (K.size : Int) - plen (L K) := w64 (by omega) (by omega)
  have ht : (if 0 ≤ (plen (L K) : Int) then (if (plen (L K) : Int) ≤ (K.size : Int) then (some (K.extract 0 ((plen (L K) : Int)).toNat, W, (K.size : Int) - plen (L K), (0 : Int))) else none) else none) = some (K.extract 0 (plen (L K)), W, (K.size : Int) - plen (L K), 0) := by
    rw [if_pos (by omega), if_pos (by omega), Int.toNat_natCast]
  refine Ev.bind (spec_okl K W hK hW) ?_
  by_cases c : okL K W = true
  · rw [c]
    refine Ev.congr (fun k => if_pos rfl) (Ev.bind (spec_read K (by omega)) ?_)
    refine Ev.congr (f := fun _ => if (plen (L K) : Int) < (K.size : Int) then (if W.toList = ([] : List UInt8) then some (K.extract 0 (plen (L K)), W, (K.size : Int) - plen (L K), 0) else (some ((⟨#[]⟩ : ByteArray), (⟨#[]⟩ : ByteArray), 0, 6))) else some (K.extract 0 (plen (L K)), W, (K.size : Int) - plen (L K), 0)) (fun k => by simp only [hw]; rw [ht]) ?_
    by_cases d : plen (L K) < K.size
    · refine Ev.congr (fun k => if_pos (by omega)) ?_
      by_cases e : W.toList = []
      · exact ev_same (Ev.congr (fun k => if_pos e) (Ev.now _)) (by unfold recR; rw [if_pos c, if_neg (fun h => h.2 e)])
      · exact ev_same (Ev.congr (fun k => if_neg e) (Ev.now _)) (by unfold recR; rw [if_pos c, if_pos ⟨d, e⟩]; rfl)
    · exact ev_same (Ev.congr (fun k => if_neg (by omega)) (Ev.now _)) (by unfold recR; rw [if_pos c, if_neg (fun h => d h.1)])
  · rw [Bool.eq_false_iff.2 c]
    exact ev_same (Ev.congr (fun k => if_neg (by decide)) (Ev.now _)) (by unfold recR; rw [if_neg c]; rfl)
noncomputable def entR (K W : ByteArray) : List S39 × Int :=
  if okL K W = true then if plen (L K) = K.size then (rents K ++ rents W, 0) else ([], 6) else ([], 1)
theorem rents_len (s : ByteArray) : (rents s).length ≤ s.size := by
  unfold rents; rw [List.length_map, size_L]; exact ents_len _
theorem impl_ents (K W : ByteArray) (hK : K.size ≤ 1000000) (hW : W.size ≤ 1000000) : Ev (fun k => impl_EntriesOf.f k K W) (entR K W) := by
  refine Ev.bind (impl_ok K W hK hW) ?_
  by_cases c : okL K W = true
  · rw [c]
    refine Ev.congr (fun k => if_pos rfl) (Ev.bind (f := fun k t367 => if t367 = true then ((impl_entriesOf.f k K W).bind fun t368 => (some (t368, 0))) else (some (([] : List (S39)), 6))) (a := ((plen (L K) : Int) == (K.size : Int))) (Ev.bind (impl_frames K (by omega)) (Ev.now _)) ?_)
    by_cases d : plen (L K) = K.size
    · have hb : ((plen (L K) : Int) == (K.size : Int)) = true := by rw [d]; simp
      rw [hb]
      have h1 := rents_len K
      have h2 := rents_len W
      exact ev_same (Ev.congr (fun k => if_pos rfl) (Ev.bind (Ev.bind (impl_frames K (by omega)) (Ev.bind (impl_frames W (by omega)) (Ev.congr (fun k => if_pos (show (rents K).length + (rents W).length < 3518437208883 by omega)) (Ev.now _)))) (Ev.now _))) (by unfold entR; rw [if_pos c, if_pos d])
    · have hb : ((plen (L K) : Int) == (K.size : Int)) = false := by rw [beq_eq_false_iff_ne]; omega
      rw [hb]
      exact ev_same (Ev.congr (fun k => if_neg (by decide)) (Ev.now _)) (by unfold entR; rw [if_pos c, if_neg d])
  · rw [Bool.eq_false_iff.2 c]
    exact ev_same (Ev.congr (fun k => if_neg (by decide)) (Ev.now _)) (by unfold entR; rw [if_neg c])
theorem spec_ents (K W : ByteArray) (hK : K.size ≤ 1000000) (hW : W.size ≤ 1000000) : Ev (fun k => spec_EntriesOf.f k K W) (entR K W) := by
  refine Ev.bind (f := fun _ bt386 => some (bt386.1, bt386.2)) (a := entR K W) ?_ (Ev.now _)
  refine Ev.congr (f := fun k => (spec_l27Ok.f k [(⟨K, W⟩ : S25)]).bind fun t371 => (if t371 = true then ((spec_l27Read.f k K).bind fun bt373 => (if bt373.2 < (K.size : Int) then (some (([] : List (S39)), 6)) else ((spec_l27Read.f k W).bind fun bt378 => (if bt373.1.length + bt378.1.length < 3518437208883 then (some ((bt373.1 ++ bt378.1), 0)) else (none))))) else (some (([] : List (S39)), 1)))) (fun k => by unfold spec_l27All.f; rw [rdT25_one]) (Ev.bind (spec_okl K W hK hW) ?_)
  by_cases c : okL K W = true
  · rw [c]
    have hp := plen_size K
    refine Ev.congr (fun k => if_pos rfl) (Ev.bind (spec_read K (by omega)) ?_)
    by_cases d : plen (L K) = K.size
    · have h1 := rents_len K
      have h2 := rents_len W
      exact ev_same (Ev.congr (fun k => if_neg (show ¬ (plen (L K) : Int) < (K.size : Int) by omega)) (Ev.bind (spec_read W (by omega)) (Ev.congr (fun k => if_pos (show (rents K).length + (rents W).length < 3518437208883 by omega)) (Ev.now _)))) (by unfold entR; rw [if_pos c, if_pos d])
    · exact ev_same (Ev.congr (fun k => if_pos (show (plen (L K) : Int) < (K.size : Int) by omega)) (Ev.now _)) (by unfold entR; rw [if_pos c, if_neg d])
  · rw [Bool.eq_false_iff.2 c]
    exact ev_same (Ev.congr (fun k => if_neg (by decide)) (Ev.now _)) (by unfold entR; rw [if_neg c])
theorem spec_frames (s : ByteArray) (hs : s.size < 4294967280) : Ev (fun k => spec_ReadFrames.f k s) (rents s, (plen (L s) : Int)) := Ev.bind (spec_read s hs) (Ev.now _)
theorem same_loop (l : List S39) (hl : (l.length : Int) < 9223372036854775807) : ∀ (ys pre : List S39), l = pre ++ ys → Ev (fun k => spec_SameEntries.l0 k l l (pre.length : Int)) true
  | [], pre, e => by
    refine Ev.step (f := fun _ => some true) (fun k => ?_) (Ev.now _)
    simp only [spec_SameEntries.l0]
    rw [if_neg (by rw [e]; simp)]
  | y :: ys, pre, e => by
    have hp : ((pre.length : Nat) : Int) < (l.length : Int) := by rw [e]; simp; omega
    refine Ev.step (fun k => ?_) (same_loop l hl ys (pre ++ [y]) (by rw [e]; simp))
    simp only [spec_SameEntries.l0]
    rw [if_pos hp, if_pos (by omega), if_pos hp, if_neg (by simp), w64 (by omega) (by omega)]
    congr 1
    simp
theorem same_self (l : List S39) (hl : (l.length : Int) < 9223372036854775807) : Ev (fun k => spec_SameEntries.f k l l) true := by
  refine Ev.congr (fun k => ?_) (same_loop l hl l [] rfl)
  unfold spec_SameEntries.f
  rw [if_pos rfl]
  rfl
end Go.Proofs.YtajbomiaoncgiaaDoor.QPL
