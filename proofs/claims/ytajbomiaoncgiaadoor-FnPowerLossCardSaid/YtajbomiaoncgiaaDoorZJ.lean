/- The plain law of FnPowerLoss: what the law computes is true, whatever the bytes. -/
import Derived.Test.YtajbomiaoncgiaaDoorZI
import Derived.Test.YtajbomiaoncgiaaDoorQPLx15
namespace Go.Proofs.YtajbomiaoncgiaaDoor.QPL
open Go.RowKit Go.Proofs.YtajbomiaoncgiaaDoorQ Go.Proofs.YtajbomiaoncgiaaDoorW.PrintWords Go.Proofs.YtajbomiaoncgiaaDoorW.PrintLast Go.Proofs.YtajbomiaoncgiaaDoor.ZA

theorem l0_ok (all list : List S39) (hl : (list.length : Int) < 9223372036854775807) (hp : list <+: all) : ∀ (ys pre : List S39), list = pre ++ ys → Ev (fun k => laws_FnPowerLoss.l0 k all list (pre.length : Int)) true
  | [], pre, e => by
    refine Ev.step (f := fun _ => some true) (fun k => ?_) (Ev.now _)
    simp only [laws_FnPowerLoss.l0]
    rw [if_neg (by rw [e]; simp)]
  | y :: ys, pre, e => by
    have h1 : ((pre.length : Nat) : Int) < (list.length : Int) := by rw [e]; simp; omega
    obtain ⟨more, hm⟩ := hp
    have h2 : ((pre.length : Nat) : Int) < (all.length : Int) := by rw [← hm, List.length_append]; omega
    have g1 : rd_T39 list (pre.length : Int) = y := by unfold rd_T39; rw [e]; simp [List.getD_eq_getElem?_getD]
    have g2 : rd_T39 all (pre.length : Int) = y := by unfold rd_T39; rw [← hm, e]; simp [List.getD_eq_getElem?_getD]
    refine Ev.step (fun k => ?_) (l0_ok all list hl ⟨more, hm⟩ ys (pre ++ [y]) (by rw [e]; simp))
    simp only [laws_FnPowerLoss.l0]
    rw [if_pos h1, if_pos (by omega), if_pos h2, g1, g2, if_neg (by simp), w64 (by omega) (by omega)]
    congr 1
    simp
theorem j2_ok (all list : List S39) (hl : (list.length : Int) < 9223372036854775807) (hp : list <+: all) : Ev (fun k => laws_FnPowerLoss.j2 k all list false) true :=
  Ev.step (fun k => by simp only [laws_FnPowerLoss.j2]; exact if_neg (by decide)) (l0_ok all list hl hp list [] rfl)
theorem L_nil : L (ofL []) = [] := rfl
theorem nil_whole : plen (L (ofL [])) = (ofL []).size := by
  have := (whole_iff (L (ofL []))).2 (by have := (ents_frames (es := []) (fun _ q => by cases q)).1; rw [show L (ofL []) = frames [] from rfl, this])
  rw [size_L]; exact this
theorem rents_nil : rents (ofL []) = [] := by
  unfold rents
  rw [show L (ofL []) = frames [] from rfl, (ents_frames (es := []) (fun _ q => by cases q)).1]
  rfl
theorem okL_nil (K : ByteArray) (h : K.size ≤ 4000) : okL K (ofL []) = true := by
  unfold okL
  rw [decide_eq_true nil_whole, Bool.true_and, size_of]
  exact decide_eq_true (by simpa using h)
theorem okL_facts {K W : ByteArray} (h : okL K W = true) : plen (L W) = W.size ∧ K.size + W.size ≤ 4000 := by
  unfold okL at h
  simp only [Bool.and_eq_true, decide_eq_true_eq] at h
  exact h
theorem L_cut (K : ByteArray) : L (K.extract 0 (plen (L K))) = frames (ents (L K)) := by
  rw [L_ext, List.drop_zero, take_plen]
theorem cut_whole (K : ByteArray) : plen (L (K.extract 0 (plen (L K)))) = (K.extract 0 (plen (L K))).size := by
  rw [size_L, L_cut]
  exact whole_frames (ents_spec (L K)).2.1
theorem cut_ents (K : ByteArray) : rents (K.extract 0 (plen (L K))) = rents K := by
  unfold rents
  rw [L_cut, (ents_frames (ents_spec (L K)).2.1).1]
theorem whole_L {K : ByteArray} (h : plen (L K) = K.size) : plen (L K) = (L K).length := by rw [h, size_L]
theorem rents_app {K W : ByteArray} (h : plen (L K) = K.size) : rents (K ++ W) = rents K ++ rents W := by
  unfold rents
  rw [L_app, ents_app (whole_L h), List.map_append]
theorem j1_ok (K W : ByteArray) (n : Int) (hK : K.size ≤ 1000000) (hW : W.size ≤ 1000000) : Ev (fun k => laws_FnPowerLoss.j1 k n (loseR K W n).2.2 K W (loseR K W n).1 (loseR K W n).2.1) true := by
  by_cases c : okL K W = true ∧ inB n 0 W.size = true
  · obtain ⟨c1, c2⟩ := c
    obtain ⟨hw, hs⟩ := okL_facts c1
    have hn := of_decide_eq_true c2
    have hX : loseR K W n = (K ++ W.extract 0 n.toNat, ofL [], 0) := by unfold loseR; rw [if_pos c1, if_pos c2]
    rw [hX]
    have hxs : (K ++ W.extract 0 n.toNat).size ≤ 4000 := by
      have := ext_size W n.toNat
      rw [ByteArray.size_append]; omega
    generalize hXd : K ++ W.extract 0 n.toNat = X at *
    by_cases d : plen (L K) = K.size
    · have hE : entR K W = (rents K ++ rents W, 0) := by unfold entR; rw [if_pos c1, if_pos d]
      have hR : recR X (ofL []) = (X.extract 0 (plen (L X)), ofL [], (X.size : Int) - plen (L X), 0) := by
        unfold recR
        rw [if_pos (okL_nil X hxs), if_neg (fun h => h.2 (by rw [toList_L]; rfl))]
      have hcs : (X.extract 0 (plen (L X))).size ≤ 4000 := by have := ext_size X (plen (L X)); omega
      have hE2 : entR (X.extract 0 (plen (L X))) (ofL []) = (rents X, 0) := by
        unfold entR
        rw [if_pos (okL_nil _ hcs), if_pos (cut_whole X), cut_ents, rents_nil, List.append_nil]
      have hrX : rents X = rents K ++ rents (W.extract 0 n.toNat) := by rw [← hXd]; exact rents_app d
      have hpre : rents (W.extract 0 n.toNat) <+: rents W := by
        unfold rents
        rw [L_ext, List.drop_zero]
        exact List.IsPrefix.map _ (ents_cut (whole_L hw) _)
      have hl := hpre.length_le
      have hlen := rents_len X
      have e1 := spec_ents K W hK hW
      rw [hE] at e1
      have e2 := impl_rec X (ofL []) (by omega) (by rw [size_of]; simp)
      rw [hR] at e2
      have e3 := impl_ents (X.extract 0 (plen (L X))) (ofL []) (by omega) (by rw [size_of]; simp)
      rw [hE2] at e3
      have e4 := spec_frames K (by omega)
      have hp2 : rents X <+: rents K ++ rents W := by rw [hrX]; exact (List.prefix_append_right_inj _).2 hpre
      refine Ev.step (fun k => by simp only [laws_FnPowerLoss.j1]; exact if_pos trivial) (Ev.bind e1 (Ev.congr (fun k => if_pos rfl) (Ev.bind e2 (Ev.bind e3 (Ev.bind e4 (Ev.congr (fun k => (if_pos rfl).trans ((if_pos rfl).trans ((if_neg ?_).trans (if_neg ?_)))) ?_))))))
      · show ¬ ((rents X).length : Int) < ((rents K).length : Int)
        rw [hrX, List.length_append]; omega
      · show ¬ ((rents X).length : Int) > ((rents K ++ rents W).length : Int)
        rw [hrX, List.length_append, List.length_append]; omega
      · show Ev (fun k => if n = (W.size : Int) then laws_FnPowerLoss.j2 k (rents K ++ rents W) (rents X) (((rents X).length : Int) != ((rents K ++ rents W).length : Int)) else laws_FnPowerLoss.j2 k (rents K ++ rents W) (rents X) false) true
        by_cases g : n = (W.size : Int)
        · have hWe : W.extract 0 n.toNat = W := L_inj (by rw [L_ext, List.drop_zero, g, Int.toNat_natCast, size_L, List.take_length])
          have hb : (((rents X).length : Int) != ((rents K ++ rents W).length : Int)) = false := by rw [hrX, hWe]; simp
          rw [hb]
          exact Ev.congr (fun k => if_pos g) (j2_ok _ _ (by omega) hp2)
        · exact Ev.congr (fun k => if_neg g) (j2_ok _ _ (by omega) hp2)
    · have hE : entR K W = ([], 6) := by unfold entR; rw [if_pos c1, if_neg d]
      have e1 := spec_ents K W hK hW
      rw [hE] at e1
      exact Ev.step (fun k => by simp only [laws_FnPowerLoss.j1]; exact if_pos trivial) (Ev.bind e1 (Ev.congr (fun k => if_neg (show ¬ (6 : Int) = 0 by decide)) (Ev.now _)))
  · have hX : ¬ (loseR K W n).2.2 = 0 := by
      unfold loseR
      by_cases c1 : okL K W = true
      · rw [if_pos c1, if_neg (fun h => c ⟨c1, h⟩)]; decide
      · rw [if_neg c1]; decide
    exact Ev.step (f := fun _ => some true) (fun k => by simp only [laws_FnPowerLoss.j1]; exact if_neg hX) (Ev.now _)
theorem j0_ok (K W K2 W2 : ByteArray) (n : Int) (hK : K.size ≤ 1000000) (hW : W.size ≤ 1000000) (hK2 : K2.size ≤ 1000000) (hW2 : W2.size ≤ 1000000) :
    Ev (fun k => laws_FnPowerLoss.j0 k n (loseR K W n).2.2 (flushR K2 W2).2.2 K W (loseR K W n).1 (loseR K W n).2.1 K2 W2 (flushR K2 W2).1 (flushR K2 W2).2.1) true := by
  have hj := j1_ok K W n hK hW
  generalize loseR K W n = X at *
  by_cases c : okL K2 W2 = true
  · obtain ⟨hw, hs⟩ := okL_facts c
    have hF : flushR K2 W2 = (K2 ++ W2, ofL [], 0) := by unfold flushR; rw [if_pos c]
    rw [hF]
    have hxs : (K2 ++ W2).size ≤ 4000 := by rw [ByteArray.size_append]; omega
    have e1 := spec_ents K2 W2 hK2 hW2
    have e2 := impl_ents (K2 ++ W2) (ofL []) (by omega) (by rw [size_of]; simp)
    by_cases d : plen (L K2) = K2.size
    · have hE : entR K2 W2 = (rents K2 ++ rents W2, 0) := by unfold entR; rw [if_pos c, if_pos d]
      have hwh : plen (L (K2 ++ W2)) = (K2 ++ W2).size := by
        rw [size_L, L_app]
        refine (whole_iff _).2 ?_
        rw [ents_app (whole_L d), frames_append, ← (whole_iff _).1 (whole_L d), ← (whole_iff _).1 (whole_L hw)]
      have hE2 : entR (K2 ++ W2) (ofL []) = (rents K2 ++ rents W2, 0) := by
        unfold entR
        rw [if_pos (okL_nil _ hxs), if_pos hwh, rents_nil, List.append_nil, rents_app d]
      rw [hE] at e1
      rw [hE2] at e2
      have h1 := rents_len K2
      have h2 := rents_len W2
      have e3 := same_self (rents K2 ++ rents W2) (by rw [List.length_append]; omega)
      exact Ev.step (fun k => by simp only [laws_FnPowerLoss.j0]; exact if_pos trivial) (Ev.bind e1 (Ev.bind e2 (Ev.congr (fun k => (if_pos rfl).trans (if_pos rfl)) (Ev.bind e3 (Ev.congr (fun k => if_pos rfl) hj)))))
    · have hE : entR K2 W2 = ([], 6) := by unfold entR; rw [if_pos c, if_neg d]
      rw [hE] at e1
      exact Ev.step (fun k => by simp only [laws_FnPowerLoss.j0]; exact if_pos trivial) (Ev.bind e1 (Ev.bind e2 (Ev.congr (fun k => if_neg (show ¬ (6 : Int) = 0 by decide)) hj)))
  · have hF : ¬ (flushR K2 W2).2.2 = 0 := by unfold flushR; rw [if_neg c]; decide
    exact Ev.step (fun k => by simp only [laws_FnPowerLoss.j0]; exact if_neg hF) hj
theorem drawrec_ok {l : List Int} (hb : Bytes l) : ∃ K W, Ev (fun k => spec_DrawRecoverLog.f k l) (K, W) ∧ K.size ≤ 100000 ∧ W.size ≤ 100000 := by
  obtain ⟨K, W, n, e, h1, h2⟩ := drawlose_ok hb
  have e2 := spec_lose K W n (by omega) (by omega)
  by_cases c : (loseR K W n).2.2 = 0
  · refine ⟨(loseR K W n).1, (loseR K W n).2.1, Ev.bind e (Ev.bind e2 (Ev.congr (fun k => if_pos c) (Ev.now _))), ?_, ?_⟩
    · unfold loseR
      have := ext_size W n.toNat
      repeat' split
      all_goals first | (show (K ++ W.extract 0 n.toNat).size ≤ _; rw [ByteArray.size_append]; omega) | (show (ofL []).size ≤ _; rw [size_of]; simp)
    · unfold loseR
      repeat' split
      all_goals (show (ofL []).size ≤ _; rw [size_of]; simp)
  · exact ⟨K, W, Ev.bind e (Ev.bind e2 (Ev.congr (fun k => if_neg c) (Ev.now _))), by omega, by omega⟩
theorem law_ok (l : List Int) (hb : ∀ x ∈ l, 0 ≤ x ∧ x ≤ 255) : Ev (fun k => laws_FnPowerLoss.f k l) true := by
  by_cases c : (l.length : Int) > 4096
  · refine Ev.congr (f := fun _ => some true) (fun k => ?_) (Ev.now _)
    unfold laws_FnPowerLoss.f laws_f6big.f
    rw [decide_eq_true c]
    rfl
  have hB : Bytes l := ⟨by omega, hb⟩
  obtain ⟨K1, W1, n, e1, s1, t1⟩ := drawlose_ok hB
  obtain ⟨K2, W2, e2, s2, t2⟩ := drawlog_ok hB
  obtain ⟨K3, W3, e3, s3, t3⟩ := drawrec_ok hB
  refine Ev.congr (f := fun k => (spec_DrawLosePower.f k l).bind fun bt397 => ((impl_LosePower.f k bt397.1 bt397.2.1 bt397.2.2).bind fun bt401 => ((spec_LosePower.f k bt397.1 bt397.2.1 bt397.2.2).bind fun bt405 => ((spec_DrawFlushLog.f k l).bind fun bt409 => ((impl_FlushLog.f k bt409.1 bt409.2).bind fun bt412 => ((spec_FlushLog.f k bt409.1 bt409.2).bind fun bt416 => ((spec_DrawRecoverLog.f k l).bind fun bt420 => ((impl_RecoverLog.f k bt420.1 bt420.2).bind fun bt423 => ((spec_RecoverLog.f k bt420.1 bt420.2).bind fun bt428 => (if bt401.2.2 = bt405.2.2 then (if (!(bt401.1.toList == bt405.1.toList) || (!(bt401.2.1.toList == bt405.2.1.toList))) = true then (some false) else (if bt412.2.2 = bt416.2.2 then (if (!(bt412.1.toList == bt416.1.toList) || (!(bt412.2.1.toList == bt416.2.1.toList))) = true then (some false) else (if bt423.2.2.2 = bt428.2.2.2 then (if (!(bt423.1.toList == bt428.1.toList) || (!(bt423.2.1.toList == bt428.2.1.toList))) = true then (some false) else (if bt423.2.2.1 = bt428.2.2.1 then (if bt423.2.2.2 = 0 then ((impl_EntriesOf.f k bt423.1 bt423.2.1).bind fun bt433 => (if bt433.2 = 0 then (if bt428.2.2.1 < 0 then (some false) else (if (wrap64 ((bt428.1.size : Int) + bt428.2.2.1)) = (bt420.1.size : Int) then (laws_FnPowerLoss.j0 k bt397.2.2 bt401.2.2 bt412.2.2 bt397.1 bt397.2.1 bt401.1 bt401.2.1 bt409.1 bt409.2 bt412.1 bt412.2.1) else (some false))) else (some false))) else (laws_FnPowerLoss.j0 k bt397.2.2 bt401.2.2 bt412.2.2 bt397.1 bt397.2.1 bt401.1 bt401.2.1 bt409.1 bt409.2 bt412.1 bt412.2.1)) else (some false))) else (some false))) else (some false))) else (some false))))))))))) (fun k => ?_) ?_
  · unfold laws_FnPowerLoss.f laws_f6big.f
    rw [decide_eq_false c]
    rfl
  refine Ev.bind e1 (Ev.bind (impl_lose K1 W1 n (by omega) (by omega)) (Ev.bind (spec_lose K1 W1 n (by omega) (by omega)) (Ev.bind e2 (Ev.bind (impl_flush K2 W2 (by omega) (by omega)) (Ev.bind (spec_flush K2 W2 (by omega) (by omega)) (Ev.bind e3 (Ev.bind (impl_rec K3 W3 (by omega) (by omega)) (Ev.bind (spec_rec K3 W3 (by omega) (by omega)) (Ev.congr (fun k => (if_pos rfl).trans ((if_neg (by simp)).trans ((if_pos rfl).trans ((if_neg (by simp)).trans ((if_pos rfl).trans ((if_neg (by simp)).trans (if_pos rfl))))))) ?_)))))))))
  have hj := j0_ok K1 W1 K2 W2 n (by omega) (by omega) (by omega) (by omega)
  generalize loseR K1 W1 n = X at *
  generalize flushR K2 W2 = Y at *
  by_cases d : (recR K3 W3).2.2.2 = 0
  · refine Ev.congr (fun k => if_pos d) ?_
    by_cases o : okL K3 W3 = true
    · by_cases q : plen (L K3) < K3.size ∧ W3.toList ≠ []
      · exact absurd d (by unfold recR; rw [if_pos o, if_pos q]; decide)
      · have hR : recR K3 W3 = (K3.extract 0 (plen (L K3)), W3, (K3.size : Int) - plen (L K3), 0) := by unfold recR; rw [if_pos o, if_neg q]
        obtain ⟨hw, hs⟩ := okL_facts o
        have hp := plen_size K3
        have hz : (K3.extract 0 (plen (L K3))).size = plen (L K3) := by
          rw [size_L, L_ext, List.drop_zero, List.length_take, ← size_L]; omega
        rw [hR]
        have ho : okL (K3.extract 0 (plen (L K3))) W3 = true := by
          unfold okL
          rw [decide_eq_true hw, Bool.true_and, hz]
          exact decide_eq_true (by omega)
        have hE : entR (K3.extract 0 (plen (L K3))) W3 = (rents (K3.extract 0 (plen (L K3))) ++ rents W3, 0) := by
          unfold entR; rw [if_pos ho, if_pos (cut_whole K3)]
        have e4 := impl_ents (K3.extract 0 (plen (L K3))) W3 (by omega) (by omega)
        rw [hE] at e4
        refine Ev.bind e4 (Ev.congr (fun k => (if_pos rfl).trans ((if_neg ?_).trans (if_pos ?_))) hj)
        · show ¬ (K3.size : Int) - plen (L K3) < 0
          omega
        · show wrap64 (((K3.extract 0 (plen (L K3))).size : Int) + ((K3.size : Int) - plen (L K3))) = (K3.size : Int)
          rw [hz, w64 (by omega) (by omega)]; omega
    · exact absurd d (by unfold recR; rw [if_neg o]; decide)
  · exact Ev.congr (fun k => if_neg d) hj
end Go.Proofs.YtajbomiaoncgiaaDoor.QPL
