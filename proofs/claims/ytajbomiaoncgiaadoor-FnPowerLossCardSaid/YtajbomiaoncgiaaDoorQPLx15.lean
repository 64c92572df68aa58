-- Written by a program of this place (wip/tools/prn.py) out of the translation, for this claim. Lean checks it.
import Derived.Test.YtajbomiaoncgiaaDoorQPLz
import Derived.Test.YtajbomiaoncgiaaDoorQPLx1
import Derived.Test.YtajbomiaoncgiaaDoorQPLx2
import Derived.Test.YtajbomiaoncgiaaDoorQPLx3
import Derived.Test.YtajbomiaoncgiaaDoorQPLx5
import Derived.Test.YtajbomiaoncgiaaDoorQPLx9
import Derived.Test.YtajbomiaoncgiaaDoorQPLx12
import Derived.Test.YtajbomiaoncgiaaDoorQPLx13
import Derived.Test.YtajbomiaoncgiaaDoorQPLx14
namespace Go.Proofs.YtajbomiaoncgiaaDoor.QPL
open Go.RowKit Go.Proofs.YtajbomiaoncgiaaDoorQ Go.Proofs.YtajbomiaoncgiaaDoorW.PrintWords Go.Proofs.YtajbomiaoncgiaaDoorW.PrintLast Go.Proofs.YtajbomiaoncgiaaDoorW.PrintMore
attribute [local go_sem] max2_int min2_int max_two min_two max_three min_three max_four min_four   -- for this text's walks alone
set_option linter.unusedVariables false
set_option linter.unusedSimpArgs false

attribute [local go_sem high] eqA25 eqA39
/-! ### laws_FnPowerLoss: function 3 -/
mutual
def laws_FnPowerLoss.j0 : Nat → Int → Int → Int → ByteArray → ByteArray → ByteArray → ByteArray → ByteArray → ByteArray → ByteArray → ByteArray → Option (Bool)
 | 0, _, _, _, _, _, _, _, _, _, _, _ => none
 | k + 1, x4, x6, x11, x401000, x401001, x405000, x405001, x412000, x412001, x416000, x416001 => if x11 = 0 then ((spec_EntriesOf.f k x412000 x412001).bind fun bt437 => ((impl_EntriesOf.f k x416000 x416001).bind fun bt441 => (if bt437.2 = 0 then (if bt441.2 = 0 then ((spec_SameEntries.f k bt437.1 bt441.1).bind fun t445 => (if t445 = true then (laws_FnPowerLoss.j1 k x4 x6 x401000 x401001 x405000 x405001) else (some false))) else (some false)) else (laws_FnPowerLoss.j1 k x4 x6 x401000 x401001 x405000 x405001)))) else (laws_FnPowerLoss.j1 k x4 x6 x401000 x401001 x405000 x405001)
def laws_FnPowerLoss.j1 : Nat → Int → Int → ByteArray → ByteArray → ByteArray → ByteArray → Option (Bool)
 | 0, _, _, _, _, _, _ => none
 | k + 1, x4, x6, x401000, x401001, x405000, x405001 => if x6 = 0 then ((spec_EntriesOf.f k x401000 x401001).bind fun bt446 => (if bt446.2 = 0 then ((impl_RecoverLog.f k x405000 x405001).bind fun bt450 => ((impl_EntriesOf.f k bt450.1 bt450.2.1).bind fun bt455 => ((spec_ReadFrames.f k x401000).bind fun bt459 => (if bt450.2.2.2 = 0 then (if bt455.2 = 0 then (if (bt455.1.length : Int) < (bt459.1.length : Int) then (some false) else (if (bt455.1.length : Int) > (bt446.1.length : Int) then (some false) else (if x4 = (x401001.size : Int) then (laws_FnPowerLoss.j2 k bt446.1 bt455.1 ((bt455.1.length : Int) != (bt446.1.length : Int))) else (laws_FnPowerLoss.j2 k bt446.1 bt455.1 false)))) else (some false)) else (some false))))) else (some true))) else (some true)
def laws_FnPowerLoss.j2 : Nat → List (S39) → List (S39) → Bool → Option (Bool)
 | 0, _, _, _ => none
 | k + 1, x27, x32, x222 => if x222 = true then (some false) else (laws_FnPowerLoss.l0 k x27 x32 0)
def laws_FnPowerLoss.l0 : Nat → List (S39) → List (S39) → Int → Option (Bool)
 | 0, _, _, _ => none
 | k + 1, x27, x32, x36 => if x36 < (x32.length : Int) then (if 0 ≤ x36 then (if x36 < (x27.length : Int) then (if (!(((rd_T39 x32 x36).f0) == ((rd_T39 x27 x36).f0)) || (!((((rd_T39 x32 x36).f1).toList) == (((rd_T39 x27 x36).f1).toList)) || (!((((rd_T39 x32 x36).f2).toList) == (((rd_T39 x27 x36).f2).toList))))) = true then (some false) else (laws_FnPowerLoss.l0 k x27 x32 (wrap64 (x36 + 1)))) else (none)) else (none)) else (some true)
end
def laws_FnPowerLoss.f (k : Nat) (l0 : List Int) : Option (Bool) := (laws_f6big.f l0).bind fun t396 => (if t396 = true then (some true) else ((spec_DrawLosePower.f k l0).bind fun bt397 => ((impl_LosePower.f k bt397.1 bt397.2.1 bt397.2.2).bind fun bt401 => ((spec_LosePower.f k bt397.1 bt397.2.1 bt397.2.2).bind fun bt405 => ((spec_DrawFlushLog.f k l0).bind fun bt409 => ((impl_FlushLog.f k bt409.1 bt409.2).bind fun bt412 => ((spec_FlushLog.f k bt409.1 bt409.2).bind fun bt416 => ((spec_DrawRecoverLog.f k l0).bind fun bt420 => ((impl_RecoverLog.f k bt420.1 bt420.2).bind fun bt423 => ((spec_RecoverLog.f k bt420.1 bt420.2).bind fun bt428 => (if bt401.2.2 = bt405.2.2 then (if (!(bt401.1.toList == bt405.1.toList) || (!(bt401.2.1.toList == bt405.2.1.toList))) = true then (some false) else (if bt412.2.2 = bt416.2.2 then (if (!(bt412.1.toList == bt416.1.toList) || (!(bt412.2.1.toList == bt416.2.1.toList))) = true then (some false) else (if bt423.2.2.2 = bt428.2.2.2 then (if (!(bt423.1.toList == bt428.1.toList) || (!(bt423.2.1.toList == bt428.2.1.toList))) = true then (some false) else (if bt423.2.2.1 = bt428.2.2.1 then (if bt423.2.2.2 = 0 then ((impl_EntriesOf.f k bt423.1 bt423.2.1).bind fun bt433 => (if bt433.2 = 0 then (if bt428.2.2.1 < 0 then (some false) else (if (wrap64 ((bt428.1.size : Int) + bt428.2.2.1)) = (bt420.1.size : Int) then (laws_FnPowerLoss.j0 k bt397.2.2 bt401.2.2 bt412.2.2 bt397.1 bt397.2.1 bt401.1 bt401.2.1 bt409.1 bt409.2 bt412.1 bt412.2.1) else (some false))) else (some false))) else (laws_FnPowerLoss.j0 k bt397.2.2 bt401.2.2 bt412.2.2 bt397.1 bt397.2.1 bt401.1 bt401.2.1 bt409.1 bt409.2 bt412.1 bt412.2.1)) else (some false))) else (some false))) else (some false))) else (some false))))))))))))
set_option maxHeartbeats 8000000 in
set_option maxRecDepth 100000 in
theorem laws_FnPowerLoss.calls (k : Nat) (A0 : Option Addr) (c0 : Nat) (l0 : List Int) (r : Bool) (w : World) (hG : GF w) (hr0 : Kd.C (Kd.int .u8) w A0 l0.length l0) (hc0 : l0.length ≤ c0) (hrt : r = true) (h : laws_FnPowerLoss.f k l0 = some r) :
  Calls Tryd.prog 3 #[.slice A0 l0.length c0] w fun e w' => e = .returned (.bool r) ∧ Below w.heap.size w w' := by
 have hu25 := Tryd.underlying25
 have hu39 := Tryd.underlying39
 have HR0 := Aside0.mk hr0
 have HC0 := Aside0.mk hc0
 clear hr0 hc0
 have HB := Aside0.mk (Below.refl w.heap.size w)
 have HRT := Aside0.mk hrt
 clear hrt
 have HG := Aside0.mk hG
 clear hG
 have H : ((laws_f6big.f l0).bind fun t396 => (if t396 = true then (some true) else ((spec_DrawLosePower.f k l0).bind fun bt397 => ((impl_LosePower.f k bt397.1 bt397.2.1 bt397.2.2).bind fun bt401 => ((spec_LosePower.f k bt397.1 bt397.2.1 bt397.2.2).bind fun bt405 => ((spec_DrawFlushLog.f k l0).bind fun bt409 => ((impl_FlushLog.f k bt409.1 bt409.2).bind fun bt412 => ((spec_FlushLog.f k bt409.1 bt409.2).bind fun bt416 => ((spec_DrawRecoverLog.f k l0).bind fun bt420 => ((impl_RecoverLog.f k bt420.1 bt420.2).bind fun bt423 => ((spec_RecoverLog.f k bt420.1 bt420.2).bind fun bt428 => (if bt401.2.2 = bt405.2.2 then (if (!(bt401.1.toList == bt405.1.toList) || (!(bt401.2.1.toList == bt405.2.1.toList))) = true then (some false) else (if bt412.2.2 = bt416.2.2 then (if (!(bt412.1.toList == bt416.1.toList) || (!(bt412.2.1.toList == bt416.2.1.toList))) = true then (some false) else (if bt423.2.2.2 = bt428.2.2.2 then (if (!(bt423.1.toList == bt428.1.toList) || (!(bt423.2.1.toList == bt428.2.1.toList))) = true then (some false) else (if bt423.2.2.1 = bt428.2.2.1 then (if bt423.2.2.2 = 0 then ((impl_EntriesOf.f k bt423.1 bt423.2.1).bind fun bt433 => (if bt433.2 = 0 then (if bt428.2.2.1 < 0 then (some false) else (if (wrap64 ((bt428.1.size : Int) + bt428.2.2.1)) = (bt420.1.size : Int) then (laws_FnPowerLoss.j0 k bt397.2.2 bt401.2.2 bt412.2.2 bt397.1 bt397.2.1 bt401.1 bt401.2.1 bt409.1 bt409.2 bt412.1 bt412.2.1) else (some false))) else (some false))) else (laws_FnPowerLoss.j0 k bt397.2.2 bt401.2.2 bt412.2.2 bt397.1 bt397.2.1 bt401.1 bt401.2.1 bt409.1 bt409.2 bt412.1 bt412.2.1)) else (some false))) else (some false))) else (some false))) else (some false))))))))))))) = some r := h
 clear h
 replace H := Option.bind_eq_some_iff.mp H
 obtain ⟨t396, A20, H⟩ := H
 have A2 := Aside0.mk A20
 clear A20
 by_cases c3 : t396 = true
 ·subst c3
  rw [if_pos rfl] at H
  as_aux_lemma =>
   obtain rfl := Option.some.inj H
   go_enter Tryd.func3, Tryd.ntmps3
   go_wp2_with (first | (go_at_call 6; (with_reducible refine (laws_f6big.calls _ _ l0 true _ ?side1 ?side2 A2.out).mono ?_); (case side1 => exact zq20); (case side2 => exact HC0.out); rintro e w' ⟨rfl, ⟨nd, rfl⟩⟩; (try first | exact ⟨rfl, _, World.drewN_drewN _ _ _⟩ | exact ⟨rfl, _, Eq.trans (World.drewN_drewN _ _ _) (congrArg (World.drewN _) (Nat.add_assoc _ _ _))⟩)))
   go_ret
   exact ⟨er, bl⟩
 ·replace c3 := Bool.eq_false_iff.mpr c3
  subst c3
  rw [if_neg (show ¬ (false = true) by decide)] at H
  replace H := Option.bind_eq_some_iff.mp H
  obtain ⟨⟨t397, t398, t399⟩, A40, H⟩ := H
  dsimp only at H
  have A4 := Aside0.mk A40
  clear A40
  replace H := Option.bind_eq_some_iff.mp H
  obtain ⟨⟨t401, t402, t403⟩, A50, H⟩ := H
  dsimp only at H
  have A5 := Aside0.mk A50
  clear A50
  replace H := Option.bind_eq_some_iff.mp H
  obtain ⟨⟨t405, t406, t407⟩, A60, H⟩ := H
  dsimp only at H
  have A6 := Aside0.mk A60
  clear A60
  replace H := Option.bind_eq_some_iff.mp H
  obtain ⟨⟨t409, t410⟩, A70, H⟩ := H
  dsimp only at H
  have A7 := Aside0.mk A70
  clear A70
  replace H := Option.bind_eq_some_iff.mp H
  obtain ⟨⟨t412, t413, t414⟩, A80, H⟩ := H
  dsimp only at H
  have A8 := Aside0.mk A80
  clear A80
  replace H := Option.bind_eq_some_iff.mp H
  obtain ⟨⟨t416, t417, t418⟩, A90, H⟩ := H
  dsimp only at H
  have A9 := Aside0.mk A90
  clear A90
  replace H := Option.bind_eq_some_iff.mp H
  obtain ⟨⟨t420, t421⟩, A100, H⟩ := H
  dsimp only at H
  have A10 := Aside0.mk A100
  clear A100
  replace H := Option.bind_eq_some_iff.mp H
  obtain ⟨⟨t423, t424, t425, t426⟩, A110, H⟩ := H
  dsimp only at H
  have A11 := Aside0.mk A110
  clear A110
  replace H := Option.bind_eq_some_iff.mp H
  obtain ⟨⟨t428, t429, t430, t431⟩, A120, H⟩ := H
  dsimp only at H
  have A12 := Aside0.mk A120
  clear A120
  by_cases c13 : t403 = t407
  ·rw [if_pos c13] at H
   have c13b0 : (t403 == t407) = true := beq_iff_eq.mpr c13
   have c13b1 : (t403 != t407) = false := bne_eq_false_iff_eq.mpr c13
   clear c13
   by_cases c14 : (!(t401.toList == t405.toList) || (!(t402.toList == t406.toList))) = true
   ·rw [if_pos c14] at H
    have c14b0 : (!(t401.toList == t405.toList) || (!(t402.toList == t406.toList))) = true := c14
    clear c14
    as_aux_lemma =>
     exact absurd ((Option.some.inj H).trans HRT.out) (by decide)
   ·rw [if_neg c14] at H
    have c14b0 : (!(t401.toList == t405.toList) || (!(t402.toList == t406.toList))) = false := by simpa using c14
    clear c14
    by_cases c15 : t414 = t418
    ·rw [if_pos c15] at H
     have c15b0 : (t414 == t418) = true := beq_iff_eq.mpr c15
     have c15b1 : (t414 != t418) = false := bne_eq_false_iff_eq.mpr c15
     clear c15
     by_cases c16 : (!(t412.toList == t416.toList) || (!(t413.toList == t417.toList))) = true
     ·rw [if_pos c16] at H
      have c16b0 : (!(t412.toList == t416.toList) || (!(t413.toList == t417.toList))) = true := c16
      clear c16
      as_aux_lemma =>
       exact absurd ((Option.some.inj H).trans HRT.out) (by decide)
     ·rw [if_neg c16] at H
      have c16b0 : (!(t412.toList == t416.toList) || (!(t413.toList == t417.toList))) = false := by simpa using c16
      clear c16
      by_cases c17 : t426 = t431
      ·rw [if_pos c17] at H
       have c17b0 : (t426 == t431) = true := beq_iff_eq.mpr c17
       have c17b1 : (t426 != t431) = false := bne_eq_false_iff_eq.mpr c17
       clear c17
       by_cases c18 : (!(t423.toList == t428.toList) || (!(t424.toList == t429.toList))) = true
       ·rw [if_pos c18] at H
        have c18b0 : (!(t423.toList == t428.toList) || (!(t424.toList == t429.toList))) = true := c18
        clear c18
        as_aux_lemma =>
         exact absurd ((Option.some.inj H).trans HRT.out) (by decide)
       ·rw [if_neg c18] at H
        have c18b0 : (!(t423.toList == t428.toList) || (!(t424.toList == t429.toList))) = false := by simpa using c18
        clear c18
        by_cases c19 : t425 = t430
        ·rw [if_pos c19] at H
         have c19b0 : (t425 == t430) = true := beq_iff_eq.mpr c19
         have c19b1 : (t425 != t430) = false := bne_eq_false_iff_eq.mpr c19
         clear c19
         have HC20 := Aside0.mk H
         clear H
         go_enter Tryd.func3, Tryd.ntmps3
         go_upto_if 116 with (first | (go_at_call 6; (with_reducible refine (laws_f6big.calls _ _ l0 false _ ?side1 ?side2 A2.out).mono ?_); (case side1 => exact zq20); (case side2 => exact HC0.out); rintro e w' ⟨rfl, ⟨nd, rfl⟩⟩; (try first | exact ⟨rfl, _, World.drewN_drewN _ _ _⟩ | exact ⟨rfl, _, Eq.trans (World.drewN_drewN _ _ _) (congrArg (World.drewN _) (Nat.add_assoc _ _ _))⟩)) | (go_at_call 7; (with_reducible refine (spec_DrawLosePower.calls k _ _ l0 t397 t398 t399 _ ?side1 ?side2 A4.out).mono ?_); (case side1 => exact zq20); (case side2 => exact HC0.out); rintro e w21 ⟨rfl, hb⟩; replace HB := bs hb; (try clear hb)) | ((with_reducible refine gate_dst (N := 3) rfl ?_); (try (refine gate_guard (by rfl) ?_; dsimp only)); refine box_event ?hg (N := 3) ?hd (cs := #[.string (⟨#[]⟩ : ByteArray), .string (⟨#[]⟩ : ByteArray)]) (t := 25) ?hr ?_; (case hd => rfl); (case hg => rfl); (case hr => exact zq1); intro gb400 hg w22 hbox hb; have BK400 := Aside0.mk (hbox); have GW400 := gsz hg; have GE400 := gsz hg; replace HB := bs hb; clear hb hbox hg; have hcz23_0 := cz BK400 0 rfl; have hcz23_1 := cz BK400 1 rfl; have hfz23_0 := blk_frozen BK400.out 0; have hfz23_1 := blk_frozen BK400.out 1) | (go_at_call 8; (with_reducible refine (impl_LosePower.calls k t397 t398 t399 t401 t402 t403 _ ?side1 A5.out).mono ?_); (case side1 => exact (GF.below HG.out bl)); rintro e w24 ⟨rfl, hb⟩; replace BK400 := Aside0.mk (blk_below (g := gb400) (o := .cells #[.string t397, .string t398] 25 (0, 0)) (by (with_reducible repeat (first | refine blk_drewN ?_ _ | refine blk_drew ?_ | refine blk_alloc ?_ _)); refine blk_put (cs := #[.string t397, .string (⟨#[]⟩ : ByteArray)]) ?_ 1 _ rfl; (with_reducible repeat (first | refine blk_drewN ?_ _ | refine blk_drew ?_ | refine blk_alloc ?_ _)); refine blk_put (cs := #[.string (⟨#[]⟩ : ByteArray), .string (⟨#[]⟩ : ByteArray)]) ?_ 0 _ rfl; (with_reducible repeat (first | refine blk_drewN ?_ _ | refine blk_drew ?_ | refine blk_alloc ?_ _)); exact BK400.out) hb); replace HB := bs hb; (try clear hb)) | ((with_reducible refine gate_dst (N := 5) rfl ?_); (try (refine gate_guard (by rfl) ?_; dsimp only)); refine box_event ?hg (N := 5) ?hd (cs := #[.string (⟨#[]⟩ : ByteArray), .string (⟨#[]⟩ : ByteArray)]) (t := 25) ?hr ?_; (case hd => rfl); (case hg => rfl); (case hr => exact zq1); intro gb404 hg w25 hbox hb; have BK404 := Aside0.mk (hbox); have GW404 := gsz hg; have GE404 := gsz hg; replace HB := bs hb; have NB400_404 := nlt BK400 hg; have NB404_400 := ngt BK400 hg; replace BK400 := kb BK400 hb; clear hb hbox hg; have hnb26 := NB404_400.out; have hnc26 := NB400_404.out; have hcz27_0 := cz BK404 0 rfl; have hcz27_1 := cz BK404 1 rfl; have hfz27_0 := blk_frozen BK404.out 0; have hfz27_1 := blk_frozen BK404.out 1; have hcz28_0 := cz BK400 0 rfl; have hcz28_1 := cz BK400 1 rfl; have hfz28_0 := blk_frozen BK400.out 0; have hfz28_1 := blk_frozen BK400.out 1) | (go_at_call 9; (with_reducible refine (spec_LosePower.calls k t397 t398 t399 t405 t406 t407 _ A6.out).mono ?_); rintro e w29 ⟨rfl, hb⟩; replace BK400 := Aside0.mk (blk_below (g := gb400) (o := .cells #[.string t397, .string t398] 25 (0, 0)) zq2 hb); replace BK404 := Aside0.mk (blk_below (g := gb404) (o := .cells #[.string t401, .string t402] 25 (0, 0)) (by (with_reducible repeat (first | refine blk_drewN ?_ _ | refine blk_drew ?_ | refine blk_alloc ?_ _)); refine blk_put (cs := #[.string t401, .string (⟨#[]⟩ : ByteArray)]) ?_ 1 _ rfl; (with_reducible repeat (first | refine blk_drewN ?_ _ | refine blk_drew ?_ | refine blk_alloc ?_ _)); refine blk_put (cs := #[.string (⟨#[]⟩ : ByteArray), .string (⟨#[]⟩ : ByteArray)]) ?_ 0 _ rfl; (with_reducible repeat (first | refine blk_drewN ?_ _ | refine blk_drew ?_ | refine blk_alloc ?_ _)); exact BK404.out) hb); replace HB := bs hb; (try clear hb)) | ((with_reducible refine gate_dst (N := 7) rfl ?_); (try (refine gate_guard (by rfl) ?_; dsimp only)); refine box_event ?hg (N := 7) ?hd (cs := #[.string (⟨#[]⟩ : ByteArray), .string (⟨#[]⟩ : ByteArray)]) (t := 25) ?hr ?_; (case hd => rfl); (case hg => rfl); (case hr => exact zq1); intro gb408 hg w30 hbox hb; have BK408 := Aside0.mk (hbox); have GW408 := gsz hg; have GE408 := gsz hg; replace HB := bs hb; have NB400_408 := nlt BK400 hg; have NB408_400 := ngt BK400 hg; replace BK400 := kb BK400 hb; have NB404_408 := nlt BK404 hg; have NB408_404 := ngt BK404 hg; replace BK404 := kb BK404 hb; clear hb hbox hg; have hnb31 := NB408_400.out; have hnc31 := NB400_408.out; have hnb32 := NB408_404.out; have hnc32 := NB404_408.out; have hcz33_0 := cz BK408 0 rfl; have hcz33_1 := cz BK408 1 rfl; have hfz33_0 := blk_frozen BK408.out 0; have hfz33_1 := blk_frozen BK408.out 1) | (go_at_call 10; (with_reducible refine (spec_DrawFlushLog.calls k _ _ l0 t409 t410 _ ?side1 ?side2 A7.out).mono ?_); (case side1 => exact Kd.C_below HR0.out bl); (case side2 => exact HC0.out); rintro e w34 ⟨rfl, hb⟩; replace BK400 := Aside0.mk (blk_below (g := gb400) (o := .cells #[.string t397, .string t398] 25 (0, 0)) zq2 hb); replace BK404 := Aside0.mk (blk_below (g := gb404) (o := .cells #[.string t401, .string t402] 25 (0, 0)) zq2 hb); replace BK408 := Aside0.mk (blk_below (g := gb408) (o := .cells #[.string t405, .string t406] 25 (0, 0)) (by (with_reducible repeat (first | refine blk_drewN ?_ _ | refine blk_drew ?_ | refine blk_alloc ?_ _)); refine blk_put (cs := #[.string t405, .string (⟨#[]⟩ : ByteArray)]) ?_ 1 _ rfl; (with_reducible repeat (first | refine blk_drewN ?_ _ | refine blk_drew ?_ | refine blk_alloc ?_ _)); refine blk_put (cs := #[.string (⟨#[]⟩ : ByteArray), .string (⟨#[]⟩ : ByteArray)]) ?_ 0 _ rfl; (with_reducible repeat (first | refine blk_drewN ?_ _ | refine blk_drew ?_ | refine blk_alloc ?_ _)); exact BK408.out) hb); replace HB := bs hb; (try clear hb)) | ((with_reducible refine gate_dst (N := 9) rfl ?_); (try (refine gate_guard (by rfl) ?_; dsimp only)); refine box_event ?hg (N := 9) ?hd (cs := #[.string (⟨#[]⟩ : ByteArray), .string (⟨#[]⟩ : ByteArray)]) (t := 25) ?hr ?_; (case hd => rfl); (case hg => rfl); (case hr => exact zq1); intro gb411 hg w35 hbox hb; have BK411 := Aside0.mk (hbox); have GW411 := gsz hg; have GE411 := gsz hg; replace HB := bs hb; have NB400_411 := nlt BK400 hg; have NB411_400 := ngt BK400 hg; replace BK400 := kb BK400 hb; have NB404_411 := nlt BK404 hg; have NB411_404 := ngt BK404 hg; replace BK404 := kb BK404 hb; have NB408_411 := nlt BK408 hg; have NB411_408 := ngt BK408 hg; replace BK408 := kb BK408 hb; clear hb hbox hg; have hnb36 := NB411_400.out; have hnc36 := NB400_411.out; have hnb37 := NB411_404.out; have hnc37 := NB404_411.out; have hnb38 := NB411_408.out; have hnc38 := NB408_411.out; have hcz39_0 := cz BK411 0 rfl; have hcz39_1 := cz BK411 1 rfl; have hfz39_0 := blk_frozen BK411.out 0; have hfz39_1 := blk_frozen BK411.out 1) | (go_at_call 11; (with_reducible refine (impl_FlushLog.calls k t409 t410 t412 t413 t414 _ ?side1 A8.out).mono ?_); (case side1 => exact (GF.below HG.out bl)); rintro e w40 ⟨rfl, hb⟩; replace BK400 := Aside0.mk (blk_below (g := gb400) (o := .cells #[.string t397, .string t398] 25 (0, 0)) zq2 hb); replace BK404 := Aside0.mk (blk_below (g := gb404) (o := .cells #[.string t401, .string t402] 25 (0, 0)) zq2 hb); replace BK408 := Aside0.mk (blk_below (g := gb408) (o := .cells #[.string t405, .string t406] 25 (0, 0)) zq2 hb); replace BK411 := Aside0.mk (blk_below (g := gb411) (o := .cells #[.string t409, .string t410] 25 (0, 0)) (by (with_reducible repeat (first | refine blk_drewN ?_ _ | refine blk_drew ?_ | refine blk_alloc ?_ _)); refine blk_put (cs := #[.string t409, .string (⟨#[]⟩ : ByteArray)]) ?_ 1 _ rfl; (with_reducible repeat (first | refine blk_drewN ?_ _ | refine blk_drew ?_ | refine blk_alloc ?_ _)); refine blk_put (cs := #[.string (⟨#[]⟩ : ByteArray), .string (⟨#[]⟩ : ByteArray)]) ?_ 0 _ rfl; (with_reducible repeat (first | refine blk_drewN ?_ _ | refine blk_drew ?_ | refine blk_alloc ?_ _)); exact BK411.out) hb); replace HB := bs hb; (try clear hb)) | ((with_reducible refine gate_dst (N := 10) rfl ?_); (try (refine gate_guard (by rfl) ?_; dsimp only)); refine box_event ?hg (N := 10) ?hd (cs := #[.string (⟨#[]⟩ : ByteArray), .string (⟨#[]⟩ : ByteArray)]) (t := 25) ?hr ?_; (case hd => rfl); (case hg => rfl); (case hr => exact zq1); intro gb415 hg w41 hbox hb; have BK415 := Aside0.mk (hbox); have GW415 := gsz hg; have GE415 := gsz hg; replace HB := bs hb; have NB400_415 := nlt BK400 hg; have NB415_400 := ngt BK400 hg; replace BK400 := kb BK400 hb; have NB404_415 := nlt BK404 hg; have NB415_404 := ngt BK404 hg; replace BK404 := kb BK404 hb; have NB408_415 := nlt BK408 hg; have NB415_408 := ngt BK408 hg; replace BK408 := kb BK408 hb; have NB411_415 := nlt BK411 hg; have NB415_411 := ngt BK411 hg; replace BK411 := kb BK411 hb; clear hb hbox hg; have hnb42 := NB415_400.out; have hnc42 := NB400_415.out; have hnb43 := NB415_404.out; have hnc43 := NB404_415.out; have hnb44 := NB415_408.out; have hnc44 := NB408_415.out; have hnb45 := NB415_411.out; have hnc45 := NB411_415.out; have hcz46_0 := cz BK415 0 rfl; have hcz46_1 := cz BK415 1 rfl; have hfz46_0 := blk_frozen BK415.out 0; have hfz46_1 := blk_frozen BK415.out 1; have hcz47_0 := cz BK411 0 rfl; have hcz47_1 := cz BK411 1 rfl; have hfz47_0 := blk_frozen BK411.out 0; have hfz47_1 := blk_frozen BK411.out 1) | (go_at_call 12; (with_reducible refine (spec_FlushLog.calls k t409 t410 t416 t417 t418 _ A9.out).mono ?_); rintro e w48 ⟨rfl, hb⟩; replace BK400 := Aside0.mk (blk_below (g := gb400) (o := .cells #[.string t397, .string t398] 25 (0, 0)) zq2 hb); replace BK404 := Aside0.mk (blk_below (g := gb404) (o := .cells #[.string t401, .string t402] 25 (0, 0)) zq2 hb); replace BK408 := Aside0.mk (blk_below (g := gb408) (o := .cells #[.string t405, .string t406] 25 (0, 0)) zq2 hb); replace BK411 := Aside0.mk (blk_below (g := gb411) (o := .cells #[.string t409, .string t410] 25 (0, 0)) zq2 hb); replace BK415 := Aside0.mk (blk_below (g := gb415) (o := .cells #[.string t412, .string t413] 25 (0, 0)) (by (with_reducible repeat (first | refine blk_drewN ?_ _ | refine blk_drew ?_ | refine blk_alloc ?_ _)); refine blk_put (cs := #[.string t412, .string (⟨#[]⟩ : ByteArray)]) ?_ 1 _ rfl; (with_reducible repeat (first | refine blk_drewN ?_ _ | refine blk_drew ?_ | refine blk_alloc ?_ _)); refine blk_put (cs := #[.string (⟨#[]⟩ : ByteArray), .string (⟨#[]⟩ : ByteArray)]) ?_ 0 _ rfl; (with_reducible repeat (first | refine blk_drewN ?_ _ | refine blk_drew ?_ | refine blk_alloc ?_ _)); exact BK415.out) hb); replace HB := bs hb; (try clear hb)) | ((with_reducible refine gate_dst (N := 12) rfl ?_); (try (refine gate_guard (by rfl) ?_; dsimp only)); refine box_event ?hg (N := 12) ?hd (cs := #[.string (⟨#[]⟩ : ByteArray), .string (⟨#[]⟩ : ByteArray)]) (t := 25) ?hr ?_; (case hd => rfl); (case hg => rfl); (case hr => exact zq1); intro gb419 hg w49 hbox hb; have BK419 := Aside0.mk (hbox); have GW419 := gsz hg; have GE419 := gsz hg; replace HB := bs hb; have NB400_419 := nlt BK400 hg; have NB419_400 := ngt BK400 hg; replace BK400 := kb BK400 hb; have NB404_419 := nlt BK404 hg; have NB419_404 := ngt BK404 hg; replace BK404 := kb BK404 hb; have NB408_419 := nlt BK408 hg; have NB419_408 := ngt BK408 hg; replace BK408 := kb BK408 hb; have NB411_419 := nlt BK411 hg; have NB419_411 := ngt BK411 hg; replace BK411 := kb BK411 hb; have NB415_419 := nlt BK415 hg; have NB419_415 := ngt BK415 hg; replace BK415 := kb BK415 hb; clear hb hbox hg; have hnb50 := NB419_400.out; have hnc50 := NB400_419.out; have hnb51 := NB419_404.out; have hnc51 := NB404_419.out; have hnb52 := NB419_408.out; have hnc52 := NB408_419.out; have hnb53 := NB419_411.out; have hnc53 := NB411_419.out; have hnb54 := NB419_415.out; have hnc54 := NB415_419.out; have hcz55_0 := cz BK419 0 rfl; have hcz55_1 := cz BK419 1 rfl; have hfz55_0 := blk_frozen BK419.out 0; have hfz55_1 := blk_frozen BK419.out 1) | (go_at_call 13; (with_reducible refine (spec_DrawRecoverLog.calls k _ _ l0 t420 t421 _ ?side1 ?side2 A10.out).mono ?_); (case side1 => exact Kd.C_below HR0.out bl); (case side2 => exact HC0.out); rintro e w56 ⟨rfl, hb⟩; replace BK400 := Aside0.mk (blk_below (g := gb400) (o := .cells #[.string t397, .string t398] 25 (0, 0)) zq2 hb); replace BK404 := Aside0.mk (blk_below (g := gb404) (o := .cells #[.string t401, .string t402] 25 (0, 0)) zq2 hb); replace BK408 := Aside0.mk (blk_below (g := gb408) (o := .cells #[.string t405, .string t406] 25 (0, 0)) zq2 hb); replace BK411 := Aside0.mk (blk_below (g := gb411) (o := .cells #[.string t409, .string t410] 25 (0, 0)) zq2 hb); replace BK415 := Aside0.mk (blk_below (g := gb415) (o := .cells #[.string t412, .string t413] 25 (0, 0)) zq2 hb); replace BK419 := Aside0.mk (blk_below (g := gb419) (o := .cells #[.string t416, .string t417] 25 (0, 0)) (by (with_reducible repeat (first | refine blk_drewN ?_ _ | refine blk_drew ?_ | refine blk_alloc ?_ _)); refine blk_put (cs := #[.string t416, .string (⟨#[]⟩ : ByteArray)]) ?_ 1 _ rfl; (with_reducible repeat (first | refine blk_drewN ?_ _ | refine blk_drew ?_ | refine blk_alloc ?_ _)); refine blk_put (cs := #[.string (⟨#[]⟩ : ByteArray), .string (⟨#[]⟩ : ByteArray)]) ?_ 0 _ rfl; (with_reducible repeat (first | refine blk_drewN ?_ _ | refine blk_drew ?_ | refine blk_alloc ?_ _)); exact BK419.out) hb); replace HB := bs hb; (try clear hb)) | ((with_reducible refine gate_dst (N := 14) rfl ?_); (try (refine gate_guard (by rfl) ?_; dsimp only)); refine box_event ?hg (N := 14) ?hd (cs := #[.string (⟨#[]⟩ : ByteArray), .string (⟨#[]⟩ : ByteArray)]) (t := 25) ?hr ?_; (case hd => rfl); (case hg => rfl); (case hr => exact zq1); intro gb422 hg w57 hbox hb; have BK422 := Aside0.mk (hbox); have GW422 := gsz hg; have GE422 := gsz hg; replace HB := bs hb; have NB400_422 := nlt BK400 hg; have NB422_400 := ngt BK400 hg; replace BK400 := kb BK400 hb; have NB404_422 := nlt BK404 hg; have NB422_404 := ngt BK404 hg; replace BK404 := kb BK404 hb; have NB408_422 := nlt BK408 hg; have NB422_408 := ngt BK408 hg; replace BK408 := kb BK408 hb; have NB411_422 := nlt BK411 hg; have NB422_411 := ngt BK411 hg; replace BK411 := kb BK411 hb; have NB415_422 := nlt BK415 hg; have NB422_415 := ngt BK415 hg; replace BK415 := kb BK415 hb; have NB419_422 := nlt BK419 hg; have NB422_419 := ngt BK419 hg; replace BK419 := kb BK419 hb; clear hb hbox hg; have hnb58 := NB422_400.out; have hnc58 := NB400_422.out; have hnb59 := NB422_404.out; have hnc59 := NB404_422.out; have hnb60 := NB422_408.out; have hnc60 := NB408_422.out; have hnb61 := NB422_411.out; have hnc61 := NB411_422.out; have hnb62 := NB422_415.out; have hnc62 := NB415_422.out; have hnb63 := NB422_419.out; have hnc63 := NB419_422.out; have hcz64_0 := cz BK422 0 rfl; have hcz64_1 := cz BK422 1 rfl; have hfz64_0 := blk_frozen BK422.out 0; have hfz64_1 := blk_frozen BK422.out 1) | (go_at_call 14; (with_reducible refine (impl_RecoverLog.calls k t420 t421 t423 t424 t425 t426 _ ?side1 A11.out).mono ?_); (case side1 => exact (GF.below HG.out bl)); rintro e w65 ⟨rfl, hb⟩; replace BK400 := Aside0.mk (blk_below (g := gb400) (o := .cells #[.string t397, .string t398] 25 (0, 0)) zq2 hb); replace BK404 := Aside0.mk (blk_below (g := gb404) (o := .cells #[.string t401, .string t402] 25 (0, 0)) zq2 hb); replace BK408 := Aside0.mk (blk_below (g := gb408) (o := .cells #[.string t405, .string t406] 25 (0, 0)) zq2 hb); replace BK411 := Aside0.mk (blk_below (g := gb411) (o := .cells #[.string t409, .string t410] 25 (0, 0)) zq2 hb); replace BK415 := Aside0.mk (blk_below (g := gb415) (o := .cells #[.string t412, .string t413] 25 (0, 0)) zq2 hb); replace BK419 := Aside0.mk (blk_below (g := gb419) (o := .cells #[.string t416, .string t417] 25 (0, 0)) zq2 hb); replace BK422 := Aside0.mk (blk_below (g := gb422) (o := .cells #[.string t420, .string t421] 25 (0, 0)) (by (with_reducible repeat (first | refine blk_drewN ?_ _ | refine blk_drew ?_ | refine blk_alloc ?_ _)); refine blk_put (cs := #[.string t420, .string (⟨#[]⟩ : ByteArray)]) ?_ 1 _ rfl; (with_reducible repeat (first | refine blk_drewN ?_ _ | refine blk_drew ?_ | refine blk_alloc ?_ _)); refine blk_put (cs := #[.string (⟨#[]⟩ : ByteArray), .string (⟨#[]⟩ : ByteArray)]) ?_ 0 _ rfl; (with_reducible repeat (first | refine blk_drewN ?_ _ | refine blk_drew ?_ | refine blk_alloc ?_ _)); exact BK422.out) hb); replace HB := bs hb; (try clear hb)) | ((with_reducible refine gate_dst (N := 15) rfl ?_); (try (refine gate_guard (by rfl) ?_; dsimp only)); refine box_event ?hg (N := 15) ?hd (cs := #[.string (⟨#[]⟩ : ByteArray), .string (⟨#[]⟩ : ByteArray)]) (t := 25) ?hr ?_; (case hd => rfl); (case hg => rfl); (case hr => exact zq1); intro gb427 hg w66 hbox hb; have BK427 := Aside0.mk (hbox); have GW427 := gsz hg; have GE427 := gsz hg; replace HB := bs hb; have NB400_427 := nlt BK400 hg; have NB427_400 := ngt BK400 hg; replace BK400 := kb BK400 hb; have NB404_427 := nlt BK404 hg; have NB427_404 := ngt BK404 hg; replace BK404 := kb BK404 hb; have NB408_427 := nlt BK408 hg; have NB427_408 := ngt BK408 hg; replace BK408 := kb BK408 hb; have NB411_427 := nlt BK411 hg; have NB427_411 := ngt BK411 hg; replace BK411 := kb BK411 hb; have NB415_427 := nlt BK415 hg; have NB427_415 := ngt BK415 hg; replace BK415 := kb BK415 hb; have NB419_427 := nlt BK419 hg; have NB427_419 := ngt BK419 hg; replace BK419 := kb BK419 hb; have NB422_427 := nlt BK422 hg; have NB427_422 := ngt BK422 hg; replace BK422 := kb BK422 hb; clear hb hbox hg; have hnb67 := NB427_400.out; have hnc67 := NB400_427.out; have hnb68 := NB427_404.out; have hnc68 := NB404_427.out; have hnb69 := NB427_408.out; have hnc69 := NB408_427.out; have hnb70 := NB427_411.out; have hnc70 := NB411_427.out; have hnb71 := NB427_415.out; have hnc71 := NB415_427.out; have hnb72 := NB427_419.out; have hnc72 := NB419_427.out; have hnb73 := NB427_422.out; have hnc73 := NB422_427.out; have hcz74_0 := cz BK427 0 rfl; have hcz74_1 := cz BK427 1 rfl; have hfz74_0 := blk_frozen BK427.out 0; have hfz74_1 := blk_frozen BK427.out 1; have hcz75_0 := cz BK422 0 rfl; have hcz75_1 := cz BK422 1 rfl; have hfz75_0 := blk_frozen BK422.out 0; have hfz75_1 := blk_frozen BK422.out 1) | (go_at_call 15; (with_reducible refine (spec_RecoverLog.calls k t420 t421 t428 t429 t430 t431 _ A12.out).mono ?_); rintro e w76 ⟨rfl, hb⟩; replace BK400 := Aside0.mk (blk_below (g := gb400) (o := .cells #[.string t397, .string t398] 25 (0, 0)) zq2 hb); replace BK404 := Aside0.mk (blk_below (g := gb404) (o := .cells #[.string t401, .string t402] 25 (0, 0)) zq2 hb); replace BK408 := Aside0.mk (blk_below (g := gb408) (o := .cells #[.string t405, .string t406] 25 (0, 0)) zq2 hb); replace BK411 := Aside0.mk (blk_below (g := gb411) (o := .cells #[.string t409, .string t410] 25 (0, 0)) zq2 hb); replace BK415 := Aside0.mk (blk_below (g := gb415) (o := .cells #[.string t412, .string t413] 25 (0, 0)) zq2 hb); replace BK419 := Aside0.mk (blk_below (g := gb419) (o := .cells #[.string t416, .string t417] 25 (0, 0)) zq2 hb); replace BK422 := Aside0.mk (blk_below (g := gb422) (o := .cells #[.string t420, .string t421] 25 (0, 0)) zq2 hb); replace BK427 := Aside0.mk (blk_below (g := gb427) (o := .cells #[.string t423, .string t424] 25 (0, 0)) (by (with_reducible repeat (first | refine blk_drewN ?_ _ | refine blk_drew ?_ | refine blk_alloc ?_ _)); refine blk_put (cs := #[.string t423, .string (⟨#[]⟩ : ByteArray)]) ?_ 1 _ rfl; (with_reducible repeat (first | refine blk_drewN ?_ _ | refine blk_drew ?_ | refine blk_alloc ?_ _)); refine blk_put (cs := #[.string (⟨#[]⟩ : ByteArray), .string (⟨#[]⟩ : ByteArray)]) ?_ 0 _ rfl; (with_reducible repeat (first | refine blk_drewN ?_ _ | refine blk_drew ?_ | refine blk_alloc ?_ _)); exact BK427.out) hb); replace HB := bs hb; (try clear hb)) | ((with_reducible refine gate_dst (N := 18) rfl ?_); (try (refine gate_guard (by rfl) ?_; dsimp only)); refine box_event ?hg (N := 18) ?hd (cs := #[.string (⟨#[]⟩ : ByteArray), .string (⟨#[]⟩ : ByteArray)]) (t := 25) ?hr ?_; (case hd => rfl); (case hg => rfl); (case hr => exact zq1); intro gb432 hg w77 hbox hb; have BK432 := Aside0.mk (hbox); have GW432 := gsz hg; have GE432 := gsz hg; replace HB := bs hb; have NB400_432 := nlt BK400 hg; have NB432_400 := ngt BK400 hg; replace BK400 := kb BK400 hb; have NB404_432 := nlt BK404 hg; have NB432_404 := ngt BK404 hg; replace BK404 := kb BK404 hb; have NB408_432 := nlt BK408 hg; have NB432_408 := ngt BK408 hg; replace BK408 := kb BK408 hb; have NB411_432 := nlt BK411 hg; have NB432_411 := ngt BK411 hg; replace BK411 := kb BK411 hb; have NB415_432 := nlt BK415 hg; have NB432_415 := ngt BK415 hg; replace BK415 := kb BK415 hb; have NB419_432 := nlt BK419 hg; have NB432_419 := ngt BK419 hg; replace BK419 := kb BK419 hb; have NB422_432 := nlt BK422 hg; have NB432_422 := ngt BK422 hg; replace BK422 := kb BK422 hb; have NB427_432 := nlt BK427 hg; have NB432_427 := ngt BK427 hg; replace BK427 := kb BK427 hb; clear hb hbox hg; have hnb78 := NB432_400.out; have hnc78 := NB400_432.out; have hnb79 := NB432_404.out; have hnc79 := NB404_432.out; have hnb80 := NB432_408.out; have hnc80 := NB408_432.out; have hnb81 := NB432_411.out; have hnc81 := NB411_432.out; have hnb82 := NB432_415.out; have hnc82 := NB415_432.out; have hnb83 := NB432_419.out; have hnc83 := NB419_432.out; have hnb84 := NB432_422.out; have hnc84 := NB422_432.out; have hnb85 := NB432_427.out; have hnc85 := NB427_432.out; have hcz86_0 := cz BK432 0 rfl; have hcz86_1 := cz BK432 1 rfl; have hfz86_0 := blk_frozen BK432.out 0; have hfz86_1 := blk_frozen BK432.out 1; have hcz87_0 := cz BK404 0 rfl; have hcz87_1 := cz BK404 1 rfl; have hfz87_0 := blk_frozen BK404.out 0; have hfz87_1 := blk_frozen BK404.out 1; have hcz88_0 := cz BK408 0 rfl; have hcz88_1 := cz BK408 1 rfl; have hfz88_0 := blk_frozen BK408.out 0; have hfz88_1 := blk_frozen BK408.out 1; have hcz89_0 := cz BK415 0 rfl; have hcz89_1 := cz BK415 1 rfl; have hfz89_0 := blk_frozen BK415.out 0; have hfz89_1 := blk_frozen BK415.out 1; have hcz90_0 := cz BK419 0 rfl; have hcz90_1 := cz BK419 1 rfl; have hfz90_0 := blk_frozen BK419.out 0; have hfz90_1 := blk_frozen BK419.out 1; have hcz91_0 := cz BK427 0 rfl; have hcz91_1 := cz BK427 1 rfl; have hfz91_0 := blk_frozen BK427.out 0; have hfz91_1 := blk_frozen BK427.out 1))
         (try simp only [Act.put, List.setIfInBounds_toArray, List.set_cons_zero, List.set_cons_succ])
         go_cut [] (fun wc => ∃ (kq : Nat), Aside0 (laws_FnPowerLoss.j0 kq t399 t403 t414 t397 t398 t401 t402 t409 t410 t412 t413 = some r) ∧ Aside0 (kq ≤ k) ∧ Aside0 (wc.heap[gb400]? = some (.cells #[.string t397, .string t398] 25 (0, 0))) ∧ Aside0 (wc.heap[gb404]? = some (.cells #[.string t401, .string t402] 25 (0, 0))) ∧ Aside0 (wc.heap[gb408]? = some (.cells #[.string t405, .string t406] 25 (0, 0))) ∧ Aside0 (wc.heap[gb411]? = some (.cells #[.string t409, .string t410] 25 (0, 0))) ∧ Aside0 (wc.heap[gb415]? = some (.cells #[.string t412, .string t413] 25 (0, 0))) ∧ Aside0 (wc.heap[gb419]? = some (.cells #[.string t416, .string t417] 25 (0, 0))) ∧ Aside0 (wc.heap[gb422]? = some (.cells #[.string t420, .string t421] 25 (0, 0))) ∧ Aside0 (wc.heap[gb427]? = some (.cells #[.string t423, .string t424] 25 (0, 0))) ∧ Aside0 (wc.heap[gb432]? = some (.cells #[.string t428, .string t429] 25 (0, 0))) ∧ Aside0 (Below w.heap.size w wc))
         case first =>
          have H := HC20.out
          clear HC20
          by_cases c92 : t426 = 0
          ·rw [if_pos c92] at H
           have c92b0 : (t426 == 0) = true := beq_iff_eq.mpr c92
           have c92b1 : (t426 != 0) = false := bne_eq_false_iff_eq.mpr c92
           clear c92
           (first | rw [c92b0] | (simp only [i64_w, i32_w]; rw [c92b0]) | skip)
           replace H := Option.bind_eq_some_iff.mp H
           obtain ⟨⟨t433, t436⟩, A930, H⟩ := H
           replace H : (if t436 = 0 then (if t430 < 0 then (some false) else (if (wrap64 ((t428.size : Int) + t430)) = (t420.size : Int) then (laws_FnPowerLoss.j0 k t399 t403 t414 t397 t398 t401 t402 t409 t410 t412 t413) else (some false))) else (some false)) = some r := H
           have A93 := Aside0.mk A930
           clear A930
           by_cases c94 : t436 = 0
           ·rw [if_pos c94] at H
            have c94b0 : (t436 == 0) = true := beq_iff_eq.mpr c94
            have c94b1 : (t436 != 0) = false := bne_eq_false_iff_eq.mpr c94
            clear c94
            by_cases c95 : t430 < 0
            ·rw [if_pos c95] at H
             have c95b0 : decide (t430 < 0) = true := decide_eq_true c95
             clear c95
             as_aux_lemma =>
              exact absurd ((Option.some.inj H).trans HRT.out) (by decide)
            ·rw [if_neg c95] at H
             have c95b0 : decide (t430 < 0) = false := decide_eq_false c95
             clear c95
             by_cases c96 : (wrap64 ((t428.size : Int) + t430)) = (t420.size : Int)
             ·rw [if_pos c96] at H
              have c96b0 : ((wrap64 ((t428.size : Int) + t430)) == (t420.size : Int)) = true := beq_iff_eq.mpr c96
              have c96b1 : ((wrap64 ((t428.size : Int) + t430)) != (t420.size : Int)) = false := bne_eq_false_iff_eq.mpr c96
              clear c96
              as_aux_lemma =>
               have H' := Aside0.mk H
               clear H
               have hnb97 := NB427_400.out
               have hnc97 := NB400_427.out
               have hnb98 := NB427_404.out
               have hnc98 := NB404_427.out
               have hnb99 := NB427_408.out
               have hnc99 := NB408_427.out
               have hnb100 := NB427_411.out
               have hnc100 := NB411_427.out
               have hnb101 := NB427_415.out
               have hnc101 := NB415_427.out
               have hnb102 := NB427_419.out
               have hnc102 := NB419_427.out
               have hnb103 := NB427_422.out
               have hnc103 := NB422_427.out
               have hnb104 := NB427_432.out
               have hnc104 := NB432_427.out
               have hcz105_0 := cz BK427 0 rfl
               have hcz105_1 := cz BK427 1 rfl
               have hfz105_0 := blk_frozen BK427.out 0
               have hfz105_1 := blk_frozen BK427.out 1
               go_wp2_with (first | (go_at_call 16; (with_reducible refine (impl_EntriesOf.calls k t423 t424 t433 t436 _ ?side1 A93.out).mono ?_); (case side1 => exact (GF.below HG.out bl)); rintro e w106 ⟨v434, rfl, ho0, hb⟩; have HO435 := Aside0.mk (Kd.R_lower ho0 (below_size bl)); replace BK400 := Aside0.mk (blk_below (g := gb400) (o := .cells #[.string t397, .string t398] 25 (0, 0)) zq2 hb); replace BK404 := Aside0.mk (blk_below (g := gb404) (o := .cells #[.string t401, .string t402] 25 (0, 0)) zq2 hb); replace BK408 := Aside0.mk (blk_below (g := gb408) (o := .cells #[.string t405, .string t406] 25 (0, 0)) zq2 hb); replace BK411 := Aside0.mk (blk_below (g := gb411) (o := .cells #[.string t409, .string t410] 25 (0, 0)) zq2 hb); replace BK415 := Aside0.mk (blk_below (g := gb415) (o := .cells #[.string t412, .string t413] 25 (0, 0)) zq2 hb); replace BK419 := Aside0.mk (blk_below (g := gb419) (o := .cells #[.string t416, .string t417] 25 (0, 0)) zq2 hb); replace BK422 := Aside0.mk (blk_below (g := gb422) (o := .cells #[.string t420, .string t421] 25 (0, 0)) zq2 hb); replace BK427 := Aside0.mk (blk_below (g := gb427) (o := .cells #[.string t423, .string t424] 25 (0, 0)) zq2 hb); replace BK432 := Aside0.mk (blk_below (g := gb432) (o := .cells #[.string t428, .string t429] 25 (0, 0)) zq56 hb); replace HB := bs hb; (try clear hb); (try clear ho0); have hnb107 := NB432_400.out; have hnc107 := NB400_432.out; have hnb108 := NB432_404.out; have hnc108 := NB404_432.out; have hnb109 := NB432_408.out; have hnc109 := NB408_432.out; have hnb110 := NB432_411.out; have hnc110 := NB411_432.out; have hnb111 := NB432_415.out; have hnc111 := NB415_432.out; have hnb112 := NB432_419.out; have hnc112 := NB419_432.out; have hnb113 := NB432_422.out; have hnc113 := NB422_432.out; have hcz114_0 := cz BK432 0 rfl; have hcz114_1 := cz BK432 1 rfl; have hfz114_0 := blk_frozen BK432.out 0; have hfz114_1 := blk_frozen BK432.out 1; have hnb115 := NB422_400.out; have hnc115 := NB400_422.out; have hnb116 := NB422_404.out; have hnc116 := NB404_422.out; have hnb117 := NB422_408.out; have hnc117 := NB408_422.out; have hnb118 := NB422_411.out; have hnc118 := NB411_422.out; have hnb119 := NB422_415.out; have hnc119 := NB415_422.out; have hnb120 := NB422_419.out; have hnc120 := NB419_422.out; have hcz121_0 := cz BK422 0 rfl; have hcz121_1 := cz BK422 1 rfl; have hfz121_0 := blk_frozen BK422.out 0; have hfz121_1 := blk_frozen BK422.out 1))
               go_meet
               case rel => exact ⟨_, H', ⟨om⟩, ⟨zq0⟩, ⟨zq0⟩, ⟨zq0⟩, ⟨zq0⟩, ⟨zq0⟩, ⟨zq0⟩, ⟨zq0⟩, ⟨zq0⟩, ⟨zq0⟩, ⟨bl⟩⟩
             ·rw [if_neg c96] at H
              have c96b0 : ((wrap64 ((t428.size : Int) + t430)) == (t420.size : Int)) = false := beq_eq_false_iff_ne.mpr c96
              have c96b1 : ((wrap64 ((t428.size : Int) + t430)) != (t420.size : Int)) = true := bne_iff_ne.mpr c96
              as_aux_lemma =>
               exact absurd ((Option.some.inj H).trans HRT.out) (by decide)
           ·rw [if_neg c94] at H
            have c94b0 : (t436 == 0) = false := beq_eq_false_iff_ne.mpr c94
            have c94b1 : (t436 != 0) = true := bne_iff_ne.mpr c94
            as_aux_lemma =>
             exact absurd ((Option.some.inj H).trans HRT.out) (by decide)
          ·rw [if_neg c92] at H
           have c92b0 : (t426 == 0) = false := beq_eq_false_iff_ne.mpr c92
           have c92b1 : (t426 != 0) = true := bne_iff_ne.mpr c92
           (first | rw [c92b0] | (simp only [i64_w, i32_w]; rw [c92b0]) | skip)
           as_aux_lemma =>
            have H' := Aside0.mk H
            clear H
            go_wp2
            repeat (go_quiet (fail); try go_wp2)
            go_meet
            case rel => exact ⟨_, H', ⟨om⟩, ⟨zq2⟩, ⟨zq2⟩, ⟨zq2⟩, ⟨zq2⟩, ⟨zq2⟩, ⟨zq2⟩, ⟨zq2⟩, ⟨zq2⟩, ⟨zq56⟩, ⟨bl⟩⟩
         case rest =>
          clear HC20
          try clear c1; try clear c2; try clear p2; try clear c3; try clear c4; try clear c5; try clear c6; try clear p6; try clear c7; try clear c8; try clear c9; try clear c10; try clear c11; try clear c12; try clear c13; try clear c13b0; try clear c13b1; try clear c14; try clear c14b0; try clear c15; try clear c15b0; try clear c15b1; try clear c16; try clear c16b0; try clear c17; try clear c17b0; try clear c17b1; try clear c18; try clear c18b0; try clear c19; try clear c19b0; try clear c19b1; try clear c26; try clear c31; try clear c32; try clear c36; try clear c37; try clear c38; try clear c42; try clear c43; try clear c44; try clear c45; try clear c50; try clear c51; try clear c52; try clear c53; try clear c54; try clear c58; try clear c59; try clear c60; try clear c61; try clear c62; try clear c63; try clear p64; try clear c67; try clear c68; try clear c69; try clear c70; try clear c71; try clear c72; try clear c73; try clear c78; try clear c79; try clear c80; try clear c81; try clear c82; try clear c83; try clear c84; try clear c85; try clear c92; try clear c92b0; try clear c92b1; try clear c94; try clear c94b0; try clear c94b1; try clear c95; try clear c95b0; try clear c96; try clear c96b0; try clear c96b1; try clear c97; try clear c98; try clear c99; try clear c100; try clear c101; try clear c102; try clear c103; try clear c104; try clear c107; try clear c108; try clear c109; try clear c110; try clear c111; try clear c112; try clear c113; try clear c115; try clear c116; try clear c117; try clear c118; try clear c119; try clear c120; try clear hcz105_0; try clear hcz105_1; try clear hcz114_0; try clear hcz114_1; try clear hcz121_0; try clear hcz121_1; try clear hcz23_0; try clear hcz23_1; try clear hcz27_0; try clear hcz27_1; try clear hcz28_0; try clear hcz28_1; try clear hcz33_0; try clear hcz33_1; try clear hcz39_0; try clear hcz39_1; try clear hcz46_0; try clear hcz46_1; try clear hcz47_0; try clear hcz47_1; try clear hcz55_0; try clear hcz55_1; try clear hcz64_0; try clear hcz64_1; try clear hcz74_0; try clear hcz74_1; try clear hcz75_0; try clear hcz75_1; try clear hcz86_0; try clear hcz86_1; try clear hcz87_0; try clear hcz87_1; try clear hcz88_0; try clear hcz88_1; try clear hcz89_0; try clear hcz89_1; try clear hcz90_0; try clear hcz90_1; try clear hcz91_0; try clear hcz91_1; try clear hfz105_0; try clear hfz105_1; try clear hfz114_0; try clear hfz114_1; try clear hfz121_0; try clear hfz121_1; try clear hfz23_0; try clear hfz23_1; try clear hfz27_0; try clear hfz27_1; try clear hfz28_0; try clear hfz28_1; try clear hfz33_0; try clear hfz33_1; try clear hfz39_0; try clear hfz39_1; try clear hfz46_0; try clear hfz46_1; try clear hfz47_0; try clear hfz47_1; try clear hfz55_0; try clear hfz55_1; try clear hfz64_0; try clear hfz64_1; try clear hfz74_0; try clear hfz74_1; try clear hfz75_0; try clear hfz75_1; try clear hfz86_0; try clear hfz86_1; try clear hfz87_0; try clear hfz87_1; try clear hfz88_0; try clear hfz88_1; try clear hfz89_0; try clear hfz89_1; try clear hfz90_0; try clear hfz90_1; try clear hfz91_0; try clear hfz91_1
          obtain ⟨kq, HA, HJ19, BK400, BK404, BK408, BK411, BK415, BK419, BK422, BK427, BK432, HB⟩ := hcut
          cases kq with
          | zero => exact absurd HA.out (by simp [laws_FnPowerLoss.j0])
          | succ kj19 =>
           have H := HA.out
           clear HA
           simp only [laws_FnPowerLoss.j0] at H
           have HC122 := Aside0.mk H
           clear H
           go_upto_if 140 with (fail)
           repeat (go_quiet (fail); go_upto_if 140 with (fail))
           go_cut [] (fun wc => ∃ (kq : Nat), Aside0 (laws_FnPowerLoss.j1 kq t399 t403 t397 t398 t401 t402 = some r) ∧ Aside0 (kq ≤ kj19) ∧ Aside0 (wc.heap[gb400]? = some (.cells #[.string t397, .string t398] 25 (0, 0))) ∧ Aside0 (wc.heap[gb404]? = some (.cells #[.string t401, .string t402] 25 (0, 0))) ∧ Aside0 (wc.heap[gb408]? = some (.cells #[.string t405, .string t406] 25 (0, 0))) ∧ Aside0 (wc.heap[gb411]? = some (.cells #[.string t409, .string t410] 25 (0, 0))) ∧ Aside0 (wc.heap[gb415]? = some (.cells #[.string t412, .string t413] 25 (0, 0))) ∧ Aside0 (wc.heap[gb419]? = some (.cells #[.string t416, .string t417] 25 (0, 0))) ∧ Aside0 (wc.heap[gb422]? = some (.cells #[.string t420, .string t421] 25 (0, 0))) ∧ Aside0 (wc.heap[gb427]? = some (.cells #[.string t423, .string t424] 25 (0, 0))) ∧ Aside0 (wc.heap[gb432]? = some (.cells #[.string t428, .string t429] 25 (0, 0))) ∧ Aside0 (Below w.heap.size w wc))
           case first =>
            have H := HC122.out
            clear HC122
            by_cases c123 : t414 = 0
            ·rw [if_pos c123] at H
             have c123b0 : (t414 == 0) = true := beq_iff_eq.mpr c123
             have c123b1 : (t414 != 0) = false := bne_eq_false_iff_eq.mpr c123
             clear c123
             (first | rw [c123b0] | (simp only [i64_w, i32_w]; rw [c123b0]) | skip)
             replace H := Option.bind_eq_some_iff.mp H
             obtain ⟨⟨t437, t440⟩, A1240, H⟩ := H
             dsimp only at H
             have A124 := Aside0.mk A1240
             clear A1240
             replace H := Option.bind_eq_some_iff.mp H
             obtain ⟨⟨t441, t444⟩, A1250, H⟩ := H
             dsimp only at H
             have A125 := Aside0.mk A1250
             clear A1250
             by_cases c126 : t440 = 0
             ·rw [if_pos c126] at H
              have c126b0 : (t440 == 0) = true := beq_iff_eq.mpr c126
              have c126b1 : (t440 != 0) = false := bne_eq_false_iff_eq.mpr c126
              clear c126
              by_cases c127 : t444 = 0
              ·rw [if_pos c127] at H
               have c127b0 : (t444 == 0) = true := beq_iff_eq.mpr c127
               have c127b1 : (t444 != 0) = false := bne_eq_false_iff_eq.mpr c127
               clear c127
               replace H := Option.bind_eq_some_iff.mp H
               obtain ⟨t445, A1280, H⟩ := H
               have A128 := Aside0.mk A1280
               clear A1280
               by_cases c129 : t445 = true
               ·subst c129
                rw [if_pos rfl] at H
                as_aux_lemma =>
                 have H' := Aside0.mk H
                 clear H
                 have hnb130 := NB411_400.out
                 have hnc130 := NB400_411.out
                 have hnb131 := NB411_404.out
                 have hnc131 := NB404_411.out
                 have hnb132 := NB411_408.out
                 have hnc132 := NB408_411.out
                 have hnb133 := NB411_415.out
                 have hnc133 := NB415_411.out
                 have hnb134 := NB411_419.out
                 have hnc134 := NB419_411.out
                 have hnb135 := NB411_422.out
                 have hnc135 := NB422_411.out
                 have hnb136 := NB411_427.out
                 have hnc136 := NB427_411.out
                 have hnb137 := NB411_432.out
                 have hnc137 := NB432_411.out
                 have hcz138_0 := cz BK411 0 rfl
                 have hcz138_1 := cz BK411 1 rfl
                 have hfz138_0 := blk_frozen BK411.out 0
                 have hfz138_1 := blk_frozen BK411.out 1
                 go_wp2_with (first | (go_at_call 17; (with_reducible refine (spec_EntriesOf.calls kj19 t409 t410 t437 t440 _ A124.out).mono ?_); rintro e w139 ⟨v438, rfl, ho0, hb⟩; have HO439 := Aside0.mk (Kd.R_lower ho0 (below_size bl)); replace BK400 := kb BK400 hb; replace BK404 := kb BK404 hb; replace BK408 := kb BK408 hb; replace BK411 := kb BK411 hb; replace BK415 := kb BK415 hb; replace BK419 := kb BK419 hb; replace BK422 := kb BK422 hb; replace BK427 := kb BK427 hb; replace BK432 := kb BK432 hb; replace HB := bs hb; (try clear hb); (try clear ho0); have hnb140 := NB415_400.out; have hnc140 := NB400_415.out; have hnb141 := NB415_404.out; have hnc141 := NB404_415.out; have hnb142 := NB415_408.out; have hnc142 := NB408_415.out; have hnb143 := NB415_419.out; have hnc143 := NB419_415.out; have hnb144 := NB415_422.out; have hnc144 := NB422_415.out; have hnb145 := NB415_427.out; have hnc145 := NB427_415.out; have hnb146 := NB415_432.out; have hnc146 := NB432_415.out; have hcz147_0 := cz BK415 0 rfl; have hcz147_1 := cz BK415 1 rfl; have hfz147_0 := blk_frozen BK415.out 0; have hfz147_1 := blk_frozen BK415.out 1) | (go_at_call 16; (with_reducible refine (impl_EntriesOf.calls kj19 t412 t413 t441 t444 _ ?side1 A125.out).mono ?_); (case side1 => exact (GF.below HG.out bl)); rintro e w148 ⟨v442, rfl, ho0, hb⟩; have HO443 := Aside0.mk (Kd.R_lower (Kd.R_new' ho0 (Kd.R_lt zq31)) (below_size bl)); replace HO439 := Aside0.mk (Kd.R_elder' zq31 (Kd.R_base ho0) hb); replace BK400 := kb BK400 hb; replace BK404 := kb BK404 hb; replace BK408 := kb BK408 hb; replace BK411 := kb BK411 hb; replace BK415 := kb BK415 hb; replace BK419 := kb BK419 hb; replace BK422 := kb BK422 hb; replace BK427 := kb BK427 hb; replace BK432 := kb BK432 hb; replace HB := bs hb; (try clear hb); (try clear ho0); obtain ⟨Ao149, co149, eo149⟩ := Kd.R_slice HO439.out; subst eo149; obtain ⟨Ao150, co150, eo150⟩ := Kd.R_slice HO443.out; subst eo150) | (go_at_call 18; (with_reducible refine (spec_SameEntries.calls kj19 _ _ t437 _ _ t441 true _ ?side1 ?side2 ?side3 ?side4 A128.out).mono ?_); (case side1 => repeat (first | exact (Kd.R_reads' HO439.out).2.2 | (with_reducible refine Kd.C_alloc ?_ _) | (with_reducible refine Kd.C_drewN ?_ _) | (with_reducible refine Kd.C_drew ?_))); (case side2 => exact (Kd.R_reads' HO439.out).2.1); (case side3 => repeat (first | exact (Kd.R_reads' HO443.out).2.2 | (with_reducible refine Kd.C_alloc ?_ _) | (with_reducible refine Kd.C_drewN ?_ _) | (with_reducible refine Kd.C_drew ?_))); (case side4 => exact (Kd.R_reads' HO443.out).2.1); rintro e w' ⟨rfl, ⟨nd, rfl⟩⟩; (try first | exact ⟨rfl, _, World.drewN_drewN _ _ _⟩ | exact ⟨rfl, _, Eq.trans (World.drewN_drewN _ _ _) (congrArg (World.drewN _) (Nat.add_assoc _ _ _))⟩)))
                 go_meet
                 case rel => exact ⟨_, H', ⟨zq40⟩, ⟨zq0⟩, ⟨zq0⟩, ⟨zq0⟩, ⟨zq0⟩, ⟨zq0⟩, ⟨zq0⟩, ⟨zq0⟩, ⟨zq0⟩, ⟨zq0⟩, ⟨bl⟩⟩
               ·replace c129 := Bool.eq_false_iff.mpr c129
                subst c129
                rw [if_neg (show ¬ (false = true) by decide)] at H
                as_aux_lemma =>
                 exact absurd ((Option.some.inj H).trans HRT.out) (by decide)
              ·rw [if_neg c127] at H
               have c127b0 : (t444 == 0) = false := beq_eq_false_iff_ne.mpr c127
               have c127b1 : (t444 != 0) = true := bne_iff_ne.mpr c127
               as_aux_lemma =>
                exact absurd ((Option.some.inj H).trans HRT.out) (by decide)
             ·rw [if_neg c126] at H
              have c126b0 : (t440 == 0) = false := beq_eq_false_iff_ne.mpr c126
              have c126b1 : (t440 != 0) = true := bne_iff_ne.mpr c126
              as_aux_lemma =>
               have H' := Aside0.mk H
               clear H
               have hnb151 := NB411_400.out
               have hnc151 := NB400_411.out
               have hnb152 := NB411_404.out
               have hnc152 := NB404_411.out
               have hnb153 := NB411_408.out
               have hnc153 := NB408_411.out
               have hnb154 := NB411_415.out
               have hnc154 := NB415_411.out
               have hnb155 := NB411_419.out
               have hnc155 := NB419_411.out
               have hnb156 := NB411_422.out
               have hnc156 := NB422_411.out
               have hnb157 := NB411_427.out
               have hnc157 := NB427_411.out
               have hnb158 := NB411_432.out
               have hnc158 := NB432_411.out
               have hcz159_0 := cz BK411 0 rfl
               have hcz159_1 := cz BK411 1 rfl
               have hfz159_0 := blk_frozen BK411.out 0
               have hfz159_1 := blk_frozen BK411.out 1
               go_wp2_with (first | (go_at_call 17; (with_reducible refine (spec_EntriesOf.calls kj19 t409 t410 t437 t440 _ A124.out).mono ?_); rintro e w160 ⟨v438, rfl, ho0, hb⟩; have HO439 := Aside0.mk (Kd.R_lower ho0 (below_size bl)); replace BK400 := kb BK400 hb; replace BK404 := kb BK404 hb; replace BK408 := kb BK408 hb; replace BK411 := kb BK411 hb; replace BK415 := kb BK415 hb; replace BK419 := kb BK419 hb; replace BK422 := kb BK422 hb; replace BK427 := kb BK427 hb; replace BK432 := kb BK432 hb; replace HB := bs hb; (try clear hb); (try clear ho0); have hnb161 := NB415_400.out; have hnc161 := NB400_415.out; have hnb162 := NB415_404.out; have hnc162 := NB404_415.out; have hnb163 := NB415_408.out; have hnc163 := NB408_415.out; have hnb164 := NB415_419.out; have hnc164 := NB419_415.out; have hnb165 := NB415_422.out; have hnc165 := NB422_415.out; have hnb166 := NB415_427.out; have hnc166 := NB427_415.out; have hnb167 := NB415_432.out; have hnc167 := NB432_415.out; have hcz168_0 := cz BK415 0 rfl; have hcz168_1 := cz BK415 1 rfl; have hfz168_0 := blk_frozen BK415.out 0; have hfz168_1 := blk_frozen BK415.out 1) | (go_at_call 16; (with_reducible refine (impl_EntriesOf.calls kj19 t412 t413 t441 t444 _ ?side1 A125.out).mono ?_); (case side1 => exact (GF.below HG.out bl)); rintro e w169 ⟨v442, rfl, ho0, hb⟩; have HO443 := Aside0.mk (Kd.R_lower (Kd.R_new' ho0 (Kd.R_lt zq31)) (below_size bl)); replace HO439 := Aside0.mk (Kd.R_elder' zq31 (Kd.R_base ho0) hb); replace BK400 := kb BK400 hb; replace BK404 := kb BK404 hb; replace BK408 := kb BK408 hb; replace BK411 := kb BK411 hb; replace BK415 := kb BK415 hb; replace BK419 := kb BK419 hb; replace BK422 := kb BK422 hb; replace BK427 := kb BK427 hb; replace BK432 := kb BK432 hb; replace HB := bs hb; (try clear hb); (try clear ho0)))
               go_meet
               case rel => exact ⟨_, H', ⟨zq40⟩, ⟨zq0⟩, ⟨zq0⟩, ⟨zq0⟩, ⟨zq0⟩, ⟨zq0⟩, ⟨zq0⟩, ⟨zq0⟩, ⟨zq0⟩, ⟨zq0⟩, ⟨bl⟩⟩
            ·rw [if_neg c123] at H
             have c123b0 : (t414 == 0) = false := beq_eq_false_iff_ne.mpr c123
             have c123b1 : (t414 != 0) = true := bne_iff_ne.mpr c123
             (first | rw [c123b0] | (simp only [i64_w, i32_w]; rw [c123b0]) | skip)
             as_aux_lemma =>
              have H' := Aside0.mk H
              clear H
              go_wp2
              repeat (go_quiet (fail); try go_wp2)
              go_meet
              case rel => exact ⟨_, H', ⟨zq40⟩, ⟨zq0⟩, ⟨zq0⟩, ⟨zq0⟩, ⟨zq0⟩, ⟨zq0⟩, ⟨zq0⟩, ⟨zq0⟩, ⟨zq0⟩, ⟨zq0⟩, ⟨bl⟩⟩
           case rest =>
            clear HC122
            try clear c1; try clear c2; try clear p2; try clear c3; try clear c4; try clear c5; try clear c6; try clear p6; try clear c7; try clear c8; try clear c9; try clear c10; try clear c11; try clear c12; try clear c13; try clear c13b0; try clear c13b1; try clear c14; try clear c14b0; try clear c15; try clear c15b0; try clear c15b1; try clear c16; try clear c16b0; try clear c17; try clear c17b0; try clear c17b1; try clear c18; try clear c18b0; try clear c19; try clear c19b0; try clear c19b1; try clear c26; try clear c31; try clear c32; try clear c36; try clear c37; try clear c38; try clear c42; try clear c43; try clear c44; try clear c45; try clear c50; try clear c51; try clear c52; try clear c53; try clear c54; try clear c58; try clear c59; try clear c60; try clear c61; try clear c62; try clear c63; try clear p64; try clear c67; try clear c68; try clear c69; try clear c70; try clear c71; try clear c72; try clear c73; try clear c78; try clear c79; try clear c80; try clear c81; try clear c82; try clear c83; try clear c84; try clear c85; try clear c92; try clear c92b0; try clear c92b1; try clear c94; try clear c94b0; try clear c94b1; try clear c95; try clear c95b0; try clear c96; try clear c96b0; try clear c96b1; try clear c97; try clear c98; try clear c99; try clear c100; try clear c101; try clear c102; try clear c103; try clear c104; try clear c107; try clear c108; try clear c109; try clear c110; try clear c111; try clear c112; try clear c113; try clear c115; try clear c116; try clear c117; try clear c118; try clear c119; try clear c120; try clear c123; try clear c123b0; try clear c123b1; try clear c126; try clear c126b0; try clear c126b1; try clear c127; try clear c127b0; try clear c127b1; try clear c129; try clear c130; try clear c131; try clear c132; try clear c133; try clear c134; try clear c135; try clear c136; try clear c137; try clear c140; try clear c141; try clear c142; try clear c143; try clear c144; try clear c145; try clear c146; try clear c151; try clear c152; try clear c153; try clear c154; try clear c155; try clear c156; try clear c157; try clear c158; try clear c161; try clear c162; try clear c163; try clear c164; try clear c165; try clear c166; try clear c167; try clear hcz105_0; try clear hcz105_1; try clear hcz114_0; try clear hcz114_1; try clear hcz121_0; try clear hcz121_1; try clear hcz138_0; try clear hcz138_1; try clear hcz147_0; try clear hcz147_1; try clear hcz159_0; try clear hcz159_1; try clear hcz168_0; try clear hcz168_1; try clear hcz23_0; try clear hcz23_1; try clear hcz27_0; try clear hcz27_1; try clear hcz28_0; try clear hcz28_1; try clear hcz33_0; try clear hcz33_1; try clear hcz39_0; try clear hcz39_1; try clear hcz46_0; try clear hcz46_1; try clear hcz47_0; try clear hcz47_1; try clear hcz55_0; try clear hcz55_1; try clear hcz64_0; try clear hcz64_1; try clear hcz74_0; try clear hcz74_1; try clear hcz75_0; try clear hcz75_1; try clear hcz86_0; try clear hcz86_1; try clear hcz87_0; try clear hcz87_1; try clear hcz88_0; try clear hcz88_1; try clear hcz89_0; try clear hcz89_1; try clear hcz90_0; try clear hcz90_1; try clear hcz91_0; try clear hcz91_1; try clear hfz105_0; try clear hfz105_1; try clear hfz114_0; try clear hfz114_1; try clear hfz121_0; try clear hfz121_1; try clear hfz138_0; try clear hfz138_1; try clear hfz147_0; try clear hfz147_1; try clear hfz159_0; try clear hfz159_1; try clear hfz168_0; try clear hfz168_1; try clear hfz23_0; try clear hfz23_1; try clear hfz27_0; try clear hfz27_1; try clear hfz28_0; try clear hfz28_1; try clear hfz33_0; try clear hfz33_1; try clear hfz39_0; try clear hfz39_1; try clear hfz46_0; try clear hfz46_1; try clear hfz47_0; try clear hfz47_1; try clear hfz55_0; try clear hfz55_1; try clear hfz64_0; try clear hfz64_1; try clear hfz74_0; try clear hfz74_1; try clear hfz75_0; try clear hfz75_1; try clear hfz86_0; try clear hfz86_1; try clear hfz87_0; try clear hfz87_1; try clear hfz88_0; try clear hfz88_1; try clear hfz89_0; try clear hfz89_1; try clear hfz90_0; try clear hfz90_1; try clear hfz91_0; try clear hfz91_1
            obtain ⟨kq, HA, HJ121, BK400, BK404, BK408, BK411, BK415, BK419, BK422, BK427, BK432, HB⟩ := hcut
            cases kq with
            | zero => exact absurd HA.out (by simp [laws_FnPowerLoss.j1])
            | succ kj121 =>
             have H := HA.out
             clear HA
             simp only [laws_FnPowerLoss.j1] at H
             by_cases c170 : t403 = 0
             ·rw [if_pos c170] at H
              have c170b0 : (t403 == 0) = true := beq_iff_eq.mpr c170
              have c170b1 : (t403 != 0) = false := bne_eq_false_iff_eq.mpr c170
              clear c170
              replace H := Option.bind_eq_some_iff.mp H
              obtain ⟨⟨t446, t449⟩, A1710, H⟩ := H
              dsimp only at H
              have A171 := Aside0.mk A1710
              clear A1710
              by_cases c172 : t449 = 0
              ·rw [if_pos c172] at H
               have c172b0 : (t449 == 0) = true := beq_iff_eq.mpr c172
               have c172b1 : (t449 != 0) = false := bne_eq_false_iff_eq.mpr c172
               clear c172
               replace H := Option.bind_eq_some_iff.mp H
               obtain ⟨⟨t450, t451, t452, t453⟩, A1730, H⟩ := H
               dsimp only at H
               have A173 := Aside0.mk A1730
               clear A1730
               replace H := Option.bind_eq_some_iff.mp H
               obtain ⟨⟨t455, t458⟩, A1740, H⟩ := H
               dsimp only at H
               have A174 := Aside0.mk A1740
               clear A1740
               replace H := Option.bind_eq_some_iff.mp H
               obtain ⟨⟨t459, t460⟩, A1750, H⟩ := H
               dsimp only at H
               have A175 := Aside0.mk A1750
               clear A1750
               have HC176 := Aside0.mk H
               clear H
               have hnb177 := NB400_404.out
               have hnc177 := NB404_400.out
               have hnb178 := NB400_408.out
               have hnc178 := NB408_400.out
               have hnb179 := NB400_411.out
               have hnc179 := NB411_400.out
               have hnb180 := NB400_415.out
               have hnc180 := NB415_400.out
               have hnb181 := NB400_419.out
               have hnc181 := NB419_400.out
               have hnb182 := NB400_422.out
               have hnc182 := NB422_400.out
               have hnb183 := NB400_427.out
               have hnc183 := NB427_400.out
               have hnb184 := NB400_432.out
               have hnc184 := NB432_400.out
               have hcz185_0 := cz BK400 0 rfl
               have hcz185_1 := cz BK400 1 rfl
               have hfz185_0 := blk_frozen BK400.out 0
               have hfz185_1 := blk_frozen BK400.out 1
               go_upto_region 31 with (first | (go_at_call 17; (with_reducible refine (spec_EntriesOf.calls kj121 t397 t398 t446 t449 _ A171.out).mono ?_); rintro e w186 ⟨v447, rfl, ho0, hb⟩; have HO448 := Aside0.mk (Kd.R_lower ho0 (below_size bl)); replace BK400 := kb BK400 hb; replace BK404 := kb BK404 hb; replace BK408 := kb BK408 hb; replace BK411 := kb BK411 hb; replace BK415 := kb BK415 hb; replace BK419 := kb BK419 hb; replace BK422 := kb BK422 hb; replace BK427 := kb BK427 hb; replace BK432 := kb BK432 hb; replace HB := bs hb; (try clear hb); (try clear ho0); have hnb187 := NB404_408.out; have hnc187 := NB408_404.out; have hnb188 := NB404_411.out; have hnc188 := NB411_404.out; have hnb189 := NB404_415.out; have hnc189 := NB415_404.out; have hnb190 := NB404_419.out; have hnc190 := NB419_404.out; have hnb191 := NB404_422.out; have hnc191 := NB422_404.out; have hnb192 := NB404_427.out; have hnc192 := NB427_404.out; have hnb193 := NB404_432.out; have hnc193 := NB432_404.out; have hcz194_0 := cz BK404 0 rfl; have hcz194_1 := cz BK404 1 rfl; have hfz194_0 := blk_frozen BK404.out 0; have hfz194_1 := blk_frozen BK404.out 1) | (go_at_call 14; (with_reducible refine (impl_RecoverLog.calls kj121 t401 t402 t450 t451 t452 t453 _ ?side1 A173.out).mono ?_); (case side1 => exact (GF.below HG.out bl)); rintro e w195 ⟨rfl, hb⟩; replace HO448 := Aside0.mk (Kd.R_below zq32 hb); replace BK400 := kb BK400 hb; replace BK404 := kb BK404 hb; replace BK408 := kb BK408 hb; replace BK411 := kb BK411 hb; replace BK415 := kb BK415 hb; replace BK419 := kb BK419 hb; replace BK422 := kb BK422 hb; replace BK427 := kb BK427 hb; replace BK432 := kb BK432 hb; replace HB := bs hb; (try clear hb)) | ((with_reducible refine gate_dst (N := 29) rfl ?_); (try (refine gate_guard (by rfl) ?_; dsimp only)); refine box_event ?hg (N := 29) ?hd (cs := #[.string (⟨#[]⟩ : ByteArray), .string (⟨#[]⟩ : ByteArray)]) (t := 25) ?hr ?_; (case hd => rfl); (case hg => rfl); (case hr => exact zq1); intro gb454 hg w196 hbox hb; replace HO448 := Aside0.mk (Kd.R_below zq32 hb); have BK454 := Aside0.mk (hbox); have GW454 := gsz hg; have GE454 := gsz hg; replace HB := bs hb; have NB400_454 := nlt BK400 hg; have NB454_400 := ngt BK400 hg; replace BK400 := kb BK400 hb; have NB404_454 := nlt BK404 hg; have NB454_404 := ngt BK404 hg; replace BK404 := kb BK404 hb; have NB408_454 := nlt BK408 hg; have NB454_408 := ngt BK408 hg; replace BK408 := kb BK408 hb; have NB411_454 := nlt BK411 hg; have NB454_411 := ngt BK411 hg; replace BK411 := kb BK411 hb; have NB415_454 := nlt BK415 hg; have NB454_415 := ngt BK415 hg; replace BK415 := kb BK415 hb; have NB419_454 := nlt BK419 hg; have NB454_419 := ngt BK419 hg; replace BK419 := kb BK419 hb; have NB422_454 := nlt BK422 hg; have NB454_422 := ngt BK422 hg; replace BK422 := kb BK422 hb; have NB427_454 := nlt BK427 hg; have NB454_427 := ngt BK427 hg; replace BK427 := kb BK427 hb; have NB432_454 := nlt BK432 hg; have NB454_432 := ngt BK432 hg; replace BK432 := kb BK432 hb; clear hb hbox hg; have hnb197 := NB454_400.out; have hnc197 := NB400_454.out; have hnb198 := NB454_404.out; have hnc198 := NB404_454.out; have hnb199 := NB454_408.out; have hnc199 := NB408_454.out; have hnb200 := NB454_411.out; have hnc200 := NB411_454.out; have hnb201 := NB454_415.out; have hnc201 := NB415_454.out; have hnb202 := NB454_419.out; have hnc202 := NB419_454.out; have hnb203 := NB454_422.out; have hnc203 := NB422_454.out; have hnb204 := NB454_427.out; have hnc204 := NB427_454.out; have hnb205 := NB454_432.out; have hnc205 := NB432_454.out; have hcz206_0 := cz BK454 0 rfl; have hcz206_1 := cz BK454 1 rfl; have hfz206_0 := blk_frozen BK454.out 0; have hfz206_1 := blk_frozen BK454.out 1) | (go_at_call 16; (with_reducible refine (impl_EntriesOf.calls kj121 t450 t451 t455 t458 _ ?side1 A174.out).mono ?_); (case side1 => exact (GF.below HG.out bl)); rintro e w207 ⟨v456, rfl, ho0, hb⟩; have HO457 := Aside0.mk (Kd.R_lower (Kd.R_new' ho0 (Kd.R_lt zq57)) (below_size bl)); replace HO448 := Aside0.mk (Kd.R_elder' zq57 (Kd.R_base ho0) hb); replace BK400 := Aside0.mk (blk_below (g := gb400) (o := .cells #[.string t397, .string t398] 25 (0, 0)) zq2 hb); replace BK404 := Aside0.mk (blk_below (g := gb404) (o := .cells #[.string t401, .string t402] 25 (0, 0)) zq2 hb); replace BK408 := Aside0.mk (blk_below (g := gb408) (o := .cells #[.string t405, .string t406] 25 (0, 0)) zq2 hb); replace BK411 := Aside0.mk (blk_below (g := gb411) (o := .cells #[.string t409, .string t410] 25 (0, 0)) zq2 hb); replace BK415 := Aside0.mk (blk_below (g := gb415) (o := .cells #[.string t412, .string t413] 25 (0, 0)) zq2 hb); replace BK419 := Aside0.mk (blk_below (g := gb419) (o := .cells #[.string t416, .string t417] 25 (0, 0)) zq2 hb); replace BK422 := Aside0.mk (blk_below (g := gb422) (o := .cells #[.string t420, .string t421] 25 (0, 0)) zq2 hb); replace BK427 := Aside0.mk (blk_below (g := gb427) (o := .cells #[.string t423, .string t424] 25 (0, 0)) zq2 hb); replace BK432 := Aside0.mk (blk_below (g := gb432) (o := .cells #[.string t428, .string t429] 25 (0, 0)) zq2 hb); replace BK454 := Aside0.mk (blk_below (g := gb454) (o := .cells #[.string t450, .string t451] 25 (0, 0)) (by (with_reducible repeat (first | refine blk_drewN ?_ _ | refine blk_drew ?_ | refine blk_alloc ?_ _)); refine blk_put (cs := #[.string t450, .string (⟨#[]⟩ : ByteArray)]) ?_ 1 _ rfl; (with_reducible repeat (first | refine blk_drewN ?_ _ | refine blk_drew ?_ | refine blk_alloc ?_ _)); refine blk_put (cs := #[.string (⟨#[]⟩ : ByteArray), .string (⟨#[]⟩ : ByteArray)]) ?_ 0 _ rfl; (with_reducible repeat (first | refine blk_drewN ?_ _ | refine blk_drew ?_ | refine blk_alloc ?_ _)); exact BK454.out) hb); replace HB := bs hb; (try clear hb); (try clear ho0); have hcz208_0 := cz BK400 0 rfl; have hcz208_1 := cz BK400 1 rfl; have hfz208_0 := blk_frozen BK400.out 0; have hfz208_1 := blk_frozen BK400.out 1) | (go_at_call 19; (with_reducible refine (spec_ReadFrames.calls kj121 t397 t459 t460 _ A175.out).mono ?_); rintro e w209 ⟨v461, rfl, ho0, hb⟩; have HO462 := Aside0.mk (Kd.R_lower (Kd.R_new' (Kd.R_new' ho0 (Kd.R_lt zq32)) (Kd.R_lt zq58)) (below_size bl)); replace HO448 := Aside0.mk (Kd.R_elder' zq32 (Kd.R_base ho0) hb); replace HO457 := Aside0.mk (Kd.R_elder' zq58 (Kd.R_base ho0) hb); replace BK400 := kb BK400 hb; replace BK404 := kb BK404 hb; replace BK408 := kb BK408 hb; replace BK411 := kb BK411 hb; replace BK415 := kb BK415 hb; replace BK419 := kb BK419 hb; replace BK422 := kb BK422 hb; replace BK427 := kb BK427 hb; replace BK432 := kb BK432 hb; replace BK454 := kb BK454 hb; replace HB := bs hb; (try clear hb); (try clear ho0)))
               (try simp only [Act.put, List.setIfInBounds_toArray, List.set_cons_zero, List.set_cons_succ])
               go_cut [222] (fun v222 wc => ∃ (kq : Nat) (x222_175 : Bool), v222 = .bool x222_175 ∧ Aside0 (laws_FnPowerLoss.j2 kq t446 t455 x222_175 = some r) ∧ Aside0 (kq ≤ kj121) ∧ Aside0 (Kd.R k39 39 wc w.heap.size (fun k_ => some k_ ≠ (v456 : Value).ownBlock) v447 t446) ∧ Aside0 (Kd.R k39 39 wc w.heap.size (fun k_ => some k_ ≠ (v447 : Value).ownBlock) v456 t455) ∧ Aside0 (wc.heap[gb400]? = some (.cells #[.string t397, .string t398] 25 (0, 0))) ∧ Aside0 (wc.heap[gb404]? = some (.cells #[.string t401, .string t402] 25 (0, 0))) ∧ Aside0 (wc.heap[gb408]? = some (.cells #[.string t405, .string t406] 25 (0, 0))) ∧ Aside0 (wc.heap[gb411]? = some (.cells #[.string t409, .string t410] 25 (0, 0))) ∧ Aside0 (wc.heap[gb415]? = some (.cells #[.string t412, .string t413] 25 (0, 0))) ∧ Aside0 (wc.heap[gb419]? = some (.cells #[.string t416, .string t417] 25 (0, 0))) ∧ Aside0 (wc.heap[gb422]? = some (.cells #[.string t420, .string t421] 25 (0, 0))) ∧ Aside0 (wc.heap[gb427]? = some (.cells #[.string t423, .string t424] 25 (0, 0))) ∧ Aside0 (wc.heap[gb432]? = some (.cells #[.string t428, .string t429] 25 (0, 0))) ∧ Aside0 (wc.heap[gb454]? = some (.cells #[.string t450, .string t451] 25 (0, 0))) ∧ Aside0 (Below w.heap.size w wc))
               case first =>
                have H := HC176.out
                clear HC176
                by_cases c210 : t453 = 0
                ·rw [if_pos c210] at H
                 have c210b0 : (t453 == 0) = true := beq_iff_eq.mpr c210
                 have c210b1 : (t453 != 0) = false := bne_eq_false_iff_eq.mpr c210
                 clear c210
                 (first | rw [c210b0] | (simp only [i64_w, i32_w]; rw [c210b0]) | skip)
                 by_cases c211 : t458 = 0
                 ·rw [if_pos c211] at H
                  have c211b0 : (t458 == 0) = true := beq_iff_eq.mpr c211
                  have c211b1 : (t458 != 0) = false := bne_eq_false_iff_eq.mpr c211
                  clear c211
                  by_cases c212 : (t455.length : Int) < (t459.length : Int)
                  ·rw [if_pos c212] at H
                   have c212b0 : decide ((t455.length : Int) < (t459.length : Int)) = true := decide_eq_true c212
                   have c212b1 : decide (t455.length < t459.length) = true := decide_eq_true (Int.ofNat_lt.mp c212)
                   clear c212
                   as_aux_lemma =>
                    exact absurd ((Option.some.inj H).trans HRT.out) (by decide)
                  ·rw [if_neg c212] at H
                   have c212b0 : decide ((t455.length : Int) < (t459.length : Int)) = false := decide_eq_false c212
                   have c212b1 : decide (t455.length < t459.length) = false := decide_eq_false (fun h => c212 (Int.ofNat_lt.mpr h))
                   clear c212
                   by_cases c213 : (t455.length : Int) > (t446.length : Int)
                   ·rw [if_pos c213] at H
                    have c213b0 : decide ((t446.length : Int) < (t455.length : Int)) = true := decide_eq_true c213
                    have c213b1 : decide (t446.length < t455.length) = true := decide_eq_true (Int.ofNat_lt.mp c213)
                    clear c213
                    as_aux_lemma =>
                     exact absurd ((Option.some.inj H).trans HRT.out) (by decide)
                   ·rw [if_neg c213] at H
                    have c213b0 : decide ((t446.length : Int) < (t455.length : Int)) = false := decide_eq_false c213
                    have c213b1 : decide (t446.length < t455.length) = false := decide_eq_false (fun h => c213 (Int.ofNat_lt.mpr h))
                    clear c213
                    by_cases c214 : t399 = (t398.size : Int)
                    ·rw [if_pos c214] at H
                     have c214b0 : (t399 == (t398.size : Int)) = true := beq_iff_eq.mpr c214
                     have c214b1 : (t399 != (t398.size : Int)) = false := bne_eq_false_iff_eq.mpr c214
                     clear c214
                     as_aux_lemma =>
                      have H' := Aside0.mk H
                      clear H
                      obtain ⟨Ao215, co215, eo215⟩ := Kd.R_slice HO457.out
                      subst eo215
                      obtain ⟨Ao216, co216, eo216⟩ := Kd.R_slice HO462.out
                      subst eo216
                      obtain ⟨Ao217, co217, eo217⟩ := Kd.R_slice HO448.out
                      subst eo217
                      have hnb218 := NB400_404.out
                      have hnc218 := NB404_400.out
                      have hnb219 := NB400_408.out
                      have hnc219 := NB408_400.out
                      have hnb220 := NB400_411.out
                      have hnc220 := NB411_400.out
                      have hnb221 := NB400_415.out
                      have hnc221 := NB415_400.out
                      have hnb222 := NB400_419.out
                      have hnc222 := NB419_400.out
                      have hnb223 := NB400_422.out
                      have hnc223 := NB422_400.out
                      have hnb224 := NB400_427.out
                      have hnc224 := NB427_400.out
                      have hnb225 := NB400_432.out
                      have hnc225 := NB432_400.out
                      have hnb226 := NB400_454.out
                      have hnc226 := NB454_400.out
                      have hcz227_0 := cz BK400 0 rfl
                      have hcz227_1 := cz BK400 1 rfl
                      have hfz227_0 := blk_frozen BK400.out 0
                      have hfz227_1 := blk_frozen BK400.out 1
                      go_wp2
                      repeat (go_quiet (fail); try go_wp2)
                      go_meet
                      case rel => exact ⟨_, (((t455.length : Int) != (t446.length : Int))), sd, H', ⟨by have := HJ19.out; have := HJ121.out; first | omega | exact Nat.le_refl _⟩, ⟨zq59⟩, ⟨zq60⟩, ⟨zq0⟩, ⟨zq0⟩, ⟨zq0⟩, ⟨zq0⟩, ⟨zq0⟩, ⟨zq0⟩, ⟨zq0⟩, ⟨zq0⟩, ⟨zq0⟩, ⟨zq0⟩, ⟨bl⟩⟩
                    ·rw [if_neg c214] at H
                     have c214b0 : (t399 == (t398.size : Int)) = false := beq_eq_false_iff_ne.mpr c214
                     have c214b1 : (t399 != (t398.size : Int)) = true := bne_iff_ne.mpr c214
                     as_aux_lemma =>
                      have H' := Aside0.mk H
                      clear H
                      obtain ⟨Ao228, co228, eo228⟩ := Kd.R_slice HO457.out
                      subst eo228
                      obtain ⟨Ao229, co229, eo229⟩ := Kd.R_slice HO462.out
                      subst eo229
                      obtain ⟨Ao230, co230, eo230⟩ := Kd.R_slice HO448.out
                      subst eo230
                      have hnb231 := NB400_404.out
                      have hnc231 := NB404_400.out
                      have hnb232 := NB400_408.out
                      have hnc232 := NB408_400.out
                      have hnb233 := NB400_411.out
                      have hnc233 := NB411_400.out
                      have hnb234 := NB400_415.out
                      have hnc234 := NB415_400.out
                      have hnb235 := NB400_419.out
                      have hnc235 := NB419_400.out
                      have hnb236 := NB400_422.out
                      have hnc236 := NB422_400.out
                      have hnb237 := NB400_427.out
                      have hnc237 := NB427_400.out
                      have hnb238 := NB400_432.out
                      have hnc238 := NB432_400.out
                      have hnb239 := NB400_454.out
                      have hnc239 := NB454_400.out
                      have hcz240_0 := cz BK400 0 rfl
                      have hcz240_1 := cz BK400 1 rfl
                      have hfz240_0 := blk_frozen BK400.out 0
                      have hfz240_1 := blk_frozen BK400.out 1
                      go_wp2
                      repeat (go_quiet (fail); try go_wp2)
                      go_meet
                      case rel => exact ⟨_, (false), sd, H', ⟨by have := HJ19.out; have := HJ121.out; first | omega | exact Nat.le_refl _⟩, ⟨zq59⟩, ⟨zq60⟩, ⟨zq0⟩, ⟨zq0⟩, ⟨zq0⟩, ⟨zq0⟩, ⟨zq0⟩, ⟨zq0⟩, ⟨zq0⟩, ⟨zq0⟩, ⟨zq0⟩, ⟨zq0⟩, ⟨bl⟩⟩
                 ·rw [if_neg c211] at H
                  have c211b0 : (t458 == 0) = false := beq_eq_false_iff_ne.mpr c211
                  have c211b1 : (t458 != 0) = true := bne_iff_ne.mpr c211
                  as_aux_lemma =>
                   exact absurd ((Option.some.inj H).trans HRT.out) (by decide)
                ·rw [if_neg c210] at H
                 have c210b0 : (t453 == 0) = false := beq_eq_false_iff_ne.mpr c210
                 have c210b1 : (t453 != 0) = true := bne_iff_ne.mpr c210
                 (first | rw [c210b0] | (simp only [i64_w, i32_w]; rw [c210b0]) | skip)
                 as_aux_lemma =>
                  exact absurd ((Option.some.inj H).trans HRT.out) (by decide)
               case rest =>
                clear HC176
                try clear c1; try clear c2; try clear p2; try clear c3; try clear c4; try clear c5; try clear c6; try clear p6; try clear c7; try clear c8; try clear c9; try clear c10; try clear c11; try clear c12; try clear c13; try clear c13b0; try clear c13b1; try clear c14; try clear c14b0; try clear c15; try clear c15b0; try clear c15b1; try clear c16; try clear c16b0; try clear c17; try clear c17b0; try clear c17b1; try clear c18; try clear c18b0; try clear c19; try clear c19b0; try clear c19b1; try clear c20; try clear c21; try clear c22; try clear c23; try clear c26; try clear c31; try clear c32; try clear c36; try clear c37; try clear c38; try clear c42; try clear c43; try clear c44; try clear c45; try clear c50; try clear c51; try clear c52; try clear c53; try clear c54; try clear c58; try clear c59; try clear c60; try clear c61; try clear c62; try clear c63; try clear p64; try clear c67; try clear c68; try clear c69; try clear c70; try clear c71; try clear c72; try clear c73; try clear c78; try clear c79; try clear c80; try clear c81; try clear c82; try clear c83; try clear c84; try clear c85; try clear c92; try clear c92b0; try clear c92b1; try clear c94; try clear c94b0; try clear c94b1; try clear c95; try clear c95b0; try clear c96; try clear c96b0; try clear c96b1; try clear c97; try clear c98; try clear c99; try clear c100; try clear c101; try clear c102; try clear c103; try clear c104; try clear c107; try clear c108; try clear c109; try clear c110; try clear c111; try clear c112; try clear c113; try clear c115; try clear c116; try clear c117; try clear c118; try clear c119; try clear c120; try clear c123; try clear c123b0; try clear c123b1; try clear c126; try clear c126b0; try clear c126b1; try clear c127; try clear c127b0; try clear c127b1; try clear c129; try clear c130; try clear c131; try clear c132; try clear c133; try clear c134; try clear c135; try clear c136; try clear c137; try clear c140; try clear c141; try clear c142; try clear c143; try clear c144; try clear c145; try clear c146; try clear c151; try clear c152; try clear c153; try clear c154; try clear c155; try clear c156; try clear c157; try clear c158; try clear c161; try clear c162; try clear c163; try clear c164; try clear c165; try clear c166; try clear c167; try clear c170; try clear c170b0; try clear c170b1; try clear c172; try clear c172b0; try clear c172b1; try clear c177; try clear c178; try clear c179; try clear c180; try clear c181; try clear c182; try clear c183; try clear c184; try clear c187; try clear c188; try clear c189; try clear c190; try clear c191; try clear c192; try clear c193; try clear c197; try clear c198; try clear c199; try clear c200; try clear c201; try clear c202; try clear c203; try clear c204; try clear c205; try clear c210; try clear c210b0; try clear c210b1; try clear c211; try clear c211b0; try clear c211b1; try clear c212; try clear c212b0; try clear c212b1; try clear c213; try clear c213b0; try clear c213b1; try clear c214; try clear c214b0; try clear c214b1; try clear c218; try clear c219; try clear c220; try clear c221; try clear c222; try clear c223; try clear c224; try clear c225; try clear c226; try clear c231; try clear c232; try clear c233; try clear c234; try clear c235; try clear c236; try clear c237; try clear c238; try clear c239; try clear hcz105_0; try clear hcz105_1; try clear hcz114_0; try clear hcz114_1; try clear hcz121_0; try clear hcz121_1; try clear hcz138_0; try clear hcz138_1; try clear hcz147_0; try clear hcz147_1; try clear hcz159_0; try clear hcz159_1; try clear hcz168_0; try clear hcz168_1; try clear hcz185_0; try clear hcz185_1; try clear hcz194_0; try clear hcz194_1; try clear hcz206_0; try clear hcz206_1; try clear hcz208_0; try clear hcz208_1; try clear hcz227_0; try clear hcz227_1; try clear hcz23_0; try clear hcz23_1; try clear hcz240_0; try clear hcz240_1; try clear hcz27_0; try clear hcz27_1; try clear hcz28_0; try clear hcz28_1; try clear hcz33_0; try clear hcz33_1; try clear hcz39_0; try clear hcz39_1; try clear hcz46_0; try clear hcz46_1; try clear hcz47_0; try clear hcz47_1; try clear hcz55_0; try clear hcz55_1; try clear hcz64_0; try clear hcz64_1; try clear hcz74_0; try clear hcz74_1; try clear hcz75_0; try clear hcz75_1; try clear hcz86_0; try clear hcz86_1; try clear hcz87_0; try clear hcz87_1; try clear hcz88_0; try clear hcz88_1; try clear hcz89_0; try clear hcz89_1; try clear hcz90_0; try clear hcz90_1; try clear hcz91_0; try clear hcz91_1; try clear hfz105_0; try clear hfz105_1; try clear hfz114_0; try clear hfz114_1; try clear hfz121_0; try clear hfz121_1; try clear hfz138_0; try clear hfz138_1; try clear hfz147_0; try clear hfz147_1; try clear hfz159_0; try clear hfz159_1; try clear hfz168_0; try clear hfz168_1; try clear hfz185_0; try clear hfz185_1; try clear hfz194_0; try clear hfz194_1; try clear hfz206_0; try clear hfz206_1; try clear hfz208_0; try clear hfz208_1; try clear hfz227_0; try clear hfz227_1; try clear hfz23_0; try clear hfz23_1; try clear hfz240_0; try clear hfz240_1; try clear hfz27_0; try clear hfz27_1; try clear hfz28_0; try clear hfz28_1; try clear hfz33_0; try clear hfz33_1; try clear hfz39_0; try clear hfz39_1; try clear hfz46_0; try clear hfz46_1; try clear hfz47_0; try clear hfz47_1; try clear hfz55_0; try clear hfz55_1; try clear hfz64_0; try clear hfz64_1; try clear hfz74_0; try clear hfz74_1; try clear hfz75_0; try clear hfz75_1; try clear hfz86_0; try clear hfz86_1; try clear hfz87_0; try clear hfz87_1; try clear hfz88_0; try clear hfz88_1; try clear hfz89_0; try clear hfz89_1; try clear hfz90_0; try clear hfz90_1; try clear hfz91_0; try clear hfz91_1
                obtain ⟨kq, x222_175, rfl, HA, HJ175, HO_27, HO_32, BK400, BK404, BK408, BK411, BK415, BK419, BK422, BK427, BK432, BK454, HB⟩ := hcut
                cases kq with
                | zero => exact absurd HA.out (by simp [laws_FnPowerLoss.j2])
                | succ kj175 =>
                 have H := HA.out
                 clear HA
                 simp only [laws_FnPowerLoss.j2] at H
                 by_cases c241 : x222_175 = true
                 ·subst c241
                  rw [if_pos rfl] at H
                  as_aux_lemma =>
                   exact absurd ((Option.some.inj H).trans HRT.out) (by decide)
                 ·replace c241 := Bool.eq_false_iff.mpr c241
                  subst c241
                  rw [if_neg (show ¬ (false = true) by decide)] at H
                  have H' := Aside0.mk H
                  clear H
                  go_wp2
                  repeat (go_quiet (fail); try go_wp2)
                  go_loopg [36] kj175 (fun kq v36 w' => ∃ (x36_4 : Int), v36 = .int .i64 x36_4 ∧ Aside0 (laws_FnPowerLoss.l0 kq t446 t455 x36_4 = some r) ∧ Aside0 (kq ≤ kj175) ∧ Aside0 (Kd.R k39 39 w' w.heap.size (fun k_ => some k_ ≠ (v456 : Value).ownBlock) v447 t446) ∧ Aside0 (Kd.R k39 39 w' w.heap.size (fun k_ => some k_ ≠ (v447 : Value).ownBlock) v456 t455) ∧ Aside0 (w'.heap[gb400]? = some (.cells #[.string t397, .string t398] 25 (0, 0))) ∧ Aside0 (w'.heap[gb404]? = some (.cells #[.string t401, .string t402] 25 (0, 0))) ∧ Aside0 (w'.heap[gb408]? = some (.cells #[.string t405, .string t406] 25 (0, 0))) ∧ Aside0 (w'.heap[gb411]? = some (.cells #[.string t409, .string t410] 25 (0, 0))) ∧ Aside0 (w'.heap[gb415]? = some (.cells #[.string t412, .string t413] 25 (0, 0))) ∧ Aside0 (w'.heap[gb419]? = some (.cells #[.string t416, .string t417] 25 (0, 0))) ∧ Aside0 (w'.heap[gb422]? = some (.cells #[.string t420, .string t421] 25 (0, 0))) ∧ Aside0 (w'.heap[gb427]? = some (.cells #[.string t423, .string t424] 25 (0, 0))) ∧ Aside0 (w'.heap[gb432]? = some (.cells #[.string t428, .string t429] 25 (0, 0))) ∧ Aside0 (w'.heap[gb454]? = some (.cells #[.string t450, .string t451] 25 (0, 0))) ∧ Aside0 (Below w.heap.size w w'))
                  case atStart => exact ⟨(0), sd, H', ⟨Nat.le_refl _⟩, ⟨zq61⟩, ⟨zq62⟩, ⟨zq0⟩, ⟨zq0⟩, ⟨zq0⟩, ⟨zq0⟩, ⟨zq0⟩, ⟨zq0⟩, ⟨zq0⟩, ⟨zq0⟩, ⟨zq0⟩, ⟨zq0⟩, ⟨bl⟩⟩
                  case round =>
                   clear H'
                   try clear c1; try clear c2; try clear p2; try clear c3; try clear c4; try clear c5; try clear c6; try clear p6; try clear c7; try clear c8; try clear c9; try clear c10; try clear c11; try clear c12; try clear c13; try clear c13b0; try clear c13b1; try clear c14; try clear c14b0; try clear c15; try clear c15b0; try clear c15b1; try clear c16; try clear c16b0; try clear c17; try clear c17b0; try clear c17b1; try clear c18; try clear c18b0; try clear c19; try clear c19b0; try clear c19b1; try clear c20; try clear c21; try clear c22; try clear c23; try clear c24; try clear c26; try clear c31; try clear c32; try clear c36; try clear c37; try clear c38; try clear c42; try clear c43; try clear c44; try clear c45; try clear c50; try clear c51; try clear c52; try clear c53; try clear c54; try clear c58; try clear c59; try clear c60; try clear c61; try clear c62; try clear c63; try clear p64; try clear c67; try clear c68; try clear c69; try clear c70; try clear c71; try clear c72; try clear c73; try clear c78; try clear c79; try clear c80; try clear c81; try clear c82; try clear c83; try clear c84; try clear c85; try clear c92; try clear c92b0; try clear c92b1; try clear c94; try clear c94b0; try clear c94b1; try clear c95; try clear c95b0; try clear c96; try clear c96b0; try clear c96b1; try clear c97; try clear c98; try clear c99; try clear c100; try clear c101; try clear c102; try clear c103; try clear c104; try clear c107; try clear c108; try clear c109; try clear c110; try clear c111; try clear c112; try clear c113; try clear c115; try clear c116; try clear c117; try clear c118; try clear c119; try clear c120; try clear c123; try clear c123b0; try clear c123b1; try clear c126; try clear c126b0; try clear c126b1; try clear c127; try clear c127b0; try clear c127b1; try clear c129; try clear c130; try clear c131; try clear c132; try clear c133; try clear c134; try clear c135; try clear c136; try clear c137; try clear c140; try clear c141; try clear c142; try clear c143; try clear c144; try clear c145; try clear c146; try clear c151; try clear c152; try clear c153; try clear c154; try clear c155; try clear c156; try clear c157; try clear c158; try clear c161; try clear c162; try clear c163; try clear c164; try clear c165; try clear c166; try clear c167; try clear c170; try clear c170b0; try clear c170b1; try clear c172; try clear c172b0; try clear c172b1; try clear c177; try clear c178; try clear c179; try clear c180; try clear c181; try clear c182; try clear c183; try clear c184; try clear c187; try clear c188; try clear c189; try clear c190; try clear c191; try clear c192; try clear c193; try clear c197; try clear c198; try clear c199; try clear c200; try clear c201; try clear c202; try clear c203; try clear c204; try clear c205; try clear c210; try clear c210b0; try clear c210b1; try clear c211; try clear c211b0; try clear c211b1; try clear c212; try clear c212b0; try clear c212b1; try clear c213; try clear c213b0; try clear c213b1; try clear c214; try clear c214b0; try clear c214b1; try clear c218; try clear c219; try clear c220; try clear c221; try clear c222; try clear c223; try clear c224; try clear c225; try clear c226; try clear c231; try clear c232; try clear c233; try clear c234; try clear c235; try clear c236; try clear c237; try clear c238; try clear c239; try clear c241; try clear hcz105_0; try clear hcz105_1; try clear hcz114_0; try clear hcz114_1; try clear hcz121_0; try clear hcz121_1; try clear hcz138_0; try clear hcz138_1; try clear hcz147_0; try clear hcz147_1; try clear hcz159_0; try clear hcz159_1; try clear hcz168_0; try clear hcz168_1; try clear hcz185_0; try clear hcz185_1; try clear hcz194_0; try clear hcz194_1; try clear hcz206_0; try clear hcz206_1; try clear hcz208_0; try clear hcz208_1; try clear hcz227_0; try clear hcz227_1; try clear hcz23_0; try clear hcz23_1; try clear hcz240_0; try clear hcz240_1; try clear hcz27_0; try clear hcz27_1; try clear hcz28_0; try clear hcz28_1; try clear hcz33_0; try clear hcz33_1; try clear hcz39_0; try clear hcz39_1; try clear hcz46_0; try clear hcz46_1; try clear hcz47_0; try clear hcz47_1; try clear hcz55_0; try clear hcz55_1; try clear hcz64_0; try clear hcz64_1; try clear hcz74_0; try clear hcz74_1; try clear hcz75_0; try clear hcz75_1; try clear hcz86_0; try clear hcz86_1; try clear hcz87_0; try clear hcz87_1; try clear hcz88_0; try clear hcz88_1; try clear hcz89_0; try clear hcz89_1; try clear hcz90_0; try clear hcz90_1; try clear hcz91_0; try clear hcz91_1; try clear hfz105_0; try clear hfz105_1; try clear hfz114_0; try clear hfz114_1; try clear hfz121_0; try clear hfz121_1; try clear hfz138_0; try clear hfz138_1; try clear hfz147_0; try clear hfz147_1; try clear hfz159_0; try clear hfz159_1; try clear hfz168_0; try clear hfz168_1; try clear hfz185_0; try clear hfz185_1; try clear hfz194_0; try clear hfz194_1; try clear hfz206_0; try clear hfz206_1; try clear hfz208_0; try clear hfz208_1; try clear hfz227_0; try clear hfz227_1; try clear hfz23_0; try clear hfz23_1; try clear hfz240_0; try clear hfz240_1; try clear hfz27_0; try clear hfz27_1; try clear hfz28_0; try clear hfz28_1; try clear hfz33_0; try clear hfz33_1; try clear hfz39_0; try clear hfz39_1; try clear hfz46_0; try clear hfz46_1; try clear hfz47_0; try clear hfz47_1; try clear hfz55_0; try clear hfz55_1; try clear hfz64_0; try clear hfz64_1; try clear hfz74_0; try clear hfz74_1; try clear hfz75_0; try clear hfz75_1; try clear hfz86_0; try clear hfz86_1; try clear hfz87_0; try clear hfz87_1; try clear hfz88_0; try clear hfz88_1; try clear hfz89_0; try clear hfz89_1; try clear hfz90_0; try clear hfz90_1; try clear hfz91_0; try clear hfz91_1
                   obtain ⟨x36_4, rfl, HA, HK4, HO_27, HO_32, BK400, BK404, BK408, BK411, BK415, BK419, BK422, BK427, BK432, BK454, HB⟩ := hrel
                   cases gk with
                   | zero => exact absurd HA.out (by simp [laws_FnPowerLoss.l0])
                   | succ k4 =>
                    have H := HA.out
                    clear HA
                    simp only [laws_FnPowerLoss.l0] at H
                    by_cases c242 : x36_4 < (t455.length : Int)
                    ·rw [if_pos c242] at H
                     have c242b0 : decide (x36_4 < (t455.length : Int)) = true := decide_eq_true c242
                     clear c242
                     by_cases c243 : 0 ≤ x36_4
                     ·rw [if_pos c243] at H
                      have c243b0 : decide (0 ≤ x36_4) = true := decide_eq_true c243
                      clear c243
                      by_cases c244 : x36_4 < (t446.length : Int)
                      ·rw [if_pos c244] at H
                       have c244b0 : decide (x36_4 < (t446.length : Int)) = true := decide_eq_true c244
                       clear c244
                       by_cases c245 : (!(((rd_T39 t455 x36_4).f0) == ((rd_T39 t446 x36_4).f0)) || (!((((rd_T39 t455 x36_4).f1).toList) == (((rd_T39 t446 x36_4).f1).toList)) || (!((((rd_T39 t455 x36_4).f2).toList) == (((rd_T39 t446 x36_4).f2).toList))))) = true
                       ·rw [if_pos c245] at H
                        have c245b0 : (!(((rd_T39 t455 x36_4).f0) == ((rd_T39 t446 x36_4).f0)) || (!((((rd_T39 t455 x36_4).f1).toList) == (((rd_T39 t446 x36_4).f1).toList)) || (!((((rd_T39 t455 x36_4).f2).toList) == (((rd_T39 t446 x36_4).f2).toList))))) = true := c245
                        clear c245
                        as_aux_lemma =>
                         exact absurd ((Option.some.inj H).trans HRT.out) (by decide)
                       ·rw [if_neg c245] at H
                        have c245b0 : (!(((rd_T39 t455 x36_4).f0) == ((rd_T39 t446 x36_4).f0)) || (!((((rd_T39 t455 x36_4).f1).toList) == (((rd_T39 t446 x36_4).f1).toList)) || (!((((rd_T39 t455 x36_4).f2).toList) == (((rd_T39 t446 x36_4).f2).toList))))) = false := by simpa using c245
                        clear c245
                        as_aux_lemma =>
                         have H' := Aside0.mk H
                         clear H
                         obtain ⟨Ao246, co246, eo246⟩ := Kd.R_slice HO_32.out
                         subst eo246
                         have p463 : 0 ≤ (x36_4 : Int) := dt
                         have q463 : x36_4 < (t455.length : Int) := dt
                         obtain ⟨ad463, e463, hx463_0, hx463_1, hx463_2⟩ := at_T39 (Kd.R_reads' HO_32.out).2.2 x36_4 p463 q463
                         cases e463
                         replace p463 := eq_true p463
                         replace q463 := eq_true q463
                         obtain ⟨Ao247, co247, eo247⟩ := Kd.R_slice HO_27.out
                         subst eo247
                         have p464 : 0 ≤ (x36_4 : Int) := dt
                         have q464 : x36_4 < (t446.length : Int) := dt
                         obtain ⟨ad464, e464, hx464_0, hx464_1, hx464_2⟩ := at_T39 (Kd.R_reads' HO_27.out).2.2 x36_4 p464 q464
                         cases e464
                         replace p464 := eq_true p464
                         replace q464 := eq_true q464
                         go_wp2
                         repeat (go_quiet (fail); try go_wp2)
                         go_roundg k4
                         case measure => have := HJ19.out; have := HJ121.out; have := HJ175.out; have := HK4.out; omega
                         case rel => exact ⟨(wrap64 (x36_4 + 1)), sd, H', ⟨by have := HJ19.out; have := HJ121.out; have := HJ175.out; have := HK4.out; omega⟩, ⟨zq61⟩, ⟨zq62⟩, ⟨zq0⟩, ⟨zq0⟩, ⟨zq0⟩, ⟨zq0⟩, ⟨zq0⟩, ⟨zq0⟩, ⟨zq0⟩, ⟨zq0⟩, ⟨zq0⟩, ⟨zq0⟩, ⟨bl⟩⟩
                      ·rw [if_neg c244] at H
                       exact absurd H (by simp)
                     ·rw [if_neg c243] at H
                      exact absurd H (by simp)
                    ·rw [if_neg c242] at H
                     have c242b0 : decide (x36_4 < (t455.length : Int)) = false := decide_eq_false c242
                     clear c242
                     as_aux_lemma =>
                      obtain rfl := Option.some.inj H
                      obtain ⟨Ao248, co248, eo248⟩ := Kd.R_slice HO_32.out
                      subst eo248
                      go_wp2
                      repeat (go_quiet (fail); try go_wp2)
                      go_ret
                      exact ⟨er, bl⟩
              ·rw [if_neg c172] at H
               have c172b0 : (t449 == 0) = false := beq_eq_false_iff_ne.mpr c172
               have c172b1 : (t449 != 0) = true := bne_iff_ne.mpr c172
               as_aux_lemma =>
                obtain rfl := Option.some.inj H
                have hnb249 := NB400_404.out
                have hnc249 := NB404_400.out
                have hnb250 := NB400_408.out
                have hnc250 := NB408_400.out
                have hnb251 := NB400_411.out
                have hnc251 := NB411_400.out
                have hnb252 := NB400_415.out
                have hnc252 := NB415_400.out
                have hnb253 := NB400_419.out
                have hnc253 := NB419_400.out
                have hnb254 := NB400_422.out
                have hnc254 := NB422_400.out
                have hnb255 := NB400_427.out
                have hnc255 := NB427_400.out
                have hnb256 := NB400_432.out
                have hnc256 := NB432_400.out
                have hcz257_0 := cz BK400 0 rfl
                have hcz257_1 := cz BK400 1 rfl
                have hfz257_0 := blk_frozen BK400.out 0
                have hfz257_1 := blk_frozen BK400.out 1
                go_wp2_with (first | (go_at_call 17; (with_reducible refine (spec_EntriesOf.calls kj121 t397 t398 t446 t449 _ A171.out).mono ?_); rintro e w258 ⟨v447, rfl, ho0, hb⟩; have HO448 := Aside0.mk (Kd.R_lower ho0 (below_size bl)); replace BK400 := kb BK400 hb; replace BK404 := kb BK404 hb; replace BK408 := kb BK408 hb; replace BK411 := kb BK411 hb; replace BK415 := kb BK415 hb; replace BK419 := kb BK419 hb; replace BK422 := kb BK422 hb; replace BK427 := kb BK427 hb; replace BK432 := kb BK432 hb; replace HB := bs hb; (try clear hb); (try clear ho0)))
                go_ret
                exact ⟨er, bl⟩
             ·rw [if_neg c170] at H
              have c170b0 : (t403 == 0) = false := beq_eq_false_iff_ne.mpr c170
              have c170b1 : (t403 != 0) = true := bne_iff_ne.mpr c170
              as_aux_lemma =>
               obtain rfl := Option.some.inj H
               go_wp2
               repeat (go_quiet (fail); try go_wp2)
               go_ret
               exact ⟨er, bl⟩
        ·rw [if_neg c19] at H
         have c19b0 : (t425 == t430) = false := beq_eq_false_iff_ne.mpr c19
         have c19b1 : (t425 != t430) = true := bne_iff_ne.mpr c19
         as_aux_lemma =>
          exact absurd ((Option.some.inj H).trans HRT.out) (by decide)
      ·rw [if_neg c17] at H
       have c17b0 : (t426 == t431) = false := beq_eq_false_iff_ne.mpr c17
       have c17b1 : (t426 != t431) = true := bne_iff_ne.mpr c17
       as_aux_lemma =>
        exact absurd ((Option.some.inj H).trans HRT.out) (by decide)
    ·rw [if_neg c15] at H
     have c15b0 : (t414 == t418) = false := beq_eq_false_iff_ne.mpr c15
     have c15b1 : (t414 != t418) = true := bne_iff_ne.mpr c15
     as_aux_lemma =>
      exact absurd ((Option.some.inj H).trans HRT.out) (by decide)
  ·rw [if_neg c13] at H
   have c13b0 : (t403 == t407) = false := beq_eq_false_iff_ne.mpr c13
   have c13b1 : (t403 != t407) = true := bne_iff_ne.mpr c13
   as_aux_lemma =>
    exact absurd ((Option.some.inj H).trans HRT.out) (by decide)

/-- THE ONE PURE STATEMENT of laws_FnPowerLoss: yours. -/
def laws_FnPowerLoss.Pure : Prop := ∀ (l0 : List Int), l0.length ≤ maxLen → l0.length * 1 ≤ 140737488351232 → (∀ x ∈ l0, (Lit.int .u8 x).wf = true) → ∃ k, laws_FnPowerLoss.f k l0 = some true
theorem laws_FnPowerLoss.walk (P : laws_FnPowerLoss.Pure) (a0 : Option Addr) (len0 cap0 : Nat) (z0 : List Int) (w : World) (hG : GF w) (w0 : (a0 = none ∧ len0 = 0 ∧ cap0 = 0 ∧ z0 = []) ∨ ∃ x, a0 = some x ∧ len0 ≤ cap0 ∧ cap0 ≤ maxLen ∧ z0.length = cap0 ∧ (∀ i, i < z0.length → w.cell? (x.add i) = some (.int .u8 (z0.getD i 0))) ∧ ∀ n ∈ z0, (Lit.int .u8 n).wf = true) (y0 : len0 * 1 ≤ 140737488351232) :
  Calls Tryd.prog 3 #[.slice a0 len0 cap0] w fun e w' => e = .returned (.bool true) ∧ Below w.heap.size w w' := by
 obtain ⟨l0, rfl, hr0, hm0, hw0, hc0⟩ := ReadsInt.ofRowC w0
 obtain ⟨k, h⟩ := P l0 hm0 y0 hw0
 refine (laws_FnPowerLoss.calls k _ _ l0 true w hG (Kd.C_of_reads (d := (0 : Int)) (h1 := fun _ => rfl) hr0) hc0 rfl h).mono ?_
 rintro e w' ⟨rfl, hd⟩
 exact ⟨rfl, hd⟩

end Go.Proofs.YtajbomiaoncgiaaDoor.QPL
