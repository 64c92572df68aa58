-- Written by a program of this place (wip/tools/prn.py) out of the translation, for this claim. Lean checks it.
import Derived.Test.YtajbomiaoncgiaaDoorQPLz
import Derived.Test.YtajbomiaoncgiaaDoorQPLx5
import Derived.Test.YtajbomiaoncgiaaDoorQPLx9
import Derived.Test.YtajbomiaoncgiaaDoorQPLx12
namespace Go.Proofs.YtajbomiaoncgiaaDoor.QPL
open Go.RowKit Go.Proofs.YtajbomiaoncgiaaDoorQ Go.Proofs.YtajbomiaoncgiaaDoorW.PrintWords Go.Proofs.YtajbomiaoncgiaaDoorW.PrintLast Go.Proofs.YtajbomiaoncgiaaDoorW.PrintMore
attribute [local go_sem] max2_int min2_int max_two min_two max_three min_three max_four min_four   -- for this text's walks alone
set_option linter.unusedVariables false
set_option linter.unusedSimpArgs false

/-! ### spec_FlushLog: function 12 -/
def spec_FlushLog.f (k : Nat) (a0_0 : ByteArray) (a0_1 : ByteArray) : Option (ByteArray × ByteArray × Int) := (spec_l27Ok.f k [(⟨a0_0, a0_1⟩ : S25)]).bind fun t324 => (if t324 = true then (if a0_0.size + a0_1.size ≤ 9223372036854775807 then (some (a0_0 ++ a0_1, (⟨#[]⟩ : ByteArray), 0)) else (none)) else (some ((⟨#[]⟩ : ByteArray), (⟨#[]⟩ : ByteArray), 1)))
set_option maxHeartbeats 8000000 in
set_option maxRecDepth 100000 in
theorem spec_FlushLog.calls (k : Nat) (a0_0 : ByteArray) (a0_1 : ByteArray) (r1 : ByteArray) (r2 : ByteArray) (r3 : Int) (w : World) (h : spec_FlushLog.f k a0_0 a0_1 = some (r1, r2, r3)) :
  Calls Tryd.prog 12 #[.agg #[.string a0_0, .string a0_1]] w fun e w' => e = .returned (.tuple #[.agg #[.string r1, .string r2], .int .i64 r3]) ∧ Below w.heap.size w w' := by
 have hu25 := Tryd.underlying25
 have HB := Aside0.mk (Below.refl w.heap.size w)
 have H : ((spec_l27Ok.f k [(⟨a0_0, a0_1⟩ : S25)]).bind fun t324 => (if t324 = true then (if a0_0.size + a0_1.size ≤ 9223372036854775807 then (some (a0_0 ++ a0_1, (⟨#[]⟩ : ByteArray), 0)) else (none)) else (some ((⟨#[]⟩ : ByteArray), (⟨#[]⟩ : ByteArray), 1)))) = some (r1, r2, r3) := h
 clear h
 replace H := Option.bind_eq_some_iff.mp H
 obtain ⟨t324, A20, H⟩ := H
 have A2 := Aside0.mk A20
 clear A20
 by_cases c3 : t324 = true
 ·subst c3
  rw [if_pos rfl] at H
  by_cases c4 : a0_0.size + a0_1.size ≤ 9223372036854775807
  ·rw [if_pos c4] at H
   have c4b0 := eq_true c4
   have c4b1 : decide (a0_0.size + a0_1.size ≤ 9223372036854775807) = true := decide_eq_true c4
   try have c4b2 : (9223372036854775807 < a0_0.size + a0_1.size) = False := eq_false (Nat.not_lt.2 c4)
   simp only [Option.some.injEq, Prod.mk.injEq] at H
   obtain ⟨rfl, rfl, rfl⟩ := H
   go_enter Tryd.func12, Tryd.ntmps12
   go_wp2_with (first | ((with_reducible refine gate_dst (N := 1) rfl ?_); refine box_event ?hg (N := 1) ?hd (cs := #[.string a0_0, .string a0_1]) (t := 25) ?hr ?_; (case hd => rfl); (case hg => rfl); (case hr => exact zq1); intro gb322 hg w5 hbox hb; have BK322 := Aside0.mk (hbox); have GW322 := gsz hg; have GE322 := gsz hg; replace HB := bs hb; clear hb hbox hg) | ((with_reducible refine gate_dst (N := 2) rfl ?_); refine box_event ?hg (N := 2) ?hd (cs := #[.string (⟨#[]⟩ : ByteArray), .string (⟨#[]⟩ : ByteArray)]) (t := 25) ?hr ?_; (case hd => rfl); (case hg => rfl); (case hr => exact zq1); intro gb323 hg w6 hbox hb; have BK323 := Aside0.mk (hbox); have GW323 := gsz hg; have GE323 := gsz hg; replace HB := bs hb; have NB322_323 := nlt BK322 hg; have NB323_322 := ngt BK322 hg; replace BK322 := kb BK322 hb; clear hb hbox hg) | ((with_reducible refine gate_callee (f := 53) rfl ?_); refine goq (some 4) Tryd.func53 #[.pointer (some ⟨gb322, 0, none⟩)] ?_; (with_reducible refine (spec_l27Ok.calls k ⟨gb322, 0, none⟩ [(⟨a0_0, a0_1⟩ : S25)] true _ ?side1 ?side2 A2.out).mono ?_); (case side1 => exact zq12); (case side2 => rfl); rintro e w7 ⟨rfl, hb⟩; refine ⟨_, rfl, ?_⟩; replace BK322 := kb BK322 hb; replace BK323 := kb BK323 hb; replace HB := bs hb; (try clear hb); have hnb8 := NB322_323.out; have hnc8 := NB323_322.out; have hcz9_0 := cz BK322 0 rfl; have hcz9_1 := cz BK322 1 rfl; have hfz9_0 := blk_frozen BK322.out 0; have hfz9_1 := blk_frozen BK322.out 1; have hcz10_0 := cz BK323 0 rfl; have hcz10_1 := cz BK323 1 rfl; have hfz10_0 := blk_frozen BK323.out 0; have hfz10_1 := blk_frozen BK323.out 1))
   refine bodyPost_ret (results_ct rfl _ _ gb323 25 #[.string (a0_0 ++ a0_1), .string (⟨#[]⟩ : ByteArray)] (0, 0) _ rfl zq47 Tryd.underlying25 rfl (by kernel_rfl)) rfl ?_
   exact ⟨er, bl⟩
  ·rw [if_neg c4] at H
   exact absurd H (by simp)
 ·replace c3 := Bool.eq_false_iff.mpr c3
  subst c3
  rw [if_neg (show ¬ (false = true) by decide)] at H
  simp only [Option.some.injEq, Prod.mk.injEq] at H
  obtain ⟨rfl, rfl, rfl⟩ := H
  go_enter Tryd.func12, Tryd.ntmps12
  go_wp2_with (first | ((with_reducible refine gate_dst (N := 1) rfl ?_); refine box_event ?hg (N := 1) ?hd (cs := #[.string a0_0, .string a0_1]) (t := 25) ?hr ?_; (case hd => rfl); (case hg => rfl); (case hr => exact zq1); intro gb322 hg w11 hbox hb; have BK322 := Aside0.mk (hbox); have GW322 := gsz hg; have GE322 := gsz hg; replace HB := bs hb; clear hb hbox hg) | ((with_reducible refine gate_dst (N := 2) rfl ?_); refine box_event ?hg (N := 2) ?hd (cs := #[.string (⟨#[]⟩ : ByteArray), .string (⟨#[]⟩ : ByteArray)]) (t := 25) ?hr ?_; (case hd => rfl); (case hg => rfl); (case hr => exact zq1); intro gb323 hg w12 hbox hb; have BK323 := Aside0.mk (hbox); have GW323 := gsz hg; have GE323 := gsz hg; replace HB := bs hb; have NB322_323 := nlt BK322 hg; have NB323_322 := ngt BK322 hg; replace BK322 := kb BK322 hb; clear hb hbox hg) | ((with_reducible refine gate_callee (f := 53) rfl ?_); refine goq (some 4) Tryd.func53 #[.pointer (some ⟨gb322, 0, none⟩)] ?_; (with_reducible refine (spec_l27Ok.calls k ⟨gb322, 0, none⟩ [(⟨a0_0, a0_1⟩ : S25)] false _ ?side1 ?side2 A2.out).mono ?_); (case side1 => exact zq12); (case side2 => rfl); rintro e w13 ⟨rfl, hb⟩; refine ⟨_, rfl, ?_⟩; replace BK322 := kb BK322 hb; replace BK323 := kb BK323 hb; replace HB := bs hb; (try clear hb); have hnb14 := NB323_322.out; have hnc14 := NB322_323.out; have hcz15_0 := cz BK323 0 rfl; have hcz15_1 := cz BK323 1 rfl; have hfz15_0 := blk_frozen BK323.out 0; have hfz15_1 := blk_frozen BK323.out 1))
  refine bodyPost_ret (results_ct rfl _ _ gb323 25 #[.string (⟨#[]⟩ : ByteArray), .string (⟨#[]⟩ : ByteArray)] (0, 0) _ rfl zq13 Tryd.underlying25 rfl (by kernel_rfl)) rfl ?_
  exact ⟨er, bl⟩

/-! ### spec_DrawRecoverLog: function 13 -/
def spec_DrawRecoverLog.f (k : Nat) (l0 : List Int) : Option (ByteArray × ByteArray) := (spec_DrawLosePower.f k l0).bind fun bt326 => ((spec_LosePower.f k bt326.1 bt326.2.1 bt326.2.2).bind fun bt330 => (if bt330.2.2 = 0 then (some (bt330.1, bt330.2.1)) else (some (bt326.1, bt326.2.1))))
set_option maxHeartbeats 8000000 in
set_option maxRecDepth 100000 in
theorem spec_DrawRecoverLog.calls (k : Nat) (A0 : Option Addr) (c0 : Nat) (l0 : List Int) (r1 : ByteArray) (r2 : ByteArray) (w : World) (hr0 : Kd.C (Kd.int .u8) w A0 l0.length l0) (hc0 : l0.length ≤ c0) (h : spec_DrawRecoverLog.f k l0 = some (r1, r2)) :
  Calls Tryd.prog 13 #[.slice A0 l0.length c0] w fun e w' => e = .returned (.agg #[.string r1, .string r2]) ∧ Below w.heap.size w w' := by
 have hu25 := Tryd.underlying25
 have HR0 := Aside0.mk hr0
 have HC0 := Aside0.mk hc0
 clear hr0 hc0
 have HB := Aside0.mk (Below.refl w.heap.size w)
 have H : ((spec_DrawLosePower.f k l0).bind fun bt326 => ((spec_LosePower.f k bt326.1 bt326.2.1 bt326.2.2).bind fun bt330 => (if bt330.2.2 = 0 then (some (bt330.1, bt330.2.1)) else (some (bt326.1, bt326.2.1))))) = some (r1, r2) := h
 clear h
 replace H := Option.bind_eq_some_iff.mp H
 obtain ⟨⟨t326, t327, t328⟩, A20, H⟩ := H
 replace H : ((spec_LosePower.f k t326 t327 t328).bind fun bt330 => (if bt330.2.2 = 0 then (some (bt330.1, bt330.2.1)) else (some (t326, t327)))) = some (r1, r2) := H
 have A2 := Aside0.mk A20
 clear A20
 replace H := Option.bind_eq_some_iff.mp H
 obtain ⟨⟨t330, t331, t332⟩, A30, H⟩ := H
 replace H : (if t332 = 0 then (some (t330, t331)) else (some (t326, t327))) = some (r1, r2) := H
 have A3 := Aside0.mk A30
 clear A30
 by_cases c4 : t332 = 0
 ·rw [if_pos c4] at H
  have c4b0 : (t332 == 0) = true := beq_iff_eq.mpr c4
  have c4b1 : (t332 != 0) = false := bne_eq_false_iff_eq.mpr c4
  clear c4
  simp only [Option.some.injEq, Prod.mk.injEq] at H
  obtain ⟨rfl, rfl⟩ := H
  go_enter Tryd.func13, Tryd.ntmps13
  go_wp2_with (first | ((with_reducible refine gate_dst (N := 2) rfl ?_); refine box_event ?hg (N := 2) ?hd (cs := #[.string (⟨#[]⟩ : ByteArray), .string (⟨#[]⟩ : ByteArray)]) (t := 25) ?hr ?_; (case hd => rfl); (case hg => rfl); (case hr => exact zq1); intro gb325 hg w5 hbox hb; have BK325 := Aside0.mk (hbox); have GW325 := gsz hg; have GE325 := gsz hg; replace HB := bs hb; clear hb hbox hg) | ((with_reducible refine gate_callee (f := 7) rfl ?_); refine goq (some 9) Tryd.func7 #[.slice A0 l0.length c0] ?_; (with_reducible refine (spec_DrawLosePower.calls k _ _ l0 t326 t327 t328 _ ?side1 ?side2 A2.out).mono ?_); (case side1 => exact zq48); (case side2 => exact HC0.out); rintro e w6 ⟨rfl, hb⟩; refine ⟨_, rfl, ?_⟩; replace BK325 := kb BK325 hb; replace HB := bs hb; (try clear hb)) | ((with_reducible refine gate_dst (N := 3) rfl ?_); refine box_event ?hg (N := 3) ?hd (cs := #[.string (⟨#[]⟩ : ByteArray), .string (⟨#[]⟩ : ByteArray)]) (t := 25) ?hr ?_; (case hd => rfl); (case hg => rfl); (case hr => exact zq1); intro gb329 hg w7 hbox hb; have BK329 := Aside0.mk (hbox); have GW329 := gsz hg; have GE329 := gsz hg; replace HB := bs hb; have NB325_329 := nlt BK325 hg; have NB329_325 := ngt BK325 hg; replace BK325 := kb BK325 hb; clear hb hbox hg; have hnb8 := NB329_325.out; have hnc8 := NB325_329.out; have hcz9_0 := cz BK329 0 rfl; have hcz9_1 := cz BK329 1 rfl; have hfz9_0 := blk_frozen BK329.out 0; have hfz9_1 := blk_frozen BK329.out 1) | ((with_reducible refine gate_callee (f := 9) rfl ?_); refine goq (some 15) Tryd.func9 #[.agg #[.string t326, .string t327], .int .i64 t328] ?_; (with_reducible refine (spec_LosePower.calls k t326 t327 t328 t330 t331 t332 _ A3.out).mono ?_); rintro e w10 ⟨rfl, hb⟩; refine ⟨_, rfl, ?_⟩; replace BK325 := Aside0.mk (blk_below (g := gb325) (o := .cells #[.string (⟨#[]⟩ : ByteArray), .string (⟨#[]⟩ : ByteArray)] 25 (0, 0)) zq2 hb); replace BK329 := Aside0.mk (blk_below (g := gb329) (o := .cells #[.string t326, .string t327] 25 (0, 0)) zq49 hb); replace HB := bs hb; (try clear hb)) | ((with_reducible refine gate_dst (N := 5) rfl ?_); refine box_event ?hg (N := 5) ?hd (cs := #[.string (⟨#[]⟩ : ByteArray), .string (⟨#[]⟩ : ByteArray)]) (t := 25) ?hr ?_; (case hd => rfl); (case hg => rfl); (case hr => exact zq1); intro gb333 hg w11 hbox hb; have BK333 := Aside0.mk (hbox); have GW333 := gsz hg; have GE333 := gsz hg; replace HB := bs hb; have NB325_333 := nlt BK325 hg; have NB333_325 := ngt BK325 hg; replace BK325 := kb BK325 hb; have NB329_333 := nlt BK329 hg; have NB333_329 := ngt BK329 hg; replace BK329 := kb BK329 hb; clear hb hbox hg; have hnb12 := NB333_325.out; have hnc12 := NB325_333.out; have hnb13 := NB333_329.out; have hnc13 := NB329_333.out; have hcz14_0 := cz BK333 0 rfl; have hcz14_1 := cz BK333 1 rfl; have hfz14_0 := blk_frozen BK333.out 0; have hfz14_1 := blk_frozen BK333.out 1; have hcz15_0 := cz BK325 0 rfl; have hcz15_1 := cz BK325 1 rfl; have hfz15_0 := blk_frozen BK325.out 0; have hfz15_1 := blk_frozen BK325.out 1))
  refine bodyPost_ret (results_cell_row rfl _ _ gb325 25 #[.string t330, .string t331] (0, 0) _ rfl (by (with_reducible repeat (first | refine blk_drewN ?_ _ | refine blk_drew ?_ | refine blk_alloc ?_ _)); refine blk_put (cs := #[.string t330, .string (⟨#[]⟩ : ByteArray)]) ?_ 1 _ rfl; (with_reducible repeat (first | refine blk_drewN ?_ _ | refine blk_drew ?_ | refine blk_alloc ?_ _)); refine blk_put (cs := #[.string (⟨#[]⟩ : ByteArray), .string (⟨#[]⟩ : ByteArray)]) ?_ 0 _ rfl; (with_reducible repeat (first | refine blk_drewN ?_ _ | refine blk_drew ?_ | refine blk_alloc ?_ _)); refine blk_far ?_ NB325_333.out _; (with_reducible repeat (first | refine blk_drewN ?_ _ | refine blk_drew ?_ | refine blk_alloc ?_ _)); refine blk_far ?_ NB325_333.out _; (with_reducible repeat (first | refine blk_drewN ?_ _ | refine blk_drew ?_ | refine blk_alloc ?_ _)); exact BK325.out) Tryd.underlying25 rfl (by kernel_rfl)) rfl ?_
  exact ⟨er, bl⟩
 ·rw [if_neg c4] at H
  have c4b0 : (t332 == 0) = false := beq_eq_false_iff_ne.mpr c4
  have c4b1 : (t332 != 0) = true := bne_iff_ne.mpr c4
  simp only [Option.some.injEq, Prod.mk.injEq] at H
  obtain ⟨rfl, rfl⟩ := H
  go_enter Tryd.func13, Tryd.ntmps13
  go_wp2_with (first | ((with_reducible refine gate_dst (N := 2) rfl ?_); refine box_event ?hg (N := 2) ?hd (cs := #[.string (⟨#[]⟩ : ByteArray), .string (⟨#[]⟩ : ByteArray)]) (t := 25) ?hr ?_; (case hd => rfl); (case hg => rfl); (case hr => exact zq1); intro gb325 hg w16 hbox hb; have BK325 := Aside0.mk (hbox); have GW325 := gsz hg; have GE325 := gsz hg; replace HB := bs hb; clear hb hbox hg) | ((with_reducible refine gate_callee (f := 7) rfl ?_); refine goq (some 9) Tryd.func7 #[.slice A0 l0.length c0] ?_; (with_reducible refine (spec_DrawLosePower.calls k _ _ l0 t326 t327 t328 _ ?side1 ?side2 A2.out).mono ?_); (case side1 => exact zq48); (case side2 => exact HC0.out); rintro e w17 ⟨rfl, hb⟩; refine ⟨_, rfl, ?_⟩; replace BK325 := kb BK325 hb; replace HB := bs hb; (try clear hb)) | ((with_reducible refine gate_dst (N := 3) rfl ?_); refine box_event ?hg (N := 3) ?hd (cs := #[.string (⟨#[]⟩ : ByteArray), .string (⟨#[]⟩ : ByteArray)]) (t := 25) ?hr ?_; (case hd => rfl); (case hg => rfl); (case hr => exact zq1); intro gb329 hg w18 hbox hb; have BK329 := Aside0.mk (hbox); have GW329 := gsz hg; have GE329 := gsz hg; replace HB := bs hb; have NB325_329 := nlt BK325 hg; have NB329_325 := ngt BK325 hg; replace BK325 := kb BK325 hb; clear hb hbox hg; have hnb19 := NB329_325.out; have hnc19 := NB325_329.out; have hcz20_0 := cz BK329 0 rfl; have hcz20_1 := cz BK329 1 rfl; have hfz20_0 := blk_frozen BK329.out 0; have hfz20_1 := blk_frozen BK329.out 1) | ((with_reducible refine gate_callee (f := 9) rfl ?_); refine goq (some 15) Tryd.func9 #[.agg #[.string t326, .string t327], .int .i64 t328] ?_; (with_reducible refine (spec_LosePower.calls k t326 t327 t328 t330 t331 t332 _ A3.out).mono ?_); rintro e w21 ⟨rfl, hb⟩; refine ⟨_, rfl, ?_⟩; replace BK325 := Aside0.mk (blk_below (g := gb325) (o := .cells #[.string (⟨#[]⟩ : ByteArray), .string (⟨#[]⟩ : ByteArray)] 25 (0, 0)) zq2 hb); replace BK329 := Aside0.mk (blk_below (g := gb329) (o := .cells #[.string t326, .string t327] 25 (0, 0)) zq49 hb); replace HB := bs hb; (try clear hb)) | ((with_reducible refine gate_dst (N := 5) rfl ?_); refine box_event ?hg (N := 5) ?hd (cs := #[.string (⟨#[]⟩ : ByteArray), .string (⟨#[]⟩ : ByteArray)]) (t := 25) ?hr ?_; (case hd => rfl); (case hg => rfl); (case hr => exact zq1); intro gb333 hg w22 hbox hb; have BK333 := Aside0.mk (hbox); have GW333 := gsz hg; have GE333 := gsz hg; replace HB := bs hb; have NB325_333 := nlt BK325 hg; have NB333_325 := ngt BK325 hg; replace BK325 := kb BK325 hb; have NB329_333 := nlt BK329 hg; have NB333_329 := ngt BK329 hg; replace BK329 := kb BK329 hb; clear hb hbox hg; have hnb23 := NB333_325.out; have hnc23 := NB325_333.out; have hnb24 := NB333_329.out; have hnc24 := NB329_333.out; have hcz25_0 := cz BK333 0 rfl; have hcz25_1 := cz BK333 1 rfl; have hfz25_0 := blk_frozen BK333.out 0; have hfz25_1 := blk_frozen BK333.out 1; have hcz26_0 := cz BK329 0 rfl; have hcz26_1 := cz BK329 1 rfl; have hfz26_0 := blk_frozen BK329.out 0; have hfz26_1 := blk_frozen BK329.out 1; have hcz27_0 := cz BK325 0 rfl; have hcz27_1 := cz BK325 1 rfl; have hfz27_0 := blk_frozen BK325.out 0; have hfz27_1 := blk_frozen BK325.out 1))
  refine bodyPost_ret (results_cell_row rfl _ _ gb325 25 #[.string t326, .string t327] (0, 0) _ rfl (by (with_reducible repeat (first | refine blk_drewN ?_ _ | refine blk_drew ?_ | refine blk_alloc ?_ _)); refine blk_put (cs := #[.string t326, .string (⟨#[]⟩ : ByteArray)]) ?_ 1 _ rfl; (with_reducible repeat (first | refine blk_drewN ?_ _ | refine blk_drew ?_ | refine blk_alloc ?_ _)); refine blk_put (cs := #[.string (⟨#[]⟩ : ByteArray), .string (⟨#[]⟩ : ByteArray)]) ?_ 0 _ rfl; (with_reducible repeat (first | refine blk_drewN ?_ _ | refine blk_drew ?_ | refine blk_alloc ?_ _)); refine blk_far ?_ NB325_333.out _; (with_reducible repeat (first | refine blk_drewN ?_ _ | refine blk_drew ?_ | refine blk_alloc ?_ _)); refine blk_far ?_ NB325_333.out _; (with_reducible repeat (first | refine blk_drewN ?_ _ | refine blk_drew ?_ | refine blk_alloc ?_ _)); exact BK325.out) Tryd.underlying25 rfl (by kernel_rfl)) rfl ?_
  exact ⟨er, bl⟩

/-! ### impl_RecoverLog: function 14 -/
def impl_RecoverLog.f (k : Nat) (a0_0 : ByteArray) (a0_1 : ByteArray) : Option (ByteArray × ByteArray × Int × Int) := (impl_validLog.f k a0_0 a0_1).bind fun t336 => (if t336 = true then ((impl_ReadFrames.f k a0_0).bind fun bt337 => (if (wrap64 ((a0_0.size : Int) - bt337.2)) > 0 then (if a0_1.toList = ([] : List UInt8) then (if 0 ≤ bt337.2 then (if bt337.2 ≤ (a0_0.size : Int) then (some (a0_0.extract 0 (bt337.2 : Int).toNat, a0_1, wrap64 ((a0_0.size : Int) - bt337.2), 0)) else (none)) else (none)) else (some ((⟨#[]⟩ : ByteArray), (⟨#[]⟩ : ByteArray), 0, 6))) else (if 0 ≤ bt337.2 then (if bt337.2 ≤ (a0_0.size : Int) then (some (a0_0.extract 0 (bt337.2 : Int).toNat, a0_1, wrap64 ((a0_0.size : Int) - bt337.2), 0)) else (none)) else (none)))) else (some ((⟨#[]⟩ : ByteArray), (⟨#[]⟩ : ByteArray), 0, 1)))
def impl_RecoverLog.T7 : Bool × List (List Nat × List Nat) := (true, [([], []), ([0], [0]), ([], []), ([1, 2], [1, 2]), ([], []), ([4], [4]), ([3, 5], [3, 5]), ([], []), ([6, 0, 1, 2, 3, 4, 5, 6], [6]), ([7, 8, 0, 1, 2, 3, 4, 5, 6, 7, 8], [7]), ([9, 0, 1, 2, 3, 4, 5, 6, 7, 8, 9], [])])
def impl_RecoverLog.B7 : List Nat := [0, 1, 0, 7, 0, 16, 63, 0, 127, 511, 1023]
theorem impl_RecoverLog.tab7 : rtab .any (opsOf Tryd.f14 7) = impl_RecoverLog.T7 := by kernel_rfl
theorem impl_RecoverLog.bits7 : waitsOk impl_RecoverLog.T7.2 impl_RecoverLog.B7 = true := by kernel_rfl
set_option maxHeartbeats 8000000 in
set_option maxRecDepth 100000 in
theorem impl_RecoverLog.calls (k : Nat) (a0_0 : ByteArray) (a0_1 : ByteArray) (r1 : ByteArray) (r2 : ByteArray) (r3 : Int) (r4 : Int) (w : World) (hG : GF w) (h : impl_RecoverLog.f k a0_0 a0_1 = some (r1, r2, r3, r4)) :
  Calls Tryd.prog 14 #[.agg #[.string a0_0, .string a0_1]] w fun e w' => e = .returned (.tuple #[.agg #[.string r1, .string r2], .int .i64 r3, .int .i64 r4]) ∧ Below w.heap.size w w' := by
 have hu25 := Tryd.underlying25
 have HB := Aside0.mk (Below.refl w.heap.size w)
 have HG := Aside0.mk hG
 clear hG
 have H : ((impl_validLog.f k a0_0 a0_1).bind fun t336 => (if t336 = true then ((impl_ReadFrames.f k a0_0).bind fun bt337 => (if (wrap64 ((a0_0.size : Int) - bt337.2)) > 0 then (if a0_1.toList = ([] : List UInt8) then (if 0 ≤ bt337.2 then (if bt337.2 ≤ (a0_0.size : Int) then (some (a0_0.extract 0 (bt337.2 : Int).toNat, a0_1, wrap64 ((a0_0.size : Int) - bt337.2), 0)) else (none)) else (none)) else (some ((⟨#[]⟩ : ByteArray), (⟨#[]⟩ : ByteArray), 0, 6))) else (if 0 ≤ bt337.2 then (if bt337.2 ≤ (a0_0.size : Int) then (some (a0_0.extract 0 (bt337.2 : Int).toNat, a0_1, wrap64 ((a0_0.size : Int) - bt337.2), 0)) else (none)) else (none)))) else (some ((⟨#[]⟩ : ByteArray), (⟨#[]⟩ : ByteArray), 0, 1)))) = some (r1, r2, r3, r4) := h
 clear h
 replace H := Option.bind_eq_some_iff.mp H
 obtain ⟨t336, A20, H⟩ := H
 have A2 := Aside0.mk A20
 clear A20
 by_cases c3 : t336 = true
 ·subst c3
  rw [if_pos rfl] at H
  replace H := Option.bind_eq_some_iff.mp H
  obtain ⟨⟨t337, t338⟩, A40, H⟩ := H
  dsimp only at H
  have A4 := Aside0.mk A40
  clear A40
  by_cases c5 : (wrap64 ((a0_0.size : Int) - t338)) > 0
  ·rw [if_pos c5] at H
   have c5b0 : decide (0 < (wrap64 ((a0_0.size : Int) - t338))) = true := decide_eq_true c5
   clear c5
   by_cases c6 : a0_1.toList = ([] : List UInt8)
   ·rw [if_pos c6] at H
    have c6b0 : (a0_1.toList == ([] : List UInt8)) = true := beq_iff_eq.mpr c6
    have c6b1 : (a0_1.toList != ([] : List UInt8)) = false := bne_eq_false_iff_eq.mpr c6
    clear c6
    by_cases c7 : 0 ≤ t338
    ·rw [if_pos c7] at H
     have c7b0 := eq_true c7
     have c7b1 : decide (0 ≤ t338) = true := decide_eq_true c7
     clear c7
     by_cases c8 : t338 ≤ (a0_0.size : Int)
     ·rw [if_pos c8] at H
      have c8b0 := eq_true c8
      have c8b1 : decide (t338 ≤ (a0_0.size : Int)) = true := decide_eq_true c8
      clear c8
      simp only [Option.some.injEq, Prod.mk.injEq] at H
      obtain ⟨rfl, rfl, rfl, rfl⟩ := H
      go_enter Tryd.func14, Tryd.ntmps14
      try go_wp2_with (first | ((with_reducible refine gate_dst (N := 1) rfl ?_); refine box_event ?hg (N := 1) ?hd (cs := #[.string a0_0, .string a0_1]) (t := 25) ?hr ?_; (case hd => rfl); (case hg => rfl); (case hr => exact zq1); intro gb334 hg w9 hbox hb; have BK334 := Aside0.mk (hbox); have GW334 := gsz hg; have GE334 := gsz hg; replace HB := bs hb; clear hb hbox hg) | ((with_reducible refine gate_dst (N := 2) rfl ?_); refine box_event ?hg (N := 2) ?hd (cs := #[.string (⟨#[]⟩ : ByteArray), .string (⟨#[]⟩ : ByteArray)]) (t := 25) ?hr ?_; (case hd => rfl); (case hg => rfl); (case hr => exact zq1); intro gb335 hg w10 hbox hb; have BK335 := Aside0.mk (hbox); have GW335 := gsz hg; have GE335 := gsz hg; replace HB := bs hb; have NB334_335 := nlt BK334 hg; have NB335_334 := ngt BK334 hg; replace BK334 := kb BK334 hb; clear hb hbox hg; have hnb11 := NB334_335.out; have hnc11 := NB335_334.out; have hcz12_0 := cz BK334 0 rfl; have hcz12_1 := cz BK334 1 rfl; have hfz12_0 := blk_frozen BK334.out 0; have hfz12_1 := blk_frozen BK334.out 1) | ((with_reducible refine gate_callee (f := 51) rfl ?_); refine goq (some 9) Tryd.func51 #[.agg #[.string a0_0, .string a0_1]] ?_; (with_reducible refine (impl_validLog.calls k a0_0 a0_1 true _ ?side1 A2.out).mono ?_); (case side1 => exact (GF.below HG.out bl)); rintro e w13 ⟨rfl, hb⟩; refine ⟨_, rfl, ?_⟩; replace BK334 := kb BK334 hb; replace BK335 := kb BK335 hb; replace HB := bs hb; (try clear hb); have hcz14_0 := cz BK334 0 rfl; have hcz14_1 := cz BK334 1 rfl; have hfz14_0 := blk_frozen BK334.out 0; have hfz14_1 := blk_frozen BK334.out 1) | ((with_reducible refine gate_callee (f := 25) rfl ?_); refine goq (some 15) Tryd.func25 #[.string a0_0] ?_; (with_reducible refine (impl_ReadFrames.calls k a0_0 t337 t338 _ ?side1 A4.out).mono ?_); (case side1 => exact (GF.below HG.out bl)); rintro e w15 ⟨v339, rfl, ho0, hb⟩; refine ⟨_, rfl, ?_⟩; have HO340 := Aside0.mk (Kd.R_lower ho0 (below_size bl)); replace BK334 := kb BK334 hb; replace BK335 := kb BK335 hb; replace HB := bs hb; (try clear hb); (try clear ho0); have hcz16_0 := cz BK334 0 rfl; have hcz16_1 := cz BK334 1 rfl; have hfz16_0 := blk_frozen BK334.out 0; have hfz16_1 := blk_frozen BK334.out 1))
      replace HO340 := Aside0.mk (Kd.R_drew HO340.out)
      replace BK334 := Aside0.mk (blk_drew BK334.out)
      replace BK335 := Aside0.mk (blk_drew BK335.out)
      replace HB := Aside0.mk (below_drew1 HB.out)
      refine start_ (n := 11) (S := fun w' => w'.cell? ⟨gb334, 0, none⟩ = some (.string a0_0) ∧ w'.cell? ⟨gb334, 1, none⟩ = some (.string a0_1)) (ds := []) #[false, false, false, false, false, false, false, false, false, false, false] (by kernel_rfl) rfl rfl ⟨(blk_cell BK334.out 0).trans rfl, (blk_cell BK334.out 1).trans rfl⟩ (fun hHeld => ?_); refine with_tabW impl_RecoverLog.tab7 impl_RecoverLog.bits7 (fun HT_ HW_ => ?_)
      generalize w15.drew = w17 at HO340 BK334 BK335 HB hHeld ⊢
      refine pu (i := 0) (N := some 31) (l' := #[true, false, false, false, false, false, false, false, false, false, false]) HT_ ?_
      refine pu (i := 2) (N := some 33) (l' := #[true, false, true, false, false, false, false, false, false, false, false]) HT_ ?_
      refine pu (i := 4) (N := some 35) (l' := #[true, false, true, false, true, false, false, false, false, false, false]) HT_ ?_
      refine pu (i := 7) (N := some 38) (l' := #[true, false, true, false, true, false, false, true, false, false, false]) HT_ ?_
      refine take_ (i := 1) (N := some 32) (v := ?_) (a' := ?_) #[true, true, true, false, true, false, false, true, false, false, false] rfl rfl (take_ofW HT_.out HW_.out (by kernel_rfl)) (fun _ _ _ h => h) (Or.inl ⟨by rfl, ?_⟩) hHeld ?_ ?_
      rotate_left
      ·rintro w' ⟨s0, s1⟩
       go_simp
       with_reducible rfl
      rotate_left
      ·simp only [Act.put, List.setIfInBounds_toArray, List.set_cons_zero, List.set_cons_succ, i64_w, i32_w]
       rfl
      refine pu (i := 3) (N := some 34) (l' := #[true, true, true, true, true, false, false, true, false, false, false]) HT_ ?_
      refine take_ (i := 5) (N := some 36) (v := ?_) (a' := ?_) #[true, true, true, true, true, true, false, true, false, false, false] rfl rfl (take_ofW HT_.out HW_.out (by kernel_rfl)) (fun _ _ _ h => h) (Or.inl ⟨by rfl, ?_⟩) hHeld ?_ ?_
      rotate_left
      ·rintro w' ⟨s0, s1⟩
       go_simp
       with_reducible rfl
      rotate_left
      ·simp only [Act.put, List.setIfInBounds_toArray, List.set_cons_zero, List.set_cons_succ, i64_w, i32_w]
       rfl
      refine pu (i := 6) (N := some 37) (l' := #[true, true, true, true, true, true, true, true, false, false, false]) HT_ ?_
      refine one_ (i := 8) (N := none) #[true, true, true, true, true, true, true, true, true, false, false] rfl rfl (one_of HT_.out (by kernel_rfl)) (by decide) (fun K hK => ?_)
      have hs18 := cz BK335 0 rfl
      have hfs18 := blk_frozen BK335.out 0
      have hns18_0 := NB334_335.out
      have hms18_0 := NB335_334.out
      have hs19 := cz BK335 1 rfl
      have hfs19 := blk_frozen BK335.out 1
      have hns19_0 := NB334_335.out
      have hms19_0 := NB335_334.out
      refine skip_ (w1 := ?_) (by rfl) rfl ?_ ?_
      rotate_left
      ·go_simp
       rfl
      refine hK.out _ _ ⟨((cell_far (p := ⟨gb335, _, none⟩) NB334_335.out _).trans (((cell_far (p := ⟨gb335, _, none⟩) NB334_335.out _).trans (hHeld.1)))), ((cell_far (p := ⟨gb335, _, none⟩) NB334_335.out _).trans (((cell_far (p := ⟨gb335, _, none⟩) NB334_335.out _).trans (hHeld.2))))⟩ (fun hHeld => ?_)
      clear hK K
      refine pu (i := 9) (N := some 3) (l' := #[true, true, true, true, true, true, true, true, true, true, false]) HT_ ?_
      refine pu (i := 10) (N := some 4) (l' := #[true, true, true, true, true, true, true, true, true, true, true]) HT_ ?_
      refine done_ (done_of HT_.out (by kernel_rfl)) ?_
      try go_wp2
      refine bodyPost_ret (results_ctt rfl _ _ gb335 25 #[.string (a0_0.extract 0 (t338 : Int).toNat), .string a0_1] (0, 0) _ rfl zq50 Tryd.underlying25 rfl (by kernel_rfl)) rfl ?_
      exact ⟨er, bl⟩
     ·rw [if_neg c8] at H
      exact absurd H (by simp)
    ·rw [if_neg c7] at H
     exact absurd H (by simp)
   ·rw [if_neg c6] at H
    have c6b0 : (a0_1.toList == ([] : List UInt8)) = false := beq_eq_false_iff_ne.mpr c6
    have c6b1 : (a0_1.toList != ([] : List UInt8)) = true := bne_iff_ne.mpr c6
    simp only [Option.some.injEq, Prod.mk.injEq] at H
    obtain ⟨rfl, rfl, rfl, rfl⟩ := H
    go_enter Tryd.func14, Tryd.ntmps14
    go_wp2_with (first | ((with_reducible refine gate_dst (N := 1) rfl ?_); refine box_event ?hg (N := 1) ?hd (cs := #[.string a0_0, .string a0_1]) (t := 25) ?hr ?_; (case hd => rfl); (case hg => rfl); (case hr => exact zq1); intro gb334 hg w20 hbox hb; have BK334 := Aside0.mk (hbox); have GW334 := gsz hg; have GE334 := gsz hg; replace HB := bs hb; clear hb hbox hg) | ((with_reducible refine gate_dst (N := 2) rfl ?_); refine box_event ?hg (N := 2) ?hd (cs := #[.string (⟨#[]⟩ : ByteArray), .string (⟨#[]⟩ : ByteArray)]) (t := 25) ?hr ?_; (case hd => rfl); (case hg => rfl); (case hr => exact zq1); intro gb335 hg w21 hbox hb; have BK335 := Aside0.mk (hbox); have GW335 := gsz hg; have GE335 := gsz hg; replace HB := bs hb; have NB334_335 := nlt BK334 hg; have NB335_334 := ngt BK334 hg; replace BK334 := kb BK334 hb; clear hb hbox hg; have hnb22 := NB334_335.out; have hnc22 := NB335_334.out; have hcz23_0 := cz BK334 0 rfl; have hcz23_1 := cz BK334 1 rfl; have hfz23_0 := blk_frozen BK334.out 0; have hfz23_1 := blk_frozen BK334.out 1) | ((with_reducible refine gate_callee (f := 51) rfl ?_); refine goq (some 9) Tryd.func51 #[.agg #[.string a0_0, .string a0_1]] ?_; (with_reducible refine (impl_validLog.calls k a0_0 a0_1 true _ ?side1 A2.out).mono ?_); (case side1 => exact (GF.below HG.out bl)); rintro e w24 ⟨rfl, hb⟩; refine ⟨_, rfl, ?_⟩; replace BK334 := kb BK334 hb; replace BK335 := kb BK335 hb; replace HB := bs hb; (try clear hb); have hcz25_0 := cz BK334 0 rfl; have hcz25_1 := cz BK334 1 rfl; have hfz25_0 := blk_frozen BK334.out 0; have hfz25_1 := blk_frozen BK334.out 1) | ((with_reducible refine gate_callee (f := 25) rfl ?_); refine goq (some 15) Tryd.func25 #[.string a0_0] ?_; (with_reducible refine (impl_ReadFrames.calls k a0_0 t337 t338 _ ?side1 A4.out).mono ?_); (case side1 => exact (GF.below HG.out bl)); rintro e w26 ⟨v339, rfl, ho0, hb⟩; refine ⟨_, rfl, ?_⟩; have HO340 := Aside0.mk (Kd.R_lower ho0 (below_size bl)); replace BK334 := kb BK334 hb; replace BK335 := kb BK335 hb; replace HB := bs hb; (try clear hb); (try clear ho0); have hcz27_0 := cz BK334 0 rfl; have hcz27_1 := cz BK334 1 rfl; have hfz27_0 := blk_frozen BK334.out 0; have hfz27_1 := blk_frozen BK334.out 1; have hcz28_0 := cz BK335 0 rfl; have hcz28_1 := cz BK335 1 rfl; have hfz28_0 := blk_frozen BK335.out 0; have hfz28_1 := blk_frozen BK335.out 1))
    refine bodyPost_ret (results_ctt rfl _ _ gb335 25 #[.string (⟨#[]⟩ : ByteArray), .string (⟨#[]⟩ : ByteArray)] (0, 0) _ rfl zq13 Tryd.underlying25 rfl (by kernel_rfl)) rfl ?_
    exact ⟨er, bl⟩
  ·rw [if_neg c5] at H
   have c5b0 : decide (0 < (wrap64 ((a0_0.size : Int) - t338))) = false := decide_eq_false c5
   clear c5
   by_cases c29 : 0 ≤ t338
   ·rw [if_pos c29] at H
    have c29b0 := eq_true c29
    have c29b1 : decide (0 ≤ t338) = true := decide_eq_true c29
    clear c29
    by_cases c30 : t338 ≤ (a0_0.size : Int)
    ·rw [if_pos c30] at H
     have c30b0 := eq_true c30
     have c30b1 : decide (t338 ≤ (a0_0.size : Int)) = true := decide_eq_true c30
     clear c30
     simp only [Option.some.injEq, Prod.mk.injEq] at H
     obtain ⟨rfl, rfl, rfl, rfl⟩ := H
     go_enter Tryd.func14, Tryd.ntmps14
     try go_wp2_with (first | ((with_reducible refine gate_dst (N := 1) rfl ?_); refine box_event ?hg (N := 1) ?hd (cs := #[.string a0_0, .string a0_1]) (t := 25) ?hr ?_; (case hd => rfl); (case hg => rfl); (case hr => exact zq1); intro gb334 hg w31 hbox hb; have BK334 := Aside0.mk (hbox); have GW334 := gsz hg; have GE334 := gsz hg; replace HB := bs hb; clear hb hbox hg) | ((with_reducible refine gate_dst (N := 2) rfl ?_); refine box_event ?hg (N := 2) ?hd (cs := #[.string (⟨#[]⟩ : ByteArray), .string (⟨#[]⟩ : ByteArray)]) (t := 25) ?hr ?_; (case hd => rfl); (case hg => rfl); (case hr => exact zq1); intro gb335 hg w32 hbox hb; have BK335 := Aside0.mk (hbox); have GW335 := gsz hg; have GE335 := gsz hg; replace HB := bs hb; have NB334_335 := nlt BK334 hg; have NB335_334 := ngt BK334 hg; replace BK334 := kb BK334 hb; clear hb hbox hg; have hnb33 := NB334_335.out; have hnc33 := NB335_334.out; have hcz34_0 := cz BK334 0 rfl; have hcz34_1 := cz BK334 1 rfl; have hfz34_0 := blk_frozen BK334.out 0; have hfz34_1 := blk_frozen BK334.out 1) | ((with_reducible refine gate_callee (f := 51) rfl ?_); refine goq (some 9) Tryd.func51 #[.agg #[.string a0_0, .string a0_1]] ?_; (with_reducible refine (impl_validLog.calls k a0_0 a0_1 true _ ?side1 A2.out).mono ?_); (case side1 => exact (GF.below HG.out bl)); rintro e w35 ⟨rfl, hb⟩; refine ⟨_, rfl, ?_⟩; replace BK334 := kb BK334 hb; replace BK335 := kb BK335 hb; replace HB := bs hb; (try clear hb); have hcz36_0 := cz BK334 0 rfl; have hcz36_1 := cz BK334 1 rfl; have hfz36_0 := blk_frozen BK334.out 0; have hfz36_1 := blk_frozen BK334.out 1) | ((with_reducible refine gate_callee (f := 25) rfl ?_); refine goq (some 15) Tryd.func25 #[.string a0_0] ?_; (with_reducible refine (impl_ReadFrames.calls k a0_0 t337 t338 _ ?side1 A4.out).mono ?_); (case side1 => exact (GF.below HG.out bl)); rintro e w37 ⟨v339, rfl, ho0, hb⟩; refine ⟨_, rfl, ?_⟩; have HO340 := Aside0.mk (Kd.R_lower ho0 (below_size bl)); replace BK334 := kb BK334 hb; replace BK335 := kb BK335 hb; replace HB := bs hb; (try clear hb); (try clear ho0); have hcz38_0 := cz BK334 0 rfl; have hcz38_1 := cz BK334 1 rfl; have hfz38_0 := blk_frozen BK334.out 0; have hfz38_1 := blk_frozen BK334.out 1))
     replace HO340 := Aside0.mk (Kd.R_drew HO340.out)
     replace BK334 := Aside0.mk (blk_drew BK334.out)
     replace BK335 := Aside0.mk (blk_drew BK335.out)
     replace HB := Aside0.mk (below_drew1 HB.out)
     refine start_ (n := 11) (S := fun w' => w'.cell? ⟨gb334, 0, none⟩ = some (.string a0_0) ∧ w'.cell? ⟨gb334, 1, none⟩ = some (.string a0_1)) (ds := []) #[false, false, false, false, false, false, false, false, false, false, false] (by kernel_rfl) rfl rfl ⟨(blk_cell BK334.out 0).trans rfl, (blk_cell BK334.out 1).trans rfl⟩ (fun hHeld => ?_); refine with_tabW impl_RecoverLog.tab7 impl_RecoverLog.bits7 (fun HT_ HW_ => ?_)
     generalize w37.drew = w39 at HO340 BK334 BK335 HB hHeld ⊢
     refine pu (i := 0) (N := some 31) (l' := #[true, false, false, false, false, false, false, false, false, false, false]) HT_ ?_
     refine pu (i := 2) (N := some 33) (l' := #[true, false, true, false, false, false, false, false, false, false, false]) HT_ ?_
     refine pu (i := 4) (N := some 35) (l' := #[true, false, true, false, true, false, false, false, false, false, false]) HT_ ?_
     refine pu (i := 7) (N := some 38) (l' := #[true, false, true, false, true, false, false, true, false, false, false]) HT_ ?_
     refine take_ (i := 1) (N := some 32) (v := ?_) (a' := ?_) #[true, true, true, false, true, false, false, true, false, false, false] rfl rfl (take_ofW HT_.out HW_.out (by kernel_rfl)) (fun _ _ _ h => h) (Or.inl ⟨by rfl, ?_⟩) hHeld ?_ ?_
     rotate_left
     ·rintro w' ⟨s0, s1⟩
      go_simp
      with_reducible rfl
     rotate_left
     ·simp only [Act.put, List.setIfInBounds_toArray, List.set_cons_zero, List.set_cons_succ, i64_w, i32_w]
      rfl
     refine pu (i := 3) (N := some 34) (l' := #[true, true, true, true, true, false, false, true, false, false, false]) HT_ ?_
     refine take_ (i := 5) (N := some 36) (v := ?_) (a' := ?_) #[true, true, true, true, true, true, false, true, false, false, false] rfl rfl (take_ofW HT_.out HW_.out (by kernel_rfl)) (fun _ _ _ h => h) (Or.inl ⟨by rfl, ?_⟩) hHeld ?_ ?_
     rotate_left
     ·rintro w' ⟨s0, s1⟩
      go_simp
      with_reducible rfl
     rotate_left
     ·simp only [Act.put, List.setIfInBounds_toArray, List.set_cons_zero, List.set_cons_succ, i64_w, i32_w]
      rfl
     refine pu (i := 6) (N := some 37) (l' := #[true, true, true, true, true, true, true, true, false, false, false]) HT_ ?_
     refine one_ (i := 8) (N := none) #[true, true, true, true, true, true, true, true, true, false, false] rfl rfl (one_of HT_.out (by kernel_rfl)) (by decide) (fun K hK => ?_)
     have hs40 := cz BK335 0 rfl
     have hfs40 := blk_frozen BK335.out 0
     have hns40_0 := NB334_335.out
     have hms40_0 := NB335_334.out
     have hs41 := cz BK335 1 rfl
     have hfs41 := blk_frozen BK335.out 1
     have hns41_0 := NB334_335.out
     have hms41_0 := NB335_334.out
     refine skip_ (w1 := ?_) (by rfl) rfl ?_ ?_
     rotate_left
     ·go_simp
      rfl
     refine hK.out _ _ ⟨((cell_far (p := ⟨gb335, _, none⟩) NB334_335.out _).trans (((cell_far (p := ⟨gb335, _, none⟩) NB334_335.out _).trans (hHeld.1)))), ((cell_far (p := ⟨gb335, _, none⟩) NB334_335.out _).trans (((cell_far (p := ⟨gb335, _, none⟩) NB334_335.out _).trans (hHeld.2))))⟩ (fun hHeld => ?_)
     clear hK K
     refine pu (i := 9) (N := some 3) (l' := #[true, true, true, true, true, true, true, true, true, true, false]) HT_ ?_
     refine pu (i := 10) (N := some 4) (l' := #[true, true, true, true, true, true, true, true, true, true, true]) HT_ ?_
     refine done_ (done_of HT_.out (by kernel_rfl)) ?_
     try go_wp2
     refine bodyPost_ret (results_ctt rfl _ _ gb335 25 #[.string (a0_0.extract 0 (t338 : Int).toNat), .string a0_1] (0, 0) _ rfl zq50 Tryd.underlying25 rfl (by kernel_rfl)) rfl ?_
     exact ⟨er, bl⟩
    ·rw [if_neg c30] at H
     exact absurd H (by simp)
   ·rw [if_neg c29] at H
    exact absurd H (by simp)
 ·replace c3 := Bool.eq_false_iff.mpr c3
  subst c3
  rw [if_neg (show ¬ (false = true) by decide)] at H
  simp only [Option.some.injEq, Prod.mk.injEq] at H
  obtain ⟨rfl, rfl, rfl, rfl⟩ := H
  go_enter Tryd.func14, Tryd.ntmps14
  go_wp2_with (first | ((with_reducible refine gate_dst (N := 1) rfl ?_); refine box_event ?hg (N := 1) ?hd (cs := #[.string a0_0, .string a0_1]) (t := 25) ?hr ?_; (case hd => rfl); (case hg => rfl); (case hr => exact zq1); intro gb334 hg w42 hbox hb; have BK334 := Aside0.mk (hbox); have GW334 := gsz hg; have GE334 := gsz hg; replace HB := bs hb; clear hb hbox hg) | ((with_reducible refine gate_dst (N := 2) rfl ?_); refine box_event ?hg (N := 2) ?hd (cs := #[.string (⟨#[]⟩ : ByteArray), .string (⟨#[]⟩ : ByteArray)]) (t := 25) ?hr ?_; (case hd => rfl); (case hg => rfl); (case hr => exact zq1); intro gb335 hg w43 hbox hb; have BK335 := Aside0.mk (hbox); have GW335 := gsz hg; have GE335 := gsz hg; replace HB := bs hb; have NB334_335 := nlt BK334 hg; have NB335_334 := ngt BK334 hg; replace BK334 := kb BK334 hb; clear hb hbox hg; have hnb44 := NB334_335.out; have hnc44 := NB335_334.out; have hcz45_0 := cz BK334 0 rfl; have hcz45_1 := cz BK334 1 rfl; have hfz45_0 := blk_frozen BK334.out 0; have hfz45_1 := blk_frozen BK334.out 1) | ((with_reducible refine gate_callee (f := 51) rfl ?_); refine goq (some 9) Tryd.func51 #[.agg #[.string a0_0, .string a0_1]] ?_; (with_reducible refine (impl_validLog.calls k a0_0 a0_1 false _ ?side1 A2.out).mono ?_); (case side1 => exact (GF.below HG.out bl)); rintro e w46 ⟨rfl, hb⟩; refine ⟨_, rfl, ?_⟩; replace BK334 := kb BK334 hb; replace BK335 := kb BK335 hb; replace HB := bs hb; (try clear hb); have hcz47_0 := cz BK335 0 rfl; have hcz47_1 := cz BK335 1 rfl; have hfz47_0 := blk_frozen BK335.out 0; have hfz47_1 := blk_frozen BK335.out 1))
  refine bodyPost_ret (results_ctt rfl _ _ gb335 25 #[.string (⟨#[]⟩ : ByteArray), .string (⟨#[]⟩ : ByteArray)] (0, 0) _ rfl zq13 Tryd.underlying25 rfl (by kernel_rfl)) rfl ?_
  exact ⟨er, bl⟩

/-! ### spec_RecoverLog: function 15 -/
def spec_RecoverLog.f (k : Nat) (a0_0 : ByteArray) (a0_1 : ByteArray) : Option (ByteArray × ByteArray × Int × Int) := (spec_l27Ok.f k [(⟨a0_0, a0_1⟩ : S25)]).bind fun t343 => (if t343 = true then ((spec_l27Read.f k a0_0).bind fun bt344 => (if bt344.2 < (a0_0.size : Int) then (if a0_1.toList = ([] : List UInt8) then (if 0 ≤ bt344.2 then (if bt344.2 ≤ (a0_0.size : Int) then (some (a0_0.extract 0 (bt344.2 : Int).toNat, a0_1, wrap64 ((a0_0.size : Int) - bt344.2), 0)) else (none)) else (none)) else (some ((⟨#[]⟩ : ByteArray), (⟨#[]⟩ : ByteArray), 0, 6))) else (if 0 ≤ bt344.2 then (if bt344.2 ≤ (a0_0.size : Int) then (some (a0_0.extract 0 (bt344.2 : Int).toNat, a0_1, wrap64 ((a0_0.size : Int) - bt344.2), 0)) else (none)) else (none)))) else (some ((⟨#[]⟩ : ByteArray), (⟨#[]⟩ : ByteArray), 0, 1)))
def spec_RecoverLog.T6 : Bool × List (List Nat × List Nat) := (true, [([], []), ([0], [0]), ([], []), ([1, 2], [1, 2]), ([], []), ([4], [4]), ([3, 5], [3, 5]), ([], []), ([7], [7]), ([8], [8]), ([], []), ([9, 10], [9, 10]), ([6, 0, 1, 2, 3, 4, 5, 6], [6]), ([11, 12, 0, 1, 2, 3, 4, 5, 6, 7, 8, 9, 10, 11, 12], [11]), ([13, 0, 1, 2, 3, 4, 5, 6, 7, 8, 9, 10, 11, 12, 13], [])])
def spec_RecoverLog.B6 : List Nat := [0, 1, 0, 7, 0, 16, 63, 0, 128, 384, 0, 1920, 127, 8191, 16383]
theorem spec_RecoverLog.tab6 : rtab .any (opsOf Tryd.f15 6) = spec_RecoverLog.T6 := by kernel_rfl
theorem spec_RecoverLog.bits6 : waitsOk spec_RecoverLog.T6.2 spec_RecoverLog.B6 = true := by kernel_rfl
set_option maxHeartbeats 8000000 in
set_option maxRecDepth 100000 in
theorem spec_RecoverLog.calls (k : Nat) (a0_0 : ByteArray) (a0_1 : ByteArray) (r1 : ByteArray) (r2 : ByteArray) (r3 : Int) (r4 : Int) (w : World) (h : spec_RecoverLog.f k a0_0 a0_1 = some (r1, r2, r3, r4)) :
  Calls Tryd.prog 15 #[.agg #[.string a0_0, .string a0_1]] w fun e w' => e = .returned (.tuple #[.agg #[.string r1, .string r2], .int .i64 r3, .int .i64 r4]) ∧ Below w.heap.size w w' := by
 have hu25 := Tryd.underlying25
 have HB := Aside0.mk (Below.refl w.heap.size w)
 have H : ((spec_l27Ok.f k [(⟨a0_0, a0_1⟩ : S25)]).bind fun t343 => (if t343 = true then ((spec_l27Read.f k a0_0).bind fun bt344 => (if bt344.2 < (a0_0.size : Int) then (if a0_1.toList = ([] : List UInt8) then (if 0 ≤ bt344.2 then (if bt344.2 ≤ (a0_0.size : Int) then (some (a0_0.extract 0 (bt344.2 : Int).toNat, a0_1, wrap64 ((a0_0.size : Int) - bt344.2), 0)) else (none)) else (none)) else (some ((⟨#[]⟩ : ByteArray), (⟨#[]⟩ : ByteArray), 0, 6))) else (if 0 ≤ bt344.2 then (if bt344.2 ≤ (a0_0.size : Int) then (some (a0_0.extract 0 (bt344.2 : Int).toNat, a0_1, wrap64 ((a0_0.size : Int) - bt344.2), 0)) else (none)) else (none)))) else (some ((⟨#[]⟩ : ByteArray), (⟨#[]⟩ : ByteArray), 0, 1)))) = some (r1, r2, r3, r4) := h
 clear h
 replace H := Option.bind_eq_some_iff.mp H
 obtain ⟨t343, A20, H⟩ := H
 have A2 := Aside0.mk A20
 clear A20
 by_cases c3 : t343 = true
 ·subst c3
  rw [if_pos rfl] at H
  replace H := Option.bind_eq_some_iff.mp H
  obtain ⟨⟨t344, t345⟩, A40, H⟩ := H
  dsimp only at H
  have A4 := Aside0.mk A40
  clear A40
  by_cases c5 : t345 < (a0_0.size : Int)
  ·rw [if_pos c5] at H
   have c5b0 : decide (t345 < (a0_0.size : Int)) = true := decide_eq_true c5
   clear c5
   by_cases c6 : a0_1.toList = ([] : List UInt8)
   ·rw [if_pos c6] at H
    have c6b0 : (a0_1.toList == ([] : List UInt8)) = true := beq_iff_eq.mpr c6
    have c6b1 : (a0_1.toList != ([] : List UInt8)) = false := bne_eq_false_iff_eq.mpr c6
    clear c6
    by_cases c7 : 0 ≤ t345
    ·rw [if_pos c7] at H
     have c7b0 := eq_true c7
     have c7b1 : decide (0 ≤ t345) = true := decide_eq_true c7
     clear c7
     by_cases c8 : t345 ≤ (a0_0.size : Int)
     ·rw [if_pos c8] at H
      have c8b0 := eq_true c8
      have c8b1 : decide (t345 ≤ (a0_0.size : Int)) = true := decide_eq_true c8
      clear c8
      simp only [Option.some.injEq, Prod.mk.injEq] at H
      obtain ⟨rfl, rfl, rfl, rfl⟩ := H
      go_enter Tryd.func15, Tryd.ntmps15
      try go_wp2_with (first | ((with_reducible refine gate_dst (N := 1) rfl ?_); refine box_event ?hg (N := 1) ?hd (cs := #[.string a0_0, .string a0_1]) (t := 25) ?hr ?_; (case hd => rfl); (case hg => rfl); (case hr => exact zq1); intro gb341 hg w9 hbox hb; have BK341 := Aside0.mk (hbox); have GW341 := gsz hg; have GE341 := gsz hg; replace HB := bs hb; clear hb hbox hg) | ((with_reducible refine gate_dst (N := 2) rfl ?_); refine box_event ?hg (N := 2) ?hd (cs := #[.string (⟨#[]⟩ : ByteArray), .string (⟨#[]⟩ : ByteArray)]) (t := 25) ?hr ?_; (case hd => rfl); (case hg => rfl); (case hr => exact zq1); intro gb342 hg w10 hbox hb; have BK342 := Aside0.mk (hbox); have GW342 := gsz hg; have GE342 := gsz hg; replace HB := bs hb; have NB341_342 := nlt BK341 hg; have NB342_341 := ngt BK341 hg; replace BK341 := kb BK341 hb; clear hb hbox hg) | ((with_reducible refine gate_callee (f := 53) rfl ?_); refine goq (some 7) Tryd.func53 #[.pointer (some ⟨gb341, 0, none⟩)] ?_; (with_reducible refine (spec_l27Ok.calls k ⟨gb341, 0, none⟩ [(⟨a0_0, a0_1⟩ : S25)] true _ ?side1 ?side2 A2.out).mono ?_); (case side1 => exact zq12); (case side2 => rfl); rintro e w11 ⟨rfl, hb⟩; refine ⟨_, rfl, ?_⟩; replace BK341 := kb BK341 hb; replace BK342 := kb BK342 hb; replace HB := bs hb; (try clear hb); have hnb12 := NB341_342.out; have hnc12 := NB342_341.out; have hcz13_0 := cz BK341 0 rfl; have hcz13_1 := cz BK341 1 rfl; have hfz13_0 := blk_frozen BK341.out 0; have hfz13_1 := blk_frozen BK341.out 1) | ((with_reducible refine gate_callee (f := 55) rfl ?_); refine goq (some 13) Tryd.func55 #[.string a0_0] ?_; (with_reducible refine (spec_l27Read.calls k a0_0 t344 t345 _ A4.out).mono ?_); rintro e w14 ⟨v346, rfl, ho0, hb⟩; refine ⟨_, rfl, ?_⟩; have HO347 := Aside0.mk (Kd.R_lower ho0 (below_size bl)); replace BK341 := kb BK341 hb; replace BK342 := kb BK342 hb; replace HB := bs hb; (try clear hb); (try clear ho0); have hcz15_0 := cz BK341 0 rfl; have hcz15_1 := cz BK341 1 rfl; have hfz15_0 := blk_frozen BK341.out 0; have hfz15_1 := blk_frozen BK341.out 1))
      replace HO347 := Aside0.mk (Kd.R_drew HO347.out)
      replace BK341 := Aside0.mk (blk_drew BK341.out)
      replace BK342 := Aside0.mk (blk_drew BK342.out)
      replace HB := Aside0.mk (below_drew1 HB.out)
      refine start_ (n := 15) (S := fun w' => w'.cell? ⟨gb341, 0, none⟩ = some (.string a0_0) ∧ w'.cell? ⟨gb341, 1, none⟩ = some (.string a0_1)) (ds := []) #[false, false, false, false, false, false, false, false, false, false, false, false, false, false, false] (by kernel_rfl) rfl rfl ⟨(blk_cell BK341.out 0).trans rfl, (blk_cell BK341.out 1).trans rfl⟩ (fun hHeld => ?_); refine with_tabW spec_RecoverLog.tab6 spec_RecoverLog.bits6 (fun HT_ HW_ => ?_)
      generalize w14.drew = w16 at HO347 BK341 BK342 HB hHeld ⊢
      refine pu (i := 0) (N := some 27) (l' := #[true, false, false, false, false, false, false, false, false, false, false, false, false, false, false]) HT_ ?_
      refine pu (i := 2) (N := some 29) (l' := #[true, false, true, false, false, false, false, false, false, false, false, false, false, false, false]) HT_ ?_
      refine pu (i := 4) (N := some 31) (l' := #[true, false, true, false, true, false, false, false, false, false, false, false, false, false, false]) HT_ ?_
      refine pu (i := 7) (N := some 34) (l' := #[true, false, true, false, true, false, false, true, false, false, false, false, false, false, false]) HT_ ?_
      refine pu (i := 10) (N := some 37) (l' := #[true, false, true, false, true, false, false, true, false, false, true, false, false, false, false]) HT_ ?_
      refine take_ (i := 1) (N := some 28) (v := ?_) (a' := ?_) #[true, true, true, false, true, false, false, true, false, false, true, false, false, false, false] rfl rfl (take_ofW HT_.out HW_.out (by kernel_rfl)) (fun _ _ _ h => h) (Or.inl ⟨by rfl, ?_⟩) hHeld ?_ ?_
      rotate_left
      ·rintro w' ⟨s0, s1⟩
       go_simp
       with_reducible rfl
      rotate_left
      ·simp only [Act.put, List.setIfInBounds_toArray, List.set_cons_zero, List.set_cons_succ, i64_w, i32_w]
       rfl
      refine pu (i := 3) (N := some 30) (l' := #[true, true, true, true, true, false, false, true, false, false, true, false, false, false, false]) HT_ ?_
      refine take_ (i := 5) (N := some 32) (v := ?_) (a' := ?_) #[true, true, true, true, true, true, false, true, false, false, true, false, false, false, false] rfl rfl (take_ofW HT_.out HW_.out (by kernel_rfl)) (fun _ _ _ h => h) (Or.inl ⟨by rfl, ?_⟩) hHeld ?_ ?_
      rotate_left
      ·rintro w' ⟨s0, s1⟩
       go_simp
       with_reducible rfl
      rotate_left
      ·simp only [Act.put, List.setIfInBounds_toArray, List.set_cons_zero, List.set_cons_succ, i64_w, i32_w]
       rfl
      refine pu (i := 6) (N := some 33) (l' := #[true, true, true, true, true, true, true, true, false, false, true, false, false, false, false]) HT_ ?_
      refine take_ (i := 8) (N := some 35) (v := ?_) (a' := ?_) #[true, true, true, true, true, true, true, true, true, false, true, false, false, false, false] rfl rfl (take_ofW HT_.out HW_.out (by kernel_rfl)) (fun _ _ _ h => h) (Or.inl ⟨by rfl, ?_⟩) hHeld ?_ ?_
      rotate_left
      ·rintro w' ⟨s0, s1⟩
       go_simp
       with_reducible rfl
      rotate_left
      ·simp only [Act.put, List.setIfInBounds_toArray, List.set_cons_zero, List.set_cons_succ, i64_w, i32_w]
       rfl
      refine pu (i := 9) (N := some 36) (l' := #[true, true, true, true, true, true, true, true, true, true, true, false, false, false, false]) HT_ ?_
      refine pu (i := 11) (N := some 38) (l' := #[true, true, true, true, true, true, true, true, true, true, true, true, false, false, false]) HT_ ?_
      refine one_ (i := 12) (N := none) #[true, true, true, true, true, true, true, true, true, true, true, true, true, false, false] rfl rfl (one_of HT_.out (by kernel_rfl)) (by decide) (fun K hK => ?_)
      have hs17 := cz BK342 0 rfl
      have hfs17 := blk_frozen BK342.out 0
      have hns17_0 := NB341_342.out
      have hms17_0 := NB342_341.out
      have hs18 := cz BK342 1 rfl
      have hfs18 := blk_frozen BK342.out 1
      have hns18_0 := NB341_342.out
      have hms18_0 := NB342_341.out
      refine skip_ (w1 := ?_) (by rfl) rfl ?_ ?_
      rotate_left
      ·go_simp
       rfl
      refine hK.out _ _ ⟨((cell_far (p := ⟨gb342, _, none⟩) NB341_342.out _).trans (((cell_far (p := ⟨gb342, _, none⟩) NB341_342.out _).trans (hHeld.1)))), ((cell_far (p := ⟨gb342, _, none⟩) NB341_342.out _).trans (((cell_far (p := ⟨gb342, _, none⟩) NB341_342.out _).trans (hHeld.2))))⟩ (fun hHeld => ?_)
      clear hK K
      refine pu (i := 13) (N := some 3) (l' := #[true, true, true, true, true, true, true, true, true, true, true, true, true, true, false]) HT_ ?_
      refine pu (i := 14) (N := some 4) (l' := #[true, true, true, true, true, true, true, true, true, true, true, true, true, true, true]) HT_ ?_
      refine done_ (done_of HT_.out (by kernel_rfl)) ?_
      try go_wp2
      refine bodyPost_ret (results_ctt rfl _ _ gb342 25 #[.string (a0_0.extract 0 (t345 : Int).toNat), .string a0_1] (0, 0) _ rfl zq51 Tryd.underlying25 rfl (by kernel_rfl)) rfl ?_
      exact ⟨er, bl⟩
     ·rw [if_neg c8] at H
      exact absurd H (by simp)
    ·rw [if_neg c7] at H
     exact absurd H (by simp)
   ·rw [if_neg c6] at H
    have c6b0 : (a0_1.toList == ([] : List UInt8)) = false := beq_eq_false_iff_ne.mpr c6
    have c6b1 : (a0_1.toList != ([] : List UInt8)) = true := bne_iff_ne.mpr c6
    simp only [Option.some.injEq, Prod.mk.injEq] at H
    obtain ⟨rfl, rfl, rfl, rfl⟩ := H
    go_enter Tryd.func15, Tryd.ntmps15
    go_wp2_with (first | ((with_reducible refine gate_dst (N := 1) rfl ?_); refine box_event ?hg (N := 1) ?hd (cs := #[.string a0_0, .string a0_1]) (t := 25) ?hr ?_; (case hd => rfl); (case hg => rfl); (case hr => exact zq1); intro gb341 hg w19 hbox hb; have BK341 := Aside0.mk (hbox); have GW341 := gsz hg; have GE341 := gsz hg; replace HB := bs hb; clear hb hbox hg) | ((with_reducible refine gate_dst (N := 2) rfl ?_); refine box_event ?hg (N := 2) ?hd (cs := #[.string (⟨#[]⟩ : ByteArray), .string (⟨#[]⟩ : ByteArray)]) (t := 25) ?hr ?_; (case hd => rfl); (case hg => rfl); (case hr => exact zq1); intro gb342 hg w20 hbox hb; have BK342 := Aside0.mk (hbox); have GW342 := gsz hg; have GE342 := gsz hg; replace HB := bs hb; have NB341_342 := nlt BK341 hg; have NB342_341 := ngt BK341 hg; replace BK341 := kb BK341 hb; clear hb hbox hg) | ((with_reducible refine gate_callee (f := 53) rfl ?_); refine goq (some 7) Tryd.func53 #[.pointer (some ⟨gb341, 0, none⟩)] ?_; (with_reducible refine (spec_l27Ok.calls k ⟨gb341, 0, none⟩ [(⟨a0_0, a0_1⟩ : S25)] true _ ?side1 ?side2 A2.out).mono ?_); (case side1 => exact zq12); (case side2 => rfl); rintro e w21 ⟨rfl, hb⟩; refine ⟨_, rfl, ?_⟩; replace BK341 := kb BK341 hb; replace BK342 := kb BK342 hb; replace HB := bs hb; (try clear hb); have hnb22 := NB341_342.out; have hnc22 := NB342_341.out; have hcz23_0 := cz BK341 0 rfl; have hcz23_1 := cz BK341 1 rfl; have hfz23_0 := blk_frozen BK341.out 0; have hfz23_1 := blk_frozen BK341.out 1) | ((with_reducible refine gate_callee (f := 55) rfl ?_); refine goq (some 13) Tryd.func55 #[.string a0_0] ?_; (with_reducible refine (spec_l27Read.calls k a0_0 t344 t345 _ A4.out).mono ?_); rintro e w24 ⟨v346, rfl, ho0, hb⟩; refine ⟨_, rfl, ?_⟩; have HO347 := Aside0.mk (Kd.R_lower ho0 (below_size bl)); replace BK341 := kb BK341 hb; replace BK342 := kb BK342 hb; replace HB := bs hb; (try clear hb); (try clear ho0); have hcz25_0 := cz BK341 0 rfl; have hcz25_1 := cz BK341 1 rfl; have hfz25_0 := blk_frozen BK341.out 0; have hfz25_1 := blk_frozen BK341.out 1; have hcz26_0 := cz BK342 0 rfl; have hcz26_1 := cz BK342 1 rfl; have hfz26_0 := blk_frozen BK342.out 0; have hfz26_1 := blk_frozen BK342.out 1))
    refine bodyPost_ret (results_ctt rfl _ _ gb342 25 #[.string (⟨#[]⟩ : ByteArray), .string (⟨#[]⟩ : ByteArray)] (0, 0) _ rfl zq13 Tryd.underlying25 rfl (by kernel_rfl)) rfl ?_
    exact ⟨er, bl⟩
  ·rw [if_neg c5] at H
   have c5b0 : decide (t345 < (a0_0.size : Int)) = false := decide_eq_false c5
   clear c5
   by_cases c27 : 0 ≤ t345
   ·rw [if_pos c27] at H
    have c27b0 := eq_true c27
    have c27b1 : decide (0 ≤ t345) = true := decide_eq_true c27
    clear c27
    by_cases c28 : t345 ≤ (a0_0.size : Int)
    ·rw [if_pos c28] at H
     have c28b0 := eq_true c28
     have c28b1 : decide (t345 ≤ (a0_0.size : Int)) = true := decide_eq_true c28
     clear c28
     simp only [Option.some.injEq, Prod.mk.injEq] at H
     obtain ⟨rfl, rfl, rfl, rfl⟩ := H
     go_enter Tryd.func15, Tryd.ntmps15
     try go_wp2_with (first | ((with_reducible refine gate_dst (N := 1) rfl ?_); refine box_event ?hg (N := 1) ?hd (cs := #[.string a0_0, .string a0_1]) (t := 25) ?hr ?_; (case hd => rfl); (case hg => rfl); (case hr => exact zq1); intro gb341 hg w29 hbox hb; have BK341 := Aside0.mk (hbox); have GW341 := gsz hg; have GE341 := gsz hg; replace HB := bs hb; clear hb hbox hg) | ((with_reducible refine gate_dst (N := 2) rfl ?_); refine box_event ?hg (N := 2) ?hd (cs := #[.string (⟨#[]⟩ : ByteArray), .string (⟨#[]⟩ : ByteArray)]) (t := 25) ?hr ?_; (case hd => rfl); (case hg => rfl); (case hr => exact zq1); intro gb342 hg w30 hbox hb; have BK342 := Aside0.mk (hbox); have GW342 := gsz hg; have GE342 := gsz hg; replace HB := bs hb; have NB341_342 := nlt BK341 hg; have NB342_341 := ngt BK341 hg; replace BK341 := kb BK341 hb; clear hb hbox hg) | ((with_reducible refine gate_callee (f := 53) rfl ?_); refine goq (some 7) Tryd.func53 #[.pointer (some ⟨gb341, 0, none⟩)] ?_; (with_reducible refine (spec_l27Ok.calls k ⟨gb341, 0, none⟩ [(⟨a0_0, a0_1⟩ : S25)] true _ ?side1 ?side2 A2.out).mono ?_); (case side1 => exact zq12); (case side2 => rfl); rintro e w31 ⟨rfl, hb⟩; refine ⟨_, rfl, ?_⟩; replace BK341 := kb BK341 hb; replace BK342 := kb BK342 hb; replace HB := bs hb; (try clear hb); have hnb32 := NB341_342.out; have hnc32 := NB342_341.out; have hcz33_0 := cz BK341 0 rfl; have hcz33_1 := cz BK341 1 rfl; have hfz33_0 := blk_frozen BK341.out 0; have hfz33_1 := blk_frozen BK341.out 1) | ((with_reducible refine gate_callee (f := 55) rfl ?_); refine goq (some 13) Tryd.func55 #[.string a0_0] ?_; (with_reducible refine (spec_l27Read.calls k a0_0 t344 t345 _ A4.out).mono ?_); rintro e w34 ⟨v346, rfl, ho0, hb⟩; refine ⟨_, rfl, ?_⟩; have HO347 := Aside0.mk (Kd.R_lower ho0 (below_size bl)); replace BK341 := kb BK341 hb; replace BK342 := kb BK342 hb; replace HB := bs hb; (try clear hb); (try clear ho0); have hcz35_0 := cz BK341 0 rfl; have hcz35_1 := cz BK341 1 rfl; have hfz35_0 := blk_frozen BK341.out 0; have hfz35_1 := blk_frozen BK341.out 1))
     replace HO347 := Aside0.mk (Kd.R_drew HO347.out)
     replace BK341 := Aside0.mk (blk_drew BK341.out)
     replace BK342 := Aside0.mk (blk_drew BK342.out)
     replace HB := Aside0.mk (below_drew1 HB.out)
     refine start_ (n := 15) (S := fun w' => w'.cell? ⟨gb341, 0, none⟩ = some (.string a0_0) ∧ w'.cell? ⟨gb341, 1, none⟩ = some (.string a0_1)) (ds := []) #[false, false, false, false, false, false, false, false, false, false, false, false, false, false, false] (by kernel_rfl) rfl rfl ⟨(blk_cell BK341.out 0).trans rfl, (blk_cell BK341.out 1).trans rfl⟩ (fun hHeld => ?_); refine with_tabW spec_RecoverLog.tab6 spec_RecoverLog.bits6 (fun HT_ HW_ => ?_)
     generalize w34.drew = w36 at HO347 BK341 BK342 HB hHeld ⊢
     refine pu (i := 0) (N := some 27) (l' := #[true, false, false, false, false, false, false, false, false, false, false, false, false, false, false]) HT_ ?_
     refine pu (i := 2) (N := some 29) (l' := #[true, false, true, false, false, false, false, false, false, false, false, false, false, false, false]) HT_ ?_
     refine pu (i := 4) (N := some 31) (l' := #[true, false, true, false, true, false, false, false, false, false, false, false, false, false, false]) HT_ ?_
     refine pu (i := 7) (N := some 34) (l' := #[true, false, true, false, true, false, false, true, false, false, false, false, false, false, false]) HT_ ?_
     refine pu (i := 10) (N := some 37) (l' := #[true, false, true, false, true, false, false, true, false, false, true, false, false, false, false]) HT_ ?_
     refine take_ (i := 1) (N := some 28) (v := ?_) (a' := ?_) #[true, true, true, false, true, false, false, true, false, false, true, false, false, false, false] rfl rfl (take_ofW HT_.out HW_.out (by kernel_rfl)) (fun _ _ _ h => h) (Or.inl ⟨by rfl, ?_⟩) hHeld ?_ ?_
     rotate_left
     ·rintro w' ⟨s0, s1⟩
      go_simp
      with_reducible rfl
     rotate_left
     ·simp only [Act.put, List.setIfInBounds_toArray, List.set_cons_zero, List.set_cons_succ, i64_w, i32_w]
      rfl
     refine pu (i := 3) (N := some 30) (l' := #[true, true, true, true, true, false, false, true, false, false, true, false, false, false, false]) HT_ ?_
     refine take_ (i := 5) (N := some 32) (v := ?_) (a' := ?_) #[true, true, true, true, true, true, false, true, false, false, true, false, false, false, false] rfl rfl (take_ofW HT_.out HW_.out (by kernel_rfl)) (fun _ _ _ h => h) (Or.inl ⟨by rfl, ?_⟩) hHeld ?_ ?_
     rotate_left
     ·rintro w' ⟨s0, s1⟩
      go_simp
      with_reducible rfl
     rotate_left
     ·simp only [Act.put, List.setIfInBounds_toArray, List.set_cons_zero, List.set_cons_succ, i64_w, i32_w]
      rfl
     refine pu (i := 6) (N := some 33) (l' := #[true, true, true, true, true, true, true, true, false, false, true, false, false, false, false]) HT_ ?_
     refine take_ (i := 8) (N := some 35) (v := ?_) (a' := ?_) #[true, true, true, true, true, true, true, true, true, false, true, false, false, false, false] rfl rfl (take_ofW HT_.out HW_.out (by kernel_rfl)) (fun _ _ _ h => h) (Or.inl ⟨by rfl, ?_⟩) hHeld ?_ ?_
     rotate_left
     ·rintro w' ⟨s0, s1⟩
      go_simp
      with_reducible rfl
     rotate_left
     ·simp only [Act.put, List.setIfInBounds_toArray, List.set_cons_zero, List.set_cons_succ, i64_w, i32_w]
      rfl
     refine pu (i := 9) (N := some 36) (l' := #[true, true, true, true, true, true, true, true, true, true, true, false, false, false, false]) HT_ ?_
     refine pu (i := 11) (N := some 38) (l' := #[true, true, true, true, true, true, true, true, true, true, true, true, false, false, false]) HT_ ?_
     refine one_ (i := 12) (N := none) #[true, true, true, true, true, true, true, true, true, true, true, true, true, false, false] rfl rfl (one_of HT_.out (by kernel_rfl)) (by decide) (fun K hK => ?_)
     have hs37 := cz BK342 0 rfl
     have hfs37 := blk_frozen BK342.out 0
     have hns37_0 := NB341_342.out
     have hms37_0 := NB342_341.out
     have hs38 := cz BK342 1 rfl
     have hfs38 := blk_frozen BK342.out 1
     have hns38_0 := NB341_342.out
     have hms38_0 := NB342_341.out
     refine skip_ (w1 := ?_) (by rfl) rfl ?_ ?_
     rotate_left
     ·go_simp
      rfl
     refine hK.out _ _ ⟨((cell_far (p := ⟨gb342, _, none⟩) NB341_342.out _).trans (((cell_far (p := ⟨gb342, _, none⟩) NB341_342.out _).trans (hHeld.1)))), ((cell_far (p := ⟨gb342, _, none⟩) NB341_342.out _).trans (((cell_far (p := ⟨gb342, _, none⟩) NB341_342.out _).trans (hHeld.2))))⟩ (fun hHeld => ?_)
     clear hK K
     refine pu (i := 13) (N := some 3) (l' := #[true, true, true, true, true, true, true, true, true, true, true, true, true, true, false]) HT_ ?_
     refine pu (i := 14) (N := some 4) (l' := #[true, true, true, true, true, true, true, true, true, true, true, true, true, true, true]) HT_ ?_
     refine done_ (done_of HT_.out (by kernel_rfl)) ?_
     try go_wp2
     refine bodyPost_ret (results_ctt rfl _ _ gb342 25 #[.string (a0_0.extract 0 (t345 : Int).toNat), .string a0_1] (0, 0) _ rfl zq51 Tryd.underlying25 rfl (by kernel_rfl)) rfl ?_
     exact ⟨er, bl⟩
    ·rw [if_neg c28] at H
     exact absurd H (by simp)
   ·rw [if_neg c27] at H
    exact absurd H (by simp)
 ·replace c3 := Bool.eq_false_iff.mpr c3
  subst c3
  rw [if_neg (show ¬ (false = true) by decide)] at H
  simp only [Option.some.injEq, Prod.mk.injEq] at H
  obtain ⟨rfl, rfl, rfl, rfl⟩ := H
  go_enter Tryd.func15, Tryd.ntmps15
  go_wp2_with (first | ((with_reducible refine gate_dst (N := 1) rfl ?_); refine box_event ?hg (N := 1) ?hd (cs := #[.string a0_0, .string a0_1]) (t := 25) ?hr ?_; (case hd => rfl); (case hg => rfl); (case hr => exact zq1); intro gb341 hg w39 hbox hb; have BK341 := Aside0.mk (hbox); have GW341 := gsz hg; have GE341 := gsz hg; replace HB := bs hb; clear hb hbox hg) | ((with_reducible refine gate_dst (N := 2) rfl ?_); refine box_event ?hg (N := 2) ?hd (cs := #[.string (⟨#[]⟩ : ByteArray), .string (⟨#[]⟩ : ByteArray)]) (t := 25) ?hr ?_; (case hd => rfl); (case hg => rfl); (case hr => exact zq1); intro gb342 hg w40 hbox hb; have BK342 := Aside0.mk (hbox); have GW342 := gsz hg; have GE342 := gsz hg; replace HB := bs hb; have NB341_342 := nlt BK341 hg; have NB342_341 := ngt BK341 hg; replace BK341 := kb BK341 hb; clear hb hbox hg) | ((with_reducible refine gate_callee (f := 53) rfl ?_); refine goq (some 7) Tryd.func53 #[.pointer (some ⟨gb341, 0, none⟩)] ?_; (with_reducible refine (spec_l27Ok.calls k ⟨gb341, 0, none⟩ [(⟨a0_0, a0_1⟩ : S25)] false _ ?side1 ?side2 A2.out).mono ?_); (case side1 => exact zq12); (case side2 => rfl); rintro e w41 ⟨rfl, hb⟩; refine ⟨_, rfl, ?_⟩; replace BK341 := kb BK341 hb; replace BK342 := kb BK342 hb; replace HB := bs hb; (try clear hb); have hnb42 := NB342_341.out; have hnc42 := NB341_342.out; have hcz43_0 := cz BK342 0 rfl; have hcz43_1 := cz BK342 1 rfl; have hfz43_0 := blk_frozen BK342.out 0; have hfz43_1 := blk_frozen BK342.out 1))
  refine bodyPost_ret (results_ctt rfl _ _ gb342 25 #[.string (⟨#[]⟩ : ByteArray), .string (⟨#[]⟩ : ByteArray)] (0, 0) _ rfl zq13 Tryd.underlying25 rfl (by kernel_rfl)) rfl ?_
  exact ⟨er, bl⟩

/-! ### impl_isWhole: function 56 -/
def impl_isWhole.f (k : Nat) (a0_0 : ByteArray) (a0_1 : ByteArray) : Option (Bool) := (impl_ReadFrames.f k a0_0).bind fun bt349 => (some (bt349.2 == (a0_0.size : Int)))
set_option maxHeartbeats 8000000 in
set_option maxRecDepth 100000 in
theorem impl_isWhole.calls (k : Nat) (a0_0 : ByteArray) (a0_1 : ByteArray) (r : Bool) (w : World) (hG : GF w) (h : impl_isWhole.f k a0_0 a0_1 = some r) :
  Calls Tryd.prog 56 #[.agg #[.string a0_0, .string a0_1]] w fun e w' => e = .returned (.bool r) ∧ Below w.heap.size w w' := by
 have hu25 := Tryd.underlying25
 have HB := Aside0.mk (Below.refl w.heap.size w)
 have HG := Aside0.mk hG
 clear hG
 have H : ((impl_ReadFrames.f k a0_0).bind fun bt349 => (some (bt349.2 == (a0_0.size : Int)))) = some r := h
 clear h
 replace H := Option.bind_eq_some_iff.mp H
 obtain ⟨⟨t349, t350⟩, A20, H⟩ := H
 replace H : (some (t350 == (a0_0.size : Int))) = some r := H
 have A2 := Aside0.mk A20
 clear A20
 obtain rfl := Option.some.inj H
 go_enter Tryd.func56, Tryd.ntmps56
 go_wp2_with (first | ((with_reducible refine gate_dst (N := 1) rfl ?_); refine box_event ?hg (N := 1) ?hd (cs := #[.string a0_0, .string a0_1]) (t := 25) ?hr ?_; (case hd => rfl); (case hg => rfl); (case hr => exact zq1); intro gb348 hg w3 hbox hb; have BK348 := Aside0.mk (hbox); have GW348 := gsz hg; have GE348 := gsz hg; replace HB := bs hb; clear hb hbox hg; have hcz4_0 := cz BK348 0 rfl; have hcz4_1 := cz BK348 1 rfl; have hfz4_0 := blk_frozen BK348.out 0; have hfz4_1 := blk_frozen BK348.out 1) | ((with_reducible refine gate_callee (f := 25) rfl ?_); refine goq (some 8) Tryd.func25 #[.string a0_0] ?_; (with_reducible refine (impl_ReadFrames.calls k a0_0 t349 t350 _ ?side1 A2.out).mono ?_); (case side1 => exact (GF.below HG.out bl)); rintro e w5 ⟨v351, rfl, ho0, hb⟩; refine ⟨_, rfl, ?_⟩; have HO352 := Aside0.mk (Kd.R_lower ho0 (below_size bl)); replace BK348 := kb BK348 hb; replace HB := bs hb; (try clear hb); (try clear ho0); have hcz6_0 := cz BK348 0 rfl; have hcz6_1 := cz BK348 1 rfl; have hfz6_0 := blk_frozen BK348.out 0; have hfz6_1 := blk_frozen BK348.out 1))
 go_ret
 exact ⟨er, bl⟩

end Go.Proofs.YtajbomiaoncgiaaDoor.QPL
