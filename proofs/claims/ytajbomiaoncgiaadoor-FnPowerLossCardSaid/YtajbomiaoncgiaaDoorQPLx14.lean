-- Written by a program of this place (wip/tools/prn.py) out of the translation, for this claim. Lean checks it.
import Derived.Test.YtajbomiaoncgiaaDoorQPLz
import Derived.Test.YtajbomiaoncgiaaDoorQPLx2
import Derived.Test.YtajbomiaoncgiaaDoorQPLx9
import Derived.Test.YtajbomiaoncgiaaDoorQPLx12
import Derived.Test.YtajbomiaoncgiaaDoorQPLx13
namespace Go.Proofs.YtajbomiaoncgiaaDoor.QPL
open Go.RowKit Go.Proofs.YtajbomiaoncgiaaDoorQ Go.Proofs.YtajbomiaoncgiaaDoorW.PrintWords Go.Proofs.YtajbomiaoncgiaaDoorW.PrintLast Go.Proofs.YtajbomiaoncgiaaDoorW.PrintMore
attribute [local go_sem] max2_int min2_int max_two min_two max_three min_three max_four min_four   -- for this text's walks alone
set_option linter.unusedVariables false
set_option linter.unusedSimpArgs false

attribute [local go_sem high] eqA39
/-! ### impl_entriesOf: function 57 -/
def impl_entriesOf.f (k : Nat) (a0_0 : ByteArray) (a0_1 : ByteArray) : Option ((List (S39))) := (impl_ReadFrames.f k a0_0).bind fun bt354 => ((impl_ReadFrames.f k a0_1).bind fun bt358 => (if bt354.1.length + bt358.1.length < 3518437208883 then (some (bt354.1 ++ bt358.1)) else (none)))
set_option maxHeartbeats 8000000 in
set_option maxRecDepth 100000 in
theorem impl_entriesOf.calls (k : Nat) (a0_0 : ByteArray) (a0_1 : ByteArray) (r : List (S39)) (w : World) (hG : GF w) (h : impl_entriesOf.f k a0_0 a0_1 = some r) :
  Calls Tryd.prog 57 #[.agg #[.string a0_0, .string a0_1]] w fun e w' => ∃ v0_ : Value, e = .returned (v0_) ∧ Kd.R k39 39 w' w.heap.size (fun _ => True) v0_ r ∧ Below w.heap.size w w' := by
 have hu25 := Tryd.underlying25
 have HB := Aside0.mk (Below.refl w.heap.size w)
 have HG := Aside0.mk hG
 clear hG
 have H : ((impl_ReadFrames.f k a0_0).bind fun bt354 => ((impl_ReadFrames.f k a0_1).bind fun bt358 => (if bt354.1.length + bt358.1.length < 3518437208883 then (some (bt354.1 ++ bt358.1)) else (none)))) = some r := h
 clear h
 replace H := Option.bind_eq_some_iff.mp H
 obtain ⟨⟨t354, t355⟩, A20, H⟩ := H
 replace H : ((impl_ReadFrames.f k a0_1).bind fun bt358 => (if t354.length + bt358.1.length < 3518437208883 then (some (t354 ++ bt358.1)) else (none))) = some r := H
 have A2 := Aside0.mk A20
 clear A20
 replace H := Option.bind_eq_some_iff.mp H
 obtain ⟨⟨t358, t359⟩, A30, H⟩ := H
 replace H : (if t354.length + t358.length < 3518437208883 then (some (t354 ++ t358)) else (none)) = some r := H
 have A3 := Aside0.mk A30
 clear A30
 by_cases c4 : t354.length + t358.length < 3518437208883
 ·rw [if_pos c4] at H
  have LMc4 := Aside0.mk c4
  clear c4
  obtain ⟨y362, hy362⟩ : ∃ y_ : List (S39), y_ = (t354 ++ t358) := ⟨_, rfl⟩
  replace H : (some y362) = some r := by first | (rw [hy362]; with_reducible exact H) | (have H2_ := (Option.bind_some _ _).symm.trans H; rw [hy362]; with_reducible exact H2_) | (have H2_ := (Option.bind_some _ _).symm.trans H; with_reducible exact H2_) | with_reducible exact H | (rw [hy362]; exact H) | exact H
  have Ny362 := Aside0.mk hy362
  clear hy362
  obtain rfl := Option.some.inj H
  go_enter Tryd.func57, Tryd.ntmps57
  go_wp2_with (first | ((with_reducible refine gate_dst (N := 1) rfl ?_); refine box_event ?hg (N := 1) ?hd (cs := #[.string a0_0, .string a0_1]) (t := 25) ?hr ?_; (case hd => rfl); (case hg => rfl); (case hr => exact zq1); intro gb353 hg w5 hbox hb; have BK353 := Aside0.mk (hbox); have GW353 := gsz hg; have GE353 := gsz hg; replace HB := bs hb; clear hb hbox hg; have hcz6_0 := cz BK353 0 rfl; have hcz6_1 := cz BK353 1 rfl; have hfz6_0 := blk_frozen BK353.out 0; have hfz6_1 := blk_frozen BK353.out 1) | ((with_reducible refine gate_callee (f := 25) rfl ?_); refine goq (some 10) Tryd.func25 #[.string a0_0] ?_; (with_reducible refine (impl_ReadFrames.calls k a0_0 t354 t355 _ ?side1 A2.out).mono ?_); (case side1 => exact (GF.below HG.out bl)); rintro e w7 ⟨v356, rfl, ho0, hb⟩; refine ⟨_, rfl, ?_⟩; have HO357 := Aside0.mk (Kd.R_lower ho0 (below_size bl)); replace BK353 := kb BK353 hb; replace HB := bs hb; (try clear hb); (try clear ho0); have hcz8_0 := cz BK353 0 rfl; have hcz8_1 := cz BK353 1 rfl; have hfz8_0 := blk_frozen BK353.out 0; have hfz8_1 := blk_frozen BK353.out 1) | ((with_reducible refine gate_callee (f := 25) rfl ?_); refine goq (some 16) Tryd.func25 #[.string a0_1] ?_; (with_reducible refine (impl_ReadFrames.calls k a0_1 t358 t359 _ ?side1 A3.out).mono ?_); (case side1 => exact (GF.below HG.out bl)); rintro e w9 ⟨v360, rfl, ho0, hb⟩; refine ⟨_, rfl, ?_⟩; have HO361 := Aside0.mk (Kd.R_lower (Kd.R_new' ho0 (Kd.R_lt zq52)) (below_size bl)); replace HO357 := Aside0.mk (Kd.R_elder' zq52 (Kd.R_base ho0) hb); replace BK353 := kb BK353 hb; replace HB := bs hb; (try clear hb); (try clear ho0); obtain ⟨Ao11, co11, eo11⟩ := Kd.R_slice HO361.out; subst eo11) | ((with_reducible refine gate_builtin (b := .append) (xs := #[.tmp 19, .tmp 20]) rfl ?_); at_builtin; refine Kd.R_append_rows k39 (w0 := w) w.heap.size rfl (.tmp 19) (.tmp 20) 33 39 (.agg #[(.int .i64 0), (.string ⟨#[]⟩), (.string ⟨#[]⟩)]) 40 rfl Tryd.underlying33 info39 rfl (by decide) (by omega) v356 t354 t358 _ _ _ (fun k_ => some k_ ≠ (.slice Ao11 t358.length co11 : Value).ownBlock) (fun _ => False) rfl rfl ?aO ?aR (fun _ _ h => h) (fun _ h => h.elim) ?aF ?aB ?aS ?aL ?_; (case aR => repeat (first | exact (Kd.R_reads' HO361.out).2.2 | (with_reducible refine Kd.C_alloc ?_ _) | (with_reducible refine Kd.C_drewN ?_ _) | (with_reducible refine Kd.C_drew ?_))); (case aB => exact bl); (case aF => exact (fun k_ hk => Kd.fresh' (Kd.R_lt zq53) k_ hk)); (case aO => exact (by (with_reducible repeat (first | apply Kd.R_alloc | apply Kd.R_drewN | apply Kd.R_drew)); exact Kd.R_mono HO357.out (fun _ hk => hk.2))); (case aS => exact (below_size bl)); (case aL => have := LMc4.out; omega); intro v363 w10 ho hb hg hat; rw [← Ny362.out] at ho; replace BK353 := Aside0.mk (blk_grown (g := gb353) (o := .cells #[.string a0_0, .string a0_1] 25 (0, 0)) zq0 hg (Kd.R_ne HO357.out BK353.out (by decide))); replace HO361 := Aside0.mk (Kd.R_after (ok := (fun _ => True)) zq53 hg hat); replace HB := Aside0.mk (hb); have HO364 := Aside0.mk (ho); clear HO357; clear ho hb hg hat))
  go_ret
  exact ⟨_, er, by (with_reducible repeat (first | apply Kd.R_alloc | apply Kd.R_drewN | apply Kd.R_drew)); exact Kd.R_mono HO364.out (fun _ hk => trivial), bl⟩
 ·rw [if_neg c4] at H
  exact absurd H (by simp)

/-! ### impl_EntriesOf: function 16 -/
def impl_EntriesOf.f (k : Nat) (a0_0 : ByteArray) (a0_1 : ByteArray) : Option ((List (S39)) × Int) := (impl_validLog.f k a0_0 a0_1).bind fun t366 => (if t366 = true then ((impl_isWhole.f k a0_0 a0_1).bind fun t367 => (if t367 = true then ((impl_entriesOf.f k a0_0 a0_1).bind fun t368 => (some (t368, 0))) else (some (([] : List (S39)), 6)))) else (some (([] : List (S39)), 1)))
set_option maxHeartbeats 8000000 in
set_option maxRecDepth 100000 in
theorem impl_EntriesOf.calls (k : Nat) (a0_0 : ByteArray) (a0_1 : ByteArray) (r1 : List (S39)) (r2 : Int) (w : World) (hG : GF w) (h : impl_EntriesOf.f k a0_0 a0_1 = some (r1, r2)) :
  Calls Tryd.prog 16 #[.agg #[.string a0_0, .string a0_1]] w fun e w' => ∃ v0_ : Value, e = .returned (.tuple #[v0_, .int .i64 r2]) ∧ Kd.R k39 39 w' w.heap.size (fun _ => True) v0_ r1 ∧ Below w.heap.size w w' := by
 have hu25 := Tryd.underlying25
 have HB := Aside0.mk (Below.refl w.heap.size w)
 have HG := Aside0.mk hG
 clear hG
 have H : ((impl_validLog.f k a0_0 a0_1).bind fun t366 => (if t366 = true then ((impl_isWhole.f k a0_0 a0_1).bind fun t367 => (if t367 = true then ((impl_entriesOf.f k a0_0 a0_1).bind fun t368 => (some (t368, 0))) else (some (([] : List (S39)), 6)))) else (some (([] : List (S39)), 1)))) = some (r1, r2) := h
 clear h
 replace H := Option.bind_eq_some_iff.mp H
 obtain ⟨t366, A20, H⟩ := H
 have A2 := Aside0.mk A20
 clear A20
 by_cases c3 : t366 = true
 ·subst c3
  rw [if_pos rfl] at H
  replace H := Option.bind_eq_some_iff.mp H
  obtain ⟨t367, A40, H⟩ := H
  have A4 := Aside0.mk A40
  clear A40
  by_cases c5 : t367 = true
  ·subst c5
   rw [if_pos rfl] at H
   replace H := Option.bind_eq_some_iff.mp H
   obtain ⟨t368, A60, H⟩ := H
   have A6 := Aside0.mk A60
   clear A60
   simp only [Option.some.injEq, Prod.mk.injEq] at H
   obtain ⟨rfl, rfl⟩ := H
   go_enter Tryd.func16, Tryd.ntmps16
   go_wp2_with (first | ((with_reducible refine gate_dst (N := 1) rfl ?_); refine box_event ?hg (N := 1) ?hd (cs := #[.string a0_0, .string a0_1]) (t := 25) ?hr ?_; (case hd => rfl); (case hg => rfl); (case hr => exact zq1); intro gb365 hg w7 hbox hb; have BK365 := Aside0.mk (hbox); have GW365 := gsz hg; have GE365 := gsz hg; replace HB := bs hb; clear hb hbox hg; have hcz8_0 := cz BK365 0 rfl; have hcz8_1 := cz BK365 1 rfl; have hfz8_0 := blk_frozen BK365.out 0; have hfz8_1 := blk_frozen BK365.out 1) | ((with_reducible refine gate_callee (f := 51) rfl ?_); refine goq (some 5) Tryd.func51 #[.agg #[.string a0_0, .string a0_1]] ?_; (with_reducible refine (impl_validLog.calls k a0_0 a0_1 true _ ?side1 A2.out).mono ?_); (case side1 => exact (GF.below HG.out bl)); rintro e w9 ⟨rfl, hb⟩; refine ⟨_, rfl, ?_⟩; replace BK365 := kb BK365 hb; replace HB := bs hb; (try clear hb); have hcz10_0 := cz BK365 0 rfl; have hcz10_1 := cz BK365 1 rfl; have hfz10_0 := blk_frozen BK365.out 0; have hfz10_1 := blk_frozen BK365.out 1) | ((with_reducible refine gate_callee (f := 56) rfl ?_); refine goq (some 8) Tryd.func56 #[.agg #[.string a0_0, .string a0_1]] ?_; (with_reducible refine (impl_isWhole.calls k a0_0 a0_1 true _ ?side1 A4.out).mono ?_); (case side1 => exact (GF.below HG.out bl)); rintro e w11 ⟨rfl, hb⟩; refine ⟨_, rfl, ?_⟩; replace BK365 := kb BK365 hb; replace HB := bs hb; (try clear hb); have hcz12_0 := cz BK365 0 rfl; have hcz12_1 := cz BK365 1 rfl; have hfz12_0 := blk_frozen BK365.out 0; have hfz12_1 := blk_frozen BK365.out 1) | ((with_reducible refine gate_callee (f := 57) rfl ?_); refine goq (some 11) Tryd.func57 #[.agg #[.string a0_0, .string a0_1]] ?_; (with_reducible refine (impl_entriesOf.calls k a0_0 a0_1 t368 _ ?side1 A6.out).mono ?_); (case side1 => exact (GF.below HG.out bl)); rintro e w13 ⟨v369, rfl, ho0, hb⟩; refine ⟨_, rfl, ?_⟩; have HO370 := Aside0.mk (Kd.R_lower ho0 (below_size bl)); replace BK365 := kb BK365 hb; replace HB := bs hb; (try clear hb); (try clear ho0)))
   go_ret2
   exact ⟨_, er, by (with_reducible repeat (first | apply Kd.R_alloc | apply Kd.R_drewN | apply Kd.R_drew)); exact HO370.out, bl⟩
  ·replace c5 := Bool.eq_false_iff.mpr c5
   subst c5
   rw [if_neg (show ¬ (false = true) by decide)] at H
   simp only [Option.some.injEq, Prod.mk.injEq] at H
   obtain ⟨rfl, rfl⟩ := H
   go_enter Tryd.func16, Tryd.ntmps16
   go_wp2_with (first | ((with_reducible refine gate_dst (N := 1) rfl ?_); refine box_event ?hg (N := 1) ?hd (cs := #[.string a0_0, .string a0_1]) (t := 25) ?hr ?_; (case hd => rfl); (case hg => rfl); (case hr => exact zq1); intro gb365 hg w14 hbox hb; have BK365 := Aside0.mk (hbox); have GW365 := gsz hg; have GE365 := gsz hg; replace HB := bs hb; clear hb hbox hg; have hcz15_0 := cz BK365 0 rfl; have hcz15_1 := cz BK365 1 rfl; have hfz15_0 := blk_frozen BK365.out 0; have hfz15_1 := blk_frozen BK365.out 1) | ((with_reducible refine gate_callee (f := 51) rfl ?_); refine goq (some 5) Tryd.func51 #[.agg #[.string a0_0, .string a0_1]] ?_; (with_reducible refine (impl_validLog.calls k a0_0 a0_1 true _ ?side1 A2.out).mono ?_); (case side1 => exact (GF.below HG.out bl)); rintro e w16 ⟨rfl, hb⟩; refine ⟨_, rfl, ?_⟩; replace BK365 := kb BK365 hb; replace HB := bs hb; (try clear hb); have hcz17_0 := cz BK365 0 rfl; have hcz17_1 := cz BK365 1 rfl; have hfz17_0 := blk_frozen BK365.out 0; have hfz17_1 := blk_frozen BK365.out 1) | ((with_reducible refine gate_callee (f := 56) rfl ?_); refine goq (some 8) Tryd.func56 #[.agg #[.string a0_0, .string a0_1]] ?_; (with_reducible refine (impl_isWhole.calls k a0_0 a0_1 false _ ?side1 A4.out).mono ?_); (case side1 => exact (GF.below HG.out bl)); rintro e w18 ⟨rfl, hb⟩; refine ⟨_, rfl, ?_⟩; replace BK365 := kb BK365 hb; replace HB := bs hb; (try clear hb)))
   go_ret2
   exact ⟨_, er, zq30, bl⟩
 ·replace c3 := Bool.eq_false_iff.mpr c3
  subst c3
  rw [if_neg (show ¬ (false = true) by decide)] at H
  simp only [Option.some.injEq, Prod.mk.injEq] at H
  obtain ⟨rfl, rfl⟩ := H
  go_enter Tryd.func16, Tryd.ntmps16
  go_wp2_with (first | ((with_reducible refine gate_dst (N := 1) rfl ?_); refine box_event ?hg (N := 1) ?hd (cs := #[.string a0_0, .string a0_1]) (t := 25) ?hr ?_; (case hd => rfl); (case hg => rfl); (case hr => exact zq1); intro gb365 hg w19 hbox hb; have BK365 := Aside0.mk (hbox); have GW365 := gsz hg; have GE365 := gsz hg; replace HB := bs hb; clear hb hbox hg; have hcz20_0 := cz BK365 0 rfl; have hcz20_1 := cz BK365 1 rfl; have hfz20_0 := blk_frozen BK365.out 0; have hfz20_1 := blk_frozen BK365.out 1) | ((with_reducible refine gate_callee (f := 51) rfl ?_); refine goq (some 5) Tryd.func51 #[.agg #[.string a0_0, .string a0_1]] ?_; (with_reducible refine (impl_validLog.calls k a0_0 a0_1 false _ ?side1 A2.out).mono ?_); (case side1 => exact (GF.below HG.out bl)); rintro e w21 ⟨rfl, hb⟩; refine ⟨_, rfl, ?_⟩; replace BK365 := kb BK365 hb; replace HB := bs hb; (try clear hb)))
  go_ret2
  exact ⟨_, er, zq30, bl⟩

/-! ### spec_l27All: function 58 -/
def spec_l27All.f (k : Nat) (l0 : List (S25)) : Option ((List (S39)) × Int) := (spec_l27Ok.f k l0).bind fun t371 => (if t371 = true then ((spec_l27Read.f k ((rd_T25 l0 0).f0)).bind fun bt373 => (if bt373.2 < (((rd_T25 l0 0).f0).size : Int) then (some (([] : List (S39)), 6)) else ((spec_l27Read.f k ((rd_T25 l0 0).f1)).bind fun bt378 => (if bt373.1.length + bt378.1.length < 3518437208883 then (some ((bt373.1 ++ bt378.1), 0)) else (none))))) else (some (([] : List (S39)), 1)))
set_option maxHeartbeats 8000000 in
set_option maxRecDepth 100000 in
theorem spec_l27All.calls (k : Nat) (adr0 : Addr) (l0 : List (S25)) (r1 : List (S39)) (r2 : Int) (w : World) (hr0 : Kd.C k25 w (some adr0) l0.length l0) (hq0 : l0.length = 1) (h : spec_l27All.f k l0 = some (r1, r2)) :
  Calls Tryd.prog 58 #[.pointer (some adr0)] w fun e w' => ∃ v0_ : Value, e = .returned (.tuple #[v0_, .int .i64 r2]) ∧ Kd.R k39 39 w' w.heap.size (fun _ => True) v0_ r1 ∧ Below w.heap.size w w' := by
 have HR0 := Aside0.mk hr0
 have hqb0 : decide (0 < (l0.length : Int)) = true := by rw [hq0]; rfl
 have HQ0 := Aside0.mk hq0
 clear hr0 hq0
 have HB := Aside0.mk (Below.refl w.heap.size w)
 have H : ((spec_l27Ok.f k l0).bind fun t371 => (if t371 = true then ((spec_l27Read.f k ((rd_T25 l0 0).f0)).bind fun bt373 => (if bt373.2 < (((rd_T25 l0 0).f0).size : Int) then (some (([] : List (S39)), 6)) else ((spec_l27Read.f k ((rd_T25 l0 0).f1)).bind fun bt378 => (if bt373.1.length + bt378.1.length < 3518437208883 then (some ((bt373.1 ++ bt378.1), 0)) else (none))))) else (some (([] : List (S39)), 1)))) = some (r1, r2) := h
 clear h
 replace H := Option.bind_eq_some_iff.mp H
 obtain ⟨t371, A20, H⟩ := H
 have A2 := Aside0.mk A20
 clear A20
 by_cases c3 : t371 = true
 ·subst c3
  rw [if_pos rfl] at H
  replace H := Option.bind_eq_some_iff.mp H
  obtain ⟨⟨t373, t374⟩, A40, H⟩ := H
  replace H : (if t374 < (((rd_T25 l0 0).f0).size : Int) then (some (([] : List (S39)), 6)) else ((spec_l27Read.f k ((rd_T25 l0 0).f1)).bind fun bt378 => (if t373.length + bt378.1.length < 3518437208883 then (some ((t373 ++ bt378.1), 0)) else (none)))) = some (r1, r2) := H
  have A4 := Aside0.mk A40
  clear A40
  by_cases c5 : t374 < (((rd_T25 l0 0).f0).size : Int)
  ·rw [if_pos c5] at H
   have c5b0 : decide (t374 < (((rd_T25 l0 0).f0).size : Int)) = true := decide_eq_true c5
   clear c5
   simp only [Option.some.injEq, Prod.mk.injEq] at H
   obtain ⟨rfl, rfl⟩ := H
   go_enter Tryd.func58, Tryd.ntmps58
   go_wp2_with (first | ((with_reducible refine gate_callee (f := 53) rfl ?_); refine goq (some 9) Tryd.func53 #[.pointer (some adr0)] ?_; (with_reducible refine (spec_l27Ok.calls k adr0 l0 true _ ?side1 ?side2 A2.out).mono ?_); (case side1 => exact zq20); (case side2 => exact HQ0.out); rintro e w6 ⟨rfl, hb⟩; refine ⟨_, rfl, ?_⟩; replace HB := bs hb; (try clear hb); have p372 : 0 ≤ (0 : Int) := (by omega); have q372 : 0 < (l0.length : Int) := dt; obtain ⟨ad372, e372, hx372_0, hx372_1⟩ := at_T25 HR0.out 0 p372 q372; obtain rfl : adr0 = ad372 := (by injection e372); have qi372 : (0 < l0.length) = True := eq_true (by omega); (try rw [show ((0 : Int)).toNat = 0 from rfl] at hx372_0); (try rw [show 0 * 2 = 0 from rfl] at hx372_0); (try rw [Addr.add_zero'] at hx372_0); (try rw [show ((0 : Int)).toNat = 0 from rfl] at hx372_1); (try rw [show 0 * 2 = 0 from rfl] at hx372_1); (try rw [Addr.add_zero'] at hx372_1); replace hx372_0 := (HB.out.cell (World.block_lt_of_cell? w _ hx372_0)).trans hx372_0; replace hx372_1 := (HB.out.cell (World.block_lt_of_cell? w _ hx372_1)).trans hx372_1; replace p372 := eq_true p372; replace q372 := eq_true q372) | ((with_reducible refine gate_callee (f := 55) rfl ?_); refine goq (some 16) Tryd.func55 #[.string ((rd_T25 l0 0).f0)] ?_; (with_reducible refine (spec_l27Read.calls k ((rd_T25 l0 0).f0) t373 t374 _ A4.out).mono ?_); rintro e w7 ⟨v375, rfl, ho0, hb⟩; refine ⟨_, rfl, ?_⟩; have HO376 := Aside0.mk (Kd.R_lower ho0 (below_size bl)); replace HB := bs hb; (try clear hb); (try clear ho0); have p377 : 0 ≤ (0 : Int) := (by omega); have q377 : 0 < (l0.length : Int) := dt; obtain ⟨ad377, e377, hx377_0, hx377_1⟩ := at_T25 HR0.out 0 p377 q377; obtain rfl : adr0 = ad377 := (by injection e377); have qi377 : (0 < l0.length) = True := eq_true (by omega); (try rw [show ((0 : Int)).toNat = 0 from rfl] at hx377_0); (try rw [show 0 * 2 = 0 from rfl] at hx377_0); (try rw [Addr.add_zero'] at hx377_0); (try rw [show ((0 : Int)).toNat = 0 from rfl] at hx377_1); (try rw [show 0 * 2 = 0 from rfl] at hx377_1); (try rw [Addr.add_zero'] at hx377_1); replace hx377_0 := (HB.out.cell (World.block_lt_of_cell? w _ hx377_0)).trans hx377_0; replace hx377_1 := (HB.out.cell (World.block_lt_of_cell? w _ hx377_1)).trans hx377_1; replace p377 := eq_true p377; replace q377 := eq_true q377))
   go_ret2
   exact ⟨_, er, zq30, bl⟩
  ·rw [if_neg c5] at H
   have c5b0 : decide (t374 < (((rd_T25 l0 0).f0).size : Int)) = false := decide_eq_false c5
   clear c5
   replace H := Option.bind_eq_some_iff.mp H
   obtain ⟨⟨t378, t379⟩, A80, H⟩ := H
   replace H : (if t373.length + t378.length < 3518437208883 then (some ((t373 ++ t378), 0)) else (none)) = some (r1, r2) := H
   have A8 := Aside0.mk A80
   clear A80
   by_cases c9 : t373.length + t378.length < 3518437208883
   ·rw [if_pos c9] at H
    have LMc9 := Aside0.mk c9
    clear c9
    obtain ⟨y382, hy382⟩ : ∃ y_ : List (S39), y_ = (t373 ++ t378) := ⟨_, rfl⟩
    replace H : (some (y382, 0)) = some (r1, r2) := by first | (rw [hy382]; with_reducible exact H) | (have H2_ := (Option.bind_some _ _).symm.trans H; rw [hy382]; with_reducible exact H2_) | (have H2_ := (Option.bind_some _ _).symm.trans H; with_reducible exact H2_) | with_reducible exact H | (rw [hy382]; exact H) | exact H
    have Ny382 := Aside0.mk hy382
    clear hy382
    simp only [Option.some.injEq, Prod.mk.injEq] at H
    obtain ⟨rfl, rfl⟩ := H
    go_enter Tryd.func58, Tryd.ntmps58
    go_wp2_with (first | ((with_reducible refine gate_callee (f := 53) rfl ?_); refine goq (some 9) Tryd.func53 #[.pointer (some adr0)] ?_; (with_reducible refine (spec_l27Ok.calls k adr0 l0 true _ ?side1 ?side2 A2.out).mono ?_); (case side1 => exact zq20); (case side2 => exact HQ0.out); rintro e w10 ⟨rfl, hb⟩; refine ⟨_, rfl, ?_⟩; replace HB := bs hb; (try clear hb); have p372 : 0 ≤ (0 : Int) := (by omega); have q372 : 0 < (l0.length : Int) := dt; obtain ⟨ad372, e372, hx372_0, hx372_1⟩ := at_T25 HR0.out 0 p372 q372; obtain rfl : adr0 = ad372 := (by injection e372); have qi372 : (0 < l0.length) = True := eq_true (by omega); (try rw [show ((0 : Int)).toNat = 0 from rfl] at hx372_0); (try rw [show 0 * 2 = 0 from rfl] at hx372_0); (try rw [Addr.add_zero'] at hx372_0); (try rw [show ((0 : Int)).toNat = 0 from rfl] at hx372_1); (try rw [show 0 * 2 = 0 from rfl] at hx372_1); (try rw [Addr.add_zero'] at hx372_1); replace hx372_0 := (HB.out.cell (World.block_lt_of_cell? w _ hx372_0)).trans hx372_0; replace hx372_1 := (HB.out.cell (World.block_lt_of_cell? w _ hx372_1)).trans hx372_1; replace p372 := eq_true p372; replace q372 := eq_true q372) | ((with_reducible refine gate_callee (f := 55) rfl ?_); refine goq (some 16) Tryd.func55 #[.string ((rd_T25 l0 0).f0)] ?_; (with_reducible refine (spec_l27Read.calls k ((rd_T25 l0 0).f0) t373 t374 _ A4.out).mono ?_); rintro e w11 ⟨v375, rfl, ho0, hb⟩; refine ⟨_, rfl, ?_⟩; have HO376 := Aside0.mk (Kd.R_lower ho0 (below_size bl)); replace HB := bs hb; (try clear hb); (try clear ho0); have p377 : 0 ≤ (0 : Int) := (by omega); have q377 : 0 < (l0.length : Int) := dt; obtain ⟨ad377, e377, hx377_0, hx377_1⟩ := at_T25 HR0.out 0 p377 q377; obtain rfl : adr0 = ad377 := (by injection e377); have qi377 : (0 < l0.length) = True := eq_true (by omega); (try rw [show ((0 : Int)).toNat = 0 from rfl] at hx377_0); (try rw [show 0 * 2 = 0 from rfl] at hx377_0); (try rw [Addr.add_zero'] at hx377_0); (try rw [show ((0 : Int)).toNat = 0 from rfl] at hx377_1); (try rw [show 0 * 2 = 0 from rfl] at hx377_1); (try rw [Addr.add_zero'] at hx377_1); replace hx377_0 := (HB.out.cell (World.block_lt_of_cell? w _ hx377_0)).trans hx377_0; replace hx377_1 := (HB.out.cell (World.block_lt_of_cell? w _ hx377_1)).trans hx377_1; replace p377 := eq_true p377; replace q377 := eq_true q377) | ((with_reducible refine gate_callee (f := 55) rfl ?_); refine goq (some 31) Tryd.func55 #[.string ((rd_T25 l0 0).f1)] ?_; (with_reducible refine (spec_l27Read.calls k ((rd_T25 l0 0).f1) t378 t379 _ A8.out).mono ?_); rintro e w12 ⟨v380, rfl, ho0, hb⟩; refine ⟨_, rfl, ?_⟩; have HO381 := Aside0.mk (Kd.R_lower (Kd.R_new' ho0 (Kd.R_lt zq54)) (below_size bl)); replace HO376 := Aside0.mk (Kd.R_elder' zq54 (Kd.R_base ho0) hb); replace HB := bs hb; (try clear hb); (try clear ho0); obtain ⟨Ao14, co14, eo14⟩ := Kd.R_slice HO381.out; subst eo14) | ((with_reducible refine gate_builtin (b := .append) (xs := #[.tmp 34, .tmp 35]) rfl ?_); at_builtin; refine Kd.R_append_rows k39 (w0 := w) w.heap.size rfl (.tmp 34) (.tmp 35) 33 39 (.agg #[(.int .i64 0), (.string ⟨#[]⟩), (.string ⟨#[]⟩)]) 40 rfl Tryd.underlying33 info39 rfl (by decide) (by omega) v375 t373 t378 _ _ _ (fun k_ => some k_ ≠ (.slice Ao14 t378.length co14 : Value).ownBlock) (fun _ => False) rfl rfl ?aO ?aR (fun _ _ h => h) (fun _ h => h.elim) ?aF ?aB ?aS ?aL ?_; (case aR => repeat (first | exact (Kd.R_reads' HO381.out).2.2 | (with_reducible refine Kd.C_alloc ?_ _) | (with_reducible refine Kd.C_drewN ?_ _) | (with_reducible refine Kd.C_drew ?_))); (case aB => exact bl); (case aF => exact (fun k_ hk => Kd.fresh' (Kd.R_lt zq55) k_ hk)); (case aO => exact (by (with_reducible repeat (first | apply Kd.R_alloc | apply Kd.R_drewN | apply Kd.R_drew)); exact Kd.R_mono HO376.out (fun _ hk => hk.2))); (case aS => exact (below_size bl)); (case aL => have := LMc9.out; omega); intro v383 w13 ho hb hg hat; rw [← Ny382.out] at ho; replace HO381 := Aside0.mk (Kd.R_after (ok := (fun _ => True)) zq55 hg hat); replace HB := Aside0.mk (hb); have HO384 := Aside0.mk (ho); clear HO376; clear ho hb hg hat))
    go_ret2
    exact ⟨_, er, by (with_reducible repeat (first | apply Kd.R_alloc | apply Kd.R_drewN | apply Kd.R_drew)); exact Kd.R_mono HO384.out (fun _ hk => trivial), bl⟩
   ·rw [if_neg c9] at H
    exact absurd H (by simp)
 ·replace c3 := Bool.eq_false_iff.mpr c3
  subst c3
  rw [if_neg (show ¬ (false = true) by decide)] at H
  simp only [Option.some.injEq, Prod.mk.injEq] at H
  obtain ⟨rfl, rfl⟩ := H
  go_enter Tryd.func58, Tryd.ntmps58
  go_wp2_with (first | ((with_reducible refine gate_callee (f := 53) rfl ?_); refine goq (some 9) Tryd.func53 #[.pointer (some adr0)] ?_; (with_reducible refine (spec_l27Ok.calls k adr0 l0 false _ ?side1 ?side2 A2.out).mono ?_); (case side1 => exact zq20); (case side2 => exact HQ0.out); rintro e w15 ⟨rfl, hb⟩; refine ⟨_, rfl, ?_⟩; replace HB := bs hb; (try clear hb)))
  go_ret2
  exact ⟨_, er, zq30, bl⟩

/-! ### spec_EntriesOf: function 17 -/
def spec_EntriesOf.f (k : Nat) (a0_0 : ByteArray) (a0_1 : ByteArray) : Option ((List (S39)) × Int) := (spec_l27All.f k [(⟨a0_0, a0_1⟩ : S25)]).bind fun bt386 => (some (bt386.1, bt386.2))
set_option maxHeartbeats 8000000 in
set_option maxRecDepth 100000 in
theorem spec_EntriesOf.calls (k : Nat) (a0_0 : ByteArray) (a0_1 : ByteArray) (r1 : List (S39)) (r2 : Int) (w : World) (h : spec_EntriesOf.f k a0_0 a0_1 = some (r1, r2)) :
  Calls Tryd.prog 17 #[.agg #[.string a0_0, .string a0_1]] w fun e w' => ∃ v0_ : Value, e = .returned (.tuple #[v0_, .int .i64 r2]) ∧ Kd.R k39 39 w' w.heap.size (fun _ => True) v0_ r1 ∧ Below w.heap.size w w' := by
 have hu25 := Tryd.underlying25
 have HB := Aside0.mk (Below.refl w.heap.size w)
 have H : ((spec_l27All.f k [(⟨a0_0, a0_1⟩ : S25)]).bind fun bt386 => (some (bt386.1, bt386.2))) = some (r1, r2) := h
 clear h
 replace H := Option.bind_eq_some_iff.mp H
 obtain ⟨⟨t386, t387⟩, A20, H⟩ := H
 replace H : (some (t386, t387)) = some (r1, r2) := H
 have A2 := Aside0.mk A20
 clear A20
 simp only [Option.some.injEq, Prod.mk.injEq] at H
 obtain ⟨rfl, rfl⟩ := H
 go_enter Tryd.func17, Tryd.ntmps17
 go_wp2_with (first | ((with_reducible refine gate_dst (N := 1) rfl ?_); refine box_event ?hg (N := 1) ?hd (cs := #[.string a0_0, .string a0_1]) (t := 25) ?hr ?_; (case hd => rfl); (case hg => rfl); (case hr => exact zq1); intro gb385 hg w3 hbox hb; have BK385 := Aside0.mk (hbox); have GW385 := gsz hg; have GE385 := gsz hg; replace HB := bs hb; clear hb hbox hg) | ((with_reducible refine gate_callee (f := 58) rfl ?_); refine goq (some 4) Tryd.func58 #[.pointer (some ⟨gb385, 0, none⟩)] ?_; (with_reducible refine (spec_l27All.calls k ⟨gb385, 0, none⟩ [(⟨a0_0, a0_1⟩ : S25)] t386 t387 _ ?side1 ?side2 A2.out).mono ?_); (case side1 => exact zq12); (case side2 => rfl); rintro e w4 ⟨v388, rfl, ho0, hb⟩; refine ⟨_, rfl, ?_⟩; have HO389 := Aside0.mk (Kd.R_lower ho0 (below_size bl)); replace BK385 := kb BK385 hb; replace HB := bs hb; (try clear hb); (try clear ho0)))
 go_ret2
 exact ⟨_, er, by (with_reducible repeat (first | apply Kd.R_alloc | apply Kd.R_drewN | apply Kd.R_drew)); exact HO389.out, bl⟩

/-! ### spec_SameEntries: function 18 -/
def spec_SameEntries.l0 : Nat → List (S39) → List (S39) → Int → Option (Bool)
 | 0, _, _, _ => none
 | k + 1, x0, x1, x5 => if x5 < (x0.length : Int) then (if 0 ≤ x5 then (if x5 < (x1.length : Int) then (if (!(((rd_T39 x0 x5).f0) == ((rd_T39 x1 x5).f0)) || (!((((rd_T39 x0 x5).f1).toList) == (((rd_T39 x1 x5).f1).toList)) || (!((((rd_T39 x0 x5).f2).toList) == (((rd_T39 x1 x5).f2).toList))))) = true then (some false) else (spec_SameEntries.l0 k x0 x1 (wrap64 (x5 + 1)))) else (none)) else (none)) else (some true)
def spec_SameEntries.f (k : Nat) (l0 : List (S39)) (l1 : List (S39)) : Option (Bool) := if (l0.length : Int) = (l1.length : Int) then (spec_SameEntries.l0 k l0 l1 0) else (some false)
set_option maxHeartbeats 8000000 in
set_option maxRecDepth 100000 in
theorem spec_SameEntries.calls (k : Nat) (A0 : Option Addr) (c0 : Nat) (l0 : List (S39)) (A1 : Option Addr) (c1 : Nat) (l1 : List (S39)) (r : Bool) (w : World) (hr0 : Kd.C k39 w A0 l0.length l0) (hc0 : l0.length ≤ c0) (hr1 : Kd.C k39 w A1 l1.length l1) (hc1 : l1.length ≤ c1) (h : spec_SameEntries.f k l0 l1 = some r) :
  Calls Tryd.prog 18 #[.slice A0 l0.length c0, .slice A1 l1.length c1] w fun e w' => e = .returned (.bool r) ∧ Drawn0 w w' := by
 have hu39 := Tryd.underlying39
 have HR0 := Aside0.mk hr0
 have HC0 := Aside0.mk hc0
 clear hr0 hc0
 have HR1 := Aside0.mk hr1
 have HC1 := Aside0.mk hc1
 clear hr1 hc1
 have H : (if (l0.length : Int) = (l1.length : Int) then (spec_SameEntries.l0 k l0 l1 0) else (some false)) = some r := h
 clear h
 by_cases c3 : (l0.length : Int) = (l1.length : Int)
 ·rw [if_pos c3] at H
  have c3b0 : ((l0.length : Int) == (l1.length : Int)) = true := beq_iff_eq.mpr c3
  have c3b1 : ((l0.length : Int) != (l1.length : Int)) = false := bne_eq_false_iff_eq.mpr c3
  have c3b2 : (l0.length == l1.length) = true := by first | simpa using c3 | (simp at c3 ⊢; omega)
  clear c3
  have H' := Aside0.mk H
  clear H
  go_enter Tryd.func18, Tryd.ntmps18
  go_wp2
  repeat (go_quiet (fail); try go_wp2)
  go_loopg [5] k (fun kq v5 w' => ∃ (x5_1 : Int), v5 = .int .i64 x5_1 ∧ Aside0 (spec_SameEntries.l0 kq l0 l1 x5_1 = some r) ∧ Aside0 (kq ≤ k) ∧ Drawn0 w w')
  case atStart => exact ⟨(0), sd, H', ⟨Nat.le_refl _⟩, dr⟩
  case round =>
   clear H'
   try clear c1; try clear p2; try clear c3; try clear c3b0; try clear c3b1; try clear c3b2
   obtain ⟨x5_1, rfl, HA, HK1, ⟨m1, rfl⟩⟩ := hrel
   cases gk with
   | zero => exact absurd HA.out (by simp [spec_SameEntries.l0])
   | succ k1 =>
    have H := HA.out
    clear HA
    simp only [spec_SameEntries.l0] at H
    by_cases c4 : x5_1 < (l0.length : Int)
    ·rw [if_pos c4] at H
     have c4b0 : decide (x5_1 < (l0.length : Int)) = true := decide_eq_true c4
     clear c4
     by_cases c5 : 0 ≤ x5_1
     ·rw [if_pos c5] at H
      have c5b0 : decide (0 ≤ x5_1) = true := decide_eq_true c5
      clear c5
      by_cases c6 : x5_1 < (l1.length : Int)
      ·rw [if_pos c6] at H
       have c6b0 : decide (x5_1 < (l1.length : Int)) = true := decide_eq_true c6
       clear c6
       by_cases c7 : (!(((rd_T39 l0 x5_1).f0) == ((rd_T39 l1 x5_1).f0)) || (!((((rd_T39 l0 x5_1).f1).toList) == (((rd_T39 l1 x5_1).f1).toList)) || (!((((rd_T39 l0 x5_1).f2).toList) == (((rd_T39 l1 x5_1).f2).toList))))) = true
       ·rw [if_pos c7] at H
        have c7b0 : (!(((rd_T39 l0 x5_1).f0) == ((rd_T39 l1 x5_1).f0)) || (!((((rd_T39 l0 x5_1).f1).toList) == (((rd_T39 l1 x5_1).f1).toList)) || (!((((rd_T39 l0 x5_1).f2).toList) == (((rd_T39 l1 x5_1).f2).toList))))) = true := c7
        clear c7
        obtain rfl := Option.some.inj H
        have p390 : 0 ≤ (x5_1 : Int) := dt
        have q390 : x5_1 < (l0.length : Int) := dt
        obtain ⟨ad390, e390, hx390_0, hx390_1, hx390_2⟩ := at_T39 HR0.out x5_1 p390 q390
        cases e390
        replace p390 := eq_true p390
        replace q390 := eq_true q390
        have p391 : 0 ≤ (x5_1 : Int) := dt
        have q391 : x5_1 < (l1.length : Int) := dt
        obtain ⟨ad391, e391, hx391_0, hx391_1, hx391_2⟩ := at_T39 HR1.out x5_1 p391 q391
        cases e391
        replace p391 := eq_true p391
        replace q391 := eq_true q391
        go_wp2
        repeat (go_quiet (fail); try go_wp2)
        go_ret
        exact ⟨sd, dr⟩
       ·rw [if_neg c7] at H
        have c7b0 : (!(((rd_T39 l0 x5_1).f0) == ((rd_T39 l1 x5_1).f0)) || (!((((rd_T39 l0 x5_1).f1).toList) == (((rd_T39 l1 x5_1).f1).toList)) || (!((((rd_T39 l0 x5_1).f2).toList) == (((rd_T39 l1 x5_1).f2).toList))))) = false := by simpa using c7
        clear c7
        have H' := Aside0.mk H
        clear H
        have p390 : 0 ≤ (x5_1 : Int) := dt
        have q390 : x5_1 < (l0.length : Int) := dt
        obtain ⟨ad390, e390, hx390_0, hx390_1, hx390_2⟩ := at_T39 HR0.out x5_1 p390 q390
        cases e390
        replace p390 := eq_true p390
        replace q390 := eq_true q390
        have p391 : 0 ≤ (x5_1 : Int) := dt
        have q391 : x5_1 < (l1.length : Int) := dt
        obtain ⟨ad391, e391, hx391_0, hx391_1, hx391_2⟩ := at_T39 HR1.out x5_1 p391 q391
        cases e391
        replace p391 := eq_true p391
        replace q391 := eq_true q391
        go_wp2
        repeat (go_quiet (fail); try go_wp2)
        go_roundg k1
        case measure => have := HK1.out; omega
        case rel => exact ⟨(wrap64 (x5_1 + 1)), sd, H', ⟨zq11⟩, dr⟩
      ·rw [if_neg c6] at H
       exact absurd H (by simp)
     ·rw [if_neg c5] at H
      exact absurd H (by simp)
    ·rw [if_neg c4] at H
     have c4b0 : decide (x5_1 < (l0.length : Int)) = false := decide_eq_false c4
     clear c4
     obtain rfl := Option.some.inj H
     go_wp2
     repeat (go_quiet (fail); try go_wp2)
     go_ret
     exact ⟨sd, dr⟩
 ·rw [if_neg c3] at H
  have c3b0 : ((l0.length : Int) == (l1.length : Int)) = false := beq_eq_false_iff_ne.mpr c3
  have c3b1 : ((l0.length : Int) != (l1.length : Int)) = true := bne_iff_ne.mpr c3
  have c3b2 : (l0.length == l1.length) = false := by first | simpa using c3 | (simp at c3 ⊢; omega)
  obtain rfl := Option.some.inj H
  go_enter Tryd.func18, Tryd.ntmps18
  go_wp2
  repeat (go_quiet (fail); try go_wp2)
  go_ret
  exact ⟨sd, dr⟩

/-! ### spec_ReadFrames: function 19 -/
def spec_ReadFrames.f (k : Nat) (a0 : ByteArray) : Option ((List (S39)) × Int) := (spec_l27Read.f k a0).bind fun bt392 => (some (bt392.1, bt392.2))
set_option maxHeartbeats 8000000 in
set_option maxRecDepth 100000 in
theorem spec_ReadFrames.calls (k : Nat) (a0 : ByteArray) (r1 : List (S39)) (r2 : Int) (w : World) (h : spec_ReadFrames.f k a0 = some (r1, r2)) :
  Calls Tryd.prog 19 #[.string a0] w fun e w' => ∃ v0_ : Value, e = .returned (.tuple #[v0_, .int .i64 r2]) ∧ Kd.R k39 39 w' w.heap.size (fun _ => True) v0_ r1 ∧ Below w.heap.size w w' := by
 have HB := Aside0.mk (Below.refl w.heap.size w)
 have H : ((spec_l27Read.f k a0).bind fun bt392 => (some (bt392.1, bt392.2))) = some (r1, r2) := h
 clear h
 replace H := Option.bind_eq_some_iff.mp H
 obtain ⟨⟨t392, t393⟩, A20, H⟩ := H
 replace H : (some (t392, t393)) = some (r1, r2) := H
 have A2 := Aside0.mk A20
 clear A20
 simp only [Option.some.injEq, Prod.mk.injEq] at H
 obtain ⟨rfl, rfl⟩ := H
 go_enter Tryd.func19, Tryd.ntmps19
 go_wp2_with (first | ((with_reducible refine gate_callee (f := 55) rfl ?_); refine goq (some 8) Tryd.func55 #[.string a0] ?_; (with_reducible refine (spec_l27Read.calls k a0 t392 t393 _ A2.out).mono ?_); rintro e w3 ⟨v394, rfl, ho0, hb⟩; refine ⟨_, rfl, ?_⟩; have HO395 := Aside0.mk (Kd.R_lower ho0 (below_size bl)); replace HB := bs hb; (try clear hb); (try clear ho0)))
 go_ret2
 exact ⟨_, er, by (with_reducible repeat (first | apply Kd.R_alloc | apply Kd.R_drewN | apply Kd.R_drew)); exact HO395.out, bl⟩

end Go.Proofs.YtajbomiaoncgiaaDoor.QPL
