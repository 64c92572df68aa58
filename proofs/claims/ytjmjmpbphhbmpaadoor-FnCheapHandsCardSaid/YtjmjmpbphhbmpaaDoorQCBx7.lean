-- Written by a program of this place (wip/tools/prn.py) out of the translation, for this claim. Lean checks it.
import Derived.Test.YtjmjmpbphhbmpaaDoorQCBx0
import Derived.Test.YtjmjmpbphhbmpaaDoorQCBx1
import Derived.Test.YtjmjmpbphhbmpaaDoorQCBx4
import Derived.Test.YtjmjmpbphhbmpaaDoorQCBx5
import Derived.Test.YtjmjmpbphhbmpaaDoorQCBx6
namespace Go.Proofs.YtjmjmpbphhbmpaaDoor.QCB
open Go.RowKit Go.Proofs.YtjmjmpbphhbmpaaDoorQ Go.Proofs.YtjmjmpbphhbmpaaDoorW.PrintWords Go.Proofs.YtjmjmpbphhbmpaaDoorW.PrintLast Go.Proofs.YtjmjmpbphhbmpaaDoorW.PrintMore
attribute [local go_sem] max2_int min2_int max_two min_two max_three min_three max_four min_four   -- for this text's walks alone
set_option linter.unusedVariables false
set_option linter.unusedSimpArgs false

/-! ### laws_FnCheapHands: function 3 -/
mutual
def laws_FnCheapHands.l0 : Nat → List Int → List (S33) → Int → List Int → Int → Int → List Int → Int → Int → Option (Bool)
  | 0, _, _, _, _, _, _, _, _, _ => none
  | k + 1, x1, x5, x6, x7, x8, x9, x10, x11, x12 => if x12 < (x5.length : Int) then (if 0 ≤ x12 then ((laws_a2Sum.f k ((rd_T33 x5 x12).f1)).bind fun t230 => (laws_FnCheapHands.l0 k x1 x5 x6 x7 x8 x9 x10 (wrap64 (x11 + t230)) (wrap64 (x12 + 1)))) else (none)) else (if ((x9 == 0) != (decide (x11 ≥ x6))) = true then (some false) else (if x9 = 0 then (laws_FnCheapHands.j1 k x1 x5 x6 x7 x8 x9 x10 false) else (laws_FnCheapHands.j1 k x1 x5 x6 x7 x8 x9 x10 (x9 != 3))))
def laws_FnCheapHands.j1 : Nat → List Int → List (S33) → Int → List Int → Int → Int → List Int → Bool → Option (Bool)
  | 0, _, _, _, _, _, _, _, _ => none
  | k + 1, x1, x5, x6, x7, x8, x9, x10, x74 => if x74 = true then (some false) else (if x9 = 0 then ((laws_a2Rises.f k x7 (x5.length : Int)).bind fun t231 => (if t231 = true then ((laws_a2Cost.f k x5 x7).bind fun bt232 => ((laws_a2Cost.f k x5 x10).bind fun bt234 => (if bt232.1 < x6 then (some false) else (if bt232.2 = x8 then (if bt234.1 ≥ x6 then (if bt234.2 < x8 then (some false) else (laws_FnCheapHands.j2 k x1 x5)) else (laws_FnCheapHands.j2 k x1 x5)) else (some false))))) else (some false))) else (laws_FnCheapHands.j2 k x1 x5))
def laws_FnCheapHands.j2 : Nat → List Int → List (S33) → Option (Bool)
  | 0, _, _ => none
  | k + 1, x1, x5 => (impl_BusiestDay.f k x5).bind fun bt236 => (laws_FnCheapHands.l1 k x1 x5 bt236.1 bt236.2.1 bt236.2.2 0 0 0)
def laws_FnCheapHands.l1 : Nat → List Int → List (S33) → Int → Int → Int → Int → Int → Int → Option (Bool)
  | 0, _, _, _, _, _, _, _, _ => none
  | k + 1, x1, x5, x17, x18, x19, x20, x21, x22 => if x22 < 14 then (laws_FnCheapHands.l2 k x1 x5 x17 x18 x19 x20 x21 x22 0 0) else ((laws_a2At.f x1 1 250).bind fun t242 => ((impl_ClockText.f (wrap64 (t242 * 80))).bind fun t243 => ((impl_ReadClock.f k t243).bind fun bt244 => (if bt244.2 = true then (if bt244.1 = (wrap64 (t242 * 80)) then (if x20 = 0 then (if x19 = 3 then (some true) else (if x20 > 0 then (if x19 = 0 then (if x17 = x21 then (some (x18 == x20)) else (some false)) else (some false)) else (some false))) else (if x20 > 0 then (if x19 = 0 then (if x17 = x21 then (some (x18 == x20)) else (some false)) else (some false)) else (some false))) else (some false)) else (some false)))))
def laws_FnCheapHands.l2 : Nat → List Int → List (S33) → Int → Int → Int → Int → Int → Int → Int → Int → Option (Bool)
  | 0, _, _, _, _, _, _, _, _, _, _ => none
  | k + 1, x1, x5, x17, x18, x19, x20, x21, x22, x23, x24 => if x24 < (x5.length : Int) then (if 0 ≤ x24 then (if x22 < (((rd_T33 x5 x24).f1).length : Int) then (if 0 ≤ x22 then (laws_FnCheapHands.l2 k x1 x5 x17 x18 x19 x20 x21 x22 (wrap64 (x23 + (rd ((rd_T33 x5 x24).f1) x22))) (wrap64 (x24 + 1))) else (none)) else (laws_FnCheapHands.l2 k x1 x5 x17 x18 x19 x20 x21 x22 x23 (wrap64 (x24 + 1)))) else (none)) else (if x23 > x20 then (laws_FnCheapHands.l1 k x1 x5 x17 x18 x19 x23 x22 (wrap64 (x22 + 1))) else (laws_FnCheapHands.l1 k x1 x5 x17 x18 x19 x20 x21 (wrap64 (x22 + 1))))
end
def laws_FnCheapHands.f (k : Nat) (l0 : List Int) (l1 : List Int) : Option (Bool) := (laws_a2Long.f l0 l1).bind fun t216 => (if t216 = true then (some true) else ((spec_A2Hands.f k l0).bind fun t217 => ((laws_a2At.f l1 0 100).bind fun t220 => ((impl_CheapestHands.f k t217 (wrap64 (30 * t220))).bind fun bt221 => ((spec_A2Some.f k l1 (t217.length : Int)).bind fun t226 => (laws_FnCheapHands.l0 k l1 t217 (wrap64 (30 * t220)) bt221.1 bt221.2.1 bt221.2.2 t226 0 0))))))
theorem laws_FnCheapHands.mono_l : ∀ k, (∀ y0 y1 y2 y3 y4 y5 y6 y7 y8, LeO (laws_FnCheapHands.l0 k y0 y1 y2 y3 y4 y5 y6 y7 y8) (laws_FnCheapHands.l0 (k + 1) y0 y1 y2 y3 y4 y5 y6 y7 y8)) ∧ (∀ y0 y1 y2 y3 y4 y5 y6 y7, LeO (laws_FnCheapHands.j1 k y0 y1 y2 y3 y4 y5 y6 y7) (laws_FnCheapHands.j1 (k + 1) y0 y1 y2 y3 y4 y5 y6 y7)) ∧ (∀ y0 y1, LeO (laws_FnCheapHands.j2 k y0 y1) (laws_FnCheapHands.j2 (k + 1) y0 y1)) ∧ (∀ y0 y1 y2 y3 y4 y5 y6 y7, LeO (laws_FnCheapHands.l1 k y0 y1 y2 y3 y4 y5 y6 y7) (laws_FnCheapHands.l1 (k + 1) y0 y1 y2 y3 y4 y5 y6 y7)) ∧ (∀ y0 y1 y2 y3 y4 y5 y6 y7 y8 y9, LeO (laws_FnCheapHands.l2 k y0 y1 y2 y3 y4 y5 y6 y7 y8 y9) (laws_FnCheapHands.l2 (k + 1) y0 y1 y2 y3 y4 y5 y6 y7 y8 y9))
  | 0 => ⟨fun _ _ _ _ _ _ _ _ _ r h => by simp [laws_FnCheapHands.l0] at h, fun _ _ _ _ _ _ _ _ r h => by simp [laws_FnCheapHands.j1] at h, fun _ _ r h => by simp [laws_FnCheapHands.j2] at h, fun _ _ _ _ _ _ _ _ r h => by simp [laws_FnCheapHands.l1] at h, fun _ _ _ _ _ _ _ _ _ _ r h => by simp [laws_FnCheapHands.l2] at h⟩
  | k + 1 => by
    obtain ⟨ih0, ih1, ih2, ih3, ih4⟩ := laws_FnCheapHands.mono_l k
    refine ⟨?_, ?_, ?_, ?_, ?_⟩
    · intro y0 y1 y2 y3 y4 y5 y6 y7 y8
      unfold laws_FnCheapHands.l0
      repeat' first
      | (with_reducible exact ih0 _ _ _ _ _ _ _ _ _)
      | (with_reducible exact ih1 _ _ _ _ _ _ _ _)
      | (with_reducible exact ih2 _ _)
      | (with_reducible exact ih3 _ _ _ _ _ _ _ _)
      | (with_reducible exact ih4 _ _ _ _ _ _ _ _ _ _)
      | (with_reducible exact impl_BusiestDay.mono _ _)
      | (with_reducible exact impl_CheapestHands.mono _ _ _)
      | (with_reducible exact impl_ReadClock.mono _ _)
      | (with_reducible exact laws_a2Cost.mono _ _ _)
      | (with_reducible exact laws_a2Rises.mono _ _ _)
      | (with_reducible exact laws_a2Sum.mono _ _)
      | (with_reducible exact spec_A2Hands.mono _ _)
      | (with_reducible exact spec_A2Some.mono _ _ _)
      | (with_reducible exact LeO.refl _)
      | (with_reducible exact LeO.none _)
      | (with_reducible refine LeO.ite ?_ ?_)
      | (with_reducible refine LeO.bind ?_ (fun _ => ?_))
      | exact ih0 _ _ _ _ _ _ _ _ _
      | exact ih1 _ _ _ _ _ _ _ _
      | exact ih2 _ _
      | exact ih3 _ _ _ _ _ _ _ _
      | exact ih4 _ _ _ _ _ _ _ _ _ _
      | exact impl_BusiestDay.mono _ _
      | exact impl_CheapestHands.mono _ _ _
      | exact impl_ReadClock.mono _ _
      | exact laws_a2Cost.mono _ _ _
      | exact laws_a2Rises.mono _ _ _
      | exact laws_a2Sum.mono _ _
      | exact spec_A2Hands.mono _ _
      | exact spec_A2Some.mono _ _ _
      | exact LeO.none _
      | refine LeO.ite ?_ ?_
      | refine LeO.bind ?_ (fun _ => ?_)
    · intro y0 y1 y2 y3 y4 y5 y6 y7
      unfold laws_FnCheapHands.j1
      repeat' first
      | (with_reducible exact ih0 _ _ _ _ _ _ _ _ _)
      | (with_reducible exact ih1 _ _ _ _ _ _ _ _)
      | (with_reducible exact ih2 _ _)
      | (with_reducible exact ih3 _ _ _ _ _ _ _ _)
      | (with_reducible exact ih4 _ _ _ _ _ _ _ _ _ _)
      | (with_reducible exact impl_BusiestDay.mono _ _)
      | (with_reducible exact impl_CheapestHands.mono _ _ _)
      | (with_reducible exact impl_ReadClock.mono _ _)
      | (with_reducible exact laws_a2Cost.mono _ _ _)
      | (with_reducible exact laws_a2Rises.mono _ _ _)
      | (with_reducible exact laws_a2Sum.mono _ _)
      | (with_reducible exact spec_A2Hands.mono _ _)
      | (with_reducible exact spec_A2Some.mono _ _ _)
      | (with_reducible exact LeO.refl _)
      | (with_reducible exact LeO.none _)
      | (with_reducible refine LeO.ite ?_ ?_)
      | (with_reducible refine LeO.bind ?_ (fun _ => ?_))
      | exact ih0 _ _ _ _ _ _ _ _ _
      | exact ih1 _ _ _ _ _ _ _ _
      | exact ih2 _ _
      | exact ih3 _ _ _ _ _ _ _ _
      | exact ih4 _ _ _ _ _ _ _ _ _ _
      | exact impl_BusiestDay.mono _ _
      | exact impl_CheapestHands.mono _ _ _
      | exact impl_ReadClock.mono _ _
      | exact laws_a2Cost.mono _ _ _
      | exact laws_a2Rises.mono _ _ _
      | exact laws_a2Sum.mono _ _
      | exact spec_A2Hands.mono _ _
      | exact spec_A2Some.mono _ _ _
      | exact LeO.none _
      | refine LeO.ite ?_ ?_
      | refine LeO.bind ?_ (fun _ => ?_)
    · intro y0 y1
      unfold laws_FnCheapHands.j2
      repeat' first
      | (with_reducible exact ih0 _ _ _ _ _ _ _ _ _)
      | (with_reducible exact ih1 _ _ _ _ _ _ _ _)
      | (with_reducible exact ih2 _ _)
      | (with_reducible exact ih3 _ _ _ _ _ _ _ _)
      | (with_reducible exact ih4 _ _ _ _ _ _ _ _ _ _)
      | (with_reducible exact impl_BusiestDay.mono _ _)
      | (with_reducible exact impl_CheapestHands.mono _ _ _)
      | (with_reducible exact impl_ReadClock.mono _ _)
      | (with_reducible exact laws_a2Cost.mono _ _ _)
      | (with_reducible exact laws_a2Rises.mono _ _ _)
      | (with_reducible exact laws_a2Sum.mono _ _)
      | (with_reducible exact spec_A2Hands.mono _ _)
      | (with_reducible exact spec_A2Some.mono _ _ _)
      | (with_reducible exact LeO.refl _)
      | (with_reducible exact LeO.none _)
      | (with_reducible refine LeO.ite ?_ ?_)
      | (with_reducible refine LeO.bind ?_ (fun _ => ?_))
      | exact ih0 _ _ _ _ _ _ _ _ _
      | exact ih1 _ _ _ _ _ _ _ _
      | exact ih2 _ _
      | exact ih3 _ _ _ _ _ _ _ _
      | exact ih4 _ _ _ _ _ _ _ _ _ _
      | exact impl_BusiestDay.mono _ _
      | exact impl_CheapestHands.mono _ _ _
      | exact impl_ReadClock.mono _ _
      | exact laws_a2Cost.mono _ _ _
      | exact laws_a2Rises.mono _ _ _
      | exact laws_a2Sum.mono _ _
      | exact spec_A2Hands.mono _ _
      | exact spec_A2Some.mono _ _ _
      | exact LeO.none _
      | refine LeO.ite ?_ ?_
      | refine LeO.bind ?_ (fun _ => ?_)
    · intro y0 y1 y2 y3 y4 y5 y6 y7
      unfold laws_FnCheapHands.l1
      repeat' first
      | (with_reducible exact ih0 _ _ _ _ _ _ _ _ _)
      | (with_reducible exact ih1 _ _ _ _ _ _ _ _)
      | (with_reducible exact ih2 _ _)
      | (with_reducible exact ih3 _ _ _ _ _ _ _ _)
      | (with_reducible exact ih4 _ _ _ _ _ _ _ _ _ _)
      | (with_reducible exact impl_BusiestDay.mono _ _)
      | (with_reducible exact impl_CheapestHands.mono _ _ _)
      | (with_reducible exact impl_ReadClock.mono _ _)
      | (with_reducible exact laws_a2Cost.mono _ _ _)
      | (with_reducible exact laws_a2Rises.mono _ _ _)
      | (with_reducible exact laws_a2Sum.mono _ _)
      | (with_reducible exact spec_A2Hands.mono _ _)
      | (with_reducible exact spec_A2Some.mono _ _ _)
      | (with_reducible exact LeO.refl _)
      | (with_reducible exact LeO.none _)
      | (with_reducible refine LeO.ite ?_ ?_)
      | (with_reducible refine LeO.bind ?_ (fun _ => ?_))
      | exact ih0 _ _ _ _ _ _ _ _ _
      | exact ih1 _ _ _ _ _ _ _ _
      | exact ih2 _ _
      | exact ih3 _ _ _ _ _ _ _ _
      | exact ih4 _ _ _ _ _ _ _ _ _ _
      | exact impl_BusiestDay.mono _ _
      | exact impl_CheapestHands.mono _ _ _
      | exact impl_ReadClock.mono _ _
      | exact laws_a2Cost.mono _ _ _
      | exact laws_a2Rises.mono _ _ _
      | exact laws_a2Sum.mono _ _
      | exact spec_A2Hands.mono _ _
      | exact spec_A2Some.mono _ _ _
      | exact LeO.none _
      | refine LeO.ite ?_ ?_
      | refine LeO.bind ?_ (fun _ => ?_)
    · intro y0 y1 y2 y3 y4 y5 y6 y7 y8 y9
      unfold laws_FnCheapHands.l2
      repeat' first
      | (with_reducible exact ih0 _ _ _ _ _ _ _ _ _)
      | (with_reducible exact ih1 _ _ _ _ _ _ _ _)
      | (with_reducible exact ih2 _ _)
      | (with_reducible exact ih3 _ _ _ _ _ _ _ _)
      | (with_reducible exact ih4 _ _ _ _ _ _ _ _ _ _)
      | (with_reducible exact impl_BusiestDay.mono _ _)
      | (with_reducible exact impl_CheapestHands.mono _ _ _)
      | (with_reducible exact impl_ReadClock.mono _ _)
      | (with_reducible exact laws_a2Cost.mono _ _ _)
      | (with_reducible exact laws_a2Rises.mono _ _ _)
      | (with_reducible exact laws_a2Sum.mono _ _)
      | (with_reducible exact spec_A2Hands.mono _ _)
      | (with_reducible exact spec_A2Some.mono _ _ _)
      | (with_reducible exact LeO.refl _)
      | (with_reducible exact LeO.none _)
      | (with_reducible refine LeO.ite ?_ ?_)
      | (with_reducible refine LeO.bind ?_ (fun _ => ?_))
      | exact ih0 _ _ _ _ _ _ _ _ _
      | exact ih1 _ _ _ _ _ _ _ _
      | exact ih2 _ _
      | exact ih3 _ _ _ _ _ _ _ _
      | exact ih4 _ _ _ _ _ _ _ _ _ _
      | exact impl_BusiestDay.mono _ _
      | exact impl_CheapestHands.mono _ _ _
      | exact impl_ReadClock.mono _ _
      | exact laws_a2Cost.mono _ _ _
      | exact laws_a2Rises.mono _ _ _
      | exact laws_a2Sum.mono _ _
      | exact spec_A2Hands.mono _ _
      | exact spec_A2Some.mono _ _ _
      | exact LeO.none _
      | refine LeO.ite ?_ ?_
      | refine LeO.bind ?_ (fun _ => ?_)
theorem laws_FnCheapHands.mono : ∀ a0 a1 k, LeO (laws_FnCheapHands.f k a0 a1) (laws_FnCheapHands.f (k + 1) a0 a1) := by
  intro a0 a1 k
  obtain ⟨ih0, ih1, ih2, ih3, ih4⟩ := laws_FnCheapHands.mono_l k
  unfold laws_FnCheapHands.f
  repeat' first
      | (with_reducible exact ih0 _ _ _ _ _ _ _ _ _)
      | (with_reducible exact ih1 _ _ _ _ _ _ _ _)
      | (with_reducible exact ih2 _ _)
      | (with_reducible exact ih3 _ _ _ _ _ _ _ _)
      | (with_reducible exact ih4 _ _ _ _ _ _ _ _ _ _)
      | (with_reducible exact impl_BusiestDay.mono _ _)
      | (with_reducible exact impl_CheapestHands.mono _ _ _)
      | (with_reducible exact impl_ReadClock.mono _ _)
      | (with_reducible exact laws_a2Cost.mono _ _ _)
      | (with_reducible exact laws_a2Rises.mono _ _ _)
      | (with_reducible exact laws_a2Sum.mono _ _)
      | (with_reducible exact spec_A2Hands.mono _ _)
      | (with_reducible exact spec_A2Some.mono _ _ _)
      | (with_reducible exact LeO.refl _)
      | (with_reducible exact LeO.none _)
      | (with_reducible refine LeO.ite ?_ ?_)
      | (with_reducible refine LeO.bind ?_ (fun _ => ?_))
      | exact ih0 _ _ _ _ _ _ _ _ _
      | exact ih1 _ _ _ _ _ _ _ _
      | exact ih2 _ _
      | exact ih3 _ _ _ _ _ _ _ _
      | exact ih4 _ _ _ _ _ _ _ _ _ _
      | exact impl_BusiestDay.mono _ _
      | exact impl_CheapestHands.mono _ _ _
      | exact impl_ReadClock.mono _ _
      | exact laws_a2Cost.mono _ _ _
      | exact laws_a2Rises.mono _ _ _
      | exact laws_a2Sum.mono _ _
      | exact spec_A2Hands.mono _ _
      | exact spec_A2Some.mono _ _ _
      | exact LeO.none _
      | refine LeO.ite ?_ ?_
      | refine LeO.bind ?_ (fun _ => ?_)
set_option maxHeartbeats 8000000 in
set_option maxRecDepth 100000 in
theorem laws_FnCheapHands.calls (k : Nat) (A0 : Option Addr) (c0 : Nat) (l0 : List Int) (A1 : Option Addr) (c1 : Nat) (l1 : List Int) (r : Bool) (w : World) (hG : GF w) (hr0 : Kd.C (Kd.int .u8) w A0 l0.length l0) (hc0 : l0.length ≤ c0) (hr1 : Kd.C (Kd.int .u8) w A1 l1.length l1) (hc1 : l1.length ≤ c1) (hrt : r = true) (h : laws_FnCheapHands.f k l0 l1 = some r) :
    Calls Tryd.prog 3 #[.slice A0 l0.length c0, .slice A1 l1.length c1] w fun e w' => e = .returned (.bool r) ∧ Below w.heap.size w w' := by
  have HR0 := Aside0.mk hr0
  have HC0 := Aside0.mk hc0
  clear hr0 hc0
  have HR1 := Aside0.mk hr1
  have HC1 := Aside0.mk hc1
  clear hr1 hc1
  have HB := Aside0.mk (Below.refl w.heap.size w)
  have HRT := Aside0.mk hrt
  clear hrt
  have HG := Aside0.mk hG
  clear hG
  have H : ((laws_a2Long.f l0 l1).bind fun t216 => (if t216 = true then (some true) else ((spec_A2Hands.f k l0).bind fun t217 => ((laws_a2At.f l1 0 100).bind fun t220 => ((impl_CheapestHands.f k t217 (wrap64 (30 * t220))).bind fun bt221 => ((spec_A2Some.f k l1 (t217.length : Int)).bind fun t226 => (laws_FnCheapHands.l0 k l1 t217 (wrap64 (30 * t220)) bt221.1 bt221.2.1 bt221.2.2 t226 0 0))))))) = some r := h
  clear h
  replace H := Option.bind_eq_some_iff.mp H
  obtain ⟨t216, A30, H⟩ := H
  have A3 := Aside0.mk A30
  clear A30
  by_cases c4 : t216 = true
  · subst c4
    rw [if_pos rfl] at H
    as_aux_lemma =>
      obtain rfl := Option.some.inj H
      go_enter Tryd.func3, Tryd.ntmps3
      go_wp2_with (first | ((with_reducible refine gate_callee (f := 5) rfl ?_); refine goesL_ (some 30) rfl rfl Tryd.func5 (by kernel_rfl) rfl #[.slice A0 l0.length c0, .slice A1 l1.length c1] rfl (by (try simp only [List.map_toArray, List.map_cons, List.map_nil]); first | done | rfl | (simp only [List.length_drop, List.length_take]; rfl)) ?_; (with_reducible refine (laws_a2Long.calls _ _ l0 _ _ l1 true _ ?side1 ?side2 ?side3 ?side4 A3.out).mono ?_); (case side1 => repeat (first | exact HR0.out | (with_reducible refine Kd.C_alloc ?_ _) | (with_reducible refine Kd.C_drewN ?_ _) | (with_reducible refine Kd.C_drew ?_))); (case side2 => exact HC0.out); (case side3 => repeat (first | exact HR1.out | (with_reducible refine Kd.C_alloc ?_ _) | (with_reducible refine Kd.C_drewN ?_ _) | (with_reducible refine Kd.C_drew ?_))); (case side4 => exact HC1.out); rintro e w' ⟨rfl, ⟨nd, rfl⟩⟩; refine ⟨_, rfl, ?_⟩))
      go_ret
      exact ⟨by first | rfl | (simp [errW_none, errW_some] <;> rfl) | (simp [*, errW_none, errW_some] <;> rfl), by repeat (first | (with_reducible first | exact HB.out | apply below_alloc | apply pw_below_drewN | apply below_drew1) | exact HB.out)⟩
  · replace c4 := Bool.eq_false_iff.mpr c4
    subst c4
    rw [if_neg (show ¬ (false = true) by decide)] at H
    replace H := Option.bind_eq_some_iff.mp H
    obtain ⟨t217, A50, H⟩ := H
    have A5 := Aside0.mk A50
    clear A50
    replace H := Option.bind_eq_some_iff.mp H
    obtain ⟨t220, A60, H⟩ := H
    have A6 := Aside0.mk A60
    clear A60
    replace H := Option.bind_eq_some_iff.mp H
    obtain ⟨⟨t221, t222, t223⟩, A70, H⟩ := H
    replace H : ((spec_A2Some.f k l1 (t217.length : Int)).bind fun t226 => (laws_FnCheapHands.l0 k l1 t217 (wrap64 (30 * t220)) t221 t222 t223 t226 0 0)) = some r := H
    have A7 := Aside0.mk A70
    clear A70
    replace H := Option.bind_eq_some_iff.mp H
    obtain ⟨t226, A80, H⟩ := H
    have A8 := Aside0.mk A80
    clear A80
    have H' := Aside0.mk H
    clear H
    go_enter Tryd.func3, Tryd.ntmps3
    go_wp2_with (first | ((with_reducible refine gate_callee (f := 5) rfl ?_); refine goesL_ (some 30) rfl rfl Tryd.func5 (by kernel_rfl) rfl #[.slice A0 l0.length c0, .slice A1 l1.length c1] rfl (by (try simp only [List.map_toArray, List.map_cons, List.map_nil]); first | done | rfl | (simp only [List.length_drop, List.length_take]; rfl)) ?_; (with_reducible refine (laws_a2Long.calls _ _ l0 _ _ l1 false _ ?side1 ?side2 ?side3 ?side4 A3.out).mono ?_); (case side1 => repeat (first | exact HR0.out | (with_reducible refine Kd.C_alloc ?_ _) | (with_reducible refine Kd.C_drewN ?_ _) | (with_reducible refine Kd.C_drew ?_))); (case side2 => exact HC0.out); (case side3 => repeat (first | exact HR1.out | (with_reducible refine Kd.C_alloc ?_ _) | (with_reducible refine Kd.C_drewN ?_ _) | (with_reducible refine Kd.C_drew ?_))); (case side4 => exact HC1.out); rintro e w' ⟨rfl, ⟨nd, rfl⟩⟩; refine ⟨_, rfl, ?_⟩) | ((with_reducible refine gate_callee (f := 6) rfl ?_); refine goesL_ (some 32) rfl rfl Tryd.func6 (by kernel_rfl) rfl #[.slice A0 l0.length c0] rfl (by (try simp only [List.map_toArray, List.map_cons, List.map_nil]); first | done | rfl | (simp only [List.length_drop, List.length_take]; rfl)) ?_; (with_reducible refine (spec_A2Hands.calls k _ _ l0 t217 _ ?side1 ?side2 A5.out).mono ?_); (case side1 => repeat (first | exact HR0.out | (with_reducible refine Kd.C_alloc ?_ _) | (with_reducible refine Kd.C_drewN ?_ _) | (with_reducible refine Kd.C_drew ?_))); (case side2 => exact HC0.out); rintro e w9 ⟨v218, rfl, ho0, hb⟩; refine ⟨_, rfl, ?_⟩; have n0_ := Aside0.mk (Kd.S_lower ho0 (below_size (by repeat (first | (with_reducible first | exact HB.out | apply below_alloc | apply pw_below_drewN | apply below_drew1) | exact HB.out)))); have n1_ := Aside0.mk (below_step (by repeat (first | (with_reducible first | exact HB.out | apply below_alloc | apply pw_below_drewN | apply below_drew1) | exact HB.out)) hb); clear HB; have HO219 := n0_; have HB := n1_; clear n0_ n1_; (try clear hb); (try clear hb2); (try clear hk); (try clear hi); (try clear ho0)) | ((with_reducible refine gate_callee (f := 7) rfl ?_); refine goesL_ (some 34) rfl rfl Tryd.func7 (by kernel_rfl) rfl #[.slice A1 l1.length c1, .int .i64 0, .int .i64 100] rfl (by (try simp only [List.map_toArray, List.map_cons, List.map_nil]); first | done | rfl | (simp only [List.length_drop, List.length_take]; rfl)) ?_; (with_reducible refine (laws_a2At.calls _ _ l1 0 100 t220 _ ?side1 ?side2 A6.out).mono ?_); (case side1 => repeat (first | exact (Kd.C_below HR1.out HB.out) | (with_reducible refine Kd.C_alloc ?_ _) | (with_reducible refine Kd.C_drewN ?_ _) | (with_reducible refine Kd.C_drew ?_))); (case side2 => exact HC1.out); rintro e w' ⟨rfl, ⟨nd, rfl⟩⟩; refine ⟨_, rfl, ?_⟩; obtain ⟨Ao10, co10, eo10⟩ := Kd.S_slice HO219.out; subst eo10) | ((with_reducible refine gate_callee (f := 8) rfl ?_); refine goesL_ (some 39) rfl rfl Tryd.func8 (by kernel_rfl) rfl #[.slice Ao10 t217.length co10, .int .i64 (wrap64 (30 * t220))] rfl (by (try simp only [List.map_toArray, List.map_cons, List.map_nil]); first | done | rfl | (simp only [List.length_drop, List.length_take]; rfl)) ?_; (with_reducible refine (impl_CheapestHands.calls k _ _ t217 (wrap64 (30 * t220)) t221 t222 t223 _ ?side1 ?side2 A7.out).mono ?_); (case side1 => repeat (first | exact (Kd.S_reads' HO219.out).2.2 | (with_reducible refine Kd.C_alloc ?_ _) | (with_reducible refine Kd.C_drewN ?_ _) | (with_reducible refine Kd.C_drew ?_))); (case side2 => exact (Kd.S_reads' HO219.out).2.1); rintro e w11 ⟨v224, rfl, ho0, hb⟩; refine ⟨_, rfl, ?_⟩; have n0_ := Aside0.mk (Kd.S_elder' (by (with_reducible repeat (first | apply Kd.S_alloc | apply Kd.S_drewN | apply Kd.S_drew)); exact HO219.out) (Kd.R_base ho0) hb); have n1_ := Aside0.mk (Kd.R_lower ho0 (below_size (by repeat (first | (with_reducible first | exact HB.out | apply below_alloc | apply pw_below_drewN | apply below_drew1) | exact HB.out)))); have n2_ := Aside0.mk (below_step (by repeat (first | (with_reducible first | exact HB.out | apply below_alloc | apply pw_below_drewN | apply below_drew1) | exact HB.out)) hb); clear HO219; clear HB; have HO219 := n0_; have HO225 := n1_; have HB := n2_; clear n0_ n1_ n2_; (try clear hb); (try clear hb2); (try clear hk); (try clear hi); (try clear ho0)) | ((with_reducible refine gate_callee (f := 9) rfl ?_); refine goesL_ (some 46) rfl rfl Tryd.func9 (by kernel_rfl) rfl #[.slice A1 l1.length c1, .int .i64 (t217.length : Int)] rfl (by (try simp only [List.map_toArray, List.map_cons, List.map_nil]); first | done | rfl | (simp only [List.length_drop, List.length_take]; rfl)) ?_; (with_reducible refine (spec_A2Some.calls k _ _ l1 (t217.length : Int) t226 _ ?side1 ?side2 A8.out).mono ?_); (case side1 => repeat (first | exact (Kd.C_below HR1.out HB.out) | (with_reducible refine Kd.C_alloc ?_ _) | (with_reducible refine Kd.C_drewN ?_ _) | (with_reducible refine Kd.C_drew ?_))); (case side2 => exact HC1.out); rintro e w12 ⟨v227, rfl, ho0, hb⟩; refine ⟨_, rfl, ?_⟩; have n0_ := Aside0.mk (Kd.S_elder' (by (with_reducible repeat (first | apply Kd.S_alloc | apply Kd.S_drewN | apply Kd.S_drew)); exact HO219.out) (Kd.R_base ho0) hb); have n1_ := Aside0.mk (Kd.R_elder' (by (with_reducible repeat (first | apply Kd.R_alloc | apply Kd.R_drewN | apply Kd.R_drew)); exact HO225.out) (Kd.R_base ho0) hb); have n2_ := Aside0.mk (Kd.R_lower (Kd.R_new' ho0 (Kd.R_lt (by (with_reducible repeat (first | apply Kd.R_alloc | apply Kd.R_drewN | apply Kd.R_drew)); exact HO225.out))) (below_size (by repeat (first | (with_reducible first | exact HB.out | apply below_alloc | apply pw_below_drewN | apply below_drew1) | exact HB.out)))); have n3_ := Aside0.mk (below_step (by repeat (first | (with_reducible first | exact HB.out | apply below_alloc | apply pw_below_drewN | apply below_drew1) | exact HB.out)) hb); clear HO219; clear HO225; clear HB; have HO219 := n0_; have HO225 := n1_; have HO228 := n2_; have HB := n3_; clear n0_ n1_ n2_ n3_; (try clear hb); (try clear hb2); (try clear hk); (try clear hi); (try clear ho0)))
    go_loopg [11, 12] k (fun kq v11 v12 w' => ∃ (x11_1 : Int) (x12_1 : Int), v11 = .int .i64 x11_1 ∧ v12 = .int .i64 x12_1 ∧ Aside0 (laws_FnCheapHands.l0 kq l1 t217 (wrap64 (30 * t220)) t221 t222 t223 t226 x11_1 x12_1 = some r) ∧ Aside0 (kq ≤ k) ∧ Aside0 (Kd.S k33 33 w' w.heap.size (fun k_ => some k_ ≠ (v224 : Value).ownBlock ∧ some k_ ≠ (v227 : Value).ownBlock) (.slice Ao10 t217.length co10) t217) ∧ Aside0 (Kd.R (Kd.int .i64) 2 w' w.heap.size (fun k_ => some k_ ≠ (v227 : Value).ownBlock) v224 t221) ∧ Aside0 (Kd.R (Kd.int .i64) 2 w' w.heap.size (fun k_ => some k_ ≠ (v224 : Value).ownBlock) v227 t226) ∧ Aside0 (Below w.heap.size w w'))
    case atStart => exact ⟨(0), (0), (by first | rfl | (simp; done) | (simp [*]; done)), (by first | rfl | (simp; done) | (simp [*]; done)), H', ⟨Nat.le_refl _⟩, ⟨by (with_reducible repeat (first | apply Kd.S_alloc | apply Kd.S_drewN | apply Kd.S_drew)); exact Kd.S_mono HO219.out (fun _ hk => ⟨hk.1.2, hk.2⟩)⟩, ⟨by (with_reducible repeat (first | apply Kd.R_alloc | apply Kd.R_drewN | apply Kd.R_drew)); exact Kd.R_mono HO225.out (fun _ hk => hk.2)⟩, ⟨by (with_reducible repeat (first | apply Kd.R_alloc | apply Kd.R_drewN | apply Kd.R_drew)); exact Kd.R_mono HO228.out (fun _ hk => hk.2)⟩, ⟨by repeat (first | (with_reducible first | exact HB.out | apply below_alloc | apply pw_below_drewN | apply below_drew1) | exact HB.out)⟩⟩
    case round =>
      clear H'
      try clear c1
      try clear p2
      try clear c3
      try clear c4
      try clear c5
      try clear c6
      try clear p6
      try clear c7
      try clear c8
      try clear c9
      obtain ⟨x11_1, x12_1, rfl, rfl, HA, HK1, HO_5, HO_7, HO_10, HB⟩ := hrel
      cases gk with
      | zero => exact absurd HA.out (by simp [laws_FnCheapHands.l0])
      | succ k1 =>
        have H := HA.out
        clear HA
        simp only [laws_FnCheapHands.l0] at H
        by_cases c13 : x12_1 < (t217.length : Int)
        · rw [if_pos c13] at H
          have c13b0 : decide (x12_1 < (t217.length : Int)) = true := decide_eq_true c13
          clear c13
          by_cases c14 : 0 ≤ x12_1
          · rw [if_pos c14] at H
            have c14b0 : decide (0 ≤ x12_1) = true := decide_eq_true c14
            clear c14
            replace H := Option.bind_eq_some_iff.mp H
            obtain ⟨t230, A150, H⟩ := H
            have A15 := Aside0.mk A150
            clear A150
            as_aux_lemma =>
              have H' := Aside0.mk H
              clear H
              have p229 : 0 ≤ (x12_1 : Int) := of_decide_eq_true (by first | (with_reducible assumption) | assumption)
              have q229 : x12_1 < (t217.length : Int) := of_decide_eq_true (by first | (with_reducible assumption) | assumption)
              obtain ⟨ad229, A229_1, c229_1, e229, hx229_0, hx229_1, hx229_2, hl229_1, hi229_1⟩ := at_T33 (Kd.S_reads' HO_5.out).2.2 x12_1 p229 q229
              cases e229
              obtain ⟨ce229, hce229, hMe229, hcc229⟩ := Kd.S_get HO_5.out z33 x12_1 p229 (by first | exact q229 | exact of_decide_eq_true (by first | (with_reducible assumption) | assumption) | (have e_ := (Kd.S_reads' HO_5.out).1; omega))
              obtain ⟨ve229_1, rfl, ge229_1⟩ := k33_openM hMe229
              have hv229_1 := hcc229 1 _ rfl
              rw [add_field _ _ 1 (by omega)] at hv229_1
              replace hv229_1 := Option.some.inj (hv229_1.symm.trans hx229_1)
              rw [hv229_1] at ge229_1
              have HL229_1 := Aside0.mk (show Kd.R (Kd.int .i64) 2 _ _ _ _ ((rd_T33 t217 x12_1).f1) from ge229_1)
              clear hv229_1 ge229_1
              clear hcc229 hce229
              have HR229_1 := Aside0.mk hi229_1
              have HC229_1 := Aside0.mk hl229_1
              clear hi229_1 hl229_1
              replace p229 := eq_true p229
              replace q229 := eq_true q229
              go_wp2_with (first | ((with_reducible refine gate_callee (f := 10) rfl ?_); refine goesL_ (some 59) rfl rfl Tryd.func10 (by kernel_rfl) rfl #[.slice A229_1 ((rd_T33 t217 x12_1).f1).length c229_1] rfl (by (try simp only [List.map_toArray, List.map_cons, List.map_nil]); first | done | rfl | (simp only [List.length_drop, List.length_take]; rfl)) ?_; (with_reducible refine (laws_a2Sum.calls k1 _ _ ((rd_T33 t217 x12_1).f1) t230 _ ?side1 ?side2 A15.out).mono ?_); (case side1 => repeat (first | exact (by repeat (first | (with_reducible exact HR229_1.out) | (with_reducible refine Kd.C_alloc ?_ _) | (with_reducible refine Kd.C_drewN ?_ _) | (with_reducible refine Kd.C_drew ?_) | exact HR229_1.out)) | (with_reducible refine Kd.C_alloc ?_ _) | (with_reducible refine Kd.C_drewN ?_ _) | (with_reducible refine Kd.C_drew ?_))); (case side2 => exact HC229_1.out); rintro e w' ⟨rfl, ⟨nd, rfl⟩⟩; refine ⟨_, rfl, ?_⟩))
              go_roundg k1
              case measure => have := HK1.out; omega
              case rel => exact ⟨(wrap64 (x11_1 + t230)), (wrap64 (x12_1 + 1)), (by first | rfl | (simp; done) | (simp [*]; done)), (by first | rfl | (simp; done) | (simp [*]; done)), H', ⟨by have := HK1.out; omega⟩, ⟨by (with_reducible repeat (first | apply Kd.S_alloc | apply Kd.S_drewN | apply Kd.S_drew)); exact HO_5.out⟩, ⟨by (with_reducible repeat (first | apply Kd.R_alloc | apply Kd.R_drewN | apply Kd.R_drew)); exact HO_7.out⟩, ⟨by (with_reducible repeat (first | apply Kd.R_alloc | apply Kd.R_drewN | apply Kd.R_drew)); exact HO_10.out⟩, ⟨by repeat (first | (with_reducible first | exact HB.out | apply below_alloc | apply pw_below_drewN | apply below_drew1) | exact HB.out)⟩⟩
          · rw [if_neg c14] at H
            exact absurd H (by simp)
        · rw [if_neg c13] at H
          have c13b0 : decide (x12_1 < (t217.length : Int)) = false := decide_eq_false c13
          clear c13
          have HC16 := Aside0.mk H
          clear H
          go_upto_region 12 with (fail)
          go_cut [74] (fun v74 wc => ∃ (kq : Nat) (x74_15 : Bool), v74 = .bool x74_15 ∧ Aside0 (laws_FnCheapHands.j1 kq l1 t217 (wrap64 (30 * t220)) t221 t222 t223 t226 x74_15 = some r) ∧ Aside0 (kq ≤ k1) ∧ Aside0 (Kd.S k33 33 wc w.heap.size (fun k_ => some k_ ≠ (v224 : Value).ownBlock ∧ some k_ ≠ (v227 : Value).ownBlock) (.slice Ao10 t217.length co10) t217) ∧ Aside0 (Kd.R (Kd.int .i64) 2 wc w.heap.size (fun k_ => some k_ ≠ (v227 : Value).ownBlock) v224 t221) ∧ Aside0 (Kd.R (Kd.int .i64) 2 wc w.heap.size (fun k_ => some k_ ≠ (v224 : Value).ownBlock) v227 t226) ∧ Aside0 (Below w.heap.size w wc))
          case first =>
            have H := HC16.out
            clear HC16
            by_cases c17 : ((t223 == 0) != (decide (x11_1 ≥ (wrap64 (30 * t220))))) = true
            · rw [if_pos c17] at H
              have c17b0 : ((t223 == 0) != (decide (x11_1 ≥ (wrap64 (30 * t220))))) = true := c17
              (try (have c17b1 : decide ((t223 == 0) = (decide (x11_1 ≥ (wrap64 (30 * t220))))) = false := by simpa using c17))
              (try (have c17b2 : ((t223 == 0) == (decide (x11_1 ≥ (wrap64 (30 * t220))))) = false := by simpa using c17))
              (try (have c17b3 : ¬ ((t223 == 0) = (decide (x11_1 ≥ (wrap64 (30 * t220))))) := by simpa using c17))
              clear c17
              (first | rw [c17b0] | (simp only [i64_w, i32_w]; rw [c17b0]) | skip)
              as_aux_lemma =>
                exact absurd ((Option.some.inj H).trans HRT.out) (by decide)
            · rw [if_neg c17] at H
              have c17b0 : ((t223 == 0) != (decide (x11_1 ≥ (wrap64 (30 * t220))))) = false := by simpa using c17
              (try (have c17b1 : decide ((t223 == 0) = (decide (x11_1 ≥ (wrap64 (30 * t220))))) = true := by simpa using c17))
              (try (have c17b2 : ((t223 == 0) == (decide (x11_1 ≥ (wrap64 (30 * t220))))) = true := by simpa using c17))
              clear c17
              (first | rw [c17b0] | (simp only [i64_w, i32_w]; rw [c17b0]) | skip)
              by_cases c18 : t223 = 0
              · rw [if_pos c18] at H
                have c18b0 : (t223 == 0) = true := beq_iff_eq.mpr c18
                have c18b1 : (t223 != 0) = false := bne_eq_false_iff_eq.mpr c18
                have c18b2 : decide (x11_1 ≥ (wrap64 (30 * t220))) = true := by
                  rw [c18b0] at c17b0
                  cases hd_ : decide (x11_1 ≥ (wrap64 (30 * t220))) with
                  | true => rfl
                  | false => rw [hd_] at c17b0; exact absurd c17b0 (by decide)
                clear c18
                as_aux_lemma =>
                  have H' := Aside0.mk H
                  clear H
                  go_wp2
                  go_meet
                  case rel => exact ⟨_, (false), (by first | rfl | (simp; done) | (simp [*]; done)), H', ⟨by have := HK1.out; first | omega | exact Nat.le_refl _⟩, ⟨by (with_reducible repeat (first | apply Kd.S_alloc | apply Kd.S_drewN | apply Kd.S_drew)); exact HO_5.out⟩, ⟨by (with_reducible repeat (first | apply Kd.R_alloc | apply Kd.R_drewN | apply Kd.R_drew)); exact HO_7.out⟩, ⟨by (with_reducible repeat (first | apply Kd.R_alloc | apply Kd.R_drewN | apply Kd.R_drew)); exact HO_10.out⟩, ⟨by repeat (first | (with_reducible first | exact HB.out | apply below_alloc | apply pw_below_drewN | apply below_drew1) | exact HB.out)⟩⟩
              · rw [if_neg c18] at H
                have c18b0 : (t223 == 0) = false := beq_eq_false_iff_ne.mpr c18
                have c18b1 : (t223 != 0) = true := bne_iff_ne.mpr c18
                have c18b2 : decide (x11_1 ≥ (wrap64 (30 * t220))) = false := by
                  rw [c18b0] at c17b0
                  cases hd_ : decide (x11_1 ≥ (wrap64 (30 * t220))) with
                  | false => rfl
                  | true => rw [hd_] at c17b0; exact absurd c17b0 (by decide)
                as_aux_lemma =>
                  have H' := Aside0.mk H
                  clear H
                  go_wp2
                  go_meet
                  case rel => exact ⟨_, ((t223 != 3)), (by first | rfl | (simp; done) | (simp [*]; done)), H', ⟨by have := HK1.out; first | omega | exact Nat.le_refl _⟩, ⟨by (with_reducible repeat (first | apply Kd.S_alloc | apply Kd.S_drewN | apply Kd.S_drew)); exact HO_5.out⟩, ⟨by (with_reducible repeat (first | apply Kd.R_alloc | apply Kd.R_drewN | apply Kd.R_drew)); exact HO_7.out⟩, ⟨by (with_reducible repeat (first | apply Kd.R_alloc | apply Kd.R_drewN | apply Kd.R_drew)); exact HO_10.out⟩, ⟨by repeat (first | (with_reducible first | exact HB.out | apply below_alloc | apply pw_below_drewN | apply below_drew1) | exact HB.out)⟩⟩
          case rest =>
            clear HC16
            try clear c1
            try clear c2
            try clear p2
            try clear q2
            try clear hx2
            try clear c3
            try clear c4
            try clear c5
            try clear c6
            try clear p6
            try clear c7
            try clear c8
            try clear c9
            try clear c10
            try clear c13
            try clear c13b0
            try clear c14
            try clear c14b0
            try clear c17
            try clear c17b0
            try clear c17b1
            try clear c17b2
            try clear c18
            try clear c18b0
            try clear c18b1
            try clear hx229_0
            try clear hx229_1
            try clear hx229_2
            try clear p2
            try clear p229
            try clear p6
            try clear q229
            obtain ⟨kq, x74_15, rfl, HA, HJ15, HO_5, HO_7, HO_10, HB⟩ := hcut
            cases kq with
            | zero => exact absurd HA.out (by simp [laws_FnCheapHands.j1])
            | succ kj15 =>
              have H := HA.out
              clear HA
              simp only [laws_FnCheapHands.j1] at H
              by_cases c19 : x74_15 = true
              · subst c19
                rw [if_pos rfl] at H
                as_aux_lemma =>
                  exact absurd ((Option.some.inj H).trans HRT.out) (by decide)
              · replace c19 := Bool.eq_false_iff.mpr c19
                subst c19
                rw [if_neg (show ¬ (false = true) by decide)] at H
                have HC20 := Aside0.mk H
                clear H
                go_upto_if 76 with (fail)
                go_cut [] (fun wc => ∃ (kq : Nat), Aside0 (laws_FnCheapHands.j2 kq l1 t217 = some r) ∧ Aside0 (kq ≤ kj15) ∧ Aside0 (Kd.S k33 33 wc w.heap.size (fun _ => True) (.slice Ao10 t217.length co10) t217) ∧ Aside0 (Below w.heap.size w wc))
                case first =>
                  have H := HC20.out
                  clear HC20
                  by_cases c21 : t223 = 0
                  · rw [if_pos c21] at H
                    have c21b0 : (t223 == 0) = true := beq_iff_eq.mpr c21
                    have c21b1 : (t223 != 0) = false := bne_eq_false_iff_eq.mpr c21
                    clear c21
                    (first | rw [c21b0] | (simp only [i64_w, i32_w]; rw [c21b0]) | skip)
                    replace H := Option.bind_eq_some_iff.mp H
                    obtain ⟨t231, A220, H⟩ := H
                    have A22 := Aside0.mk A220
                    clear A220
                    by_cases c23 : t231 = true
                    · subst c23
                      rw [if_pos rfl] at H
                      replace H := Option.bind_eq_some_iff.mp H
                      obtain ⟨⟨t232, t233⟩, A240, H⟩ := H
                      dsimp only at H
                      have A24 := Aside0.mk A240
                      clear A240
                      replace H := Option.bind_eq_some_iff.mp H
                      obtain ⟨⟨t234, t235⟩, A250, H⟩ := H
                      replace H : (if t232 < (wrap64 (30 * t220)) then (some false) else (if t233 = t222 then (if t234 ≥ (wrap64 (30 * t220)) then (if t235 < t222 then (some false) else (laws_FnCheapHands.j2 kj15 l1 t217)) else (laws_FnCheapHands.j2 kj15 l1 t217)) else (some false))) = some r := H
                      have A25 := Aside0.mk A250
                      clear A250
                      by_cases c26 : t232 < (wrap64 (30 * t220))
                      · rw [if_pos c26] at H
                        have c26b0 : decide (t232 < (wrap64 (30 * t220))) = true := decide_eq_true c26
                        clear c26
                        as_aux_lemma =>
                          exact absurd ((Option.some.inj H).trans HRT.out) (by decide)
                      · rw [if_neg c26] at H
                        have c26b0 : decide (t232 < (wrap64 (30 * t220))) = false := decide_eq_false c26
                        clear c26
                        by_cases c27 : t233 = t222
                        · rw [if_pos c27] at H
                          have c27b0 : (t233 == t222) = true := beq_iff_eq.mpr c27
                          have c27b1 : (t233 != t222) = false := bne_eq_false_iff_eq.mpr c27
                          clear c27
                          by_cases c28 : t234 ≥ (wrap64 (30 * t220))
                          · rw [if_pos c28] at H
                            have c28b0 : decide ((wrap64 (30 * t220)) ≤ t234) = true := decide_eq_true c28
                            clear c28
                            by_cases c29 : t235 < t222
                            · rw [if_pos c29] at H
                              have c29b0 : decide (t235 < t222) = true := decide_eq_true c29
                              clear c29
                              as_aux_lemma =>
                                exact absurd ((Option.some.inj H).trans HRT.out) (by decide)
                            · rw [if_neg c29] at H
                              have c29b0 : decide (t235 < t222) = false := decide_eq_false c29
                              clear c29
                              as_aux_lemma =>
                                have H' := Aside0.mk H
                                clear H
                                obtain ⟨Ao30, co30, eo30⟩ := Kd.R_slice HO_7.out
                                subst eo30
                                go_wp2_with (first | ((with_reducible refine gate_callee (f := 11) rfl ?_); refine goesL_ (some 80) rfl rfl Tryd.func11 (by kernel_rfl) rfl #[.slice Ao30 t221.length co30, .int .i64 (t217.length : Int)] rfl (by (try simp only [List.map_toArray, List.map_cons, List.map_nil]); first | done | rfl | (simp only [List.length_drop, List.length_take]; rfl)) ?_; (with_reducible refine (laws_a2Rises.calls kj15 _ _ t221 (t217.length : Int) true _ ?side1 ?side2 A22.out).mono ?_); (case side1 => repeat (first | exact (Kd.R_reads' HO_7.out).2.2 | (with_reducible refine Kd.C_alloc ?_ _) | (with_reducible refine Kd.C_drewN ?_ _) | (with_reducible refine Kd.C_drew ?_))); (case side2 => exact (Kd.R_reads' HO_7.out).2.1); rintro e w' ⟨rfl, ⟨nd, rfl⟩⟩; refine ⟨_, rfl, ?_⟩) | ((with_reducible refine gate_callee (f := 12) rfl ?_); refine goesL_ (some 85) rfl rfl Tryd.func12 (by kernel_rfl) rfl #[.slice Ao10 t217.length co10, .slice Ao30 t221.length co30] rfl (by (try simp only [List.map_toArray, List.map_cons, List.map_nil]); first | done | rfl | (simp only [List.length_drop, List.length_take]; rfl)) ?_; (with_reducible refine (laws_a2Cost.calls kj15 _ _ t217 _ _ t221 t232 t233 _ ?side1 ?side2 ?side3 ?side4 A24.out).mono ?_); (case side1 => repeat (first | exact (Kd.S_reads' HO_5.out).2.2 | (with_reducible refine Kd.C_alloc ?_ _) | (with_reducible refine Kd.C_drewN ?_ _) | (with_reducible refine Kd.C_drew ?_))); (case side2 => exact (Kd.S_reads' HO_5.out).2.1); (case side3 => repeat (first | exact (Kd.R_reads' HO_7.out).2.2 | (with_reducible refine Kd.C_alloc ?_ _) | (with_reducible refine Kd.C_drewN ?_ _) | (with_reducible refine Kd.C_drew ?_))); (case side4 => exact (Kd.R_reads' HO_7.out).2.1); rintro e w31 ⟨rfl, hb⟩; refine ⟨_, rfl, ?_⟩; have n0_ := Aside0.mk (Kd.S_below (by (with_reducible repeat (first | apply Kd.S_alloc | apply Kd.S_drewN | apply Kd.S_drew)); exact HO_5.out) hb); have n1_ := Aside0.mk (Kd.R_below (by (with_reducible repeat (first | apply Kd.R_alloc | apply Kd.R_drewN | apply Kd.R_drew)); exact HO_7.out) hb); have n2_ := Aside0.mk (Kd.R_below (by (with_reducible repeat (first | apply Kd.R_alloc | apply Kd.R_drewN | apply Kd.R_drew)); exact HO_10.out) hb); have n3_ := Aside0.mk (below_step (by repeat (first | (with_reducible first | exact HB.out | apply below_alloc | apply pw_below_drewN | apply below_drew1) | exact HB.out)) hb); clear HO_5; clear HO_7; clear HO_10; clear HB; have HO_5 := n0_; have HO_7 := n1_; have HO_10 := n2_; have HB := n3_; clear n0_ n1_ n2_ n3_; (try clear hb); (try clear hb2); (try clear hk); (try clear hi); obtain ⟨Ao32, co32, eo32⟩ := Kd.R_slice HO_10.out; subst eo32) | ((with_reducible refine gate_callee (f := 12) rfl ?_); refine goesL_ (some 91) rfl rfl Tryd.func12 (by kernel_rfl) rfl #[.slice Ao10 t217.length co10, .slice Ao32 t226.length co32] rfl (by (try simp only [List.map_toArray, List.map_cons, List.map_nil]); first | done | rfl | (simp only [List.length_drop, List.length_take]; rfl)) ?_; (with_reducible refine (laws_a2Cost.calls kj15 _ _ t217 _ _ t226 t234 t235 _ ?side1 ?side2 ?side3 ?side4 A25.out).mono ?_); (case side1 => repeat (first | exact (Kd.S_reads' HO_5.out).2.2 | (with_reducible refine Kd.C_alloc ?_ _) | (with_reducible refine Kd.C_drewN ?_ _) | (with_reducible refine Kd.C_drew ?_))); (case side2 => exact (Kd.S_reads' HO_5.out).2.1); (case side3 => repeat (first | exact (Kd.R_reads' HO_10.out).2.2 | (with_reducible refine Kd.C_alloc ?_ _) | (with_reducible refine Kd.C_drewN ?_ _) | (with_reducible refine Kd.C_drew ?_))); (case side4 => exact (Kd.R_reads' HO_10.out).2.1); rintro e w33 ⟨rfl, hb⟩; refine ⟨_, rfl, ?_⟩; have n0_ := Aside0.mk (Kd.S_below (by (with_reducible repeat (first | apply Kd.S_alloc | apply Kd.S_drewN | apply Kd.S_drew)); exact HO_5.out) hb); have n1_ := Aside0.mk (Kd.R_below (by (with_reducible repeat (first | apply Kd.R_alloc | apply Kd.R_drewN | apply Kd.R_drew)); exact HO_7.out) hb); have n2_ := Aside0.mk (Kd.R_below (by (with_reducible repeat (first | apply Kd.R_alloc | apply Kd.R_drewN | apply Kd.R_drew)); exact HO_10.out) hb); have n3_ := Aside0.mk (below_step (by repeat (first | (with_reducible first | exact HB.out | apply below_alloc | apply pw_below_drewN | apply below_drew1) | exact HB.out)) hb); clear HO_5; clear HO_7; clear HO_10; clear HB; have HO_5 := n0_; have HO_7 := n1_; have HO_10 := n2_; have HB := n3_; clear n0_ n1_ n2_ n3_; (try clear hb); (try clear hb2); (try clear hk); (try clear hi)))
                                go_meet
                                case rel => exact ⟨_, H', ⟨by have := HK1.out; have := HJ15.out; first | omega | exact Nat.le_refl _⟩, ⟨by (with_reducible repeat (first | apply Kd.S_alloc | apply Kd.S_drewN | apply Kd.S_drew)); exact Kd.S_mono HO_5.out (fun _ hk => trivial)⟩, ⟨by repeat (first | (with_reducible first | exact HB.out | apply below_alloc | apply pw_below_drewN | apply below_drew1) | exact HB.out)⟩⟩
                          · rw [if_neg c28] at H
                            have c28b0 : decide ((wrap64 (30 * t220)) ≤ t234) = false := decide_eq_false c28
                            clear c28
                            as_aux_lemma =>
                              have H' := Aside0.mk H
                              clear H
                              obtain ⟨Ao34, co34, eo34⟩ := Kd.R_slice HO_7.out
                              subst eo34
                              go_wp2_with (first | ((with_reducible refine gate_callee (f := 11) rfl ?_); refine goesL_ (some 80) rfl rfl Tryd.func11 (by kernel_rfl) rfl #[.slice Ao34 t221.length co34, .int .i64 (t217.length : Int)] rfl (by (try simp only [List.map_toArray, List.map_cons, List.map_nil]); first | done | rfl | (simp only [List.length_drop, List.length_take]; rfl)) ?_; (with_reducible refine (laws_a2Rises.calls kj15 _ _ t221 (t217.length : Int) true _ ?side1 ?side2 A22.out).mono ?_); (case side1 => repeat (first | exact (Kd.R_reads' HO_7.out).2.2 | (with_reducible refine Kd.C_alloc ?_ _) | (with_reducible refine Kd.C_drewN ?_ _) | (with_reducible refine Kd.C_drew ?_))); (case side2 => exact (Kd.R_reads' HO_7.out).2.1); rintro e w' ⟨rfl, ⟨nd, rfl⟩⟩; refine ⟨_, rfl, ?_⟩) | ((with_reducible refine gate_callee (f := 12) rfl ?_); refine goesL_ (some 85) rfl rfl Tryd.func12 (by kernel_rfl) rfl #[.slice Ao10 t217.length co10, .slice Ao34 t221.length co34] rfl (by (try simp only [List.map_toArray, List.map_cons, List.map_nil]); first | done | rfl | (simp only [List.length_drop, List.length_take]; rfl)) ?_; (with_reducible refine (laws_a2Cost.calls kj15 _ _ t217 _ _ t221 t232 t233 _ ?side1 ?side2 ?side3 ?side4 A24.out).mono ?_); (case side1 => repeat (first | exact (Kd.S_reads' HO_5.out).2.2 | (with_reducible refine Kd.C_alloc ?_ _) | (with_reducible refine Kd.C_drewN ?_ _) | (with_reducible refine Kd.C_drew ?_))); (case side2 => exact (Kd.S_reads' HO_5.out).2.1); (case side3 => repeat (first | exact (Kd.R_reads' HO_7.out).2.2 | (with_reducible refine Kd.C_alloc ?_ _) | (with_reducible refine Kd.C_drewN ?_ _) | (with_reducible refine Kd.C_drew ?_))); (case side4 => exact (Kd.R_reads' HO_7.out).2.1); rintro e w35 ⟨rfl, hb⟩; refine ⟨_, rfl, ?_⟩; have n0_ := Aside0.mk (Kd.S_below (by (with_reducible repeat (first | apply Kd.S_alloc | apply Kd.S_drewN | apply Kd.S_drew)); exact HO_5.out) hb); have n1_ := Aside0.mk (Kd.R_below (by (with_reducible repeat (first | apply Kd.R_alloc | apply Kd.R_drewN | apply Kd.R_drew)); exact HO_7.out) hb); have n2_ := Aside0.mk (Kd.R_below (by (with_reducible repeat (first | apply Kd.R_alloc | apply Kd.R_drewN | apply Kd.R_drew)); exact HO_10.out) hb); have n3_ := Aside0.mk (below_step (by repeat (first | (with_reducible first | exact HB.out | apply below_alloc | apply pw_below_drewN | apply below_drew1) | exact HB.out)) hb); clear HO_5; clear HO_7; clear HO_10; clear HB; have HO_5 := n0_; have HO_7 := n1_; have HO_10 := n2_; have HB := n3_; clear n0_ n1_ n2_ n3_; (try clear hb); (try clear hb2); (try clear hk); (try clear hi); obtain ⟨Ao36, co36, eo36⟩ := Kd.R_slice HO_10.out; subst eo36) | ((with_reducible refine gate_callee (f := 12) rfl ?_); refine goesL_ (some 91) rfl rfl Tryd.func12 (by kernel_rfl) rfl #[.slice Ao10 t217.length co10, .slice Ao36 t226.length co36] rfl (by (try simp only [List.map_toArray, List.map_cons, List.map_nil]); first | done | rfl | (simp only [List.length_drop, List.length_take]; rfl)) ?_; (with_reducible refine (laws_a2Cost.calls kj15 _ _ t217 _ _ t226 t234 t235 _ ?side1 ?side2 ?side3 ?side4 A25.out).mono ?_); (case side1 => repeat (first | exact (Kd.S_reads' HO_5.out).2.2 | (with_reducible refine Kd.C_alloc ?_ _) | (with_reducible refine Kd.C_drewN ?_ _) | (with_reducible refine Kd.C_drew ?_))); (case side2 => exact (Kd.S_reads' HO_5.out).2.1); (case side3 => repeat (first | exact (Kd.R_reads' HO_10.out).2.2 | (with_reducible refine Kd.C_alloc ?_ _) | (with_reducible refine Kd.C_drewN ?_ _) | (with_reducible refine Kd.C_drew ?_))); (case side4 => exact (Kd.R_reads' HO_10.out).2.1); rintro e w37 ⟨rfl, hb⟩; refine ⟨_, rfl, ?_⟩; have n0_ := Aside0.mk (Kd.S_below (by (with_reducible repeat (first | apply Kd.S_alloc | apply Kd.S_drewN | apply Kd.S_drew)); exact HO_5.out) hb); have n1_ := Aside0.mk (Kd.R_below (by (with_reducible repeat (first | apply Kd.R_alloc | apply Kd.R_drewN | apply Kd.R_drew)); exact HO_7.out) hb); have n2_ := Aside0.mk (Kd.R_below (by (with_reducible repeat (first | apply Kd.R_alloc | apply Kd.R_drewN | apply Kd.R_drew)); exact HO_10.out) hb); have n3_ := Aside0.mk (below_step (by repeat (first | (with_reducible first | exact HB.out | apply below_alloc | apply pw_below_drewN | apply below_drew1) | exact HB.out)) hb); clear HO_5; clear HO_7; clear HO_10; clear HB; have HO_5 := n0_; have HO_7 := n1_; have HO_10 := n2_; have HB := n3_; clear n0_ n1_ n2_ n3_; (try clear hb); (try clear hb2); (try clear hk); (try clear hi)))
                              go_meet
                              case rel => exact ⟨_, H', ⟨by have := HK1.out; have := HJ15.out; first | omega | exact Nat.le_refl _⟩, ⟨by (with_reducible repeat (first | apply Kd.S_alloc | apply Kd.S_drewN | apply Kd.S_drew)); exact Kd.S_mono HO_5.out (fun _ hk => trivial)⟩, ⟨by repeat (first | (with_reducible first | exact HB.out | apply below_alloc | apply pw_below_drewN | apply below_drew1) | exact HB.out)⟩⟩
                        · rw [if_neg c27] at H
                          have c27b0 : (t233 == t222) = false := beq_eq_false_iff_ne.mpr c27
                          have c27b1 : (t233 != t222) = true := bne_iff_ne.mpr c27
                          as_aux_lemma =>
                            exact absurd ((Option.some.inj H).trans HRT.out) (by decide)
                    · replace c23 := Bool.eq_false_iff.mpr c23
                      subst c23
                      rw [if_neg (show ¬ (false = true) by decide)] at H
                      as_aux_lemma =>
                        exact absurd ((Option.some.inj H).trans HRT.out) (by decide)
                  · rw [if_neg c21] at H
                    have c21b0 : (t223 == 0) = false := beq_eq_false_iff_ne.mpr c21
                    have c21b1 : (t223 != 0) = true := bne_iff_ne.mpr c21
                    (first | rw [c21b0] | (simp only [i64_w, i32_w]; rw [c21b0]) | skip)
                    as_aux_lemma =>
                      have H' := Aside0.mk H
                      clear H
                      go_wp2
                      go_meet
                      case rel => exact ⟨_, H', ⟨by have := HK1.out; have := HJ15.out; first | omega | exact Nat.le_refl _⟩, ⟨by (with_reducible repeat (first | apply Kd.S_alloc | apply Kd.S_drewN | apply Kd.S_drew)); exact Kd.S_mono HO_5.out (fun _ hk => trivial)⟩, ⟨by repeat (first | (with_reducible first | exact HB.out | apply below_alloc | apply pw_below_drewN | apply below_drew1) | exact HB.out)⟩⟩
                case rest =>
                  clear HC20
                  try clear c1
                  try clear c2
                  try clear p2
                  try clear q2
                  try clear hx2
                  try clear c3
                  try clear c4
                  try clear c5
                  try clear c6
                  try clear p6
                  try clear c7
                  try clear c8
                  try clear c9
                  try clear c10
                  try clear c11
                  try clear c12
                  try clear c13
                  try clear c13b0
                  try clear c14
                  try clear c14b0
                  try clear c17
                  try clear c17b0
                  try clear c17b1
                  try clear c17b2
                  try clear c18
                  try clear c18b0
                  try clear c18b1
                  try clear c19
                  try clear c21
                  try clear c21b0
                  try clear c21b1
                  try clear c22
                  try clear p22
                  try clear q22
                  try clear hx22
                  try clear c23
                  try clear c26
                  try clear c26b0
                  try clear c27
                  try clear c27b0
                  try clear c27b1
                  try clear c28
                  try clear c28b0
                  try clear c29
                  try clear c29b0
                  try clear hx229_0
                  try clear hx229_1
                  try clear hx229_2
                  try clear p2
                  try clear p229
                  try clear p6
                  try clear q2
                  try clear q229
                  obtain ⟨kq, HA, HJ19, HO_5, HB⟩ := hcut
                  cases kq with
                  | zero => exact absurd HA.out (by simp [laws_FnCheapHands.j2])
                  | succ kj19 =>
                    have H := HA.out
                    clear HA
                    simp only [laws_FnCheapHands.j2] at H
                    replace H := Option.bind_eq_some_iff.mp H
                    obtain ⟨⟨t236, t237, t238⟩, A380, H⟩ := H
                    replace H : (laws_FnCheapHands.l1 kj19 l1 t217 t236 t237 t238 0 0 0) = some r := H
                    have A38 := Aside0.mk A380
                    clear A380
                    have H' := Aside0.mk H
                    clear H
                    go_wp2_with (first | ((with_reducible refine gate_callee (f := 13) rfl ?_); refine goesL_ (some 114) rfl rfl Tryd.func13 (by kernel_rfl) rfl #[.slice Ao10 t217.length co10] rfl (by (try simp only [List.map_toArray, List.map_cons, List.map_nil]); first | done | rfl | (simp only [List.length_drop, List.length_take]; rfl)) ?_; (with_reducible refine (impl_BusiestDay.calls kj19 _ _ t217 t236 t237 t238 _ ?side1 ?side2 A38.out).mono ?_); (case side1 => repeat (first | exact (Kd.S_reads' HO_5.out).2.2 | (with_reducible refine Kd.C_alloc ?_ _) | (with_reducible refine Kd.C_drewN ?_ _) | (with_reducible refine Kd.C_drew ?_))); (case side2 => exact (Kd.S_reads' HO_5.out).2.1); rintro e w39 ⟨rfl, hb⟩; refine ⟨_, rfl, ?_⟩; have n0_ := Aside0.mk (Kd.S_below (by (with_reducible repeat (first | apply Kd.S_alloc | apply Kd.S_drewN | apply Kd.S_drew)); exact HO_5.out) hb); have n1_ := Aside0.mk (below_step (by repeat (first | (with_reducible first | exact HB.out | apply below_alloc | apply pw_below_drewN | apply below_drew1) | exact HB.out)) hb); clear HO_5; clear HB; have HO_5 := n0_; have HB := n1_; clear n0_ n1_; (try clear hb); (try clear hb2); (try clear hk); (try clear hi)))
                    go_loopg [20, 21, 22] kj19 (fun kq v20 v21 v22 w' => ∃ (x20_4 : Int) (x21_4 : Int) (x22_4 : Int), v20 = .int .i64 x20_4 ∧ v21 = .int .i64 x21_4 ∧ v22 = .int .i64 x22_4 ∧ Aside0 (laws_FnCheapHands.l1 kq l1 t217 t236 t237 t238 x20_4 x21_4 x22_4 = some r) ∧ Aside0 (kq ≤ kj19) ∧ Aside0 (Kd.S k33 33 w' w.heap.size (fun _ => True) (.slice Ao10 t217.length co10) t217) ∧ Aside0 (Below w.heap.size w w'))
                    case atStart => exact ⟨(0), (0), (0), (by first | rfl | (simp; done) | (simp [*]; done)), (by first | rfl | (simp; done) | (simp [*]; done)), (by first | rfl | (simp; done) | (simp [*]; done)), H', ⟨Nat.le_refl _⟩, ⟨by (with_reducible repeat (first | apply Kd.S_alloc | apply Kd.S_drewN | apply Kd.S_drew)); exact HO_5.out⟩, ⟨by repeat (first | (with_reducible first | exact HB.out | apply below_alloc | apply pw_below_drewN | apply below_drew1) | exact HB.out)⟩⟩
                    case round =>
                      clear H'
                      try clear c1
                      try clear c2
                      try clear p2
                      try clear q2
                      try clear hx2
                      try clear c3
                      try clear c4
                      try clear c5
                      try clear c6
                      try clear p6
                      try clear c7
                      try clear c8
                      try clear c9
                      try clear c10
                      try clear c11
                      try clear c12
                      try clear c13
                      try clear c13b0
                      try clear c14
                      try clear c14b0
                      try clear c17
                      try clear c17b0
                      try clear c17b1
                      try clear c17b2
                      try clear c18
                      try clear c18b0
                      try clear c18b1
                      try clear c19
                      try clear c21
                      try clear c21b0
                      try clear c21b1
                      try clear c22
                      try clear p22
                      try clear q22
                      try clear hx22
                      try clear c23
                      try clear c26
                      try clear c26b0
                      try clear c27
                      try clear c27b0
                      try clear c27b1
                      try clear c28
                      try clear c28b0
                      try clear c29
                      try clear c29b0
                      try clear hx229_0
                      try clear hx229_1
                      try clear hx229_2
                      try clear p2
                      try clear p22
                      try clear p229
                      try clear p6
                      try clear q2
                      try clear q22
                      try clear q229
                      obtain ⟨x20_4, x21_4, x22_4, rfl, rfl, rfl, HA, HK4, HO_5, HB⟩ := hrel
                      cases gk with
                      | zero => exact absurd HA.out (by simp [laws_FnCheapHands.l1])
                      | succ k4 =>
                        have H := HA.out
                        clear HA
                        simp only [laws_FnCheapHands.l1] at H
                        by_cases c40 : x22_4 < 14
                        · rw [if_pos c40] at H
                          have c40b0 : decide (x22_4 < 14) = true := decide_eq_true c40
                          clear c40
                          have H' := Aside0.mk H
                          clear H
                          go_wp2
                          go_loopg [23, 24] k4 (fun kq v23 v24 w' => ∃ (x23_5 : Int) (x24_5 : Int), v23 = .int .i64 x23_5 ∧ v24 = .int .i64 x24_5 ∧ Aside0 (laws_FnCheapHands.l2 kq l1 t217 t236 t237 t238 x20_4 x21_4 x22_4 x23_5 x24_5 = some r) ∧ Aside0 (kq ≤ k4) ∧ Aside0 (Kd.S k33 33 w' w.heap.size (fun _ => True) (.slice Ao10 t217.length co10) t217) ∧ Aside0 (Below w.heap.size w w'))
                          case atStart => exact ⟨(0), (0), (by first | rfl | (simp; done) | (simp [*]; done)), (by first | rfl | (simp; done) | (simp [*]; done)), H', ⟨Nat.le_refl _⟩, ⟨by (with_reducible repeat (first | apply Kd.S_alloc | apply Kd.S_drewN | apply Kd.S_drew)); exact HO_5.out⟩, ⟨by repeat (first | (with_reducible first | exact HB.out | apply below_alloc | apply pw_below_drewN | apply below_drew1) | exact HB.out)⟩⟩
                          case round =>
                            clear H'
                            try clear c1
                            try clear c2
                            try clear p2
                            try clear q2
                            try clear hx2
                            try clear c3
                            try clear c4
                            try clear c5
                            try clear c6
                            try clear p6
                            try clear c7
                            try clear c8
                            try clear c9
                            try clear c10
                            try clear c11
                            try clear c12
                            try clear c13
                            try clear c13b0
                            try clear c14
                            try clear c14b0
                            try clear c17
                            try clear c17b0
                            try clear c17b1
                            try clear c17b2
                            try clear c18
                            try clear c18b0
                            try clear c18b1
                            try clear c19
                            try clear c21
                            try clear c21b0
                            try clear c21b1
                            try clear c22
                            try clear p22
                            try clear q22
                            try clear hx22
                            try clear c23
                            try clear c26
                            try clear c26b0
                            try clear c27
                            try clear c27b0
                            try clear c27b1
                            try clear c28
                            try clear c28b0
                            try clear c29
                            try clear c29b0
                            try clear c40
                            try clear c40b0
                            try clear hx229_0
                            try clear hx229_1
                            try clear hx229_2
                            try clear p2
                            try clear p22
                            try clear p229
                            try clear p6
                            try clear q2
                            try clear q22
                            try clear q229
                            obtain ⟨x23_5, x24_5, rfl, rfl, HA, HK5, HO_5, HB⟩ := hrel
                            cases gk with
                            | zero => exact absurd HA.out (by simp [laws_FnCheapHands.l2])
                            | succ k5 =>
                              have H := HA.out
                              clear HA
                              simp only [laws_FnCheapHands.l2] at H
                              by_cases c41 : x24_5 < (t217.length : Int)
                              · rw [if_pos c41] at H
                                have c41b0 : decide (x24_5 < (t217.length : Int)) = true := decide_eq_true c41
                                clear c41
                                by_cases c42 : 0 ≤ x24_5
                                · rw [if_pos c42] at H
                                  have c42b0 : decide (0 ≤ x24_5) = true := decide_eq_true c42
                                  clear c42
                                  by_cases c43 : x22_4 < (((rd_T33 t217 x24_5).f1).length : Int)
                                  · rw [if_pos c43] at H
                                    have c43b0 : decide (x22_4 < (((rd_T33 t217 x24_5).f1).length : Int)) = true := decide_eq_true c43
                                    clear c43
                                    by_cases c44 : 0 ≤ x22_4
                                    · rw [if_pos c44] at H
                                      have c44b0 : decide (0 ≤ x22_4) = true := decide_eq_true c44
                                      clear c44
                                      as_aux_lemma =>
                                        have H' := Aside0.mk H
                                        clear H
                                        have p239 : 0 ≤ (x24_5 : Int) := of_decide_eq_true (by first | (with_reducible assumption) | assumption)
                                        have q239 : x24_5 < (t217.length : Int) := of_decide_eq_true (by first | (with_reducible assumption) | assumption)
                                        obtain ⟨ad239, A239_1, c239_1, e239, hx239_0, hx239_1, hx239_2, hl239_1, hi239_1⟩ := at_T33 (Kd.S_reads' HO_5.out).2.2 x24_5 p239 q239
                                        cases e239
                                        obtain ⟨ce239, hce239, hMe239, hcc239⟩ := Kd.S_get HO_5.out z33 x24_5 p239 (by first | exact q239 | exact of_decide_eq_true (by first | (with_reducible assumption) | assumption) | (have e_ := (Kd.S_reads' HO_5.out).1; omega))
                                        obtain ⟨ve239_1, rfl, ge239_1⟩ := k33_openM hMe239
                                        have hv239_1 := hcc239 1 _ rfl
                                        rw [add_field _ _ 1 (by omega)] at hv239_1
                                        replace hv239_1 := Option.some.inj (hv239_1.symm.trans hx239_1)
                                        rw [hv239_1] at ge239_1
                                        have HL239_1 := Aside0.mk (show Kd.R (Kd.int .i64) 2 _ _ _ _ ((rd_T33 t217 x24_5).f1) from ge239_1)
                                        clear hv239_1 ge239_1
                                        clear hcc239 hce239
                                        have HR239_1 := Aside0.mk hi239_1
                                        have HC239_1 := Aside0.mk hl239_1
                                        clear hi239_1 hl239_1
                                        replace p239 := eq_true p239
                                        replace q239 := eq_true q239
                                        have p240 : 0 ≤ (x24_5 : Int) := of_decide_eq_true (by first | (with_reducible assumption) | assumption)
                                        have q240 : x24_5 < (t217.length : Int) := of_decide_eq_true (by first | (with_reducible assumption) | assumption)
                                        obtain ⟨ad240, A240_1, c240_1, e240, hx240_0, hx240_1, hx240_2, hl240_1, hi240_1⟩ := at_T33 (Kd.S_reads' HO_5.out).2.2 x24_5 p240 q240
                                        obtain rfl : ad239 = ad240 := (by injection e240)
                                        obtain ⟨ce240, hce240, hMe240, hcc240⟩ := Kd.S_get HO_5.out z33 x24_5 p240 (by first | exact q240 | exact of_decide_eq_true (by first | (with_reducible assumption) | assumption) | (have e_ := (Kd.S_reads' HO_5.out).1; omega))
                                        obtain ⟨ve240_1, rfl, ge240_1⟩ := k33_openM hMe240
                                        have hv240_1 := hcc240 1 _ rfl
                                        rw [add_field _ _ 1 (by omega)] at hv240_1
                                        replace hv240_1 := Option.some.inj (hv240_1.symm.trans hx240_1)
                                        rw [hv240_1] at ge240_1
                                        have HL240_1 := Aside0.mk (show Kd.R (Kd.int .i64) 2 _ _ _ _ ((rd_T33 t217 x24_5).f1) from ge240_1)
                                        clear hv240_1 ge240_1
                                        clear hcc240 hce240
                                        have HR240_1 := Aside0.mk hi240_1
                                        have HC240_1 := Aside0.mk hl240_1
                                        clear hi240_1 hl240_1
                                        replace p240 := eq_true p240
                                        replace q240 := eq_true q240
                                        have ea_ := Option.some.inj (hx239_1.symm.trans hx240_1)
                                        injection ea_ with ea_ en_ ec_
                                        subst ea_
                                        subst ec_
                                        clear en_
                                        have p241 : 0 ≤ (x22_4 : Int) := of_decide_eq_true (by first | (with_reducible assumption) | assumption)
                                        have q241 : x22_4 < (((rd_T33 t217 x24_5).f1).length : Int) := of_decide_eq_true (by first | (with_reducible assumption) | assumption)
                                        obtain ⟨ad241, e241, hx241_0⟩ := Kd.at_int (by repeat (first | (with_reducible exact HR240_1.out) | (with_reducible refine Kd.C_alloc ?_ _) | (with_reducible refine Kd.C_drewN ?_ _) | (with_reducible refine Kd.C_drew ?_) | exact HR240_1.out)) x22_4 p241 q241
                                        cases e241
                                        replace p241 := eq_true p241
                                        replace q241 := eq_true q241
                                        go_wp2
                                        go_roundg k5
                                        case measure => have := HK1.out; have := HJ15.out; have := HJ19.out; have := HK4.out; have := HK5.out; omega
                                        case rel => exact ⟨(wrap64 (x23_5 + (rd ((rd_T33 t217 x24_5).f1) x22_4))), (wrap64 (x24_5 + 1)), (by first | rfl | (simp; done) | (simp [*]; done)), (by first | rfl | (simp; done) | (simp [*]; done)), H', ⟨by have := HK1.out; have := HJ15.out; have := HJ19.out; have := HK4.out; have := HK5.out; omega⟩, ⟨by (with_reducible repeat (first | apply Kd.S_alloc | apply Kd.S_drewN | apply Kd.S_drew)); exact HO_5.out⟩, ⟨by repeat (first | (with_reducible first | exact HB.out | apply below_alloc | apply pw_below_drewN | apply below_drew1) | exact HB.out)⟩⟩
                                    · rw [if_neg c44] at H
                                      exact absurd H (by simp)
                                  · rw [if_neg c43] at H
                                    have c43b0 : decide (x22_4 < (((rd_T33 t217 x24_5).f1).length : Int)) = false := decide_eq_false c43
                                    clear c43
                                    as_aux_lemma =>
                                      have H' := Aside0.mk H
                                      clear H
                                      have p239 : 0 ≤ (x24_5 : Int) := of_decide_eq_true (by first | (with_reducible assumption) | assumption)
                                      have q239 : x24_5 < (t217.length : Int) := of_decide_eq_true (by first | (with_reducible assumption) | assumption)
                                      obtain ⟨ad239, A239_1, c239_1, e239, hx239_0, hx239_1, hx239_2, hl239_1, hi239_1⟩ := at_T33 (Kd.S_reads' HO_5.out).2.2 x24_5 p239 q239
                                      cases e239
                                      obtain ⟨ce239, hce239, hMe239, hcc239⟩ := Kd.S_get HO_5.out z33 x24_5 p239 (by first | exact q239 | exact of_decide_eq_true (by first | (with_reducible assumption) | assumption) | (have e_ := (Kd.S_reads' HO_5.out).1; omega))
                                      obtain ⟨ve239_1, rfl, ge239_1⟩ := k33_openM hMe239
                                      have hv239_1 := hcc239 1 _ rfl
                                      rw [add_field _ _ 1 (by omega)] at hv239_1
                                      replace hv239_1 := Option.some.inj (hv239_1.symm.trans hx239_1)
                                      rw [hv239_1] at ge239_1
                                      have HL239_1 := Aside0.mk (show Kd.R (Kd.int .i64) 2 _ _ _ _ ((rd_T33 t217 x24_5).f1) from ge239_1)
                                      clear hv239_1 ge239_1
                                      clear hcc239 hce239
                                      have HR239_1 := Aside0.mk hi239_1
                                      have HC239_1 := Aside0.mk hl239_1
                                      clear hi239_1 hl239_1
                                      replace p239 := eq_true p239
                                      replace q239 := eq_true q239
                                      go_wp2
                                      go_roundg k5
                                      case measure => have := HK1.out; have := HJ15.out; have := HJ19.out; have := HK4.out; have := HK5.out; omega
                                      case rel => exact ⟨(x23_5), (wrap64 (x24_5 + 1)), (by first | rfl | (simp; done) | (simp [*]; done)), (by first | rfl | (simp; done) | (simp [*]; done)), H', ⟨by have := HK1.out; have := HJ15.out; have := HJ19.out; have := HK4.out; have := HK5.out; omega⟩, ⟨by (with_reducible repeat (first | apply Kd.S_alloc | apply Kd.S_drewN | apply Kd.S_drew)); exact HO_5.out⟩, ⟨by repeat (first | (with_reducible first | exact HB.out | apply below_alloc | apply pw_below_drewN | apply below_drew1) | exact HB.out)⟩⟩
                                · rw [if_neg c42] at H
                                  exact absurd H (by simp)
                              · rw [if_neg c41] at H
                                have c41b0 : decide (x24_5 < (t217.length : Int)) = false := decide_eq_false c41
                                clear c41
                                by_cases c45 : x23_5 > x20_4
                                · rw [if_pos c45] at H
                                  have c45b0 : decide (x20_4 < x23_5) = true := decide_eq_true c45
                                  clear c45
                                  as_aux_lemma =>
                                    have H' := Aside0.mk H
                                    clear H
                                    go_wp2
                                    go_roundg k5
                                    case measure => have := HK1.out; have := HJ15.out; have := HJ19.out; have := HK4.out; have := HK5.out; omega
                                    case rel => exact ⟨(x23_5), (x22_4), (wrap64 (x22_4 + 1)), (by first | rfl | (simp; done) | (simp [*]; done)), (by first | rfl | (simp; done) | (simp [*]; done)), (by first | rfl | (simp; done) | (simp [*]; done)), H', ⟨by have := HK1.out; have := HJ15.out; have := HJ19.out; have := HK4.out; have := HK5.out; omega⟩, ⟨by (with_reducible repeat (first | apply Kd.S_alloc | apply Kd.S_drewN | apply Kd.S_drew)); exact HO_5.out⟩, ⟨by repeat (first | (with_reducible first | exact HB.out | apply below_alloc | apply pw_below_drewN | apply below_drew1) | exact HB.out)⟩⟩
                                · rw [if_neg c45] at H
                                  have c45b0 : decide (x20_4 < x23_5) = false := decide_eq_false c45
                                  clear c45
                                  as_aux_lemma =>
                                    have H' := Aside0.mk H
                                    clear H
                                    go_wp2
                                    go_roundg k5
                                    case measure => have := HK1.out; have := HJ15.out; have := HJ19.out; have := HK4.out; have := HK5.out; omega
                                    case rel => exact ⟨(x20_4), (x21_4), (wrap64 (x22_4 + 1)), (by first | rfl | (simp; done) | (simp [*]; done)), (by first | rfl | (simp; done) | (simp [*]; done)), (by first | rfl | (simp; done) | (simp [*]; done)), H', ⟨by have := HK1.out; have := HJ15.out; have := HJ19.out; have := HK4.out; have := HK5.out; omega⟩, ⟨by (with_reducible repeat (first | apply Kd.S_alloc | apply Kd.S_drewN | apply Kd.S_drew)); exact HO_5.out⟩, ⟨by repeat (first | (with_reducible first | exact HB.out | apply below_alloc | apply pw_below_drewN | apply below_drew1) | exact HB.out)⟩⟩
                        · rw [if_neg c40] at H
                          have c40b0 : decide (x22_4 < 14) = false := decide_eq_false c40
                          clear c40
                          replace H := Option.bind_eq_some_iff.mp H
                          obtain ⟨t242, A460, H⟩ := H
                          have A46 := Aside0.mk A460
                          clear A460
                          replace H := Option.bind_eq_some_iff.mp H
                          obtain ⟨t243, A470, H⟩ := H
                          have A47 := Aside0.mk A470
                          clear A470
                          replace H := Option.bind_eq_some_iff.mp H
                          obtain ⟨⟨t244, t245⟩, A480, H⟩ := H
                          dsimp only at H
                          have A48 := Aside0.mk A480
                          clear A480
                          by_cases c49 : t245 = true
                          · subst c49
                            rw [if_pos rfl] at H
                            by_cases c50 : t244 = (wrap64 (t242 * 80))
                            · rw [if_pos c50] at H
                              have c50b0 : (t244 == (wrap64 (t242 * 80))) = true := beq_iff_eq.mpr c50
                              have c50b1 : (t244 != (wrap64 (t242 * 80))) = false := bne_eq_false_iff_eq.mpr c50
                              clear c50
                              by_cases c51 : x20_4 = 0
                              · rw [if_pos c51] at H
                                have c51b0 : (x20_4 == 0) = true := beq_iff_eq.mpr c51
                                have c51b1 : (x20_4 != 0) = false := bne_eq_false_iff_eq.mpr c51
                                clear c51
                                by_cases c52 : t238 = 3
                                · rw [if_pos c52] at H
                                  have c52b0 : (t238 == 3) = true := beq_iff_eq.mpr c52
                                  have c52b1 : (t238 != 3) = false := bne_eq_false_iff_eq.mpr c52
                                  clear c52
                                  as_aux_lemma =>
                                    obtain rfl := Option.some.inj H
                                    go_wp2_with (first | ((with_reducible refine gate_callee (f := 7) rfl ?_); refine goesL_ (some 152) rfl rfl Tryd.func7 (by kernel_rfl) rfl #[.slice A1 l1.length c1, .int .i64 1, .int .i64 250] rfl (by (try simp only [List.map_toArray, List.map_cons, List.map_nil]); first | done | rfl | (simp only [List.length_drop, List.length_take]; rfl)) ?_; (with_reducible refine (laws_a2At.calls _ _ l1 1 250 t242 _ ?side1 ?side2 A46.out).mono ?_); (case side1 => repeat (first | exact (Kd.C_below HR1.out HB.out) | (with_reducible refine Kd.C_alloc ?_ _) | (with_reducible refine Kd.C_drewN ?_ _) | (with_reducible refine Kd.C_drew ?_))); (case side2 => exact HC1.out); rintro e w' ⟨rfl, ⟨nd, rfl⟩⟩; refine ⟨_, rfl, ?_⟩) | ((with_reducible refine gate_callee (f := 15) rfl ?_); refine goesL_ (some 156) rfl rfl Tryd.func15 (by kernel_rfl) rfl #[.int .i64 (wrap64 (t242 * 80))] rfl (by (try simp only [List.map_toArray, List.map_cons, List.map_nil]); first | done | rfl | (simp only [List.length_drop, List.length_take]; rfl)) ?_; (with_reducible refine (impl_ClockText.calls (wrap64 (t242 * 80)) t243 _ ?side1 A47.out).mono ?_); (case side1 => exact (GF.below HG.out (by repeat (first | (with_reducible first | exact HB.out | apply below_alloc | apply pw_below_drewN | apply below_drew1) | exact HB.out)))); rintro e w53 ⟨rfl, hb⟩; refine ⟨_, rfl, ?_⟩; have n0_ := Aside0.mk (Kd.S_below (by (with_reducible repeat (first | apply Kd.S_alloc | apply Kd.S_drewN | apply Kd.S_drew)); exact HO_5.out) hb); have n1_ := Aside0.mk (below_step (by repeat (first | (with_reducible first | exact HB.out | apply below_alloc | apply pw_below_drewN | apply below_drew1) | exact HB.out)) hb); clear HO_5; clear HB; have HO_5 := n0_; have HB := n1_; clear n0_ n1_; (try clear hb); (try clear hb2); (try clear hk); (try clear hi)) | ((with_reducible refine gate_callee (f := 14) rfl ?_); refine goesL_ (some 157) rfl rfl Tryd.func14 (by kernel_rfl) rfl #[.string t243] rfl (by (try simp only [List.map_toArray, List.map_cons, List.map_nil]); first | done | rfl | (simp only [List.length_drop, List.length_take]; rfl)) ?_; (with_reducible refine (impl_ReadClock.calls k4 t243 t244 true _ ?side1 A48.out).mono ?_); (case side1 => exact (GF.below HG.out (by repeat (first | (with_reducible first | exact HB.out | apply below_alloc | apply pw_below_drewN | apply below_drew1) | exact HB.out)))); rintro e w54 ⟨rfl, hb⟩; refine ⟨_, rfl, ?_⟩; have n0_ := Aside0.mk (Kd.S_below (by (with_reducible repeat (first | apply Kd.S_alloc | apply Kd.S_drewN | apply Kd.S_drew)); exact HO_5.out) hb); have n1_ := Aside0.mk (below_step (by repeat (first | (with_reducible first | exact HB.out | apply below_alloc | apply pw_below_drewN | apply below_drew1) | exact HB.out)) hb); clear HO_5; clear HB; have HO_5 := n0_; have HB := n1_; clear n0_ n1_; (try clear hb); (try clear hb2); (try clear hk); (try clear hi)))
                                    go_ret
                                    exact ⟨by first | rfl | (simp [errW_none, errW_some] <;> rfl) | (simp [*, errW_none, errW_some] <;> rfl), by repeat (first | (with_reducible first | exact HB.out | apply below_alloc | apply pw_below_drewN | apply below_drew1) | exact HB.out)⟩
                                · rw [if_neg c52] at H
                                  have c52b0 : (t238 == 3) = false := beq_eq_false_iff_ne.mpr c52
                                  have c52b1 : (t238 != 3) = true := bne_iff_ne.mpr c52
                                  by_cases c55 : x20_4 > 0
                                  · rw [if_pos c55] at H
                                    have c55b0 : decide (0 < x20_4) = true := decide_eq_true c55
                                    clear c55
                                    by_cases c56 : t238 = 0
                                    · rw [if_pos c56] at H
                                      have c56b0 : (t238 == 0) = true := beq_iff_eq.mpr c56
                                      have c56b1 : (t238 != 0) = false := bne_eq_false_iff_eq.mpr c56
                                      clear c56
                                      by_cases c57 : t236 = x21_4
                                      · rw [if_pos c57] at H
                                        have c57b0 : (t236 == x21_4) = true := beq_iff_eq.mpr c57
                                        have c57b1 : (t236 != x21_4) = false := bne_eq_false_iff_eq.mpr c57
                                        clear c57
                                        as_aux_lemma =>
                                          obtain rfl := Option.some.inj H
                                          go_wp2_with (first | ((with_reducible refine gate_callee (f := 7) rfl ?_); refine goesL_ (some 152) rfl rfl Tryd.func7 (by kernel_rfl) rfl #[.slice A1 l1.length c1, .int .i64 1, .int .i64 250] rfl (by (try simp only [List.map_toArray, List.map_cons, List.map_nil]); first | done | rfl | (simp only [List.length_drop, List.length_take]; rfl)) ?_; (with_reducible refine (laws_a2At.calls _ _ l1 1 250 t242 _ ?side1 ?side2 A46.out).mono ?_); (case side1 => repeat (first | exact (Kd.C_below HR1.out HB.out) | (with_reducible refine Kd.C_alloc ?_ _) | (with_reducible refine Kd.C_drewN ?_ _) | (with_reducible refine Kd.C_drew ?_))); (case side2 => exact HC1.out); rintro e w' ⟨rfl, ⟨nd, rfl⟩⟩; refine ⟨_, rfl, ?_⟩) | ((with_reducible refine gate_callee (f := 15) rfl ?_); refine goesL_ (some 156) rfl rfl Tryd.func15 (by kernel_rfl) rfl #[.int .i64 (wrap64 (t242 * 80))] rfl (by (try simp only [List.map_toArray, List.map_cons, List.map_nil]); first | done | rfl | (simp only [List.length_drop, List.length_take]; rfl)) ?_; (with_reducible refine (impl_ClockText.calls (wrap64 (t242 * 80)) t243 _ ?side1 A47.out).mono ?_); (case side1 => exact (GF.below HG.out (by repeat (first | (with_reducible first | exact HB.out | apply below_alloc | apply pw_below_drewN | apply below_drew1) | exact HB.out)))); rintro e w58 ⟨rfl, hb⟩; refine ⟨_, rfl, ?_⟩; have n0_ := Aside0.mk (Kd.S_below (by (with_reducible repeat (first | apply Kd.S_alloc | apply Kd.S_drewN | apply Kd.S_drew)); exact HO_5.out) hb); have n1_ := Aside0.mk (below_step (by repeat (first | (with_reducible first | exact HB.out | apply below_alloc | apply pw_below_drewN | apply below_drew1) | exact HB.out)) hb); clear HO_5; clear HB; have HO_5 := n0_; have HB := n1_; clear n0_ n1_; (try clear hb); (try clear hb2); (try clear hk); (try clear hi)) | ((with_reducible refine gate_callee (f := 14) rfl ?_); refine goesL_ (some 157) rfl rfl Tryd.func14 (by kernel_rfl) rfl #[.string t243] rfl (by (try simp only [List.map_toArray, List.map_cons, List.map_nil]); first | done | rfl | (simp only [List.length_drop, List.length_take]; rfl)) ?_; (with_reducible refine (impl_ReadClock.calls k4 t243 t244 true _ ?side1 A48.out).mono ?_); (case side1 => exact (GF.below HG.out (by repeat (first | (with_reducible first | exact HB.out | apply below_alloc | apply pw_below_drewN | apply below_drew1) | exact HB.out)))); rintro e w59 ⟨rfl, hb⟩; refine ⟨_, rfl, ?_⟩; have n0_ := Aside0.mk (Kd.S_below (by (with_reducible repeat (first | apply Kd.S_alloc | apply Kd.S_drewN | apply Kd.S_drew)); exact HO_5.out) hb); have n1_ := Aside0.mk (below_step (by repeat (first | (with_reducible first | exact HB.out | apply below_alloc | apply pw_below_drewN | apply below_drew1) | exact HB.out)) hb); clear HO_5; clear HB; have HO_5 := n0_; have HB := n1_; clear n0_ n1_; (try clear hb); (try clear hb2); (try clear hk); (try clear hi)))
                                          go_ret
                                          exact ⟨by first | rfl | (simp [errW_none, errW_some] <;> rfl) | (simp [*, errW_none, errW_some] <;> rfl), by repeat (first | (with_reducible first | exact HB.out | apply below_alloc | apply pw_below_drewN | apply below_drew1) | exact HB.out)⟩
                                      · rw [if_neg c57] at H
                                        have c57b0 : (t236 == x21_4) = false := beq_eq_false_iff_ne.mpr c57
                                        have c57b1 : (t236 != x21_4) = true := bne_iff_ne.mpr c57
                                        as_aux_lemma =>
                                          exact absurd ((Option.some.inj H).trans HRT.out) (by decide)
                                    · rw [if_neg c56] at H
                                      have c56b0 : (t238 == 0) = false := beq_eq_false_iff_ne.mpr c56
                                      have c56b1 : (t238 != 0) = true := bne_iff_ne.mpr c56
                                      as_aux_lemma =>
                                        exact absurd ((Option.some.inj H).trans HRT.out) (by decide)
                                  · rw [if_neg c55] at H
                                    have c55b0 : decide (0 < x20_4) = false := decide_eq_false c55
                                    clear c55
                                    as_aux_lemma =>
                                      exact absurd ((Option.some.inj H).trans HRT.out) (by decide)
                              · rw [if_neg c51] at H
                                have c51b0 : (x20_4 == 0) = false := beq_eq_false_iff_ne.mpr c51
                                have c51b1 : (x20_4 != 0) = true := bne_iff_ne.mpr c51
                                by_cases c60 : x20_4 > 0
                                · rw [if_pos c60] at H
                                  have c60b0 : decide (0 < x20_4) = true := decide_eq_true c60
                                  clear c60
                                  by_cases c61 : t238 = 0
                                  · rw [if_pos c61] at H
                                    have c61b0 : (t238 == 0) = true := beq_iff_eq.mpr c61
                                    have c61b1 : (t238 != 0) = false := bne_eq_false_iff_eq.mpr c61
                                    clear c61
                                    by_cases c62 : t236 = x21_4
                                    · rw [if_pos c62] at H
                                      have c62b0 : (t236 == x21_4) = true := beq_iff_eq.mpr c62
                                      have c62b1 : (t236 != x21_4) = false := bne_eq_false_iff_eq.mpr c62
                                      clear c62
                                      as_aux_lemma =>
                                        obtain rfl := Option.some.inj H
                                        go_wp2_with (first | ((with_reducible refine gate_callee (f := 7) rfl ?_); refine goesL_ (some 152) rfl rfl Tryd.func7 (by kernel_rfl) rfl #[.slice A1 l1.length c1, .int .i64 1, .int .i64 250] rfl (by (try simp only [List.map_toArray, List.map_cons, List.map_nil]); first | done | rfl | (simp only [List.length_drop, List.length_take]; rfl)) ?_; (with_reducible refine (laws_a2At.calls _ _ l1 1 250 t242 _ ?side1 ?side2 A46.out).mono ?_); (case side1 => repeat (first | exact (Kd.C_below HR1.out HB.out) | (with_reducible refine Kd.C_alloc ?_ _) | (with_reducible refine Kd.C_drewN ?_ _) | (with_reducible refine Kd.C_drew ?_))); (case side2 => exact HC1.out); rintro e w' ⟨rfl, ⟨nd, rfl⟩⟩; refine ⟨_, rfl, ?_⟩) | ((with_reducible refine gate_callee (f := 15) rfl ?_); refine goesL_ (some 156) rfl rfl Tryd.func15 (by kernel_rfl) rfl #[.int .i64 (wrap64 (t242 * 80))] rfl (by (try simp only [List.map_toArray, List.map_cons, List.map_nil]); first | done | rfl | (simp only [List.length_drop, List.length_take]; rfl)) ?_; (with_reducible refine (impl_ClockText.calls (wrap64 (t242 * 80)) t243 _ ?side1 A47.out).mono ?_); (case side1 => exact (GF.below HG.out (by repeat (first | (with_reducible first | exact HB.out | apply below_alloc | apply pw_below_drewN | apply below_drew1) | exact HB.out)))); rintro e w63 ⟨rfl, hb⟩; refine ⟨_, rfl, ?_⟩; have n0_ := Aside0.mk (Kd.S_below (by (with_reducible repeat (first | apply Kd.S_alloc | apply Kd.S_drewN | apply Kd.S_drew)); exact HO_5.out) hb); have n1_ := Aside0.mk (below_step (by repeat (first | (with_reducible first | exact HB.out | apply below_alloc | apply pw_below_drewN | apply below_drew1) | exact HB.out)) hb); clear HO_5; clear HB; have HO_5 := n0_; have HB := n1_; clear n0_ n1_; (try clear hb); (try clear hb2); (try clear hk); (try clear hi)) | ((with_reducible refine gate_callee (f := 14) rfl ?_); refine goesL_ (some 157) rfl rfl Tryd.func14 (by kernel_rfl) rfl #[.string t243] rfl (by (try simp only [List.map_toArray, List.map_cons, List.map_nil]); first | done | rfl | (simp only [List.length_drop, List.length_take]; rfl)) ?_; (with_reducible refine (impl_ReadClock.calls k4 t243 t244 true _ ?side1 A48.out).mono ?_); (case side1 => exact (GF.below HG.out (by repeat (first | (with_reducible first | exact HB.out | apply below_alloc | apply pw_below_drewN | apply below_drew1) | exact HB.out)))); rintro e w64 ⟨rfl, hb⟩; refine ⟨_, rfl, ?_⟩; have n0_ := Aside0.mk (Kd.S_below (by (with_reducible repeat (first | apply Kd.S_alloc | apply Kd.S_drewN | apply Kd.S_drew)); exact HO_5.out) hb); have n1_ := Aside0.mk (below_step (by repeat (first | (with_reducible first | exact HB.out | apply below_alloc | apply pw_below_drewN | apply below_drew1) | exact HB.out)) hb); clear HO_5; clear HB; have HO_5 := n0_; have HB := n1_; clear n0_ n1_; (try clear hb); (try clear hb2); (try clear hk); (try clear hi)))
                                        go_ret
                                        exact ⟨by first | rfl | (simp [errW_none, errW_some] <;> rfl) | (simp [*, errW_none, errW_some] <;> rfl), by repeat (first | (with_reducible first | exact HB.out | apply below_alloc | apply pw_below_drewN | apply below_drew1) | exact HB.out)⟩
                                    · rw [if_neg c62] at H
                                      have c62b0 : (t236 == x21_4) = false := beq_eq_false_iff_ne.mpr c62
                                      have c62b1 : (t236 != x21_4) = true := bne_iff_ne.mpr c62
                                      as_aux_lemma =>
                                        exact absurd ((Option.some.inj H).trans HRT.out) (by decide)
                                  · rw [if_neg c61] at H
                                    have c61b0 : (t238 == 0) = false := beq_eq_false_iff_ne.mpr c61
                                    have c61b1 : (t238 != 0) = true := bne_iff_ne.mpr c61
                                    as_aux_lemma =>
                                      exact absurd ((Option.some.inj H).trans HRT.out) (by decide)
                                · rw [if_neg c60] at H
                                  have c60b0 : decide (0 < x20_4) = false := decide_eq_false c60
                                  clear c60
                                  as_aux_lemma =>
                                    exact absurd ((Option.some.inj H).trans HRT.out) (by decide)
                            · rw [if_neg c50] at H
                              have c50b0 : (t244 == (wrap64 (t242 * 80))) = false := beq_eq_false_iff_ne.mpr c50
                              have c50b1 : (t244 != (wrap64 (t242 * 80))) = true := bne_iff_ne.mpr c50
                              as_aux_lemma =>
                                exact absurd ((Option.some.inj H).trans HRT.out) (by decide)
                          · replace c49 := Bool.eq_false_iff.mpr c49
                            subst c49
                            rw [if_neg (show ¬ (false = true) by decide)] at H
                            as_aux_lemma =>
                              exact absurd ((Option.some.inj H).trans HRT.out) (by decide)

/-- THE ONE PURE STATEMENT of laws_FnCheapHands: yours. -/
def laws_FnCheapHands.Pure : Prop := ∀ (l0 : List Int) (l1 : List Int), l0.length ≤ maxLen → l0.length * 1 ≤ 140737488351232 → (∀ x ∈ l0, (Lit.int .u8 x).wf = true) → l1.length ≤ maxLen → l1.length * 1 ≤ 140737488351232 → (∀ x ∈ l1, (Lit.int .u8 x).wf = true) → ∃ k, laws_FnCheapHands.f k l0 l1 = some true
theorem laws_FnCheapHands.walk (P : laws_FnCheapHands.Pure) (a0 : Option Addr) (len0 cap0 : Nat) (z0 : List Int) (a1 : Option Addr) (len1 cap1 : Nat) (z1 : List Int) (w : World) (hG : GF w) (w0 : (a0 = none ∧ len0 = 0 ∧ cap0 = 0 ∧ z0 = []) ∨ ∃ x, a0 = some x ∧ len0 ≤ cap0 ∧ cap0 ≤ maxLen ∧ z0.length = cap0 ∧ (∀ i, i < z0.length → w.cell? (x.add i) = some (.int .u8 (z0.getD i 0))) ∧ ∀ n ∈ z0, (Lit.int .u8 n).wf = true) (y0 : len0 * 1 ≤ 140737488351232) (w1 : (a1 = none ∧ len1 = 0 ∧ cap1 = 0 ∧ z1 = []) ∨ ∃ x, a1 = some x ∧ len1 ≤ cap1 ∧ cap1 ≤ maxLen ∧ z1.length = cap1 ∧ (∀ i, i < z1.length → w.cell? (x.add i) = some (.int .u8 (z1.getD i 0))) ∧ ∀ n ∈ z1, (Lit.int .u8 n).wf = true) (y1 : len1 * 1 ≤ 140737488351232) :
    Calls Tryd.prog 3 #[.slice a0 len0 cap0, .slice a1 len1 cap1] w fun e w' => e = .returned (.bool true) ∧ Below w.heap.size w w' := by
  obtain ⟨l0, rfl, hr0, hm0, hw0, hc0⟩ := ReadsInt.ofRowC w0
  obtain ⟨l1, rfl, hr1, hm1, hw1, hc1⟩ := ReadsInt.ofRowC w1
  obtain ⟨k, h⟩ := P l0 l1 hm0 y0 hw0 hm1 y1 hw1
  refine (laws_FnCheapHands.calls k _ _ l0 _ _ l1 true w hG (Kd.C_of_reads (d := (0 : Int)) (h1 := fun _ => rfl) hr0) hc0 (Kd.C_of_reads (d := (0 : Int)) (h1 := fun _ => rfl) hr1) hc1 rfl h).mono ?_
  rintro e w' ⟨rfl, hd⟩
  exact ⟨rfl, hd⟩

end Go.Proofs.YtjmjmpbphhbmpaaDoor.QCB
