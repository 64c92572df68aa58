-- Written by a program of this place (wip/tools/prn.py) out of the translation, for this claim. Lean checks it.
import Derived.Test.YtajbomiaoncgiaaDoorQPLz
import Derived.Test.YtajbomiaoncgiaaDoorQPLx6
import Derived.Test.YtajbomiaoncgiaaDoorQPLx7
namespace Go.Proofs.YtajbomiaoncgiaaDoor.QPL
open Go.RowKit Go.Proofs.YtajbomiaoncgiaaDoorQ Go.Proofs.YtajbomiaoncgiaaDoorW.PrintWords Go.Proofs.YtajbomiaoncgiaaDoorW.PrintLast Go.Proofs.YtajbomiaoncgiaaDoorW.PrintMore
attribute [local go_sem] max2_int min2_int max_two min_two max_three min_three max_four min_four   -- for this text's walks alone
set_option linter.unusedVariables false
set_option linter.unusedSimpArgs false

/-! ### impl_ReadDecimal: function 87 -/
mutual
def impl_ReadDecimal.j0 : Nat → ByteArray → ByteArray → Bool → Option (Int × Bool)
 | 0, _, _, _ => none
 | k + 1, x0, x4, x16 => if x16 = true then (some (0, false)) else (impl_ReadDecimal.l0 k x0 x4 0 0)
def impl_ReadDecimal.l0 : Nat → ByteArray → ByteArray → Int → Int → Option (Int × Bool)
 | 0, _, _, _, _ => none
 | k + 1, x0, x4, x5, x6 => if x6 < (x4.size : Int) then (if 0 ≤ x6 then (if (bt x4 x6) < 48 then (some (0, false)) else (if (bt x4 x6) > 57 then (some (0, false)) else (impl_ReadDecimal.l0 k x0 x4 (wrap64 ((wrap64 (10 * x5)) + (((bt x4 x6) - 48) % 256))) (wrap64 (x6 + 1))))) else (none)) else (if (x4.size : Int) < (x0.size : Int) then ((impl_Decimal.f (wrap64 (-x5))).bind fun t223 => (if t223.toList = x0.toList then (some (wrap64 (-x5), true)) else (some (0, false)))) else ((impl_Decimal.f x5).bind fun t224 => (if t224.toList = x0.toList then (some (x5, true)) else (some (0, false)))))
end
def impl_ReadDecimal.f (k : Nat) (a0 : ByteArray) : Option (Int × Bool) := (strings_TrimPrefix.f a0 (⟨#[45]⟩ : ByteArray)).bind fun t222 => (if (t222.size : Int) < 1 then (impl_ReadDecimal.j0 k a0 t222 true) else (impl_ReadDecimal.j0 k a0 t222 (decide ((t222.size : Int) > 18))))
set_option maxHeartbeats 8000000 in
set_option maxRecDepth 100000 in
theorem impl_ReadDecimal.calls (k : Nat) (a0 : ByteArray) (r1 : Int) (r2 : Bool) (w : World) (hG : GF w) (h : impl_ReadDecimal.f k a0 = some (r1, r2)) :
  Calls Tryd.prog 87 #[.string a0] w fun e w' => e = .returned (.tuple #[.int .i64 r1, .bool r2]) ∧ Below w.heap.size w w' := by
 have HB := Aside0.mk (Below.refl w.heap.size w)
 have HG := Aside0.mk hG
 clear hG
 have H : ((strings_TrimPrefix.f a0 (⟨#[45]⟩ : ByteArray)).bind fun t222 => (if (t222.size : Int) < 1 then (impl_ReadDecimal.j0 k a0 t222 true) else (impl_ReadDecimal.j0 k a0 t222 (decide ((t222.size : Int) > 18))))) = some (r1, r2) := h
 clear h
 replace H := Option.bind_eq_some_iff.mp H
 obtain ⟨t222, A20, H⟩ := H
 have A2 := Aside0.mk A20
 clear A20
 have HC3 := Aside0.mk H
 clear H
 go_enter Tryd.func87, Tryd.ntmps87
 go_upto_region 2 with (first | ((with_reducible refine gate_callee (f := 113) rfl ?_); refine goq (some 8) Tryd.func113 #[.string a0, .string (⟨#[45]⟩ : ByteArray)] ?_; (with_reducible refine (strings_TrimPrefix.calls a0 (⟨#[45]⟩ : ByteArray) t222 _ A2.out).mono ?_); rintro e w' ⟨rfl, ⟨nd, rfl⟩⟩; refine ⟨_, rfl, ?_⟩))
 (try simp only [Act.put, List.setIfInBounds_toArray, List.set_cons_zero, List.set_cons_succ])
 go_cut [16] (fun v16 wc => ∃ (kq : Nat) (x16_2 : Bool), v16 = .bool x16_2 ∧ Aside0 (impl_ReadDecimal.j0 kq a0 t222 x16_2 = some (r1, r2)) ∧ Aside0 (kq ≤ k) ∧ Aside0 (Below w.heap.size w wc))
 case first =>
  have H := HC3.out
  clear HC3
  by_cases c4 : (t222.size : Int) < 1
  ·rw [if_pos c4] at H
   have c4b0 : decide ((t222.size : Int) < 1) = true := decide_eq_true c4
   have c4b1 : decide (t222.size < 1) = true := decide_eq_true (by omega)
   clear c4
   (first | rw [c4b0] | (simp only [i64_w, i32_w]; rw [c4b0]) | skip)
   have H' := Aside0.mk H
   clear H
   go_wp2
   go_meet
   case rel => exact ⟨_, (true), sd, H', ⟨om⟩, ⟨bl⟩⟩
  ·rw [if_neg c4] at H
   have c4b0 : decide ((t222.size : Int) < 1) = false := decide_eq_false c4
   have c4b1 : decide (t222.size < 1) = false := decide_eq_false (by omega)
   clear c4
   (first | rw [c4b0] | (simp only [i64_w, i32_w]; rw [c4b0]) | skip)
   have H' := Aside0.mk H
   clear H
   go_wp2
   go_meet
   case rel => exact ⟨_, (decide ((t222.size : Int) > 18)), sd, H', ⟨om⟩, ⟨bl⟩⟩
 case rest =>
  clear HC3
  try clear c1; try clear p2; try clear c4; try clear c4b0; try clear c4b1
  obtain ⟨kq, x16_2, rfl, HA, HJ2, HB⟩ := hcut
  cases kq with
  | zero => exact absurd HA.out (by simp [impl_ReadDecimal.j0])
  | succ kj2 =>
   have H := HA.out
   clear HA
   simp only [impl_ReadDecimal.j0] at H
   by_cases c5 : x16_2 = true
   ·subst c5
    rw [if_pos rfl] at H
    simp only [Option.some.injEq, Prod.mk.injEq] at H
    obtain ⟨rfl, rfl⟩ := H
    go_wp2
    go_ret2
    exact ⟨er, bl⟩
   ·replace c5 := Bool.eq_false_iff.mpr c5
    subst c5
    rw [if_neg (show ¬ (false = true) by decide)] at H
    have H' := Aside0.mk H
    clear H
    go_wp2
    go_loopg [5, 6] kj2 (fun kq v5 v6 w' => ∃ (x5_2 : Int) (x6_2 : Int), v5 = .int .i64 x5_2 ∧ v6 = .int .i64 x6_2 ∧ Aside0 (impl_ReadDecimal.l0 kq a0 t222 x5_2 x6_2 = some (r1, r2)) ∧ Aside0 (kq ≤ kj2) ∧ Aside0 (Below w.heap.size w w'))
    case atStart => exact ⟨(0), (0), sd, sd, H', ⟨Nat.le_refl _⟩, ⟨bl⟩⟩
    case round =>
     clear H'
     try clear c1; try clear p2; try clear c4; try clear c4b0; try clear c4b1; try clear c5
     obtain ⟨x5_2, x6_2, rfl, rfl, HA, HK2, HB⟩ := hrel
     cases gk with
     | zero => exact absurd HA.out (by simp [impl_ReadDecimal.l0])
     | succ k2 =>
      have H := HA.out
      clear HA
      simp only [impl_ReadDecimal.l0] at H
      by_cases c6 : x6_2 < (t222.size : Int)
      ·rw [if_pos c6] at H
       have c6b0 : decide (x6_2 < (t222.size : Int)) = true := decide_eq_true c6
       clear c6
       by_cases c7 : 0 ≤ x6_2
       ·rw [if_pos c7] at H
        have c7b0 : decide (0 ≤ x6_2) = true := decide_eq_true c7
        clear c7
        by_cases c9 : (bt t222 x6_2) < 48
        ·rw [if_pos c9] at H
         have c9b0 : decide ((bt t222 x6_2) < 48) = true := decide_eq_true c9
         clear c9
         simp only [Option.some.injEq, Prod.mk.injEq] at H
         obtain ⟨rfl, rfl⟩ := H
         have p8 : 0 ≤ (x6_2 : Int) := dt
         have q8 : x6_2 < (t222.size : Int) := dt
         have hx8 := bt_at t222 x6_2
         replace p8 := eq_true p8
         replace q8 := eq_true q8
         go_wp2
         go_ret2
         exact ⟨er, bl⟩
        ·rw [if_neg c9] at H
         have c9b0 : decide ((bt t222 x6_2) < 48) = false := decide_eq_false c9
         clear c9
         by_cases c11 : (bt t222 x6_2) > 57
         ·rw [if_pos c11] at H
          have c11b0 : decide (57 < (bt t222 x6_2)) = true := decide_eq_true c11
          clear c11
          simp only [Option.some.injEq, Prod.mk.injEq] at H
          obtain ⟨rfl, rfl⟩ := H
          have p8 : 0 ≤ (x6_2 : Int) := dt
          have q8 : x6_2 < (t222.size : Int) := dt
          have hx8 := bt_at t222 x6_2
          replace p8 := eq_true p8
          replace q8 := eq_true q8
          have p10 : 0 ≤ (x6_2 : Int) := dt
          have q10 : x6_2 < (t222.size : Int) := dt
          have hx10 := bt_at t222 x6_2
          replace p10 := eq_true p10
          replace q10 := eq_true q10
          go_wp2
          go_ret2
          exact ⟨er, bl⟩
         ·rw [if_neg c11] at H
          have c11b0 : decide (57 < (bt t222 x6_2)) = false := decide_eq_false c11
          clear c11
          have H' := Aside0.mk H
          clear H
          have p8 : 0 ≤ (x6_2 : Int) := dt
          have q8 : x6_2 < (t222.size : Int) := dt
          have hx8 := bt_at t222 x6_2
          replace p8 := eq_true p8
          replace q8 := eq_true q8
          have p10 : 0 ≤ (x6_2 : Int) := dt
          have q10 : x6_2 < (t222.size : Int) := dt
          have hx10 := bt_at t222 x6_2
          replace p10 := eq_true p10
          replace q10 := eq_true q10
          have p12 : 0 ≤ (x6_2 : Int) := dt
          have q12 : x6_2 < (t222.size : Int) := dt
          have hx12 := bt_at t222 x6_2
          replace p12 := eq_true p12
          replace q12 := eq_true q12
          go_wp2
          go_roundg k2
          case measure => have := HJ2.out; have := HK2.out; omega
          case rel => exact ⟨(wrap64 ((wrap64 (10 * x5_2)) + (((bt t222 x6_2) - 48) % 256))), (wrap64 (x6_2 + 1)), sd, sd, H', ⟨by have := HJ2.out; have := HK2.out; omega⟩, ⟨bl⟩⟩
       ·rw [if_neg c7] at H
        exact absurd H (by simp)
      ·rw [if_neg c6] at H
       have c6b0 : decide (x6_2 < (t222.size : Int)) = false := decide_eq_false c6
       clear c6
       by_cases c13 : (t222.size : Int) < (a0.size : Int)
       ·rw [if_pos c13] at H
        have c13b0 : decide ((t222.size : Int) < (a0.size : Int)) = true := decide_eq_true c13
        have c13b1 : decide (t222.size < a0.size) = true := decide_eq_true (Int.ofNat_lt.mp c13)
        clear c13
        replace H := Option.bind_eq_some_iff.mp H
        obtain ⟨t223, A140, H⟩ := H
        have A14 := Aside0.mk A140
        clear A140
        by_cases c15 : t223.toList = a0.toList
        ·rw [if_pos c15] at H
         have c15b0 : (t223.toList == a0.toList) = true := beq_iff_eq.mpr c15
         have c15b1 : (t223.toList != a0.toList) = false := bne_eq_false_iff_eq.mpr c15
         clear c15
         simp only [Option.some.injEq, Prod.mk.injEq] at H
         obtain ⟨rfl, rfl⟩ := H
         go_wp2_with (first | ((with_reducible refine gate_callee (f := 63) rfl ?_); refine goq (some 49) Tryd.func63 #[.int .i64 (wrap64 (-x5_2))] ?_; (with_reducible refine (impl_Decimal.calls (wrap64 (-x5_2)) t223 _ ?side1 A14.out).mono ?_); (case side1 => exact (GF.below HG.out bl)); rintro e w16 ⟨rfl, hb⟩; refine ⟨_, rfl, ?_⟩; replace HB := bs hb; (try clear hb)))
         go_ret2
         exact ⟨er, bl⟩
        ·rw [if_neg c15] at H
         have c15b0 : (t223.toList == a0.toList) = false := beq_eq_false_iff_ne.mpr c15
         have c15b1 : (t223.toList != a0.toList) = true := bne_iff_ne.mpr c15
         simp only [Option.some.injEq, Prod.mk.injEq] at H
         obtain ⟨rfl, rfl⟩ := H
         go_wp2_with (first | ((with_reducible refine gate_callee (f := 63) rfl ?_); refine goq (some 49) Tryd.func63 #[.int .i64 (wrap64 (-x5_2))] ?_; (with_reducible refine (impl_Decimal.calls (wrap64 (-x5_2)) t223 _ ?side1 A14.out).mono ?_); (case side1 => exact (GF.below HG.out bl)); rintro e w17 ⟨rfl, hb⟩; refine ⟨_, rfl, ?_⟩; replace HB := bs hb; (try clear hb)))
         go_ret2
         exact ⟨er, bl⟩
       ·rw [if_neg c13] at H
        have c13b0 : decide ((t222.size : Int) < (a0.size : Int)) = false := decide_eq_false c13
        have c13b1 : decide (t222.size < a0.size) = false := decide_eq_false (fun h => c13 (Int.ofNat_lt.mpr h))
        clear c13
        replace H := Option.bind_eq_some_iff.mp H
        obtain ⟨t224, A180, H⟩ := H
        have A18 := Aside0.mk A180
        clear A180
        by_cases c19 : t224.toList = a0.toList
        ·rw [if_pos c19] at H
         have c19b0 : (t224.toList == a0.toList) = true := beq_iff_eq.mpr c19
         have c19b1 : (t224.toList != a0.toList) = false := bne_eq_false_iff_eq.mpr c19
         clear c19
         simp only [Option.some.injEq, Prod.mk.injEq] at H
         obtain ⟨rfl, rfl⟩ := H
         go_wp2_with (first | ((with_reducible refine gate_callee (f := 63) rfl ?_); refine goq (some 49) Tryd.func63 #[.int .i64 x5_2] ?_; (with_reducible refine (impl_Decimal.calls x5_2 t224 _ ?side1 A18.out).mono ?_); (case side1 => exact (GF.below HG.out bl)); rintro e w20 ⟨rfl, hb⟩; refine ⟨_, rfl, ?_⟩; replace HB := bs hb; (try clear hb)))
         go_ret2
         exact ⟨er, bl⟩
        ·rw [if_neg c19] at H
         have c19b0 : (t224.toList == a0.toList) = false := beq_eq_false_iff_ne.mpr c19
         have c19b1 : (t224.toList != a0.toList) = true := bne_iff_ne.mpr c19
         simp only [Option.some.injEq, Prod.mk.injEq] at H
         obtain ⟨rfl, rfl⟩ := H
         go_wp2_with (first | ((with_reducible refine gate_callee (f := 63) rfl ?_); refine goq (some 49) Tryd.func63 #[.int .i64 x5_2] ?_; (with_reducible refine (impl_Decimal.calls x5_2 t224 _ ?side1 A18.out).mono ?_); (case side1 => exact (GF.below HG.out bl)); rintro e w21 ⟨rfl, hb⟩; refine ⟨_, rfl, ?_⟩; replace HB := bs hb; (try clear hb)))
         go_ret2
         exact ⟨er, bl⟩

/-! ### strings_SplitN: function 88 -/
def strings_SplitN.f (a0 : ByteArray) (a1 : ByteArray) (a2 : Int) : Option (List ByteArray) := if a0.size < 4294967281 ∧ 1 ≤ a1.size ∧ 1 ≤ a2 ∧ a2 ≤ 9223372036854775807 then some (Lib.splitB a1 0 (min a2.toNat (a0.size + 1) - 1) a0) else none
theorem strings_SplitN.calls (a0 : ByteArray) (a1 : ByteArray) (a2 : Int) (r : List ByteArray) (w : World) (hG : GF w) (h : strings_SplitN.f a0 a1 a2 = some r) :
  Calls Tryd.prog 88 #[.string a0, .string a1, .int .i64 a2] w fun e w' => ∃ v0_ : Value, e = .returned (v0_) ∧ Kd.R Kd.string 9 w' w.heap.size (fun _ => True) v0_ r ∧ Below w.heap.size w w' := by
 unfold strings_SplitN.f at h
 by_cases c : a0.size < 4294967281 ∧ 1 ≤ a1.size ∧ 1 ≤ a2 ∧ a2 ≤ 9223372036854775807
 ·rw [if_pos c] at h
  obtain rfl := Option.some.inj h
  obtain ⟨c1, c2, c3, c4⟩ := c
  obtain ⟨n, rfl⟩ := Int.eq_ofNat_of_zero_le (show 0 ≤ a2 by omega)
  rw [Int.toNat_natCast]
  obtain ⟨m, hm⟩ := hG.2
  refine (Tryd.strings_SplitN a0 a1 n m w c1 hm c2 (by omega) (by omega)).mono fun e w' ⟨he, hw⟩ => ⟨_, he, ?_, ?_⟩
  ·subst hw
   have hl := Lib.splitB_length_le a1 0 (min n (a0.size + 1) - 1) a0
   exact R_strsN w _ (Lib.splitB a1 0 (min n (a0.size + 1) - 1) a0) _ _ (by omega) (by omega) (Lib.cellsOf_size (by omega)) (by simp [Lib.cellsOf, List.take_append_of_le_length])
  ·subst hw
   exact (Below.refl _ _).alloc (Nat.le_refl _) _
 ·rw [if_neg c] at h
  cases h


/-! ### strings_HasPrefix: function 89 -/
def strings_HasPrefix.f (a0 : ByteArray) (a1 : ByteArray) : Option (Bool) := (stringslite_HasPrefix.f a0 a1).bind fun t225 => (some t225)
set_option maxHeartbeats 8000000 in
set_option maxRecDepth 100000 in
theorem strings_HasPrefix.calls (a0 : ByteArray) (a1 : ByteArray) (r : Bool) (w : World) (h : strings_HasPrefix.f a0 a1 = some r) :
  Calls Tryd.prog 89 #[.string a0, .string a1] w fun e w' => e = .returned (.bool r) ∧ Drawn0 w w' := by
 have H : ((stringslite_HasPrefix.f a0 a1).bind fun t225 => (some t225)) = some r := h
 clear h
 replace H := Option.bind_eq_some_iff.mp H
 obtain ⟨t225, A30, H⟩ := H
 have A3 := Aside0.mk A30
 clear A30
 obtain rfl := Option.some.inj H
 go_enter Tryd.func89, Tryd.ntmps89
 go_wp2_with (first | ((with_reducible refine gate_callee (f := 115) rfl ?_); refine goq (some 7) Tryd.func115 #[.string a0, .string a1] ?_; (with_reducible refine (stringslite_HasPrefix.calls a0 a1 t225 _ A3.out).mono ?_); rintro e w' ⟨rfl, ⟨nd, rfl⟩⟩; refine ⟨_, rfl, ?_⟩))
 go_ret
 exact ⟨sd, dr⟩

/-! ### impl_readFrame: function 67 -/
mutual
def impl_readFrame.j0 : Nat → ByteArray → ByteArray → Int → Bool → Option (Int × ByteArray × ByteArray × Int)
 | 0, _, _, _, _ => none
 | k + 1, x0, x5, x7, x37 => if x37 = true then (some (0, (⟨#[]⟩ : ByteArray), (⟨#[]⟩ : ByteArray), 0)) else (if 0 ≤ x7 then (if x7 ≤ (x5.size : Int) then ((strings_SplitN.f (x5.extract 0 (x7 : Int).toNat) (⟨#[32]⟩ : ByteArray) 3).bind fun t233 => (if (t233.length : Int) = 3 then (if 0 < (t233.length : Int) then ((impl_ReadDecimal.f k (rdOf ByteArray.empty t233 0)).bind fun bt237 => (if 1 < (t233.length : Int) then (if 2 < (t233.length : Int) then ((impl_FrameOf.f k bt237.1 (rdOf ByteArray.empty t233 1) (rdOf ByteArray.empty t233 2)).bind fun t242 => (if bt237.2 = true then (if t242.toList = ([] : List UInt8) then (impl_readFrame.j1 k t242 true bt237.1 (rdOf ByteArray.empty t233 1) (rdOf ByteArray.empty t233 2)) else ((strings_HasPrefix.f x0 t242).bind fun t243 => (impl_readFrame.j1 k t242 (!t243) bt237.1 (rdOf ByteArray.empty t233 1) (rdOf ByteArray.empty t233 2)))) else (impl_readFrame.j1 k t242 true bt237.1 (rdOf ByteArray.empty t233 1) (rdOf ByteArray.empty t233 2)))) else (none)) else (none))) else (none)) else (some (0, (⟨#[]⟩ : ByteArray), (⟨#[]⟩ : ByteArray), 0)))) else (none)) else (none))
def impl_readFrame.j1 : Nat → ByteArray → Bool → Int → ByteArray → ByteArray → Option (Int × ByteArray × ByteArray × Int)
 | 0, _, _, _, _, _ => none
 | k + 1, x13, x75, x242000, x242001, x242002 => if x75 = true then (some (0, (⟨#[]⟩ : ByteArray), (⟨#[]⟩ : ByteArray), 0)) else (some (x242000, x242001, x242002, (x13.size : Int)))
end
def impl_readFrame.f (k : Nat) (a0 : ByteArray) : Option (Int × ByteArray × ByteArray × Int) := (strings_Cut.f a0 (⟨#[58]⟩ : ByteArray)).bind fun bt227 => ((impl_ReadDecimal.f k bt227.1).bind fun bt230 => (if bt227.2.2 = true then (if bt230.2 = true then ((impl_within.f bt230.1 0 (bt227.2.1.size : Int)).bind fun t232 => (impl_readFrame.j0 k a0 bt227.2.1 bt230.1 (!t232))) else (impl_readFrame.j0 k a0 bt227.2.1 bt230.1 true)) else (impl_readFrame.j0 k a0 bt227.2.1 bt230.1 true)))
def impl_readFrame.T9 : Bool × List (List Nat × List Nat) := (true, [([], []), ([], []), ([1], [1]), ([2], [2]), ([], []), ([4], [4]), ([5], [5]), ([0, 3, 6], [0, 3, 6]), ([], []), ([8, 7, 0, 1, 2, 3, 4, 5, 6, 7, 8], [7, 8])])
def impl_readFrame.B9 : List Nat := [0, 0, 2, 6, 0, 16, 48, 127, 0, 511]
theorem impl_readFrame.tab9 : rtab .any (opsOf Tryd.f67 9) = impl_readFrame.T9 := by kernel_rfl
theorem impl_readFrame.bits9 : waitsOk impl_readFrame.T9.2 impl_readFrame.B9 = true := by kernel_rfl
set_option maxHeartbeats 8000000 in
set_option maxRecDepth 100000 in
theorem impl_readFrame.calls (k : Nat) (a0 : ByteArray) (r1 : Int) (r2 : ByteArray) (r3 : ByteArray) (r4 : Int) (w : World) (hG : GF w) (h : impl_readFrame.f k a0 = some (r1, r2, r3, r4)) :
  Calls Tryd.prog 67 #[.string a0] w fun e w' => e = .returned (.tuple #[.agg #[.int .i64 r1, .string r2, .string r3], .int .i64 r4]) ∧ Below w.heap.size w w' := by
 have hu39 := Tryd.underlying39
 have HB := Aside0.mk (Below.refl w.heap.size w)
 have HG := Aside0.mk hG
 clear hG
 have H : ((strings_Cut.f a0 (⟨#[58]⟩ : ByteArray)).bind fun bt227 => ((impl_ReadDecimal.f k bt227.1).bind fun bt230 => (if bt227.2.2 = true then (if bt230.2 = true then ((impl_within.f bt230.1 0 (bt227.2.1.size : Int)).bind fun t232 => (impl_readFrame.j0 k a0 bt227.2.1 bt230.1 (!t232))) else (impl_readFrame.j0 k a0 bt227.2.1 bt230.1 true)) else (impl_readFrame.j0 k a0 bt227.2.1 bt230.1 true)))) = some (r1, r2, r3, r4) := h
 clear h
 replace H := Option.bind_eq_some_iff.mp H
 obtain ⟨⟨t227, t228, t229⟩, A20, H⟩ := H
 dsimp only at H
 have A2 := Aside0.mk A20
 clear A20
 replace H := Option.bind_eq_some_iff.mp H
 obtain ⟨⟨t230, t231⟩, A30, H⟩ := H
 replace H : (if t229 = true then (if t231 = true then ((impl_within.f t230 0 (t228.size : Int)).bind fun t232 => (impl_readFrame.j0 k a0 t228 t230 (!t232))) else (impl_readFrame.j0 k a0 t228 t230 true)) else (impl_readFrame.j0 k a0 t228 t230 true)) = some (r1, r2, r3, r4) := H
 have A3 := Aside0.mk A30
 clear A30
 have HC4 := Aside0.mk H
 clear H
 go_enter Tryd.func67, Tryd.ntmps67
 go_upto_region 3 with (first | ((with_reducible refine gate_dst (N := 2) rfl ?_); (try (refine gate_guard (by rfl) ?_; dsimp only)); refine box_event ?hg (N := 2) ?hd (cs := #[.int .i64 0, .string (⟨#[]⟩ : ByteArray), .string (⟨#[]⟩ : ByteArray)]) (t := 39) ?hr ?_; (case hd => rfl); (case hg => rfl); (case hr => exact zq1); intro gb226 hg w5 hbox hb; have BK226 := Aside0.mk (hbox); have GW226 := gsz hg; have GE226 := gsz hg; replace HB := bs hb; clear hb hbox hg) | ((with_reducible refine gate_callee (f := 86) rfl ?_); refine goq (some 16) Tryd.func86 #[.string a0, .string (⟨#[58]⟩ : ByteArray)] ?_; (with_reducible refine (strings_Cut.calls a0 (⟨#[58]⟩ : ByteArray) t227 t228 t229 _ ?side1 A2.out).mono ?_); (case side1 => exact (GF.below HG.out bl)); rintro e w6 ⟨rfl, hb⟩; refine ⟨_, rfl, ?_⟩; replace BK226 := kb BK226 hb; replace HB := bs hb; (try clear hb)) | ((with_reducible refine gate_callee (f := 87) rfl ?_); refine goq (some 22) Tryd.func87 #[.string t227] ?_; (with_reducible refine (impl_ReadDecimal.calls k t227 t230 t231 _ ?side1 A3.out).mono ?_); (case side1 => exact (GF.below HG.out bl)); rintro e w7 ⟨rfl, hb⟩; refine ⟨_, rfl, ?_⟩; replace BK226 := kb BK226 hb; replace HB := bs hb; (try clear hb)))
 (try simp only [Act.put, List.setIfInBounds_toArray, List.set_cons_zero, List.set_cons_succ])
 go_cut [37] (fun v37 wc => ∃ (kq : Nat) (x37_3 : Bool), v37 = .bool x37_3 ∧ Aside0 (impl_readFrame.j0 kq a0 t228 t230 x37_3 = some (r1, r2, r3, r4)) ∧ Aside0 (kq ≤ k) ∧ Aside0 (wc.heap[gb226]? = some (.cells #[.int .i64 0, .string (⟨#[]⟩ : ByteArray), .string (⟨#[]⟩ : ByteArray)] 39 (0, 0))) ∧ Aside0 (Below w.heap.size w wc))
 case first =>
  have H := HC4.out
  clear HC4
  by_cases c8 : t229 = true
  ·subst c8
   rw [if_pos rfl] at H
   by_cases c9 : t231 = true
   ·subst c9
    rw [if_pos rfl] at H
    replace H := Option.bind_eq_some_iff.mp H
    obtain ⟨t232, A100, H⟩ := H
    have A10 := Aside0.mk A100
    clear A100
    have H' := Aside0.mk H
    clear H
    go_wp2_with (first | (go_at_call 52; (with_reducible refine (impl_within.calls t230 0 (t228.size : Int) t232 _ A10.out).mono ?_); rintro e w' ⟨rfl, ⟨nd, rfl⟩⟩))
    go_meet
    case rel => exact ⟨_, (!t232), sd, H', ⟨om⟩, ⟨zq0⟩, ⟨bl⟩⟩
   ·replace c9 := Bool.eq_false_iff.mpr c9
    subst c9
    rw [if_neg (show ¬ (false = true) by decide)] at H
    have H' := Aside0.mk H
    clear H
    go_wp2
    go_meet
    case rel => exact ⟨_, (true), sd, H', ⟨om⟩, ⟨zq0⟩, ⟨bl⟩⟩
  ·replace c8 := Bool.eq_false_iff.mpr c8
   subst c8
   rw [if_neg (show ¬ (false = true) by decide)] at H
   have H' := Aside0.mk H
   clear H
   go_wp2
   go_meet
   case rel => exact ⟨_, (true), sd, H', ⟨om⟩, ⟨zq0⟩, ⟨bl⟩⟩
 case rest =>
  clear HC4
  try clear p2; try clear c6; try clear c8; try clear c9
  obtain ⟨kq, x37_3, rfl, HA, HJ3, BK226, HB⟩ := hcut
  cases kq with
  | zero => exact absurd HA.out (by simp [impl_readFrame.j0])
  | succ kj3 =>
   have H := HA.out
   clear HA
   simp only [impl_readFrame.j0] at H
   by_cases c11 : x37_3 = true
   ·subst c11
    rw [if_pos rfl] at H
    simp only [Option.some.injEq, Prod.mk.injEq] at H
    obtain ⟨rfl, rfl, rfl, rfl⟩ := H
    have hcz12_0 := cz BK226 0 rfl
    have hcz12_1 := cz BK226 1 rfl
    have hcz12_2 := cz BK226 2 rfl
    have hfz12_0 := blk_frozen BK226.out 0
    have hfz12_1 := blk_frozen BK226.out 1
    have hfz12_2 := blk_frozen BK226.out 2
    go_wp2
    refine bodyPost_ret (results_ct rfl _ _ gb226 39 #[.int .i64 0, .string (⟨#[]⟩ : ByteArray), .string (⟨#[]⟩ : ByteArray)] (0, 0) _ rfl zq18 Tryd.underlying39 rfl (by kernel_rfl)) rfl ?_
    exact ⟨er, bl⟩
   ·replace c11 := Bool.eq_false_iff.mpr c11
    subst c11
    rw [if_neg (show ¬ (false = true) by decide)] at H
    by_cases c13 : 0 ≤ t230
    ·rw [if_pos c13] at H
     have c13b0 := eq_true c13
     have c13b1 : decide (0 ≤ t230) = true := decide_eq_true c13
     clear c13
     by_cases c14 : t230 ≤ (t228.size : Int)
     ·rw [if_pos c14] at H
      have c14b0 := eq_true c14
      have c14b1 : decide (t230 ≤ (t228.size : Int)) = true := decide_eq_true c14
      clear c14
      replace H := Option.bind_eq_some_iff.mp H
      obtain ⟨t233, A150, H⟩ := H
      have A15 := Aside0.mk A150
      clear A150
      by_cases c16 : (t233.length : Int) = 3
      ·rw [if_pos c16] at H
       have c16b0 : ((t233.length : Int) == 3) = true := beq_iff_eq.mpr c16
       have c16b1 : ((t233.length : Int) != 3) = false := bne_eq_false_iff_eq.mpr c16
       clear c16
       by_cases c17 : 0 < (t233.length : Int)
       ·rw [if_pos c17] at H
        have c17b0 : decide (0 < (t233.length : Int)) = true := decide_eq_true c17
        have c17b1 : decide (0 < t233.length) = true := decide_eq_true (by omega)
        clear c17
        replace H := Option.bind_eq_some_iff.mp H
        obtain ⟨⟨t237, t238⟩, A180, H⟩ := H
        dsimp only at H
        have A18 := Aside0.mk A180
        clear A180
        by_cases c19 : 1 < (t233.length : Int)
        ·rw [if_pos c19] at H
         have c19b0 : decide (1 < (t233.length : Int)) = true := decide_eq_true c19
         have c19b1 : decide (1 < t233.length) = true := decide_eq_true (by omega)
         clear c19
         by_cases c20 : 2 < (t233.length : Int)
         ·rw [if_pos c20] at H
          have c20b0 : decide (2 < (t233.length : Int)) = true := decide_eq_true c20
          have c20b1 : decide (2 < t233.length) = true := decide_eq_true (by omega)
          clear c20
          replace H := Option.bind_eq_some_iff.mp H
          obtain ⟨t242, A210, H⟩ := H
          have A21 := Aside0.mk A210
          clear A210
          have HC22 := Aside0.mk H
          clear H
          try go_wp2_with (first | ((with_reducible refine gate_callee (f := 88) rfl ?_); refine goq (some 42) Tryd.func88 #[.string (t228.extract 0 (t230 : Int).toNat), .string (⟨#[32]⟩ : ByteArray), .int .i64 3] ?_; (with_reducible refine (strings_SplitN.calls (t228.extract 0 (t230 : Int).toNat) (⟨#[32]⟩ : ByteArray) 3 t233 _ ?side1 A15.out).mono ?_); (case side1 => exact (GF.below HG.out bl)); rintro e w23 ⟨v234, rfl, ho0, hb⟩; refine ⟨_, rfl, ?_⟩; have HO235 := Aside0.mk (Kd.R_lower ho0 (below_size bl)); replace BK226 := kb BK226 hb; replace HB := bs hb; (try clear hb); (try clear ho0); obtain ⟨Ao24, co24, eo24⟩ := Kd.R_slice HO235.out; subst eo24; have p236 : 0 ≤ (0 : Int) := (by omega); have q236 : 0 < (t233.length : Int) := dt; obtain ⟨ad236, e236, hx236_0⟩ := Kd.at_string (Kd.R_reads' HO235.out).2.2 0 p236 q236; cases e236; have qi236 : (0 < t233.length) = True := eq_true (by omega); (try rw [show ((0 : Int)).toNat = 0 from rfl] at hx236_0); (try rw [Addr.add_zero'] at hx236_0); replace p236 := eq_true p236; replace q236 := eq_true q236) | ((with_reducible refine gate_callee (f := 87) rfl ?_); refine goq (some 51) Tryd.func87 #[.string (rdOf ByteArray.empty t233 0)] ?_; (with_reducible refine (impl_ReadDecimal.calls kj3 (rdOf ByteArray.empty t233 0) t237 t238 _ ?side1 A18.out).mono ?_); (case side1 => exact (GF.below HG.out bl)); rintro e w25 ⟨rfl, hb⟩; refine ⟨_, rfl, ?_⟩; replace HO235 := Aside0.mk (Kd.R_below zq70 hb); replace BK226 := kb BK226 hb; replace HB := bs hb; (try clear hb)))
          replace HO235 := Aside0.mk (Kd.R_drew HO235.out)
          replace BK226 := Aside0.mk (blk_drew BK226.out)
          replace HB := Aside0.mk (below_drew1 HB.out)
          have p239 : 0 ≤ (1 : Int) := (by omega)
          have q239 : 1 < (t233.length : Int) := dt
          obtain ⟨ad239, e239, hx239_0⟩ := Kd.at_string (Kd.R_reads' HO235.out).2.2 1 p239 q239
          obtain rfl : ad236 = ad239 := (by injection e239)
          (try simp only [show (1 : Int).toNat = 1 from rfl, Nat.reduceMul, Nat.reduceEqDiff, Go.Addr.add, ↓reduceIte] at hx239_0)
          have qi239 : (1 < t233.length) = True := eq_true (by omega)
          (try rw [show ((1 : Int)).toNat = 1 from rfl] at hx239_0)
          replace p239 := eq_true p239
          replace q239 := eq_true q239
          have p240 : 0 ≤ (2 : Int) := (by omega)
          have q240 : 2 < (t233.length : Int) := dt
          obtain ⟨ad240, e240, hx240_0⟩ := Kd.at_string (Kd.R_reads' HO235.out).2.2 2 p240 q240
          obtain rfl : ad236 = ad240 := (by injection e240)
          (try simp only [show (2 : Int).toNat = 2 from rfl, Nat.reduceMul, Nat.reduceEqDiff, Go.Addr.add, ↓reduceIte] at hx240_0)
          have qi240 : (2 < t233.length) = True := eq_true (by omega)
          (try rw [show ((2 : Int)).toNat = 2 from rfl] at hx240_0)
          replace p240 := eq_true p240
          replace q240 := eq_true q240
          refine start_ (n := 10) (S := fun w' => w'.cell? ⟨ad236.block, ad236.off + 1, none⟩ = some (.string (rdOf ByteArray.empty t233 1)) ∧ w'.cell? ⟨ad236.block, ad236.off + 2, none⟩ = some (.string (rdOf ByteArray.empty t233 2))) (ds := []) #[false, false, false, false, false, false, false, false, false, false] (by kernel_rfl) rfl rfl ⟨hx239_0, hx240_0⟩ (fun hHeld => ?_); refine with_tabW impl_readFrame.tab9 impl_readFrame.bits9 (fun HT_ HW_ => ?_)
          generalize w25.drew = w26 at HO235 BK226 HB hx239_0 hx240_0 hHeld ⊢
          refine pu (i := 0) (N := some 54) (l' := #[true, false, false, false, false, false, false, false, false, false]) HT_ ?_
          refine pu (i := 1) (N := some 55) (l' := #[true, true, false, false, false, false, false, false, false, false]) HT_ ?_
          refine pu (i := 2) (N := some 56) (l' := #[true, true, true, false, false, false, false, false, false, false]) HT_ ?_
          refine pu (i := 4) (N := some 58) (l' := #[true, true, true, false, true, false, false, false, false, false]) HT_ ?_
          refine pu (i := 5) (N := some 59) (l' := #[true, true, true, false, true, true, false, false, false, false]) HT_ ?_
          refine take_ (i := 3) (N := some 57) (v := ?_) (a' := ?_) #[true, true, true, true, true, true, false, false, false, false] rfl rfl (take_ofW HT_.out HW_.out (by kernel_rfl)) (fun _ _ _ h => h) (Or.inl ⟨by rfl, ?_⟩) hHeld ?_ ?_
          rotate_left
          ·rintro w' ⟨s0, s1⟩
           go_simp
           with_reducible rfl
          rotate_left
          ·simp only [Act.put, List.setIfInBounds_toArray, List.set_cons_zero, List.set_cons_succ, i64_w, i32_w]
           rfl
          refine take_ (i := 6) (N := some 60) (v := ?_) (a' := ?_) #[true, true, true, true, true, true, true, false, false, false] rfl rfl (take_ofW HT_.out HW_.out (by kernel_rfl)) (fun _ _ _ h => h) (Or.inl ⟨by rfl, ?_⟩) hHeld ?_ ?_
          rotate_left
          ·rintro w' ⟨s0, s1⟩
           go_simp
           with_reducible rfl
          rotate_left
          ·simp only [Act.put, List.setIfInBounds_toArray, List.set_cons_zero, List.set_cons_succ, i64_w, i32_w]
           rfl
          refine pu (i := 7) (N := some 61) (l' := #[true, true, true, true, true, true, true, true, false, false]) HT_ ?_
          refine one_ (i := 8) (N := some 12) #[true, true, true, true, true, true, true, true, true, false] rfl rfl (one_of HT_.out (by kernel_rfl)) (by decide) (fun K hK => ?_)
          refine box_step ?hg (N := 12) ?hd (cs := #[.int .i64 0, .string (⟨#[]⟩ : ByteArray), .string (⟨#[]⟩ : ByteArray)]) (t := 39) ?hr ?_; (case hd => rfl); (case hg => rfl); (case hr => exact zq1)
          intro gb241 hg w27 hbox hb
          have HS0_ := (hb.cell (World.block_lt_of_cell? _ _ (hHeld.1))).trans (hHeld.1)
          have HS1_ := (hb.cell (World.block_lt_of_cell? _ _ (hHeld.2))).trans (hHeld.2)
          replace HO235 := Aside0.mk (Kd.R_below zq70 hb)
          have BK241 := Aside0.mk (hbox)
          have GW241 := gsz hg
          have GE241 := gsz hg
          replace HB := bs hb
          have NB226_241 := nlt BK226 hg
          have NB241_226 := ngt BK226 hg
          replace BK226 := kb BK226 hb
          clear hb hbox hg
          refine hK.out _ _ ⟨HS0_, HS1_⟩ (fun hHeld => ?_)
          clear hK K
          refine norm_ (a' := ?_) ?_ ?_
          rotate_left
          ·show Act.put _ (some 12) _ = _
           simp only [Act.put, List.setIfInBounds_toArray, List.set_cons_zero, List.set_cons_succ, i64_w, i32_w]
           rfl
          refine one_ (i := 9) (N := none) #[true, true, true, true, true, true, true, true, true, true] rfl rfl (one_of HT_.out (by kernel_rfl)) (by decide) (fun K hK => ?_)
          have hs28 := cz BK241 0 rfl
          have hfs28 := blk_frozen BK241.out 0
          have hns28_0 := NB226_241.out
          have hms28_0 := NB241_226.out
          have hs29 := cz BK241 1 rfl
          have hfs29 := blk_frozen BK241.out 1
          have hns29_0 := NB226_241.out
          have hms29_0 := NB241_226.out
          have hs30 := cz BK241 2 rfl
          have hfs30 := blk_frozen BK241.out 2
          have hns30_0 := NB226_241.out
          have hms30_0 := NB241_226.out
          refine skip_ (w1 := ?_) (by rfl) rfl ?_ ?_
          rotate_left
          ·go_simp
           rfl
          refine hK.out _ _ ⟨((cell_far (p := ⟨gb241, _, none⟩) zq21 _).trans (((cell_far (p := ⟨gb241, _, none⟩) zq21 _).trans (((cell_far (p := ⟨gb241, _, none⟩) zq21 _).trans (hHeld.1)))))), ((cell_far (p := ⟨gb241, _, none⟩) zq21 _).trans (((cell_far (p := ⟨gb241, _, none⟩) zq21 _).trans (((cell_far (p := ⟨gb241, _, none⟩) zq21 _).trans (hHeld.2))))))⟩ (fun hHeld => ?_)
          clear hK K
          refine done_ (done_of HT_.out (by kernel_rfl)) ?_
          have hnb31 := NB241_226.out
          have hnc31 := NB226_241.out
          have hcz32_0 := cz BK241 0 rfl
          have hcz32_1 := cz BK241 1 rfl
          have hcz32_2 := cz BK241 2 rfl
          have hfz32_0 := blk_frozen BK241.out 0
          have hfz32_1 := blk_frozen BK241.out 1
          have hfz32_2 := blk_frozen BK241.out 2
          go_upto_region 11 with (first | ((with_reducible refine gate_callee (f := 23) rfl ?_); refine goq (some 63) Tryd.func23 #[.agg #[.int .i64 t237, .string (rdOf ByteArray.empty t233 1), .string (rdOf ByteArray.empty t233 2)]] ?_; (with_reducible refine (impl_FrameOf.calls kj3 t237 (rdOf ByteArray.empty t233 1) (rdOf ByteArray.empty t233 2) t242 _ ?side1 A21.out).mono ?_); (case side1 => exact (GF.below HG.out bl)); rintro e w33 ⟨rfl, hb⟩; refine ⟨_, rfl, ?_⟩; replace HO235 := Aside0.mk (Kd.R_below (by (with_reducible repeat (first | apply Kd.R_alloc | apply Kd.R_drewN | apply Kd.R_drew)); exact (Kd.R_mono (Kd.R_far (p := ⟨gb241, 2, none⟩) (Kd.R_far (p := ⟨gb241, 1, none⟩) (Kd.R_far (p := ⟨gb241, 0, none⟩) (Kd.R_types HO235.out BK241.out (by decide)) (fun _ hk => hk.2) (.int .i64 t237)) (fun _ hk => hk.2) (.string (rdOf ByteArray.empty t233 1))) (fun _ hk => hk.2) (.string (rdOf ByteArray.empty t233 2))) (fun _ h_ => h_.1))) hb); replace BK226 := Aside0.mk (blk_below (g := gb226) (o := .cells #[.int .i64 0, .string (⟨#[]⟩ : ByteArray), .string (⟨#[]⟩ : ByteArray)] 39 (0, 0)) zq24 hb); replace BK241 := Aside0.mk (blk_below (g := gb241) (o := .cells #[.int .i64 t237, .string (rdOf ByteArray.empty t233 1), .string (rdOf ByteArray.empty t233 2)] 39 (0, 0)) zq71 hb); replace HB := bs hb; (try clear hb)))
          (try simp only [Act.put, List.setIfInBounds_toArray, List.set_cons_zero, List.set_cons_succ])
          go_cut [75] (fun v75 wc => ∃ (kq : Nat) (x75_21 : Bool), v75 = .bool x75_21 ∧ Aside0 (impl_readFrame.j1 kq t242 x75_21 t237 (rdOf ByteArray.empty t233 1) (rdOf ByteArray.empty t233 2) = some (r1, r2, r3, r4)) ∧ Aside0 (kq ≤ kj3) ∧ Aside0 (wc.heap[gb226]? = some (.cells #[.int .i64 0, .string (⟨#[]⟩ : ByteArray), .string (⟨#[]⟩ : ByteArray)] 39 (0, 0))) ∧ Aside0 (wc.heap[gb241]? = some (.cells #[.int .i64 t237, .string (rdOf ByteArray.empty t233 1), .string (rdOf ByteArray.empty t233 2)] 39 (0, 0))) ∧ Aside0 (Below w.heap.size w wc))
          case first =>
           have H := HC22.out
           clear HC22
           by_cases c34 : t238 = true
           ·subst c34
            rw [if_pos rfl] at H
            by_cases c35 : t242.toList = ([] : List UInt8)
            ·rw [if_pos c35] at H
             have c35b0 : (t242.toList == ([] : List UInt8)) = true := beq_iff_eq.mpr c35
             have c35b1 : (t242.toList != ([] : List UInt8)) = false := bne_eq_false_iff_eq.mpr c35
             clear c35
             (first | rw [c35b0] | (simp only [i64_w, i32_w]; rw [c35b0]) | skip)
             have H' := Aside0.mk H
             clear H
             go_wp2
             go_meet
             case rel => exact ⟨_, (true), sd, H', ⟨zq42⟩, ⟨zq0⟩, ⟨zq0⟩, ⟨bl⟩⟩
            ·rw [if_neg c35] at H
             have c35b0 : (t242.toList == ([] : List UInt8)) = false := beq_eq_false_iff_ne.mpr c35
             have c35b1 : (t242.toList != ([] : List UInt8)) = true := bne_iff_ne.mpr c35
             (first | rw [c35b0] | (simp only [i64_w, i32_w]; rw [c35b0]) | skip)
             replace H := Option.bind_eq_some_iff.mp H
             obtain ⟨t243, A360, H⟩ := H
             have A36 := Aside0.mk A360
             clear A360
             have H' := Aside0.mk H
             clear H
             go_wp2_with (first | (go_at_call 89; (with_reducible refine (strings_HasPrefix.calls a0 t242 t243 _ A36.out).mono ?_); rintro e w' ⟨rfl, ⟨nd, rfl⟩⟩))
             go_meet
             case rel => exact ⟨_, (!t243), sd, H', ⟨zq42⟩, ⟨zq0⟩, ⟨zq0⟩, ⟨bl⟩⟩
           ·replace c34 := Bool.eq_false_iff.mpr c34
            subst c34
            rw [if_neg (show ¬ (false = true) by decide)] at H
            have H' := Aside0.mk H
            clear H
            go_wp2
            go_meet
            case rel => exact ⟨_, (true), sd, H', ⟨zq42⟩, ⟨zq0⟩, ⟨zq0⟩, ⟨bl⟩⟩
          case rest =>
           clear HC22
           try clear c1; try clear c2; try clear p2; try clear q2; try clear hx2; try clear qi2; try clear c3; try clear c6; try clear c8; try clear c9; try clear c11; try clear c13; try clear c13b0; try clear c13b1; try clear c14; try clear c14b0; try clear c14b1; try clear c16; try clear c16b0; try clear c16b1; try clear c17; try clear c17b0; try clear c17b1; try clear c19; try clear c19b0; try clear c19b1; try clear c20; try clear c20b0; try clear c20b1; try clear c23; try clear p23; try clear q23; try clear hx23; try clear qi23; try clear p24; try clear q24; try clear hx24; try clear qi24; try clear c31; try clear c34; try clear c35; try clear c35b0; try clear c35b1; try clear hcz12_0; try clear hcz12_1; try clear hcz12_2; try clear hcz32_0; try clear hcz32_1; try clear hcz32_2; try clear hfz12_0; try clear hfz12_1; try clear hfz12_2; try clear hfz32_0; try clear hfz32_1; try clear hfz32_2; try clear hx236_0; try clear hx239_0; try clear hx240_0; try clear p236; try clear p239; try clear p240; try clear q236; try clear q239; try clear q240
           obtain ⟨kq, x75_21, rfl, HA, HJ21, BK226, BK241, HB⟩ := hcut
           cases kq with
           | zero => exact absurd HA.out (by simp [impl_readFrame.j1])
           | succ kj21 =>
            have H := HA.out
            clear HA
            simp only [impl_readFrame.j1] at H
            by_cases c37 : x75_21 = true
            ·subst c37
             rw [if_pos rfl] at H
             simp only [Option.some.injEq, Prod.mk.injEq] at H
             obtain ⟨rfl, rfl, rfl, rfl⟩ := H
             have hnb38 := NB226_241.out
             have hnc38 := NB241_226.out
             have hcz39_0 := cz BK226 0 rfl
             have hcz39_1 := cz BK226 1 rfl
             have hcz39_2 := cz BK226 2 rfl
             have hfz39_0 := blk_frozen BK226.out 0
             have hfz39_1 := blk_frozen BK226.out 1
             have hfz39_2 := blk_frozen BK226.out 2
             go_wp2
             refine bodyPost_ret (results_ct rfl _ _ gb226 39 #[.int .i64 0, .string (⟨#[]⟩ : ByteArray), .string (⟨#[]⟩ : ByteArray)] (0, 0) _ rfl zq18 Tryd.underlying39 rfl (by kernel_rfl)) rfl ?_
             exact ⟨er, bl⟩
            ·replace c37 := Bool.eq_false_iff.mpr c37
             subst c37
             rw [if_neg (show ¬ (false = true) by decide)] at H
             simp only [Option.some.injEq, Prod.mk.injEq] at H
             obtain ⟨rfl, rfl, rfl, rfl⟩ := H
             have hnb40 := NB241_226.out
             have hnc40 := NB226_241.out
             have hcz41_0 := cz BK241 0 rfl
             have hcz41_1 := cz BK241 1 rfl
             have hcz41_2 := cz BK241 2 rfl
             have hfz41_0 := blk_frozen BK241.out 0
             have hfz41_1 := blk_frozen BK241.out 1
             have hfz41_2 := blk_frozen BK241.out 2
             have hcz42_0 := cz BK226 0 rfl
             have hcz42_1 := cz BK226 1 rfl
             have hcz42_2 := cz BK226 2 rfl
             have hfz42_0 := blk_frozen BK226.out 0
             have hfz42_1 := blk_frozen BK226.out 1
             have hfz42_2 := blk_frozen BK226.out 2
             go_wp2
             refine bodyPost_ret (results_ct rfl _ _ gb226 39 #[.int .i64 t237, .string (rdOf ByteArray.empty t233 1), .string (rdOf ByteArray.empty t233 2)] (0, 0) _ rfl zq71 Tryd.underlying39 rfl (by kernel_rfl)) rfl ?_
             exact ⟨er, bl⟩
         ·rw [if_neg c20] at H
          exact absurd H (by simp)
        ·rw [if_neg c19] at H
         exact absurd H (by simp)
       ·rw [if_neg c17] at H
        exact absurd H (by simp)
      ·rw [if_neg c16] at H
       have c16b0 : ((t233.length : Int) == 3) = false := beq_eq_false_iff_ne.mpr c16
       have c16b1 : ((t233.length : Int) != 3) = true := bne_iff_ne.mpr c16
       simp only [Option.some.injEq, Prod.mk.injEq] at H
       obtain ⟨rfl, rfl, rfl, rfl⟩ := H
       go_wp2_with (first | ((with_reducible refine gate_callee (f := 88) rfl ?_); refine goq (some 42) Tryd.func88 #[.string (t228.extract 0 (t230 : Int).toNat), .string (⟨#[32]⟩ : ByteArray), .int .i64 3] ?_; (with_reducible refine (strings_SplitN.calls (t228.extract 0 (t230 : Int).toNat) (⟨#[32]⟩ : ByteArray) 3 t233 _ ?side1 A15.out).mono ?_); (case side1 => exact (GF.below HG.out bl)); rintro e w43 ⟨v234, rfl, ho0, hb⟩; refine ⟨_, rfl, ?_⟩; have HO235 := Aside0.mk (Kd.R_lower ho0 (below_size bl)); replace BK226 := kb BK226 hb; replace HB := bs hb; (try clear hb); (try clear ho0); obtain ⟨Ao44, co44, eo44⟩ := Kd.R_slice HO235.out; subst eo44; have hcz45_0 := cz BK226 0 rfl; have hcz45_1 := cz BK226 1 rfl; have hcz45_2 := cz BK226 2 rfl; have hfz45_0 := blk_frozen BK226.out 0; have hfz45_1 := blk_frozen BK226.out 1; have hfz45_2 := blk_frozen BK226.out 2))
       refine bodyPost_ret (results_ct rfl _ _ gb226 39 #[.int .i64 0, .string (⟨#[]⟩ : ByteArray), .string (⟨#[]⟩ : ByteArray)] (0, 0) _ rfl zq18 Tryd.underlying39 rfl (by kernel_rfl)) rfl ?_
       exact ⟨er, bl⟩
     ·rw [if_neg c14] at H
      exact absurd H (by simp)
    ·rw [if_neg c13] at H
     exact absurd H (by simp)

end Go.Proofs.YtajbomiaoncgiaaDoor.QPL
