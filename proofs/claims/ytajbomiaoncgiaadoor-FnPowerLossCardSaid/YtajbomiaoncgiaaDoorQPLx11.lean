-- Written by a program of this place (wip/tools/prn.py) out of the translation, for this claim. Lean checks it.
import Derived.Test.YtajbomiaoncgiaaDoorQPLz
import Derived.Test.YtajbomiaoncgiaaDoorQPLx9
import Derived.Test.YtajbomiaoncgiaaDoorQPLx10
namespace Go.Proofs.YtajbomiaoncgiaaDoor.QPL
open Go.RowKit Go.Proofs.YtajbomiaoncgiaaDoorQ Go.Proofs.YtajbomiaoncgiaaDoorW.PrintWords Go.Proofs.YtajbomiaoncgiaaDoorW.PrintLast Go.Proofs.YtajbomiaoncgiaaDoorW.PrintMore
attribute [local go_sem] max2_int min2_int max_two min_two max_three min_three max_four min_four   -- for this text's walks alone
set_option linter.unusedVariables false
set_option linter.unusedSimpArgs false

/-! ### spec_l27Body: function 110 -/
mutual
def spec_l27Body.j1 : Nat → ByteArray → Int → Option (Int × ByteArray × ByteArray × Bool)
 | 0, _, _ => none
 | k + 1, x0, x4 => spec_l27Body.l1 k x0 x4 (wrap64 (x4 + 1))
def spec_l27Body.j3 : Nat → ByteArray → Int → Int → Option (Int × ByteArray × ByteArray × Bool)
 | 0, _, _, _ => none
 | k + 1, x0, x4, x5 => if x5 ≥ (x0.size : Int) then (some (0, (⟨#[]⟩ : ByteArray), (⟨#[]⟩ : ByteArray), false)) else (if 0 ≤ x4 then (if x4 ≤ (x0.size : Int) then ((spec_l01Number.f k (x0.extract 0 (x4 : Int).toNat)).bind fun bt275 => (if 0 ≤ (wrap64 (x4 + 1)) then (if (wrap64 (x4 + 1)) ≤ x5 then (if x5 ≤ (x0.size : Int) then (if 0 ≤ (wrap64 (x5 + 1)) then (if (wrap64 (x5 + 1)) ≤ (x0.size : Int) then (if bt275.2 = true then ((spec_l27One.f k [(⟨bt275.1, x0.extract ((wrap64 (x4 + 1)) : Int).toNat (x5 : Int).toNat, x0.extract ((wrap64 (x5 + 1)) : Int).toNat x0.size⟩ : S39)]).bind fun t278 => (if t278 = true then (some (bt275.1, x0.extract ((wrap64 (x4 + 1)) : Int).toNat (x5 : Int).toNat, x0.extract ((wrap64 (x5 + 1)) : Int).toNat x0.size, true)) else (some (0, (⟨#[]⟩ : ByteArray), (⟨#[]⟩ : ByteArray), false)))) else (some (0, (⟨#[]⟩ : ByteArray), (⟨#[]⟩ : ByteArray), false))) else (none)) else (none)) else (none)) else (none)) else (none))) else (none)) else (none))
def spec_l27Body.l1 : Nat → ByteArray → Int → Int → Option (Int × ByteArray × ByteArray × Bool)
 | 0, _, _, _ => none
 | k + 1, x0, x4, x5 => if x5 < (x0.size : Int) then (if 0 ≤ x5 then (if (bt x0 x5) = 32 then (spec_l27Body.j3 k x0 x4 x5) else (spec_l27Body.l1 k x0 x4 (wrap64 (x5 + 1)))) else (none)) else (spec_l27Body.j3 k x0 x4 x5)
def spec_l27Body.l0 : Nat → ByteArray → Int → Option (Int × ByteArray × ByteArray × Bool)
 | 0, _, _ => none
 | k + 1, x0, x4 => if x4 < (x0.size : Int) then (if 0 ≤ x4 then (if (bt x0 x4) = 32 then (spec_l27Body.j1 k x0 x4) else (spec_l27Body.l0 k x0 (wrap64 (x4 + 1)))) else (none)) else (spec_l27Body.j1 k x0 x4)
end
def spec_l27Body.f (k : Nat) (a0 : ByteArray) : Option (Int × ByteArray × ByteArray × Bool) := spec_l27Body.l0 k a0 0
def spec_l27Body.T10 : Bool × List (List Nat × List Nat) := (true, [([], []), ([], []), ([], []), ([2], [2]), ([], []), ([1, 3, 4], [1, 3, 4]), ([], []), ([], []), ([7], [7]), ([6, 8], [6, 8]), ([0, 5, 9], [0, 5, 9]), ([], []), ([11, 10, 0, 1, 2, 3, 4, 5, 6, 7, 8, 9, 10, 11], [10, 11])])
def spec_l27Body.B10 : List Nat := [0, 0, 0, 4, 0, 30, 0, 0, 128, 448, 1023, 0, 4095]
theorem spec_l27Body.tab10 : rtab .any (opsOf Tryd.f110 10) = spec_l27Body.T10 := by kernel_rfl
theorem spec_l27Body.bits10 : waitsOk spec_l27Body.T10.2 spec_l27Body.B10 = true := by kernel_rfl
set_option maxHeartbeats 8000000 in
set_option maxRecDepth 100000 in
theorem spec_l27Body.calls (k : Nat) (a0 : ByteArray) (r1 : Int) (r2 : ByteArray) (r3 : ByteArray) (r4 : Bool) (w : World) (h : spec_l27Body.f k a0 = some (r1, r2, r3, r4)) :
  Calls Tryd.prog 110 #[.string a0] w fun e w' => e = .returned (.tuple #[.agg #[.int .i64 r1, .string r2, .string r3], .bool r4]) ∧ Below w.heap.size w w' := by
 have hu39 := Tryd.underlying39
 have HB := Aside0.mk (Below.refl w.heap.size w)
 have H : (spec_l27Body.l0 k a0 0) = some (r1, r2, r3, r4) := h
 clear h
 have HC2 := Aside0.mk H
 clear H
 go_enter Tryd.func110, Tryd.ntmps110
 go_upto_block 0 with (first | ((with_reducible refine gate_dst (N := 2) rfl ?_); refine box_event ?hg (N := 2) ?hd (cs := #[.int .i64 0, .string (⟨#[]⟩ : ByteArray), .string (⟨#[]⟩ : ByteArray)]) (t := 39) ?hr ?_; (case hd => rfl); (case hg => rfl); (case hr => exact zq1); intro gb274 hg w3 hbox hb; have BK274 := Aside0.mk (hbox); have GW274 := gsz hg; have GE274 := gsz hg; replace HB := bs hb; clear hb hbox hg))
 (try simp only [Act.put, List.setIfInBounds_toArray, List.set_cons_zero, List.set_cons_succ])
 go_cut [4] (fun v4 wc => ∃ (kq : Nat) (x4_1 : Int), v4 = .int .i64 x4_1 ∧ Aside0 (spec_l27Body.j1 kq a0 x4_1 = some (r1, r2, r3, r4)) ∧ Aside0 (kq ≤ k) ∧ Aside0 (wc.heap[gb274]? = some (.cells #[.int .i64 0, .string (⟨#[]⟩ : ByteArray), .string (⟨#[]⟩ : ByteArray)] 39 (0, 0))) ∧ Aside0 (Below w.heap.size w wc))
 case first =>
  have H := HC2.out
  clear HC2
  have H' := Aside0.mk H
  clear H
  go_wp2
  go_loopg [4] k (fun kq v4 w' => ∃ (x4_1 : Int), v4 = .int .i64 x4_1 ∧ Aside0 (spec_l27Body.l0 kq a0 x4_1 = some (r1, r2, r3, r4)) ∧ Aside0 (kq ≤ k) ∧ Aside0 (w'.heap[gb274]? = some (.cells #[.int .i64 0, .string (⟨#[]⟩ : ByteArray), .string (⟨#[]⟩ : ByteArray)] 39 (0, 0))) ∧ Aside0 (Below w.heap.size w w'))
  case atStart => exact ⟨(0), sd, H', ⟨Nat.le_refl _⟩, ⟨zq0⟩, ⟨bl⟩⟩
  case round =>
   clear H'
   try clear c1; try clear p2
   obtain ⟨x4_1, rfl, HA, HK1, BK274, HB⟩ := hrel
   cases gk with
   | zero => exact absurd HA.out (by simp [spec_l27Body.l0])
   | succ k1 =>
    have H := HA.out
    clear HA
    simp only [spec_l27Body.l0] at H
    by_cases c4 : x4_1 < (a0.size : Int)
    ·rw [if_pos c4] at H
     have c4b0 : decide (x4_1 < (a0.size : Int)) = true := decide_eq_true c4
     clear c4
     (first | rw [c4b0] | (simp only [i64_w, i32_w]; rw [c4b0]) | skip)
     by_cases c5 : 0 ≤ x4_1
     ·rw [if_pos c5] at H
      have c5b0 : decide (0 ≤ x4_1) = true := decide_eq_true c5
      clear c5
      by_cases c7 : (bt a0 x4_1) = 32
      ·rw [if_pos c7] at H
       have c7b0 : ((bt a0 x4_1) == 32) = true := beq_iff_eq.mpr c7
       have c7b1 : ((bt a0 x4_1) != 32) = false := bne_eq_false_iff_eq.mpr c7
       clear c7
       have H' := Aside0.mk H
       clear H
       have p6 : 0 ≤ (x4_1 : Int) := dt
       have q6 : x4_1 < (a0.size : Int) := dt
       have hx6 := bt_at a0 x4_1
       replace p6 := eq_true p6
       replace q6 := eq_true q6
       go_wp2
       go_meet
       case rel => exact ⟨_, (x4_1), sd, H', ⟨zq22⟩, ⟨zq0⟩, ⟨bl⟩⟩
      ·rw [if_neg c7] at H
       have c7b0 : ((bt a0 x4_1) == 32) = false := beq_eq_false_iff_ne.mpr c7
       have c7b1 : ((bt a0 x4_1) != 32) = true := bne_iff_ne.mpr c7
       have H' := Aside0.mk H
       clear H
       have p6 : 0 ≤ (x4_1 : Int) := dt
       have q6 : x4_1 < (a0.size : Int) := dt
       have hx6 := bt_at a0 x4_1
       replace p6 := eq_true p6
       replace q6 := eq_true q6
       go_wp2
       go_roundg k1
       case measure => have := HK1.out; omega
       case rel => exact ⟨(wrap64 (x4_1 + 1)), sd, H', ⟨zq11⟩, ⟨zq0⟩, ⟨bl⟩⟩
     ·rw [if_neg c5] at H
      exact absurd H (by simp)
    ·rw [if_neg c4] at H
     have c4b0 : decide (x4_1 < (a0.size : Int)) = false := decide_eq_false c4
     clear c4
     (first | rw [c4b0] | (simp only [i64_w, i32_w]; rw [c4b0]) | skip)
     have H' := Aside0.mk H
     clear H
     go_wp2
     go_meet
     case rel => exact ⟨_, (x4_1), sd, H', ⟨zq22⟩, ⟨zq0⟩, ⟨bl⟩⟩
 case rest =>
  clear HC2
  try clear c1; try clear p2; try clear c4; try clear c4b0; try clear c5; try clear c5b0; try clear p6; try clear q6; try clear hx6; try clear c7; try clear c7b0; try clear c7b1
  obtain ⟨kq, x4_1, rfl, HA, HJ1, BK274, HB⟩ := hcut
  cases kq with
  | zero => exact absurd HA.out (by simp [spec_l27Body.j1])
  | succ kj1 =>
   have H := HA.out
   clear HA
   simp only [spec_l27Body.j1] at H
   have HC8 := Aside0.mk H
   clear H
   go_upto_block 2 with (fail)
   go_cut [5] (fun v5 wc => ∃ (kq : Nat) (x5_7 : Int), v5 = .int .i64 x5_7 ∧ Aside0 (spec_l27Body.j3 kq a0 x4_1 x5_7 = some (r1, r2, r3, r4)) ∧ Aside0 (kq ≤ kj1) ∧ Aside0 (wc.heap[gb274]? = some (.cells #[.int .i64 0, .string (⟨#[]⟩ : ByteArray), .string (⟨#[]⟩ : ByteArray)] 39 (0, 0))) ∧ Aside0 (Below w.heap.size w wc))
   case first =>
    have H := HC8.out
    clear HC8
    have H' := Aside0.mk H
    clear H
    go_wp2
    go_loopg [5] kj1 (fun kq v5 w' => ∃ (x5_2 : Int), v5 = .int .i64 x5_2 ∧ Aside0 (spec_l27Body.l1 kq a0 x4_1 x5_2 = some (r1, r2, r3, r4)) ∧ Aside0 (kq ≤ kj1) ∧ Aside0 (w'.heap[gb274]? = some (.cells #[.int .i64 0, .string (⟨#[]⟩ : ByteArray), .string (⟨#[]⟩ : ByteArray)] 39 (0, 0))) ∧ Aside0 (Below w.heap.size w w'))
    case atStart => exact ⟨(wrap64 (x4_1 + 1)), sd, H', ⟨Nat.le_refl _⟩, ⟨zq0⟩, ⟨bl⟩⟩
    case round =>
     clear H'
     try clear c1; try clear p2; try clear c4; try clear c4b0; try clear c5; try clear c5b0; try clear p6; try clear q6; try clear hx6; try clear c7; try clear c7b0; try clear c7b1
     obtain ⟨x5_2, rfl, HA, HK2, BK274, HB⟩ := hrel
     cases gk with
     | zero => exact absurd HA.out (by simp [spec_l27Body.l1])
     | succ k2 =>
      have H := HA.out
      clear HA
      simp only [spec_l27Body.l1] at H
      by_cases c9 : x5_2 < (a0.size : Int)
      ·rw [if_pos c9] at H
       have c9b0 : decide (x5_2 < (a0.size : Int)) = true := decide_eq_true c9
       clear c9
       (first | rw [c9b0] | (simp only [i64_w, i32_w]; rw [c9b0]) | skip)
       by_cases c10 : 0 ≤ x5_2
       ·rw [if_pos c10] at H
        have c10b0 : decide (0 ≤ x5_2) = true := decide_eq_true c10
        clear c10
        by_cases c12 : (bt a0 x5_2) = 32
        ·rw [if_pos c12] at H
         have c12b0 : ((bt a0 x5_2) == 32) = true := beq_iff_eq.mpr c12
         have c12b1 : ((bt a0 x5_2) != 32) = false := bne_eq_false_iff_eq.mpr c12
         clear c12
         have H' := Aside0.mk H
         clear H
         have p11 : 0 ≤ (x5_2 : Int) := dt
         have q11 : x5_2 < (a0.size : Int) := dt
         have hx11 := bt_at a0 x5_2
         replace p11 := eq_true p11
         replace q11 := eq_true q11
         go_wp2
         go_meet
         case rel => exact ⟨_, (x5_2), sd, H', ⟨by have := HJ1.out; have := HK2.out; first | omega | exact Nat.le_refl _⟩, ⟨zq0⟩, ⟨bl⟩⟩
        ·rw [if_neg c12] at H
         have c12b0 : ((bt a0 x5_2) == 32) = false := beq_eq_false_iff_ne.mpr c12
         have c12b1 : ((bt a0 x5_2) != 32) = true := bne_iff_ne.mpr c12
         have H' := Aside0.mk H
         clear H
         have p11 : 0 ≤ (x5_2 : Int) := dt
         have q11 : x5_2 < (a0.size : Int) := dt
         have hx11 := bt_at a0 x5_2
         replace p11 := eq_true p11
         replace q11 := eq_true q11
         go_wp2
         go_roundg k2
         case measure => have := HJ1.out; have := HK2.out; omega
         case rel => exact ⟨(wrap64 (x5_2 + 1)), sd, H', ⟨zq10⟩, ⟨zq0⟩, ⟨bl⟩⟩
       ·rw [if_neg c10] at H
        exact absurd H (by simp)
      ·rw [if_neg c9] at H
       have c9b0 : decide (x5_2 < (a0.size : Int)) = false := decide_eq_false c9
       clear c9
       (first | rw [c9b0] | (simp only [i64_w, i32_w]; rw [c9b0]) | skip)
       have H' := Aside0.mk H
       clear H
       go_wp2
       go_meet
       case rel => exact ⟨_, (x5_2), sd, H', ⟨by have := HJ1.out; have := HK2.out; first | omega | exact Nat.le_refl _⟩, ⟨zq0⟩, ⟨bl⟩⟩
   case rest =>
    clear HC8
    try clear c1; try clear p1; try clear q1; try clear hx1; try clear p2; try clear c4; try clear c4b0; try clear c5; try clear c5b0; try clear p6; try clear q6; try clear hx6; try clear c7; try clear c7b0; try clear c7b1; try clear c9; try clear c9b0; try clear c10; try clear c10b0; try clear c11; try clear p11; try clear q11; try clear hx11; try clear c12; try clear c12b0; try clear c12b1
    obtain ⟨kq, x5_7, rfl, HA, HJ7, BK274, HB⟩ := hcut
    cases kq with
    | zero => exact absurd HA.out (by simp [spec_l27Body.j3])
    | succ kj7 =>
     have H := HA.out
     clear HA
     simp only [spec_l27Body.j3] at H
     by_cases c13 : x5_7 ≥ (a0.size : Int)
     ·rw [if_pos c13] at H
      have c13b0 : decide ((a0.size : Int) ≤ x5_7) = true := decide_eq_true c13
      clear c13
      simp only [Option.some.injEq, Prod.mk.injEq] at H
      obtain ⟨rfl, rfl, rfl, rfl⟩ := H
      have hcz14_0 := cz BK274 0 rfl
      have hcz14_1 := cz BK274 1 rfl
      have hcz14_2 := cz BK274 2 rfl
      have hfz14_0 := blk_frozen BK274.out 0
      have hfz14_1 := blk_frozen BK274.out 1
      have hfz14_2 := blk_frozen BK274.out 2
      go_wp2
      refine bodyPost_ret (results_ct rfl _ _ gb274 39 #[.int .i64 0, .string (⟨#[]⟩ : ByteArray), .string (⟨#[]⟩ : ByteArray)] (0, 0) _ rfl zq18 Tryd.underlying39 rfl (by kernel_rfl)) rfl ?_
      exact ⟨er, bl⟩
     ·rw [if_neg c13] at H
      have c13b0 : decide ((a0.size : Int) ≤ x5_7) = false := decide_eq_false c13
      clear c13
      by_cases c15 : 0 ≤ x4_1
      ·rw [if_pos c15] at H
       have c15b0 := eq_true c15
       have c15b1 : decide (0 ≤ x4_1) = true := decide_eq_true c15
       clear c15
       by_cases c16 : x4_1 ≤ (a0.size : Int)
       ·rw [if_pos c16] at H
        have c16b0 := eq_true c16
        have c16b1 : decide (x4_1 ≤ (a0.size : Int)) = true := decide_eq_true c16
        clear c16
        replace H := Option.bind_eq_some_iff.mp H
        obtain ⟨⟨t275, t276⟩, A170, H⟩ := H
        dsimp only at H
        have A17 := Aside0.mk A170
        clear A170
        obtain ⟨ji18, hji18⟩ : ∃ j_ : Int, (wrap64 (x4_1 + 1)) = j_ := ⟨_, rfl⟩
        replace H : (if 0 ≤ (ji18) then (if (ji18) ≤ x5_7 then (if x5_7 ≤ (a0.size : Int) then (if 0 ≤ (wrap64 (x5_7 + 1)) then (if (wrap64 (x5_7 + 1)) ≤ (a0.size : Int) then (if t276 = true then ((spec_l27One.f kj7 [(⟨t275, a0.extract ((ji18) : Int).toNat (x5_7 : Int).toNat, a0.extract ((wrap64 (x5_7 + 1)) : Int).toNat a0.size⟩ : S39)]).bind fun t278 => (if t278 = true then (some (t275, a0.extract ((ji18) : Int).toNat (x5_7 : Int).toNat, a0.extract ((wrap64 (x5_7 + 1)) : Int).toNat a0.size, true)) else (some (0, (⟨#[]⟩ : ByteArray), (⟨#[]⟩ : ByteArray), false)))) else (some (0, (⟨#[]⟩ : ByteArray), (⟨#[]⟩ : ByteArray), false))) else (none)) else (none)) else (none)) else (none)) else (none)) = some (r1, r2, r3, r4) := by first | (rw [hji18] at H; exact H) | (simp only [hji18] at H ⊢; exact H)
        (try rw [hji18] at A17)
        have hji18w : (IntKind.i64.wrap (x4_1 + 1)) = ji18 := (i64_w _).trans hji18
        by_cases c19 : 0 ≤ (ji18)
        ·rw [if_pos c19] at H
         have c19b0 := eq_true c19
         have c19b1 : decide (0 ≤ (ji18)) = true := decide_eq_true c19
         clear c19
         by_cases c20 : (ji18) ≤ x5_7
         ·rw [if_pos c20] at H
          have c20b0 := eq_true c20
          have c20b1 : decide ((ji18) ≤ x5_7) = true := decide_eq_true c20
          clear c20
          by_cases c21 : x5_7 ≤ (a0.size : Int)
          ·rw [if_pos c21] at H
           have c21b0 := eq_true c21
           have c21b1 : decide (x5_7 ≤ (a0.size : Int)) = true := decide_eq_true c21
           clear c21
           obtain ⟨ji22, hji22⟩ : ∃ j_ : Int, (wrap64 (x5_7 + 1)) = j_ := ⟨_, rfl⟩
           replace H : (if 0 ≤ (ji22) then (if (ji22) ≤ (a0.size : Int) then (if t276 = true then ((spec_l27One.f kj7 [(⟨t275, a0.extract ((ji18) : Int).toNat (x5_7 : Int).toNat, a0.extract ((ji22) : Int).toNat a0.size⟩ : S39)]).bind fun t278 => (if t278 = true then (some (t275, a0.extract ((ji18) : Int).toNat (x5_7 : Int).toNat, a0.extract ((ji22) : Int).toNat a0.size, true)) else (some (0, (⟨#[]⟩ : ByteArray), (⟨#[]⟩ : ByteArray), false)))) else (some (0, (⟨#[]⟩ : ByteArray), (⟨#[]⟩ : ByteArray), false))) else (none)) else (none)) = some (r1, r2, r3, r4) := by first | (rw [hji22] at H; exact H) | (simp only [hji22] at H ⊢; exact H)
           (try rw [hji22] at A17)
           have hji22w : (IntKind.i64.wrap (x5_7 + 1)) = ji22 := (i64_w _).trans hji22
           by_cases c23 : 0 ≤ (ji22)
           ·rw [if_pos c23] at H
            have c23b0 := eq_true c23
            have c23b1 : decide (0 ≤ (ji22)) = true := decide_eq_true c23
            clear c23
            by_cases c24 : (ji22) ≤ (a0.size : Int)
            ·rw [if_pos c24] at H
             have c24b0 := eq_true c24
             have c24b1 : decide ((ji22) ≤ (a0.size : Int)) = true := decide_eq_true c24
             clear c24
             by_cases c25 : t276 = true
             ·subst c25
              rw [if_pos rfl] at H
              replace H := Option.bind_eq_some_iff.mp H
              obtain ⟨t278, A260, H⟩ := H
              have A26 := Aside0.mk A260
              clear A260
              by_cases c27 : t278 = true
              ·subst c27
               rw [if_pos rfl] at H
               simp only [Option.some.injEq, Prod.mk.injEq] at H
               obtain ⟨rfl, rfl, rfl, rfl⟩ := H
               try go_wp2_with (first | ((with_reducible refine gate_callee (f := 109) rfl ?_); refine goq (some 44) Tryd.func109 #[.string (a0.extract 0 (x4_1 : Int).toNat)] ?_; (with_reducible refine (spec_l01Number.calls kj7 (a0.extract 0 (x4_1 : Int).toNat) t275 true _ A17.out).mono ?_); rintro e w28 ⟨rfl, hb⟩; refine ⟨_, rfl, ?_⟩; replace BK274 := kb BK274 hb; replace HB := bs hb; (try clear hb)))
               replace BK274 := Aside0.mk (blk_drew BK274.out)
               replace HB := Aside0.mk (below_drew1 HB.out)
               refine start_ (n := 13) (S := fun w' => True) (ds := []) #[false, false, false, false, false, false, false, false, false, false, false, false, false] (by kernel_rfl) rfl rfl trivial (fun hHeld => ?_); refine with_tabW spec_l27Body.tab10 spec_l27Body.bits10 (fun HT_ HW_ => ?_)
               generalize w28.drew = w29 at BK274 HB hHeld ⊢
               refine pu (i := 0) (N := some 47) (l' := #[true, false, false, false, false, false, false, false, false, false, false, false, false]) HT_ ?_
               refine pu (i := 1) (N := some 48) (l' := #[true, true, false, false, false, false, false, false, false, false, false, false, false]) HT_ ?_
               refine pu (i := 2) (N := some 49) (l' := #[true, true, true, false, false, false, false, false, false, false, false, false, false]) HT_ ?_
               refine pu (i := 3) (N := some 50) (l' := #[true, true, true, true, false, false, false, false, false, false, false, false, false]) HT_ ?_
               refine pu (i := 4) (N := some 51) (l' := #[true, true, true, true, true, false, false, false, false, false, false, false, false]) HT_ ?_
               refine pu (i := 5) (N := some 52) (l' := #[true, true, true, true, true, true, false, false, false, false, false, false, false]) HT_ ?_
               refine pu (i := 6) (N := some 53) (l' := #[true, true, true, true, true, true, true, false, false, false, false, false, false]) HT_ ?_
               refine pu (i := 7) (N := some 54) (l' := #[true, true, true, true, true, true, true, true, false, false, false, false, false]) HT_ ?_
               refine pu (i := 8) (N := some 55) (l' := #[true, true, true, true, true, true, true, true, true, false, false, false, false]) HT_ ?_
               refine pu (i := 9) (N := some 56) (l' := #[true, true, true, true, true, true, true, true, true, true, false, false, false]) HT_ ?_
               refine pu (i := 10) (N := some 57) (l' := #[true, true, true, true, true, true, true, true, true, true, true, false, false]) HT_ ?_
               refine one_ (i := 11) (N := some 8) #[true, true, true, true, true, true, true, true, true, true, true, true, false] rfl rfl (one_of HT_.out (by kernel_rfl)) (by decide) (fun K hK => ?_)
               refine box_step ?hg (N := 8) ?hd (cs := #[.int .i64 0, .string (⟨#[]⟩ : ByteArray), .string (⟨#[]⟩ : ByteArray)]) (t := 39) ?hr ?_; (case hd => rfl); (case hg => rfl); (case hr => exact zq1)
               intro gb277 hg w30 hbox hb
               have BK277 := Aside0.mk (hbox)
               have GW277 := gsz hg
               have GE277 := gsz hg
               replace HB := bs hb
               have NB274_277 := nlt BK274 hg
               have NB277_274 := ngt BK274 hg
               replace BK274 := kb BK274 hb
               clear hb hbox hg
               refine hK.out _ _ trivial (fun hHeld => ?_)
               clear hK K
               refine norm_ (a' := ?_) ?_ ?_
               rotate_left
               ·show Act.put _ (some 8) _ = _
                simp only [Act.put, List.setIfInBounds_toArray, List.set_cons_zero, List.set_cons_succ, i64_w, i32_w]
                rfl
               refine one_ (i := 12) (N := none) #[true, true, true, true, true, true, true, true, true, true, true, true, true] rfl rfl (one_of HT_.out (by kernel_rfl)) (by decide) (fun K hK => ?_)
               have hs31 := cz BK277 0 rfl
               have hfs31 := blk_frozen BK277.out 0
               have hns31_0 := NB274_277.out
               have hms31_0 := NB277_274.out
               have hs32 := cz BK277 1 rfl
               have hfs32 := blk_frozen BK277.out 1
               have hns32_0 := NB274_277.out
               have hms32_0 := NB277_274.out
               have hs33 := cz BK277 2 rfl
               have hfs33 := blk_frozen BK277.out 2
               have hns33_0 := NB274_277.out
               have hms33_0 := NB277_274.out
               refine skip_ (w1 := ?_) (by rfl) rfl ?_ ?_
               rotate_left
               ·go_simp
                rfl
               refine hK.out _ _ trivial (fun hHeld => ?_)
               clear hK K
               refine done_ (done_of HT_.out (by kernel_rfl)) ?_
               try go_wp2_with (first | (go_at_call 61; (with_reducible refine (spec_l27One.calls kj7 ⟨gb277, 0, none⟩ [(⟨t275, a0.extract ((ji18) : Int).toNat (x5_7 : Int).toNat, a0.extract ((ji22) : Int).toNat a0.size⟩ : S39)] true _ ?side1 ?side2 A26.out).mono ?_); (case side1 => exact zq43); (case side2 => rfl); rintro e w' ⟨rfl, ⟨nd, rfl⟩⟩; have hnb34 := NB277_274.out; have hnc34 := NB274_277.out; have hcz35_0 := cz BK277 0 rfl; have hcz35_1 := cz BK277 1 rfl; have hcz35_2 := cz BK277 2 rfl; have hfz35_0 := blk_frozen BK277.out 0; have hfz35_1 := blk_frozen BK277.out 1; have hfz35_2 := blk_frozen BK277.out 2; have hcz36_0 := cz BK274 0 rfl; have hcz36_1 := cz BK274 1 rfl; have hcz36_2 := cz BK274 2 rfl; have hfz36_0 := blk_frozen BK274.out 0; have hfz36_1 := blk_frozen BK274.out 1; have hfz36_2 := blk_frozen BK274.out 2))
               refine bodyPost_ret (results_ct rfl _ _ gb274 39 #[.int .i64 t275, .string (a0.extract ((ji18) : Int).toNat (x5_7 : Int).toNat), .string (a0.extract ((ji22) : Int).toNat a0.size)] (0, 0) _ rfl (by (with_reducible repeat (first | refine blk_drewN ?_ _ | refine blk_drew ?_ | refine blk_alloc ?_ _)); refine blk_put (cs := #[.int .i64 t275, .string (a0.extract ((ji18) : Int).toNat (x5_7 : Int).toNat), .string (⟨#[]⟩ : ByteArray)]) ?_ 2 _ rfl; (with_reducible repeat (first | refine blk_drewN ?_ _ | refine blk_drew ?_ | refine blk_alloc ?_ _)); refine blk_put (cs := #[.int .i64 t275, .string (⟨#[]⟩ : ByteArray), .string (⟨#[]⟩ : ByteArray)]) ?_ 1 _ rfl; (with_reducible repeat (first | refine blk_drewN ?_ _ | refine blk_drew ?_ | refine blk_alloc ?_ _)); refine blk_put (cs := #[.int .i64 0, .string (⟨#[]⟩ : ByteArray), .string (⟨#[]⟩ : ByteArray)]) ?_ 0 _ rfl; (with_reducible repeat (first | refine blk_drewN ?_ _ | refine blk_drew ?_ | refine blk_alloc ?_ _)); refine blk_far ?_ NB274_277.out _; (with_reducible repeat (first | refine blk_drewN ?_ _ | refine blk_drew ?_ | refine blk_alloc ?_ _)); refine blk_far ?_ NB274_277.out _; (with_reducible repeat (first | refine blk_drewN ?_ _ | refine blk_drew ?_ | refine blk_alloc ?_ _)); refine blk_far ?_ NB274_277.out _; (with_reducible repeat (first | refine blk_drewN ?_ _ | refine blk_drew ?_ | refine blk_alloc ?_ _)); exact BK274.out) Tryd.underlying39 rfl (by kernel_rfl)) rfl ?_
               exact ⟨zq36, bl⟩
              ·replace c27 := Bool.eq_false_iff.mpr c27
               subst c27
               rw [if_neg (show ¬ (false = true) by decide)] at H
               simp only [Option.some.injEq, Prod.mk.injEq] at H
               obtain ⟨rfl, rfl, rfl, rfl⟩ := H
               try go_wp2_with (first | ((with_reducible refine gate_callee (f := 109) rfl ?_); refine goq (some 44) Tryd.func109 #[.string (a0.extract 0 (x4_1 : Int).toNat)] ?_; (with_reducible refine (spec_l01Number.calls kj7 (a0.extract 0 (x4_1 : Int).toNat) t275 true _ A17.out).mono ?_); rintro e w37 ⟨rfl, hb⟩; refine ⟨_, rfl, ?_⟩; replace BK274 := kb BK274 hb; replace HB := bs hb; (try clear hb)))
               replace BK274 := Aside0.mk (blk_drew BK274.out)
               replace HB := Aside0.mk (below_drew1 HB.out)
               refine start_ (n := 13) (S := fun w' => True) (ds := []) #[false, false, false, false, false, false, false, false, false, false, false, false, false] (by kernel_rfl) rfl rfl trivial (fun hHeld => ?_); refine with_tabW spec_l27Body.tab10 spec_l27Body.bits10 (fun HT_ HW_ => ?_)
               generalize w37.drew = w38 at BK274 HB hHeld ⊢
               refine pu (i := 0) (N := some 47) (l' := #[true, false, false, false, false, false, false, false, false, false, false, false, false]) HT_ ?_
               refine pu (i := 1) (N := some 48) (l' := #[true, true, false, false, false, false, false, false, false, false, false, false, false]) HT_ ?_
               refine pu (i := 2) (N := some 49) (l' := #[true, true, true, false, false, false, false, false, false, false, false, false, false]) HT_ ?_
               refine pu (i := 3) (N := some 50) (l' := #[true, true, true, true, false, false, false, false, false, false, false, false, false]) HT_ ?_
               refine pu (i := 4) (N := some 51) (l' := #[true, true, true, true, true, false, false, false, false, false, false, false, false]) HT_ ?_
               refine pu (i := 5) (N := some 52) (l' := #[true, true, true, true, true, true, false, false, false, false, false, false, false]) HT_ ?_
               refine pu (i := 6) (N := some 53) (l' := #[true, true, true, true, true, true, true, false, false, false, false, false, false]) HT_ ?_
               refine pu (i := 7) (N := some 54) (l' := #[true, true, true, true, true, true, true, true, false, false, false, false, false]) HT_ ?_
               refine pu (i := 8) (N := some 55) (l' := #[true, true, true, true, true, true, true, true, true, false, false, false, false]) HT_ ?_
               refine pu (i := 9) (N := some 56) (l' := #[true, true, true, true, true, true, true, true, true, true, false, false, false]) HT_ ?_
               refine pu (i := 10) (N := some 57) (l' := #[true, true, true, true, true, true, true, true, true, true, true, false, false]) HT_ ?_
               refine one_ (i := 11) (N := some 8) #[true, true, true, true, true, true, true, true, true, true, true, true, false] rfl rfl (one_of HT_.out (by kernel_rfl)) (by decide) (fun K hK => ?_)
               refine box_step ?hg (N := 8) ?hd (cs := #[.int .i64 0, .string (⟨#[]⟩ : ByteArray), .string (⟨#[]⟩ : ByteArray)]) (t := 39) ?hr ?_; (case hd => rfl); (case hg => rfl); (case hr => exact zq1)
               intro gb277 hg w39 hbox hb
               have BK277 := Aside0.mk (hbox)
               have GW277 := gsz hg
               have GE277 := gsz hg
               replace HB := bs hb
               have NB274_277 := nlt BK274 hg
               have NB277_274 := ngt BK274 hg
               replace BK274 := kb BK274 hb
               clear hb hbox hg
               refine hK.out _ _ trivial (fun hHeld => ?_)
               clear hK K
               refine norm_ (a' := ?_) ?_ ?_
               rotate_left
               ·show Act.put _ (some 8) _ = _
                simp only [Act.put, List.setIfInBounds_toArray, List.set_cons_zero, List.set_cons_succ, i64_w, i32_w]
                rfl
               refine one_ (i := 12) (N := none) #[true, true, true, true, true, true, true, true, true, true, true, true, true] rfl rfl (one_of HT_.out (by kernel_rfl)) (by decide) (fun K hK => ?_)
               have hs40 := cz BK277 0 rfl
               have hfs40 := blk_frozen BK277.out 0
               have hns40_0 := NB274_277.out
               have hms40_0 := NB277_274.out
               have hs41 := cz BK277 1 rfl
               have hfs41 := blk_frozen BK277.out 1
               have hns41_0 := NB274_277.out
               have hms41_0 := NB277_274.out
               have hs42 := cz BK277 2 rfl
               have hfs42 := blk_frozen BK277.out 2
               have hns42_0 := NB274_277.out
               have hms42_0 := NB277_274.out
               refine skip_ (w1 := ?_) (by rfl) rfl ?_ ?_
               rotate_left
               ·go_simp
                rfl
               refine hK.out _ _ trivial (fun hHeld => ?_)
               clear hK K
               refine done_ (done_of HT_.out (by kernel_rfl)) ?_
               try go_wp2_with (first | (go_at_call 61; (with_reducible refine (spec_l27One.calls kj7 ⟨gb277, 0, none⟩ [(⟨t275, a0.extract ((ji18) : Int).toNat (x5_7 : Int).toNat, a0.extract ((ji22) : Int).toNat a0.size⟩ : S39)] false _ ?side1 ?side2 A26.out).mono ?_); (case side1 => exact zq43); (case side2 => rfl); rintro e w' ⟨rfl, ⟨nd, rfl⟩⟩; have hnb43 := NB274_277.out; have hnc43 := NB277_274.out; have hcz44_0 := cz BK274 0 rfl; have hcz44_1 := cz BK274 1 rfl; have hcz44_2 := cz BK274 2 rfl; have hfz44_0 := blk_frozen BK274.out 0; have hfz44_1 := blk_frozen BK274.out 1; have hfz44_2 := blk_frozen BK274.out 2))
               refine bodyPost_ret (results_ct rfl _ _ gb274 39 #[.int .i64 0, .string (⟨#[]⟩ : ByteArray), .string (⟨#[]⟩ : ByteArray)] (0, 0) _ rfl zq37 Tryd.underlying39 rfl (by kernel_rfl)) rfl ?_
               exact ⟨zq36, bl⟩
             ·replace c25 := Bool.eq_false_iff.mpr c25
              subst c25
              rw [if_neg (show ¬ (false = true) by decide)] at H
              simp only [Option.some.injEq, Prod.mk.injEq] at H
              obtain ⟨rfl, rfl, rfl, rfl⟩ := H
              try go_wp2_with (first | ((with_reducible refine gate_callee (f := 109) rfl ?_); refine goq (some 44) Tryd.func109 #[.string (a0.extract 0 (x4_1 : Int).toNat)] ?_; (with_reducible refine (spec_l01Number.calls kj7 (a0.extract 0 (x4_1 : Int).toNat) t275 false _ A17.out).mono ?_); rintro e w45 ⟨rfl, hb⟩; refine ⟨_, rfl, ?_⟩; replace BK274 := kb BK274 hb; replace HB := bs hb; (try clear hb)))
              replace BK274 := Aside0.mk (blk_drew BK274.out)
              replace HB := Aside0.mk (below_drew1 HB.out)
              refine start_ (n := 13) (S := fun w' => True) (ds := []) #[false, false, false, false, false, false, false, false, false, false, false, false, false] (by kernel_rfl) rfl rfl trivial (fun hHeld => ?_); refine with_tabW spec_l27Body.tab10 spec_l27Body.bits10 (fun HT_ HW_ => ?_)
              generalize w45.drew = w46 at BK274 HB hHeld ⊢
              refine pu (i := 0) (N := some 47) (l' := #[true, false, false, false, false, false, false, false, false, false, false, false, false]) HT_ ?_
              refine pu (i := 1) (N := some 48) (l' := #[true, true, false, false, false, false, false, false, false, false, false, false, false]) HT_ ?_
              refine pu (i := 2) (N := some 49) (l' := #[true, true, true, false, false, false, false, false, false, false, false, false, false]) HT_ ?_
              refine pu (i := 3) (N := some 50) (l' := #[true, true, true, true, false, false, false, false, false, false, false, false, false]) HT_ ?_
              refine pu (i := 4) (N := some 51) (l' := #[true, true, true, true, true, false, false, false, false, false, false, false, false]) HT_ ?_
              refine pu (i := 5) (N := some 52) (l' := #[true, true, true, true, true, true, false, false, false, false, false, false, false]) HT_ ?_
              refine pu (i := 6) (N := some 53) (l' := #[true, true, true, true, true, true, true, false, false, false, false, false, false]) HT_ ?_
              refine pu (i := 7) (N := some 54) (l' := #[true, true, true, true, true, true, true, true, false, false, false, false, false]) HT_ ?_
              refine pu (i := 8) (N := some 55) (l' := #[true, true, true, true, true, true, true, true, true, false, false, false, false]) HT_ ?_
              refine pu (i := 9) (N := some 56) (l' := #[true, true, true, true, true, true, true, true, true, true, false, false, false]) HT_ ?_
              refine pu (i := 10) (N := some 57) (l' := #[true, true, true, true, true, true, true, true, true, true, true, false, false]) HT_ ?_
              refine one_ (i := 11) (N := some 8) #[true, true, true, true, true, true, true, true, true, true, true, true, false] rfl rfl (one_of HT_.out (by kernel_rfl)) (by decide) (fun K hK => ?_)
              refine box_step ?hg (N := 8) ?hd (cs := #[.int .i64 0, .string (⟨#[]⟩ : ByteArray), .string (⟨#[]⟩ : ByteArray)]) (t := 39) ?hr ?_; (case hd => rfl); (case hg => rfl); (case hr => exact zq1)
              intro gb277 hg w47 hbox hb
              have BK277 := Aside0.mk (hbox)
              have GW277 := gsz hg
              have GE277 := gsz hg
              replace HB := bs hb
              have NB274_277 := nlt BK274 hg
              have NB277_274 := ngt BK274 hg
              replace BK274 := kb BK274 hb
              clear hb hbox hg
              refine hK.out _ _ trivial (fun hHeld => ?_)
              clear hK K
              refine norm_ (a' := ?_) ?_ ?_
              rotate_left
              ·show Act.put _ (some 8) _ = _
               simp only [Act.put, List.setIfInBounds_toArray, List.set_cons_zero, List.set_cons_succ, i64_w, i32_w]
               rfl
              refine one_ (i := 12) (N := none) #[true, true, true, true, true, true, true, true, true, true, true, true, true] rfl rfl (one_of HT_.out (by kernel_rfl)) (by decide) (fun K hK => ?_)
              have hs48 := cz BK277 0 rfl
              have hfs48 := blk_frozen BK277.out 0
              have hns48_0 := NB274_277.out
              have hms48_0 := NB277_274.out
              have hs49 := cz BK277 1 rfl
              have hfs49 := blk_frozen BK277.out 1
              have hns49_0 := NB274_277.out
              have hms49_0 := NB277_274.out
              have hs50 := cz BK277 2 rfl
              have hfs50 := blk_frozen BK277.out 2
              have hns50_0 := NB274_277.out
              have hms50_0 := NB277_274.out
              refine skip_ (w1 := ?_) (by rfl) rfl ?_ ?_
              rotate_left
              ·go_simp
               rfl
              refine hK.out _ _ trivial (fun hHeld => ?_)
              clear hK K
              refine done_ (done_of HT_.out (by kernel_rfl)) ?_
              have hnb51 := NB274_277.out
              have hnc51 := NB277_274.out
              have hcz52_0 := cz BK274 0 rfl
              have hcz52_1 := cz BK274 1 rfl
              have hcz52_2 := cz BK274 2 rfl
              have hfz52_0 := blk_frozen BK274.out 0
              have hfz52_1 := blk_frozen BK274.out 1
              have hfz52_2 := blk_frozen BK274.out 2
              try go_wp2
              refine bodyPost_ret (results_ct rfl _ _ gb274 39 #[.int .i64 0, .string (⟨#[]⟩ : ByteArray), .string (⟨#[]⟩ : ByteArray)] (0, 0) _ rfl zq37 Tryd.underlying39 rfl (by kernel_rfl)) rfl ?_
              exact ⟨zq36, bl⟩
            ·rw [if_neg c24] at H
             exact absurd H (by simp)
           ·rw [if_neg c23] at H
            exact absurd H (by simp)
          ·rw [if_neg c21] at H
           exact absurd H (by simp)
         ·rw [if_neg c20] at H
          exact absurd H (by simp)
        ·rw [if_neg c19] at H
         exact absurd H (by simp)
       ·rw [if_neg c16] at H
        exact absurd H (by simp)
      ·rw [if_neg c15] at H
       exact absurd H (by simp)

end Go.Proofs.YtajbomiaoncgiaaDoor.QPL
