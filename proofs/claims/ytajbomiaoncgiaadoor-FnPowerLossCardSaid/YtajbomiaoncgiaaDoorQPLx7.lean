-- Written by a program of this place (wip/tools/prn.py) out of the translation, for this claim. Lean checks it.
import Derived.Test.YtajbomiaoncgiaaDoorQPLz
import Derived.Test.YtajbomiaoncgiaaDoorQPLx6
namespace Go.Proofs.YtajbomiaoncgiaaDoor.QPL
open Go.RowKit Go.Proofs.YtajbomiaoncgiaaDoorQ Go.Proofs.YtajbomiaoncgiaaDoorW.PrintWords Go.Proofs.YtajbomiaoncgiaaDoorW.PrintLast Go.Proofs.YtajbomiaoncgiaaDoorW.PrintMore
attribute [local go_sem] max2_int min2_int max_two min_two max_three min_three max_four min_four   -- for this text's walks alone
set_option linter.unusedVariables false
set_option linter.unusedSimpArgs false

/-! ### impl_ValidEntry: function 39 -/
mutual
def impl_ValidEntry.j0 : Nat → Bool → Int → ByteArray → ByteArray → Option (Bool)
 | 0, _, _, _, _ => none
 | k + 1, x19, x212000, x212001, x212002 => if x19 = true then (some false) else (impl_ValidEntry.l0 k 0 x212000 x212001 x212002)
def impl_ValidEntry.l0 : Nat → Int → Int → ByteArray → ByteArray → Option (Bool)
 | 0, _, _, _, _ => none
 | k + 1, x3, x212000, x212001, x212002 => if x3 < (x212002.size : Int) then (if 0 ≤ x3 then (if (bt x212002 x3) < 32 then (some false) else (if (bt x212002 x3) > 126 then (some false) else (impl_ValidEntry.l0 k (wrap64 (x3 + 1)) x212000 x212001 x212002))) else (none)) else (some true)
end
def impl_ValidEntry.f (k : Nat) (a0_0 : Int) (a0_1 : ByteArray) (a0_2 : ByteArray) : Option (Bool) := (impl_within.f a0_0 0 20000).bind fun t212 => (if t212 = true then ((impl_IsName.f k a0_1).bind fun t213 => (if t213 = true then (impl_ValidEntry.j0 k (decide ((a0_2.size : Int) > 60)) a0_0 a0_1 a0_2) else (impl_ValidEntry.j0 k true a0_0 a0_1 a0_2))) else (impl_ValidEntry.j0 k true a0_0 a0_1 a0_2))
set_option maxHeartbeats 8000000 in
set_option maxRecDepth 100000 in
theorem impl_ValidEntry.calls (k : Nat) (a0_0 : Int) (a0_1 : ByteArray) (a0_2 : ByteArray) (r : Bool) (w : World) (h : impl_ValidEntry.f k a0_0 a0_1 a0_2 = some r) :
  Calls Tryd.prog 39 #[.agg #[.int .i64 a0_0, .string a0_1, .string a0_2]] w fun e w' => e = .returned (.bool r) ∧ Below w.heap.size w w' := by
 have hu39 := Tryd.underlying39
 have HB := Aside0.mk (Below.refl w.heap.size w)
 have H : ((impl_within.f a0_0 0 20000).bind fun t212 => (if t212 = true then ((impl_IsName.f k a0_1).bind fun t213 => (if t213 = true then (impl_ValidEntry.j0 k (decide ((a0_2.size : Int) > 60)) a0_0 a0_1 a0_2) else (impl_ValidEntry.j0 k true a0_0 a0_1 a0_2))) else (impl_ValidEntry.j0 k true a0_0 a0_1 a0_2))) = some r := h
 clear h
 have HC2 := Aside0.mk H
 clear H
 go_enter Tryd.func39, Tryd.ntmps39
 go_upto_region 1 with (first | ((with_reducible refine gate_dst (N := 1) rfl ?_); (try (refine gate_guard (by rfl) ?_; dsimp only)); refine box_event ?hg (N := 1) ?hd (cs := #[.int .i64 a0_0, .string a0_1, .string a0_2]) (t := 39) ?hr ?_; (case hd => rfl); (case hg => rfl); (case hr => exact zq1); intro gb211 hg w3 hbox hb; have BK211 := Aside0.mk (hbox); have GW211 := gsz hg; have GE211 := gsz hg; replace HB := bs hb; clear hb hbox hg))
 (try simp only [Act.put, List.setIfInBounds_toArray, List.set_cons_zero, List.set_cons_succ])
 go_cut [19] (fun v19 wc => ∃ (kq : Nat) (x19_1 : Bool), v19 = .bool x19_1 ∧ Aside0 (impl_ValidEntry.j0 kq x19_1 a0_0 a0_1 a0_2 = some r) ∧ Aside0 (kq ≤ k) ∧ Aside0 (wc.heap[gb211]? = some (.cells #[.int .i64 a0_0, .string a0_1, .string a0_2] 39 (0, 0))) ∧ Aside0 (Below w.heap.size w wc))
 case first =>
  have H := HC2.out
  clear HC2
  replace H := Option.bind_eq_some_iff.mp H
  obtain ⟨t212, A40, H⟩ := H
  have A4 := Aside0.mk A40
  clear A40
  by_cases c5 : t212 = true
  ·subst c5
   rw [if_pos rfl] at H
   replace H := Option.bind_eq_some_iff.mp H
   obtain ⟨t213, A60, H⟩ := H
   have A6 := Aside0.mk A60
   clear A60
   by_cases c7 : t213 = true
   ·subst c7
    rw [if_pos rfl] at H
    have H' := Aside0.mk H
    clear H
    have hcz8_0 := cz BK211 0 rfl
    have hcz8_1 := cz BK211 1 rfl
    have hcz8_2 := cz BK211 2 rfl
    have hfz8_0 := blk_frozen BK211.out 0
    have hfz8_1 := blk_frozen BK211.out 1
    have hfz8_2 := blk_frozen BK211.out 2
    go_wp2_with (first | ((with_reducible refine gate_callee (f := 52) rfl ?_); refine goq (some 6) Tryd.func52 #[.int .i64 a0_0, .int .i64 0, .int .i64 20000] ?_; (with_reducible refine (impl_within.calls a0_0 0 20000 true _ A4.out).mono ?_); rintro e w' ⟨rfl, ⟨nd, rfl⟩⟩; refine ⟨_, rfl, ?_⟩) | (go_at_call 68; (with_reducible refine (impl_IsName.calls k a0_1 true _ A6.out).mono ?_); rintro e w' ⟨rfl, ⟨nd, rfl⟩⟩))
    go_meet
    case rel => exact ⟨_, (decide ((a0_2.size : Int) > 60)), sd, H', ⟨om⟩, ⟨zq0⟩, ⟨bl⟩⟩
   ·replace c7 := Bool.eq_false_iff.mpr c7
    subst c7
    rw [if_neg (show ¬ (false = true) by decide)] at H
    have H' := Aside0.mk H
    clear H
    have hcz9_0 := cz BK211 0 rfl
    have hcz9_1 := cz BK211 1 rfl
    have hcz9_2 := cz BK211 2 rfl
    have hfz9_0 := blk_frozen BK211.out 0
    have hfz9_1 := blk_frozen BK211.out 1
    have hfz9_2 := blk_frozen BK211.out 2
    go_wp2_with (first | ((with_reducible refine gate_callee (f := 52) rfl ?_); refine goq (some 6) Tryd.func52 #[.int .i64 a0_0, .int .i64 0, .int .i64 20000] ?_; (with_reducible refine (impl_within.calls a0_0 0 20000 true _ A4.out).mono ?_); rintro e w' ⟨rfl, ⟨nd, rfl⟩⟩; refine ⟨_, rfl, ?_⟩) | (go_at_call 68; (with_reducible refine (impl_IsName.calls k a0_1 false _ A6.out).mono ?_); rintro e w' ⟨rfl, ⟨nd, rfl⟩⟩))
    go_meet
    case rel => exact ⟨_, (true), sd, H', ⟨om⟩, ⟨zq0⟩, ⟨bl⟩⟩
  ·replace c5 := Bool.eq_false_iff.mpr c5
   subst c5
   rw [if_neg (show ¬ (false = true) by decide)] at H
   have H' := Aside0.mk H
   clear H
   have hcz10_0 := cz BK211 0 rfl
   have hcz10_1 := cz BK211 1 rfl
   have hcz10_2 := cz BK211 2 rfl
   have hfz10_0 := blk_frozen BK211.out 0
   have hfz10_1 := blk_frozen BK211.out 1
   have hfz10_2 := blk_frozen BK211.out 2
   go_wp2_with (first | ((with_reducible refine gate_callee (f := 52) rfl ?_); refine goq (some 6) Tryd.func52 #[.int .i64 a0_0, .int .i64 0, .int .i64 20000] ?_; (with_reducible refine (impl_within.calls a0_0 0 20000 false _ A4.out).mono ?_); rintro e w' ⟨rfl, ⟨nd, rfl⟩⟩; refine ⟨_, rfl, ?_⟩))
   go_meet
   case rel => exact ⟨_, (true), sd, H', ⟨om⟩, ⟨zq0⟩, ⟨bl⟩⟩
 case rest =>
  clear HC2
  try clear p2; try clear c3; try clear c5; try clear c7; try clear hcz10_0; try clear hcz10_1; try clear hcz10_2; try clear hcz8_0; try clear hcz8_1; try clear hcz8_2; try clear hcz9_0; try clear hcz9_1; try clear hcz9_2; try clear hfz10_0; try clear hfz10_1; try clear hfz10_2; try clear hfz8_0; try clear hfz8_1; try clear hfz8_2; try clear hfz9_0; try clear hfz9_1; try clear hfz9_2
  obtain ⟨kq, x19_1, rfl, HA, HJ1, BK211, HB⟩ := hcut
  cases kq with
  | zero => exact absurd HA.out (by simp [impl_ValidEntry.j0])
  | succ kj1 =>
   have H := HA.out
   clear HA
   simp only [impl_ValidEntry.j0] at H
   by_cases c11 : x19_1 = true
   ·subst c11
    rw [if_pos rfl] at H
    obtain rfl := Option.some.inj H
    go_wp2
    go_ret
    exact ⟨er, bl⟩
   ·replace c11 := Bool.eq_false_iff.mpr c11
    subst c11
    rw [if_neg (show ¬ (false = true) by decide)] at H
    have H' := Aside0.mk H
    clear H
    go_wp2
    go_loopg [3] kj1 (fun kq v3 w' => ∃ (x3_2 : Int), v3 = .int .i64 x3_2 ∧ Aside0 (impl_ValidEntry.l0 kq x3_2 a0_0 a0_1 a0_2 = some r) ∧ Aside0 (kq ≤ kj1) ∧ Aside0 (w'.heap[gb211]? = some (.cells #[.int .i64 a0_0, .string a0_1, .string a0_2] 39 (0, 0))) ∧ Aside0 (Below w.heap.size w w'))
    case atStart => exact ⟨(0), sd, H', ⟨Nat.le_refl _⟩, ⟨zq0⟩, ⟨bl⟩⟩
    case round =>
     clear H'
     try clear c1; try clear p2; try clear c3; try clear c5; try clear c7; try clear c11; try clear hcz10_0; try clear hcz10_1; try clear hcz10_2; try clear hcz8_0; try clear hcz8_1; try clear hcz8_2; try clear hcz9_0; try clear hcz9_1; try clear hcz9_2; try clear hfz10_0; try clear hfz10_1; try clear hfz10_2; try clear hfz8_0; try clear hfz8_1; try clear hfz8_2; try clear hfz9_0; try clear hfz9_1; try clear hfz9_2
     obtain ⟨x3_2, rfl, HA, HK2, BK211, HB⟩ := hrel
     cases gk with
     | zero => exact absurd HA.out (by simp [impl_ValidEntry.l0])
     | succ k2 =>
      have H := HA.out
      clear HA
      simp only [impl_ValidEntry.l0] at H
      by_cases c12 : x3_2 < (a0_2.size : Int)
      ·rw [if_pos c12] at H
       have c12b0 : decide (x3_2 < (a0_2.size : Int)) = true := decide_eq_true c12
       clear c12
       by_cases c13 : 0 ≤ x3_2
       ·rw [if_pos c13] at H
        have c13b0 : decide (0 ≤ x3_2) = true := decide_eq_true c13
        clear c13
        by_cases c15 : (bt a0_2 x3_2) < 32
        ·rw [if_pos c15] at H
         have c15b0 : decide ((bt a0_2 x3_2) < 32) = true := decide_eq_true c15
         clear c15
         obtain rfl := Option.some.inj H
         have hcz16_0 := cz BK211 0 rfl
         have hcz16_1 := cz BK211 1 rfl
         have hcz16_2 := cz BK211 2 rfl
         have hfz16_0 := blk_frozen BK211.out 0
         have hfz16_1 := blk_frozen BK211.out 1
         have hfz16_2 := blk_frozen BK211.out 2
         have p14 : 0 ≤ (x3_2 : Int) := dt
         have q14 : x3_2 < (a0_2.size : Int) := dt
         have hx14 := bt_at a0_2 x3_2
         replace p14 := eq_true p14
         replace q14 := eq_true q14
         go_wp2
         go_ret
         exact ⟨er, bl⟩
        ·rw [if_neg c15] at H
         have c15b0 : decide ((bt a0_2 x3_2) < 32) = false := decide_eq_false c15
         clear c15
         by_cases c18 : (bt a0_2 x3_2) > 126
         ·rw [if_pos c18] at H
          have c18b0 : decide (126 < (bt a0_2 x3_2)) = true := decide_eq_true c18
          clear c18
          obtain rfl := Option.some.inj H
          have hcz19_0 := cz BK211 0 rfl
          have hcz19_1 := cz BK211 1 rfl
          have hcz19_2 := cz BK211 2 rfl
          have hfz19_0 := blk_frozen BK211.out 0
          have hfz19_1 := blk_frozen BK211.out 1
          have hfz19_2 := blk_frozen BK211.out 2
          have p14 : 0 ≤ (x3_2 : Int) := dt
          have q14 : x3_2 < (a0_2.size : Int) := dt
          have hx14 := bt_at a0_2 x3_2
          replace p14 := eq_true p14
          replace q14 := eq_true q14
          have p17 : 0 ≤ (x3_2 : Int) := dt
          have q17 : x3_2 < (a0_2.size : Int) := dt
          have hx17 := bt_at a0_2 x3_2
          replace p17 := eq_true p17
          replace q17 := eq_true q17
          go_wp2
          go_ret
          exact ⟨er, bl⟩
         ·rw [if_neg c18] at H
          have c18b0 : decide (126 < (bt a0_2 x3_2)) = false := decide_eq_false c18
          clear c18
          have H' := Aside0.mk H
          clear H
          have hcz20_0 := cz BK211 0 rfl
          have hcz20_1 := cz BK211 1 rfl
          have hcz20_2 := cz BK211 2 rfl
          have hfz20_0 := blk_frozen BK211.out 0
          have hfz20_1 := blk_frozen BK211.out 1
          have hfz20_2 := blk_frozen BK211.out 2
          have p14 : 0 ≤ (x3_2 : Int) := dt
          have q14 : x3_2 < (a0_2.size : Int) := dt
          have hx14 := bt_at a0_2 x3_2
          replace p14 := eq_true p14
          replace q14 := eq_true q14
          have p17 : 0 ≤ (x3_2 : Int) := dt
          have q17 : x3_2 < (a0_2.size : Int) := dt
          have hx17 := bt_at a0_2 x3_2
          replace p17 := eq_true p17
          replace q17 := eq_true q17
          go_wp2
          go_roundg k2
          case measure => have := HJ1.out; have := HK2.out; omega
          case rel => exact ⟨(wrap64 (x3_2 + 1)), sd, H', ⟨zq10⟩, ⟨zq0⟩, ⟨bl⟩⟩
       ·rw [if_neg c13] at H
        exact absurd H (by simp)
      ·rw [if_neg c12] at H
       have c12b0 : decide (x3_2 < (a0_2.size : Int)) = false := decide_eq_false c12
       clear c12
       obtain rfl := Option.some.inj H
       have hcz21_0 := cz BK211 0 rfl
       have hcz21_1 := cz BK211 1 rfl
       have hcz21_2 := cz BK211 2 rfl
       have hfz21_0 := blk_frozen BK211.out 0
       have hfz21_1 := blk_frozen BK211.out 1
       have hfz21_2 := blk_frozen BK211.out 2
       go_wp2
       go_ret
       exact ⟨er, bl⟩

/-! ### impl_Decimal: function 63 -/
def impl_Decimal.f (a0 : Int) : Option (ByteArray) := if -9223372036854775808 ≤ a0 ∧ a0 ≤ 9223372036854775807 then some ⟨(Lib.itoa a0).toArray⟩ else none
set_option maxRecDepth 100000 in
theorem impl_Decimal.calls (a0 : Int) (r : ByteArray) (w : World) (hG : GF w) (h : impl_Decimal.f a0 = some r) :
  Calls Tryd.prog 63 #[.int .i64 a0] w fun e w' => e = .returned (.string r) ∧ Below w.heap.size w w' := by
 unfold impl_Decimal.f at h
 by_cases c : -9223372036854775808 ≤ a0 ∧ a0 ≤ 9223372036854775807
 ·rw [if_pos c] at h
  obtain rfl := Option.some.inj h
  obtain ⟨h0, h1⟩ := c
  have HT := Aside0.mk hG.1
  have HI := Aside0.mk h0
  have HJ := Aside0.mk h1
  clear hG h h0 h1
  go_enter Tryd.func63, Tryd.ntmps63
  go_wp2_with (go_at_call 85; refine (Tryd.strconv_FormatInt_10 a0 HI.out HJ.out _ HT.out).mono ?_; rintro e w' ⟨rfl, k, os, rfl⟩)
  go_ret
  exact ⟨rfl, grow_below _ _ _⟩
 ·rw [if_neg c] at h
  cases h


/-! ### impl_FrameOf: function 23 -/
def impl_FrameOf.f (k : Nat) (a0_0 : Int) (a0_1 : ByteArray) (a0_2 : ByteArray) : Option (ByteArray) := (impl_ValidEntry.f k a0_0 a0_1 a0_2).bind fun t215 => (if t215 = true then ((impl_Decimal.f a0_0).bind fun t216 => (if t216.size + 1 ≤ 9223372036854775807 then (if (t216 ++ (⟨#[32]⟩ : ByteArray)).size + a0_1.size ≤ 9223372036854775807 then (if ((t216 ++ (⟨#[32]⟩ : ByteArray)) ++ a0_1).size + 1 ≤ 9223372036854775807 then (if (((t216 ++ (⟨#[32]⟩ : ByteArray)) ++ a0_1) ++ (⟨#[32]⟩ : ByteArray)).size + a0_2.size ≤ 9223372036854775807 then ((impl_Decimal.f (((((t216 ++ (⟨#[32]⟩ : ByteArray)) ++ a0_1) ++ (⟨#[32]⟩ : ByteArray)) ++ a0_2).size : Int)).bind fun t217 => (if t217.size + 1 ≤ 9223372036854775807 then (if (t217 ++ (⟨#[58]⟩ : ByteArray)).size + ((((t216 ++ (⟨#[32]⟩ : ByteArray)) ++ a0_1) ++ (⟨#[32]⟩ : ByteArray)) ++ a0_2).size ≤ 9223372036854775807 then (if ((t217 ++ (⟨#[58]⟩ : ByteArray)) ++ ((((t216 ++ (⟨#[32]⟩ : ByteArray)) ++ a0_1) ++ (⟨#[32]⟩ : ByteArray)) ++ a0_2)).size + 1 ≤ 9223372036854775807 then ((impl_SumOf.f k ((((t216 ++ (⟨#[32]⟩ : ByteArray)) ++ a0_1) ++ (⟨#[32]⟩ : ByteArray)) ++ a0_2)).bind fun t218 => ((impl_Decimal.f t218).bind fun t219 => (if (((t217 ++ (⟨#[58]⟩ : ByteArray)) ++ ((((t216 ++ (⟨#[32]⟩ : ByteArray)) ++ a0_1) ++ (⟨#[32]⟩ : ByteArray)) ++ a0_2)) ++ (⟨#[35]⟩ : ByteArray)).size + t219.size ≤ 9223372036854775807 then (if ((((t217 ++ (⟨#[58]⟩ : ByteArray)) ++ ((((t216 ++ (⟨#[32]⟩ : ByteArray)) ++ a0_1) ++ (⟨#[32]⟩ : ByteArray)) ++ a0_2)) ++ (⟨#[35]⟩ : ByteArray)) ++ t219).size + 1 ≤ 9223372036854775807 then (some (((((t217 ++ (⟨#[58]⟩ : ByteArray)) ++ ((((t216 ++ (⟨#[32]⟩ : ByteArray)) ++ a0_1) ++ (⟨#[32]⟩ : ByteArray)) ++ a0_2)) ++ (⟨#[35]⟩ : ByteArray)) ++ t219) ++ (⟨#[10]⟩ : ByteArray))) else (none)) else (none)))) else (none)) else (none)) else (none))) else (none)) else (none)) else (none)) else (none))) else (some (⟨#[]⟩ : ByteArray)))
def impl_FrameOf.T3 : Bool × List (List Nat × List Nat) := (true, [([], []), ([0], [0]), ([1], [1]), ([2], [2]), ([], []), ([4], [4]), ([3, 5], [3, 5]), ([6], [6]), ([], []), ([8], [8]), ([7, 9], [7, 9]), ([10, 2, 0, 1, 2, 3, 4, 5, 6, 7, 8, 9, 10], [10])])
def impl_FrameOf.B3 : List Nat := [0, 1, 3, 7, 0, 16, 63, 127, 0, 256, 1023, 2047]
theorem impl_FrameOf.tab3 : rtab .any (opsOf Tryd.f23 3) = impl_FrameOf.T3 := by kernel_rfl
theorem impl_FrameOf.bits3 : waitsOk impl_FrameOf.T3.2 impl_FrameOf.B3 = true := by kernel_rfl
set_option maxHeartbeats 8000000 in
set_option maxRecDepth 100000 in
theorem impl_FrameOf.calls (k : Nat) (a0_0 : Int) (a0_1 : ByteArray) (a0_2 : ByteArray) (r : ByteArray) (w : World) (hG : GF w) (h : impl_FrameOf.f k a0_0 a0_1 a0_2 = some r) :
  Calls Tryd.prog 23 #[.agg #[.int .i64 a0_0, .string a0_1, .string a0_2]] w fun e w' => e = .returned (.string r) ∧ Below w.heap.size w w' := by
 have hu39 := Tryd.underlying39
 have HB := Aside0.mk (Below.refl w.heap.size w)
 have HG := Aside0.mk hG
 clear hG
 have H : ((impl_ValidEntry.f k a0_0 a0_1 a0_2).bind fun t215 => (if t215 = true then ((impl_Decimal.f a0_0).bind fun t216 => (if t216.size + 1 ≤ 9223372036854775807 then (if (t216 ++ (⟨#[32]⟩ : ByteArray)).size + a0_1.size ≤ 9223372036854775807 then (if ((t216 ++ (⟨#[32]⟩ : ByteArray)) ++ a0_1).size + 1 ≤ 9223372036854775807 then (if (((t216 ++ (⟨#[32]⟩ : ByteArray)) ++ a0_1) ++ (⟨#[32]⟩ : ByteArray)).size + a0_2.size ≤ 9223372036854775807 then ((impl_Decimal.f (((((t216 ++ (⟨#[32]⟩ : ByteArray)) ++ a0_1) ++ (⟨#[32]⟩ : ByteArray)) ++ a0_2).size : Int)).bind fun t217 => (if t217.size + 1 ≤ 9223372036854775807 then (if (t217 ++ (⟨#[58]⟩ : ByteArray)).size + ((((t216 ++ (⟨#[32]⟩ : ByteArray)) ++ a0_1) ++ (⟨#[32]⟩ : ByteArray)) ++ a0_2).size ≤ 9223372036854775807 then (if ((t217 ++ (⟨#[58]⟩ : ByteArray)) ++ ((((t216 ++ (⟨#[32]⟩ : ByteArray)) ++ a0_1) ++ (⟨#[32]⟩ : ByteArray)) ++ a0_2)).size + 1 ≤ 9223372036854775807 then ((impl_SumOf.f k ((((t216 ++ (⟨#[32]⟩ : ByteArray)) ++ a0_1) ++ (⟨#[32]⟩ : ByteArray)) ++ a0_2)).bind fun t218 => ((impl_Decimal.f t218).bind fun t219 => (if (((t217 ++ (⟨#[58]⟩ : ByteArray)) ++ ((((t216 ++ (⟨#[32]⟩ : ByteArray)) ++ a0_1) ++ (⟨#[32]⟩ : ByteArray)) ++ a0_2)) ++ (⟨#[35]⟩ : ByteArray)).size + t219.size ≤ 9223372036854775807 then (if ((((t217 ++ (⟨#[58]⟩ : ByteArray)) ++ ((((t216 ++ (⟨#[32]⟩ : ByteArray)) ++ a0_1) ++ (⟨#[32]⟩ : ByteArray)) ++ a0_2)) ++ (⟨#[35]⟩ : ByteArray)) ++ t219).size + 1 ≤ 9223372036854775807 then (some (((((t217 ++ (⟨#[58]⟩ : ByteArray)) ++ ((((t216 ++ (⟨#[32]⟩ : ByteArray)) ++ a0_1) ++ (⟨#[32]⟩ : ByteArray)) ++ a0_2)) ++ (⟨#[35]⟩ : ByteArray)) ++ t219) ++ (⟨#[10]⟩ : ByteArray))) else (none)) else (none)))) else (none)) else (none)) else (none))) else (none)) else (none)) else (none)) else (none))) else (some (⟨#[]⟩ : ByteArray)))) = some r := h
 clear h
 replace H := Option.bind_eq_some_iff.mp H
 obtain ⟨t215, A20, H⟩ := H
 have A2 := Aside0.mk A20
 clear A20
 by_cases c3 : t215 = true
 ·subst c3
  rw [if_pos rfl] at H
  replace H := Option.bind_eq_some_iff.mp H
  obtain ⟨t216, A40, H⟩ := H
  have A4 := Aside0.mk A40
  clear A40
  by_cases c5 : t216.size + 1 ≤ 9223372036854775807
  ·rw [if_pos c5] at H
   have c5b0 := eq_true c5
   have c5b1 : decide (t216.size + 1 ≤ 9223372036854775807) = true := decide_eq_true c5
   try have c5b2 : (9223372036854775807 < t216.size + 1) = False := eq_false (Nat.not_lt.2 c5)
   by_cases c6 : (t216 ++ (⟨#[32]⟩ : ByteArray)).size + a0_1.size ≤ 9223372036854775807
   ·rw [if_pos c6] at H
    have c6b0 := eq_true c6
    have c6b1 : decide ((t216 ++ (⟨#[32]⟩ : ByteArray)).size + a0_1.size ≤ 9223372036854775807) = true := decide_eq_true c6
    try have c6b3 : (9223372036854775807 < t216.size + 1 + a0_1.size) = False := by have h_ := c6; simp only [ByteArray.size_append] at h_; exact eq_false (Nat.not_lt.2 h_)
    try have c6b2 : (9223372036854775807 < (t216 ++ (⟨#[32]⟩ : ByteArray)).size + a0_1.size) = False := eq_false (Nat.not_lt.2 c6)
    by_cases c7 : ((t216 ++ (⟨#[32]⟩ : ByteArray)) ++ a0_1).size + 1 ≤ 9223372036854775807
    ·rw [if_pos c7] at H
     have c7b0 := eq_true c7
     have c7b1 : decide (((t216 ++ (⟨#[32]⟩ : ByteArray)) ++ a0_1).size + 1 ≤ 9223372036854775807) = true := decide_eq_true c7
     try have c7b3 : (9223372036854775807 < t216.size + 1 + a0_1.size + 1) = False := by have h_ := c7; simp only [ByteArray.size_append] at h_; exact eq_false (Nat.not_lt.2 h_)
     try have c7b2 : (9223372036854775807 < ((t216 ++ (⟨#[32]⟩ : ByteArray)) ++ a0_1).size + 1) = False := eq_false (Nat.not_lt.2 c7)
     by_cases c8 : (((t216 ++ (⟨#[32]⟩ : ByteArray)) ++ a0_1) ++ (⟨#[32]⟩ : ByteArray)).size + a0_2.size ≤ 9223372036854775807
     ·rw [if_pos c8] at H
      have c8b0 := eq_true c8
      have c8b1 : decide ((((t216 ++ (⟨#[32]⟩ : ByteArray)) ++ a0_1) ++ (⟨#[32]⟩ : ByteArray)).size + a0_2.size ≤ 9223372036854775807) = true := decide_eq_true c8
      try have c8b3 : (9223372036854775807 < t216.size + 1 + a0_1.size + 1 + a0_2.size) = False := by have h_ := c8; simp only [ByteArray.size_append] at h_; exact eq_false (Nat.not_lt.2 h_)
      try have c8b2 : (9223372036854775807 < (((t216 ++ (⟨#[32]⟩ : ByteArray)) ++ a0_1) ++ (⟨#[32]⟩ : ByteArray)).size + a0_2.size) = False := eq_false (Nat.not_lt.2 c8)
      replace H := Option.bind_eq_some_iff.mp H
      obtain ⟨t217, A90, H⟩ := H
      have A9 := Aside0.mk A90
      clear A90
      by_cases c10 : t217.size + 1 ≤ 9223372036854775807
      ·rw [if_pos c10] at H
       have c10b0 := eq_true c10
       have c10b1 : decide (t217.size + 1 ≤ 9223372036854775807) = true := decide_eq_true c10
       try have c10b2 : (9223372036854775807 < t217.size + 1) = False := eq_false (Nat.not_lt.2 c10)
       by_cases c11 : (t217 ++ (⟨#[58]⟩ : ByteArray)).size + ((((t216 ++ (⟨#[32]⟩ : ByteArray)) ++ a0_1) ++ (⟨#[32]⟩ : ByteArray)) ++ a0_2).size ≤ 9223372036854775807
       ·rw [if_pos c11] at H
        have c11b0 := eq_true c11
        have c11b1 : decide ((t217 ++ (⟨#[58]⟩ : ByteArray)).size + ((((t216 ++ (⟨#[32]⟩ : ByteArray)) ++ a0_1) ++ (⟨#[32]⟩ : ByteArray)) ++ a0_2).size ≤ 9223372036854775807) = true := decide_eq_true c11
        try have c11b3 : (9223372036854775807 < t217.size + 1 + (t216.size + 1 + a0_1.size + 1 + a0_2.size)) = False := by have h_ := c11; simp only [ByteArray.size_append] at h_; exact eq_false (Nat.not_lt.2 h_)
        try have c11b2 : (9223372036854775807 < (t217 ++ (⟨#[58]⟩ : ByteArray)).size + ((((t216 ++ (⟨#[32]⟩ : ByteArray)) ++ a0_1) ++ (⟨#[32]⟩ : ByteArray)) ++ a0_2).size) = False := eq_false (Nat.not_lt.2 c11)
        by_cases c12 : ((t217 ++ (⟨#[58]⟩ : ByteArray)) ++ ((((t216 ++ (⟨#[32]⟩ : ByteArray)) ++ a0_1) ++ (⟨#[32]⟩ : ByteArray)) ++ a0_2)).size + 1 ≤ 9223372036854775807
        ·rw [if_pos c12] at H
         have c12b0 := eq_true c12
         have c12b1 : decide (((t217 ++ (⟨#[58]⟩ : ByteArray)) ++ ((((t216 ++ (⟨#[32]⟩ : ByteArray)) ++ a0_1) ++ (⟨#[32]⟩ : ByteArray)) ++ a0_2)).size + 1 ≤ 9223372036854775807) = true := decide_eq_true c12
         try have c12b3 : (9223372036854775807 < t217.size + 1 + (t216.size + 1 + a0_1.size + 1 + a0_2.size) + 1) = False := by have h_ := c12; simp only [ByteArray.size_append] at h_; exact eq_false (Nat.not_lt.2 h_)
         try have c12b2 : (9223372036854775807 < ((t217 ++ (⟨#[58]⟩ : ByteArray)) ++ ((((t216 ++ (⟨#[32]⟩ : ByteArray)) ++ a0_1) ++ (⟨#[32]⟩ : ByteArray)) ++ a0_2)).size + 1) = False := eq_false (Nat.not_lt.2 c12)
         replace H := Option.bind_eq_some_iff.mp H
         obtain ⟨t218, A130, H⟩ := H
         have A13 := Aside0.mk A130
         clear A130
         replace H := Option.bind_eq_some_iff.mp H
         obtain ⟨t219, A140, H⟩ := H
         have A14 := Aside0.mk A140
         clear A140
         by_cases c15 : (((t217 ++ (⟨#[58]⟩ : ByteArray)) ++ ((((t216 ++ (⟨#[32]⟩ : ByteArray)) ++ a0_1) ++ (⟨#[32]⟩ : ByteArray)) ++ a0_2)) ++ (⟨#[35]⟩ : ByteArray)).size + t219.size ≤ 9223372036854775807
         ·rw [if_pos c15] at H
          have c15b0 := eq_true c15
          have c15b1 : decide ((((t217 ++ (⟨#[58]⟩ : ByteArray)) ++ ((((t216 ++ (⟨#[32]⟩ : ByteArray)) ++ a0_1) ++ (⟨#[32]⟩ : ByteArray)) ++ a0_2)) ++ (⟨#[35]⟩ : ByteArray)).size + t219.size ≤ 9223372036854775807) = true := decide_eq_true c15
          try have c15b3 : (9223372036854775807 < t217.size + 1 + (t216.size + 1 + a0_1.size + 1 + a0_2.size) + 1 + t219.size) = False := by have h_ := c15; simp only [ByteArray.size_append] at h_; exact eq_false (Nat.not_lt.2 h_)
          try have c15b2 : (9223372036854775807 < (((t217 ++ (⟨#[58]⟩ : ByteArray)) ++ ((((t216 ++ (⟨#[32]⟩ : ByteArray)) ++ a0_1) ++ (⟨#[32]⟩ : ByteArray)) ++ a0_2)) ++ (⟨#[35]⟩ : ByteArray)).size + t219.size) = False := eq_false (Nat.not_lt.2 c15)
          by_cases c16 : ((((t217 ++ (⟨#[58]⟩ : ByteArray)) ++ ((((t216 ++ (⟨#[32]⟩ : ByteArray)) ++ a0_1) ++ (⟨#[32]⟩ : ByteArray)) ++ a0_2)) ++ (⟨#[35]⟩ : ByteArray)) ++ t219).size + 1 ≤ 9223372036854775807
          ·rw [if_pos c16] at H
           have c16b0 := eq_true c16
           have c16b1 : decide (((((t217 ++ (⟨#[58]⟩ : ByteArray)) ++ ((((t216 ++ (⟨#[32]⟩ : ByteArray)) ++ a0_1) ++ (⟨#[32]⟩ : ByteArray)) ++ a0_2)) ++ (⟨#[35]⟩ : ByteArray)) ++ t219).size + 1 ≤ 9223372036854775807) = true := decide_eq_true c16
           try have c16b3 : (9223372036854775807 < t217.size + 1 + (t216.size + 1 + a0_1.size + 1 + a0_2.size) + 1 + t219.size + 1) = False := by have h_ := c16; simp only [ByteArray.size_append] at h_; exact eq_false (Nat.not_lt.2 h_)
           try have c16b2 : (9223372036854775807 < ((((t217 ++ (⟨#[58]⟩ : ByteArray)) ++ ((((t216 ++ (⟨#[32]⟩ : ByteArray)) ++ a0_1) ++ (⟨#[32]⟩ : ByteArray)) ++ a0_2)) ++ (⟨#[35]⟩ : ByteArray)) ++ t219).size + 1) = False := eq_false (Nat.not_lt.2 c16)
           obtain rfl := Option.some.inj H
           go_enter Tryd.func23, Tryd.ntmps23
           try go_wp2_with (first | ((with_reducible refine gate_dst (N := 1) rfl ?_); refine box_event ?hg (N := 1) ?hd (cs := #[.int .i64 a0_0, .string a0_1, .string a0_2]) (t := 39) ?hr ?_; (case hd => rfl); (case hg => rfl); (case hr => exact zq1); intro gb214 hg w17 hbox hb; have BK214 := Aside0.mk (hbox); have GW214 := gsz hg; have GE214 := gsz hg; replace HB := bs hb; clear hb hbox hg; have hcz18_0 := cz BK214 0 rfl; have hcz18_1 := cz BK214 1 rfl; have hcz18_2 := cz BK214 2 rfl; have hfz18_0 := blk_frozen BK214.out 0; have hfz18_1 := blk_frozen BK214.out 1; have hfz18_2 := blk_frozen BK214.out 2) | ((with_reducible refine gate_callee (f := 39) rfl ?_); refine goq (some 5) Tryd.func39 #[.agg #[.int .i64 a0_0, .string a0_1, .string a0_2]] ?_; (with_reducible refine (impl_ValidEntry.calls k a0_0 a0_1 a0_2 true _ A2.out).mono ?_); rintro e w19 ⟨rfl, hb⟩; refine ⟨_, rfl, ?_⟩; replace BK214 := kb BK214 hb; replace HB := bs hb; (try clear hb)))
           replace BK214 := Aside0.mk (blk_drew BK214.out)
           replace HB := Aside0.mk (below_drew1 HB.out)
           refine start_ (n := 12) (S := fun w' => w'.cell? ⟨gb214, 0, none⟩ = some (.int .i64 a0_0) ∧ w'.cell? ⟨gb214, 1, none⟩ = some (.string a0_1) ∧ w'.cell? ⟨gb214, 2, none⟩ = some (.string a0_2)) (ds := []) #[false, false, false, false, false, false, false, false, false, false, false, false] (by kernel_rfl) rfl rfl ⟨(blk_cell BK214.out 0).trans rfl, (blk_cell BK214.out 1).trans rfl, (blk_cell BK214.out 2).trans rfl⟩ (fun hHeld => ?_); refine with_tabW impl_FrameOf.tab3 impl_FrameOf.bits3 (fun HT_ HW_ => ?_)
           generalize w19.drew = w20 at BK214 HB hHeld ⊢
           refine pu (i := 0) (N := some 7) (l' := #[true, false, false, false, false, false, false, false, false, false, false, false]) HT_ ?_
           refine pu (i := 4) (N := some 11) (l' := #[true, false, false, false, true, false, false, false, false, false, false, false]) HT_ ?_
           refine pu (i := 8) (N := some 15) (l' := #[true, false, false, false, true, false, false, false, true, false, false, false]) HT_ ?_
           refine take_ (i := 1) (N := some 8) (v := ?_) (a' := ?_) #[true, true, false, false, true, false, false, false, true, false, false, false] rfl rfl (take_ofW HT_.out HW_.out (by kernel_rfl)) (fun _ _ _ h => h) (Or.inl ⟨by rfl, ?_⟩) hHeld ?_ ?_
           rotate_left
           ·rintro w' ⟨s0, s1, s2⟩
            go_simp
            with_reducible rfl
           rotate_left
           ·simp only [Act.put, List.setIfInBounds_toArray, List.set_cons_zero, List.set_cons_succ, i64_w, i32_w]
            rfl
           refine take_ (i := 5) (N := some 12) (v := ?_) (a' := ?_) #[true, true, false, false, true, true, false, false, true, false, false, false] rfl rfl (take_ofW HT_.out HW_.out (by kernel_rfl)) (fun _ _ _ h => h) (Or.inl ⟨by rfl, ?_⟩) hHeld ?_ ?_
           rotate_left
           ·rintro w' ⟨s0, s1, s2⟩
            go_simp
            with_reducible rfl
           rotate_left
           ·simp only [Act.put, List.setIfInBounds_toArray, List.set_cons_zero, List.set_cons_succ, i64_w, i32_w]
            rfl
           refine take_ (i := 9) (N := some 16) (v := ?_) (a' := ?_) #[true, true, false, false, true, true, false, false, true, true, false, false] rfl rfl (take_ofW HT_.out HW_.out (by kernel_rfl)) (fun _ _ _ h => h) (Or.inl ⟨by rfl, ?_⟩) hHeld ?_ ?_
           rotate_left
           ·rintro w' ⟨s0, s1, s2⟩
            go_simp
            with_reducible rfl
           rotate_left
           ·simp only [Act.put, List.setIfInBounds_toArray, List.set_cons_zero, List.set_cons_succ, i64_w, i32_w]
            rfl
           refine one_ (i := 2) (N := some 9) #[true, true, true, false, true, true, false, false, true, true, false, false] rfl rfl (one_of HT_.out (by kernel_rfl)) (by decide) (fun K hK => ?_)
           refine goes_ Tryd.func63 (by kernel_rfl) rfl #[.int .i64 a0_0] (by rfl) rfl rfl zq25 ?_
           with_reducible refine (impl_Decimal.calls a0_0 t216 _ ?side1 A4.out).mono ?_
           (case side1 => exact (GF.below HG.out bl))
           rintro e w21 ⟨rfl, hb⟩
           refine ⟨_, rfl, ?_⟩
           replace BK214 := kb BK214 hb
           replace HB := bs hb
           (try clear hb)
           (try clear hb2)
           (try clear hk)
           (try clear hi)
           refine hK.out _ _ ⟨(blk_cell BK214.out 0).trans rfl, (blk_cell BK214.out 1).trans rfl, (blk_cell BK214.out 2).trans rfl⟩ (fun hHeld => ?_)
           clear hK K
           refine norm_ (a' := ?_) ?_ ?_
           rotate_left
           ·show Act.put _ (some 9) _ = _
            simp only [Act.put, List.setIfInBounds_toArray, List.set_cons_zero, List.set_cons_succ, i64_w, i32_w]
            rfl
           refine pu (i := 3) (N := some 10) (l' := #[true, true, true, true, true, true, false, false, true, true, false, false]) HT_ ?_
           refine pu (i := 6) (N := some 13) (l' := #[true, true, true, true, true, true, true, false, true, true, false, false]) HT_ ?_
           refine pu (i := 7) (N := some 14) (l' := #[true, true, true, true, true, true, true, true, true, true, false, false]) HT_ ?_
           refine pu (i := 10) (N := some 17) (l' := #[true, true, true, true, true, true, true, true, true, true, true, false]) HT_ ?_
           refine pu (i := 11) (N := some 3) (l' := #[true, true, true, true, true, true, true, true, true, true, true, true]) HT_ ?_
           refine done_ (done_of HT_.out (by kernel_rfl)) ?_
           try go_wp2_with (first | ((with_reducible refine gate_callee (f := 63) rfl ?_); refine goesL_ (some 20) rfl rfl Tryd.func63 (by kernel_rfl) rfl #[.int .i64 (((((t216 ++ (⟨#[32]⟩ : ByteArray)) ++ a0_1) ++ (⟨#[32]⟩ : ByteArray)) ++ a0_2).size : Int)] rfl zq66 ?_; (with_reducible refine (impl_Decimal.calls (((((t216 ++ (⟨#[32]⟩ : ByteArray)) ++ a0_1) ++ (⟨#[32]⟩ : ByteArray)) ++ a0_2).size : Int) t217 _ ?side1 A9.out).mono ?_); (case side1 => exact (GF.below HG.out bl)); rintro e w22 ⟨rfl, hb⟩; refine ⟨_, rfl, ?_⟩; replace BK214 := kb BK214 hb; replace HB := bs hb; (try clear hb)) | ((with_reducible refine gate_callee (f := 37) rfl ?_); refine goq (some 26) Tryd.func37 #[.string ((((t216 ++ (⟨#[32]⟩ : ByteArray)) ++ a0_1) ++ (⟨#[32]⟩ : ByteArray)) ++ a0_2)] ?_; (with_reducible refine (impl_SumOf.calls k ((((t216 ++ (⟨#[32]⟩ : ByteArray)) ++ a0_1) ++ (⟨#[32]⟩ : ByteArray)) ++ a0_2) t218 _ A13.out).mono ?_); rintro e w' ⟨rfl, ⟨nd, rfl⟩⟩; refine ⟨_, rfl, ?_⟩) | ((with_reducible refine gate_callee (f := 63) rfl ?_); refine goq (some 27) Tryd.func63 #[.int .i64 t218] ?_; (with_reducible refine (impl_Decimal.calls t218 t219 _ ?side1 A14.out).mono ?_); (case side1 => exact (GF.below HG.out bl)); rintro e w23 ⟨rfl, hb⟩; refine ⟨_, rfl, ?_⟩; replace BK214 := kb BK214 hb; replace HB := bs hb; (try clear hb)))
           go_ret
           exact ⟨er, bl⟩
          ·rw [if_neg c16] at H
           exact absurd H (by simp)
         ·rw [if_neg c15] at H
          exact absurd H (by simp)
        ·rw [if_neg c12] at H
         exact absurd H (by simp)
       ·rw [if_neg c11] at H
        exact absurd H (by simp)
      ·rw [if_neg c10] at H
       exact absurd H (by simp)
     ·rw [if_neg c8] at H
      exact absurd H (by simp)
    ·rw [if_neg c7] at H
     exact absurd H (by simp)
   ·rw [if_neg c6] at H
    exact absurd H (by simp)
  ·rw [if_neg c5] at H
   exact absurd H (by simp)
 ·replace c3 := Bool.eq_false_iff.mpr c3
  subst c3
  rw [if_neg (show ¬ (false = true) by decide)] at H
  obtain rfl := Option.some.inj H
  go_enter Tryd.func23, Tryd.ntmps23
  go_wp2_with (first | ((with_reducible refine gate_dst (N := 1) rfl ?_); refine box_event ?hg (N := 1) ?hd (cs := #[.int .i64 a0_0, .string a0_1, .string a0_2]) (t := 39) ?hr ?_; (case hd => rfl); (case hg => rfl); (case hr => exact zq1); intro gb214 hg w24 hbox hb; have BK214 := Aside0.mk (hbox); have GW214 := gsz hg; have GE214 := gsz hg; replace HB := bs hb; clear hb hbox hg; have hcz25_0 := cz BK214 0 rfl; have hcz25_1 := cz BK214 1 rfl; have hcz25_2 := cz BK214 2 rfl; have hfz25_0 := blk_frozen BK214.out 0; have hfz25_1 := blk_frozen BK214.out 1; have hfz25_2 := blk_frozen BK214.out 2) | ((with_reducible refine gate_callee (f := 39) rfl ?_); refine goq (some 5) Tryd.func39 #[.agg #[.int .i64 a0_0, .string a0_1, .string a0_2]] ?_; (with_reducible refine (impl_ValidEntry.calls k a0_0 a0_1 a0_2 false _ A2.out).mono ?_); rintro e w26 ⟨rfl, hb⟩; refine ⟨_, rfl, ?_⟩; replace BK214 := kb BK214 hb; replace HB := bs hb; (try clear hb)))
  go_ret
  exact ⟨er, bl⟩

/-! ### strings_Cut: function 86 -/
def strings_Cut.f (a0 : ByteArray) (a1 : ByteArray) : Option (ByteArray × ByteArray × Bool) := if a0.size < 4294967281 then some (⟨(Lib.cut a0.data.toList a1.data.toList).1.toArray⟩, ⟨(Lib.cut a0.data.toList a1.data.toList).2.1.toArray⟩, (Lib.cut a0.data.toList a1.data.toList).2.2) else none
theorem strings_Cut.calls (a0 : ByteArray) (a1 : ByteArray) (r1 : ByteArray) (r2 : ByteArray) (r3 : Bool) (w : World) (hG : GF w) (h : strings_Cut.f a0 a1 = some (r1, r2, r3)) :
  Calls Tryd.prog 86 #[.string a0, .string a1] w fun e w' => e = .returned (.tuple #[.string r1, .string r2, .bool r3]) ∧ Below w.heap.size w w' := by
 unfold strings_Cut.f at h
 by_cases c : a0.size < 4294967281
 ·rw [if_pos c] at h
  have h := Option.some.inj h
  simp only [Prod.mk.injEq] at h
  obtain ⟨rfl, rfl, rfl⟩ := h
  obtain ⟨m, hm⟩ := hG.2
  exact (Tryd.strings_Cut a0 a1 m w c hm).mono fun e w' ⟨he, n, hw⟩ => ⟨he, by rw [hw]; exact pw_below_drewN (Below.refl _ _) n⟩
 ·rw [if_neg c] at h
  cases h


/-! ### stringslite_HasPrefix: function 115 -/
def stringslite_HasPrefix.f (a0 : ByteArray) (a1 : ByteArray) : Option (Bool) := if (a0.size : Int) ≥ (a1.size : Int) then (if 0 ≤ (a1.size : Int) then (if (a1.size : Int) ≤ (a0.size : Int) then (some ((a0.extract 0 a1.size).toList == a1.toList)) else (none)) else (none)) else (some false)
set_option maxHeartbeats 8000000 in
set_option maxRecDepth 100000 in
theorem stringslite_HasPrefix.calls (a0 : ByteArray) (a1 : ByteArray) (r : Bool) (w : World) (h : stringslite_HasPrefix.f a0 a1 = some r) :
  Calls Tryd.prog 115 #[.string a0, .string a1] w fun e w' => e = .returned (.bool r) ∧ Drawn0 w w' := by
 have H : (if (a0.size : Int) ≥ (a1.size : Int) then (if 0 ≤ (a1.size : Int) then (if (a1.size : Int) ≤ (a0.size : Int) then (some ((a0.extract 0 a1.size).toList == a1.toList)) else (none)) else (none)) else (some false)) = some r := h
 clear h
 by_cases c3 : (a0.size : Int) ≥ (a1.size : Int)
 ·rw [if_pos c3] at H
  have c3b0 : decide ((a1.size : Int) ≤ (a0.size : Int)) = true := decide_eq_true c3
  have c3b1 : decide (a1.size ≤ a0.size) = true := decide_eq_true (Int.ofNat_le.mp c3)
  clear c3
  by_cases c4 : 0 ≤ (a1.size : Int)
  ·rw [if_pos c4] at H
   have c4b0 := eq_true c4
   have c4b1 : decide (0 ≤ (a1.size : Int)) = true := decide_eq_true c4
   clear c4
   by_cases c5 : (a1.size : Int) ≤ (a0.size : Int)
   ·rw [if_pos c5] at H
    have c5b0 := eq_true c5
    have c5b1 : decide ((a1.size : Int) ≤ (a0.size : Int)) = true := decide_eq_true c5
    clear c5
    obtain rfl := Option.some.inj H
    go_enter Tryd.func115, Tryd.ntmps115
    go_wp2
    go_ret
    exact ⟨sd, dr⟩
   ·rw [if_neg c5] at H
    exact absurd H (by simp)
  ·rw [if_neg c4] at H
   exact absurd H (by simp)
 ·rw [if_neg c3] at H
  have c3b0 : decide ((a1.size : Int) ≤ (a0.size : Int)) = false := decide_eq_false c3
  have c3b1 : decide (a1.size ≤ a0.size) = false := decide_eq_false (fun h => c3 (Int.ofNat_le.mpr h))
  clear c3
  obtain rfl := Option.some.inj H
  go_enter Tryd.func115, Tryd.ntmps115
  go_wp2
  go_ret
  exact ⟨sd, dr⟩

/-! ### stringslite_TrimPrefix: function 130 -/
def stringslite_TrimPrefix.f (a0 : ByteArray) (a1 : ByteArray) : Option (ByteArray) := (stringslite_HasPrefix.f a0 a1).bind fun t220 => (if t220 = true then (if 0 ≤ (a1.size : Int) then (if (a1.size : Int) ≤ (a0.size : Int) then (some (a0.extract a1.size a0.size)) else (none)) else (none)) else (some a0))
set_option maxHeartbeats 8000000 in
set_option maxRecDepth 100000 in
theorem stringslite_TrimPrefix.calls (a0 : ByteArray) (a1 : ByteArray) (r : ByteArray) (w : World) (h : stringslite_TrimPrefix.f a0 a1 = some r) :
  Calls Tryd.prog 130 #[.string a0, .string a1] w fun e w' => e = .returned (.string r) ∧ Drawn0 w w' := by
 have H : ((stringslite_HasPrefix.f a0 a1).bind fun t220 => (if t220 = true then (if 0 ≤ (a1.size : Int) then (if (a1.size : Int) ≤ (a0.size : Int) then (some (a0.extract a1.size a0.size)) else (none)) else (none)) else (some a0))) = some r := h
 clear h
 replace H := Option.bind_eq_some_iff.mp H
 obtain ⟨t220, A30, H⟩ := H
 have A3 := Aside0.mk A30
 clear A30
 by_cases c4 : t220 = true
 ·subst c4
  rw [if_pos rfl] at H
  by_cases c5 : 0 ≤ (a1.size : Int)
  ·rw [if_pos c5] at H
   have c5b0 := eq_true c5
   have c5b1 : decide (0 ≤ (a1.size : Int)) = true := decide_eq_true c5
   clear c5
   by_cases c6 : (a1.size : Int) ≤ (a0.size : Int)
   ·rw [if_pos c6] at H
    have c6b0 := eq_true c6
    have c6b1 : decide ((a1.size : Int) ≤ (a0.size : Int)) = true := decide_eq_true c6
    clear c6
    obtain rfl := Option.some.inj H
    go_enter Tryd.func130, Tryd.ntmps130
    go_wp2_with (first | ((with_reducible refine gate_callee (f := 115) rfl ?_); refine goq (some 7) Tryd.func115 #[.string a0, .string a1] ?_; (with_reducible refine (stringslite_HasPrefix.calls a0 a1 true _ A3.out).mono ?_); rintro e w' ⟨rfl, ⟨nd, rfl⟩⟩; refine ⟨_, rfl, ?_⟩))
    go_ret
    exact ⟨sd, dr⟩
   ·rw [if_neg c6] at H
    exact absurd H (by simp)
  ·rw [if_neg c5] at H
   exact absurd H (by simp)
 ·replace c4 := Bool.eq_false_iff.mpr c4
  subst c4
  rw [if_neg (show ¬ (false = true) by decide)] at H
  obtain rfl := Option.some.inj H
  go_enter Tryd.func130, Tryd.ntmps130
  go_wp2_with (first | ((with_reducible refine gate_callee (f := 115) rfl ?_); refine goq (some 7) Tryd.func115 #[.string a0, .string a1] ?_; (with_reducible refine (stringslite_HasPrefix.calls a0 a1 false _ A3.out).mono ?_); rintro e w' ⟨rfl, ⟨nd, rfl⟩⟩; refine ⟨_, rfl, ?_⟩))
  go_ret
  exact ⟨sd, dr⟩

/-! ### strings_TrimPrefix: function 113 -/
def strings_TrimPrefix.f (a0 : ByteArray) (a1 : ByteArray) : Option (ByteArray) := (stringslite_TrimPrefix.f a0 a1).bind fun t221 => (some t221)
set_option maxHeartbeats 8000000 in
set_option maxRecDepth 100000 in
theorem strings_TrimPrefix.calls (a0 : ByteArray) (a1 : ByteArray) (r : ByteArray) (w : World) (h : strings_TrimPrefix.f a0 a1 = some r) :
  Calls Tryd.prog 113 #[.string a0, .string a1] w fun e w' => e = .returned (.string r) ∧ Drawn0 w w' := by
 have H : ((stringslite_TrimPrefix.f a0 a1).bind fun t221 => (some t221)) = some r := h
 clear h
 replace H := Option.bind_eq_some_iff.mp H
 obtain ⟨t221, A30, H⟩ := H
 have A3 := Aside0.mk A30
 clear A30
 obtain rfl := Option.some.inj H
 go_enter Tryd.func113, Tryd.ntmps113
 go_wp2_with (first | ((with_reducible refine gate_callee (f := 130) rfl ?_); refine goq (some 7) Tryd.func130 #[.string a0, .string a1] ?_; (with_reducible refine (stringslite_TrimPrefix.calls a0 a1 t221 _ A3.out).mono ?_); rintro e w' ⟨rfl, ⟨nd, rfl⟩⟩; refine ⟨_, rfl, ?_⟩))
 go_ret
 exact ⟨sd, dr⟩

end Go.Proofs.YtajbomiaoncgiaaDoor.QPL
