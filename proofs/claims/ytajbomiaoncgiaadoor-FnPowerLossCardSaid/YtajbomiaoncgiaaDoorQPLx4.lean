-- Written by a program of this place (wip/tools/prn.py) out of the translation, for this claim. Lean checks it.
import Derived.Test.YtajbomiaoncgiaaDoorQPLz
import Derived.Test.YtajbomiaoncgiaaDoorQPLx3
namespace Go.Proofs.YtajbomiaoncgiaaDoor.QPL
open Go.RowKit Go.Proofs.YtajbomiaoncgiaaDoorQ Go.Proofs.YtajbomiaoncgiaaDoorW.PrintWords Go.Proofs.YtajbomiaoncgiaaDoorW.PrintLast Go.Proofs.YtajbomiaoncgiaaDoorW.PrintMore
attribute [local go_sem] max2_int min2_int max_two min_two max_three min_three max_four min_four   -- for this text's walks alone
set_option linter.unusedVariables false
set_option linter.unusedSimpArgs false

/-! ### spec_l27Frame: function 62 -/
def spec_l27Frame.f (k : Nat) (l0 : List (S39)) : Option (ByteArray) := (spec_l01Dec.f k ((rd_T39 l0 0).f0)).bind fun t149 => (if t149.size + 1 ≤ 9223372036854775807 then (if (t149 ++ (⟨#[32]⟩ : ByteArray)).size + ((rd_T39 l0 0).f1).size ≤ 9223372036854775807 then (if ((t149 ++ (⟨#[32]⟩ : ByteArray)) ++ ((rd_T39 l0 0).f1)).size + 1 ≤ 9223372036854775807 then (if (((t149 ++ (⟨#[32]⟩ : ByteArray)) ++ ((rd_T39 l0 0).f1)) ++ (⟨#[32]⟩ : ByteArray)).size + ((rd_T39 l0 0).f2).size ≤ 9223372036854775807 then ((spec_l01Dec.f k (((((t149 ++ (⟨#[32]⟩ : ByteArray)) ++ ((rd_T39 l0 0).f1)) ++ (⟨#[32]⟩ : ByteArray)) ++ ((rd_T39 l0 0).f2)).size : Int)).bind fun t152 => (if t152.size + 1 ≤ 9223372036854775807 then (if (t152 ++ (⟨#[58]⟩ : ByteArray)).size + ((((t149 ++ (⟨#[32]⟩ : ByteArray)) ++ ((rd_T39 l0 0).f1)) ++ (⟨#[32]⟩ : ByteArray)) ++ ((rd_T39 l0 0).f2)).size ≤ 9223372036854775807 then (if ((t152 ++ (⟨#[58]⟩ : ByteArray)) ++ ((((t149 ++ (⟨#[32]⟩ : ByteArray)) ++ ((rd_T39 l0 0).f1)) ++ (⟨#[32]⟩ : ByteArray)) ++ ((rd_T39 l0 0).f2))).size + 1 ≤ 9223372036854775807 then ((spec_SumOf.f k ((((t149 ++ (⟨#[32]⟩ : ByteArray)) ++ ((rd_T39 l0 0).f1)) ++ (⟨#[32]⟩ : ByteArray)) ++ ((rd_T39 l0 0).f2))).bind fun t153 => ((spec_l01Dec.f k t153).bind fun t154 => (if (((t152 ++ (⟨#[58]⟩ : ByteArray)) ++ ((((t149 ++ (⟨#[32]⟩ : ByteArray)) ++ ((rd_T39 l0 0).f1)) ++ (⟨#[32]⟩ : ByteArray)) ++ ((rd_T39 l0 0).f2))) ++ (⟨#[35]⟩ : ByteArray)).size + t154.size ≤ 9223372036854775807 then (if ((((t152 ++ (⟨#[58]⟩ : ByteArray)) ++ ((((t149 ++ (⟨#[32]⟩ : ByteArray)) ++ ((rd_T39 l0 0).f1)) ++ (⟨#[32]⟩ : ByteArray)) ++ ((rd_T39 l0 0).f2))) ++ (⟨#[35]⟩ : ByteArray)) ++ t154).size + 1 ≤ 9223372036854775807 then (some (((((t152 ++ (⟨#[58]⟩ : ByteArray)) ++ ((((t149 ++ (⟨#[32]⟩ : ByteArray)) ++ ((rd_T39 l0 0).f1)) ++ (⟨#[32]⟩ : ByteArray)) ++ ((rd_T39 l0 0).f2))) ++ (⟨#[35]⟩ : ByteArray)) ++ t154) ++ (⟨#[10]⟩ : ByteArray))) else (none)) else (none)))) else (none)) else (none)) else (none))) else (none)) else (none)) else (none)) else (none))
def spec_l27Frame.T1 : Bool × List (List Nat × List Nat) := (true, [([], []), ([0], [0]), ([1], [1]), ([2], [2]), ([3], [3]), ([4], [4]), ([], []), ([6], [6]), ([7], [7]), ([8], [8]), ([5, 9], [5, 9]), ([10], [10]), ([], []), ([12], [12]), ([13], [13]), ([14], [14]), ([11, 15], [11, 15]), ([16, 4, 0, 1, 2, 3, 4, 5, 6, 7, 8, 9, 10, 11, 12, 13, 14, 15, 16], [16])])
def spec_l27Frame.B1 : List Nat := [0, 1, 3, 7, 15, 31, 0, 64, 192, 448, 1023, 2047, 0, 4096, 12288, 28672, 65535, 131071]
theorem spec_l27Frame.tab1 : rtab .any (opsOf Tryd.f62 1) = spec_l27Frame.T1 := by kernel_rfl
theorem spec_l27Frame.bits1 : waitsOk spec_l27Frame.T1.2 spec_l27Frame.B1 = true := by kernel_rfl
set_option maxHeartbeats 8000000 in
set_option maxRecDepth 100000 in
theorem spec_l27Frame.calls (k : Nat) (adr0 : Addr) (l0 : List (S39)) (r : ByteArray) (w : World) (hr0 : Kd.C k39 w (some adr0) l0.length l0) (hq0 : l0.length = 1) (h : spec_l27Frame.f k l0 = some r) :
  Calls Tryd.prog 62 #[.pointer (some adr0)] w fun e w' => e = .returned (.string r) ∧ Below w.heap.size w w' := by
 have HR0 := Aside0.mk hr0
 have hqb0 : decide (0 < (l0.length : Int)) = true := by rw [hq0]; rfl
 have HQ0 := Aside0.mk hq0
 clear hr0 hq0
 have HB := Aside0.mk (Below.refl w.heap.size w)
 have H : ((spec_l01Dec.f k ((rd_T39 l0 0).f0)).bind fun t149 => (if t149.size + 1 ≤ 9223372036854775807 then (if (t149 ++ (⟨#[32]⟩ : ByteArray)).size + ((rd_T39 l0 0).f1).size ≤ 9223372036854775807 then (if ((t149 ++ (⟨#[32]⟩ : ByteArray)) ++ ((rd_T39 l0 0).f1)).size + 1 ≤ 9223372036854775807 then (if (((t149 ++ (⟨#[32]⟩ : ByteArray)) ++ ((rd_T39 l0 0).f1)) ++ (⟨#[32]⟩ : ByteArray)).size + ((rd_T39 l0 0).f2).size ≤ 9223372036854775807 then ((spec_l01Dec.f k (((((t149 ++ (⟨#[32]⟩ : ByteArray)) ++ ((rd_T39 l0 0).f1)) ++ (⟨#[32]⟩ : ByteArray)) ++ ((rd_T39 l0 0).f2)).size : Int)).bind fun t152 => (if t152.size + 1 ≤ 9223372036854775807 then (if (t152 ++ (⟨#[58]⟩ : ByteArray)).size + ((((t149 ++ (⟨#[32]⟩ : ByteArray)) ++ ((rd_T39 l0 0).f1)) ++ (⟨#[32]⟩ : ByteArray)) ++ ((rd_T39 l0 0).f2)).size ≤ 9223372036854775807 then (if ((t152 ++ (⟨#[58]⟩ : ByteArray)) ++ ((((t149 ++ (⟨#[32]⟩ : ByteArray)) ++ ((rd_T39 l0 0).f1)) ++ (⟨#[32]⟩ : ByteArray)) ++ ((rd_T39 l0 0).f2))).size + 1 ≤ 9223372036854775807 then ((spec_SumOf.f k ((((t149 ++ (⟨#[32]⟩ : ByteArray)) ++ ((rd_T39 l0 0).f1)) ++ (⟨#[32]⟩ : ByteArray)) ++ ((rd_T39 l0 0).f2))).bind fun t153 => ((spec_l01Dec.f k t153).bind fun t154 => (if (((t152 ++ (⟨#[58]⟩ : ByteArray)) ++ ((((t149 ++ (⟨#[32]⟩ : ByteArray)) ++ ((rd_T39 l0 0).f1)) ++ (⟨#[32]⟩ : ByteArray)) ++ ((rd_T39 l0 0).f2))) ++ (⟨#[35]⟩ : ByteArray)).size + t154.size ≤ 9223372036854775807 then (if ((((t152 ++ (⟨#[58]⟩ : ByteArray)) ++ ((((t149 ++ (⟨#[32]⟩ : ByteArray)) ++ ((rd_T39 l0 0).f1)) ++ (⟨#[32]⟩ : ByteArray)) ++ ((rd_T39 l0 0).f2))) ++ (⟨#[35]⟩ : ByteArray)) ++ t154).size + 1 ≤ 9223372036854775807 then (some (((((t152 ++ (⟨#[58]⟩ : ByteArray)) ++ ((((t149 ++ (⟨#[32]⟩ : ByteArray)) ++ ((rd_T39 l0 0).f1)) ++ (⟨#[32]⟩ : ByteArray)) ++ ((rd_T39 l0 0).f2))) ++ (⟨#[35]⟩ : ByteArray)) ++ t154) ++ (⟨#[10]⟩ : ByteArray))) else (none)) else (none)))) else (none)) else (none)) else (none))) else (none)) else (none)) else (none)) else (none))) = some r := h
 clear h
 replace H := Option.bind_eq_some_iff.mp H
 obtain ⟨t149, A20, H⟩ := H
 have A2 := Aside0.mk A20
 clear A20
 by_cases c3 : t149.size + 1 ≤ 9223372036854775807
 ·rw [if_pos c3] at H
  have c3b0 := eq_true c3
  have c3b1 : decide (t149.size + 1 ≤ 9223372036854775807) = true := decide_eq_true c3
  try have c3b2 : (9223372036854775807 < t149.size + 1) = False := eq_false (Nat.not_lt.2 c3)
  by_cases c4 : (t149 ++ (⟨#[32]⟩ : ByteArray)).size + ((rd_T39 l0 0).f1).size ≤ 9223372036854775807
  ·rw [if_pos c4] at H
   have c4b0 := eq_true c4
   have c4b1 : decide ((t149 ++ (⟨#[32]⟩ : ByteArray)).size + ((rd_T39 l0 0).f1).size ≤ 9223372036854775807) = true := decide_eq_true c4
   try have c4b3 : (9223372036854775807 < t149.size + 1 + ((rd_T39 l0 0).f1).size) = False := by have h_ := c4; simp only [ByteArray.size_append] at h_; exact eq_false (Nat.not_lt.2 h_)
   try have c4b2 : (9223372036854775807 < (t149 ++ (⟨#[32]⟩ : ByteArray)).size + ((rd_T39 l0 0).f1).size) = False := eq_false (Nat.not_lt.2 c4)
   by_cases c5 : ((t149 ++ (⟨#[32]⟩ : ByteArray)) ++ ((rd_T39 l0 0).f1)).size + 1 ≤ 9223372036854775807
   ·rw [if_pos c5] at H
    have c5b0 := eq_true c5
    have c5b1 : decide (((t149 ++ (⟨#[32]⟩ : ByteArray)) ++ ((rd_T39 l0 0).f1)).size + 1 ≤ 9223372036854775807) = true := decide_eq_true c5
    try have c5b3 : (9223372036854775807 < t149.size + 1 + ((rd_T39 l0 0).f1).size + 1) = False := by have h_ := c5; simp only [ByteArray.size_append] at h_; exact eq_false (Nat.not_lt.2 h_)
    try have c5b2 : (9223372036854775807 < ((t149 ++ (⟨#[32]⟩ : ByteArray)) ++ ((rd_T39 l0 0).f1)).size + 1) = False := eq_false (Nat.not_lt.2 c5)
    by_cases c6 : (((t149 ++ (⟨#[32]⟩ : ByteArray)) ++ ((rd_T39 l0 0).f1)) ++ (⟨#[32]⟩ : ByteArray)).size + ((rd_T39 l0 0).f2).size ≤ 9223372036854775807
    ·rw [if_pos c6] at H
     have c6b0 := eq_true c6
     have c6b1 : decide ((((t149 ++ (⟨#[32]⟩ : ByteArray)) ++ ((rd_T39 l0 0).f1)) ++ (⟨#[32]⟩ : ByteArray)).size + ((rd_T39 l0 0).f2).size ≤ 9223372036854775807) = true := decide_eq_true c6
     try have c6b3 : (9223372036854775807 < t149.size + 1 + ((rd_T39 l0 0).f1).size + 1 + ((rd_T39 l0 0).f2).size) = False := by have h_ := c6; simp only [ByteArray.size_append] at h_; exact eq_false (Nat.not_lt.2 h_)
     try have c6b2 : (9223372036854775807 < (((t149 ++ (⟨#[32]⟩ : ByteArray)) ++ ((rd_T39 l0 0).f1)) ++ (⟨#[32]⟩ : ByteArray)).size + ((rd_T39 l0 0).f2).size) = False := eq_false (Nat.not_lt.2 c6)
     replace H := Option.bind_eq_some_iff.mp H
     obtain ⟨t152, A70, H⟩ := H
     have A7 := Aside0.mk A70
     clear A70
     by_cases c8 : t152.size + 1 ≤ 9223372036854775807
     ·rw [if_pos c8] at H
      have c8b0 := eq_true c8
      have c8b1 : decide (t152.size + 1 ≤ 9223372036854775807) = true := decide_eq_true c8
      try have c8b2 : (9223372036854775807 < t152.size + 1) = False := eq_false (Nat.not_lt.2 c8)
      by_cases c9 : (t152 ++ (⟨#[58]⟩ : ByteArray)).size + ((((t149 ++ (⟨#[32]⟩ : ByteArray)) ++ ((rd_T39 l0 0).f1)) ++ (⟨#[32]⟩ : ByteArray)) ++ ((rd_T39 l0 0).f2)).size ≤ 9223372036854775807
      ·rw [if_pos c9] at H
       have c9b0 := eq_true c9
       have c9b1 : decide ((t152 ++ (⟨#[58]⟩ : ByteArray)).size + ((((t149 ++ (⟨#[32]⟩ : ByteArray)) ++ ((rd_T39 l0 0).f1)) ++ (⟨#[32]⟩ : ByteArray)) ++ ((rd_T39 l0 0).f2)).size ≤ 9223372036854775807) = true := decide_eq_true c9
       try have c9b3 : (9223372036854775807 < t152.size + 1 + (t149.size + 1 + ((rd_T39 l0 0).f1).size + 1 + ((rd_T39 l0 0).f2).size)) = False := by have h_ := c9; simp only [ByteArray.size_append] at h_; exact eq_false (Nat.not_lt.2 h_)
       try have c9b2 : (9223372036854775807 < (t152 ++ (⟨#[58]⟩ : ByteArray)).size + ((((t149 ++ (⟨#[32]⟩ : ByteArray)) ++ ((rd_T39 l0 0).f1)) ++ (⟨#[32]⟩ : ByteArray)) ++ ((rd_T39 l0 0).f2)).size) = False := eq_false (Nat.not_lt.2 c9)
       by_cases c10 : ((t152 ++ (⟨#[58]⟩ : ByteArray)) ++ ((((t149 ++ (⟨#[32]⟩ : ByteArray)) ++ ((rd_T39 l0 0).f1)) ++ (⟨#[32]⟩ : ByteArray)) ++ ((rd_T39 l0 0).f2))).size + 1 ≤ 9223372036854775807
       ·rw [if_pos c10] at H
        have c10b0 := eq_true c10
        have c10b1 : decide (((t152 ++ (⟨#[58]⟩ : ByteArray)) ++ ((((t149 ++ (⟨#[32]⟩ : ByteArray)) ++ ((rd_T39 l0 0).f1)) ++ (⟨#[32]⟩ : ByteArray)) ++ ((rd_T39 l0 0).f2))).size + 1 ≤ 9223372036854775807) = true := decide_eq_true c10
        try have c10b3 : (9223372036854775807 < t152.size + 1 + (t149.size + 1 + ((rd_T39 l0 0).f1).size + 1 + ((rd_T39 l0 0).f2).size) + 1) = False := by have h_ := c10; simp only [ByteArray.size_append] at h_; exact eq_false (Nat.not_lt.2 h_)
        try have c10b2 : (9223372036854775807 < ((t152 ++ (⟨#[58]⟩ : ByteArray)) ++ ((((t149 ++ (⟨#[32]⟩ : ByteArray)) ++ ((rd_T39 l0 0).f1)) ++ (⟨#[32]⟩ : ByteArray)) ++ ((rd_T39 l0 0).f2))).size + 1) = False := eq_false (Nat.not_lt.2 c10)
        replace H := Option.bind_eq_some_iff.mp H
        obtain ⟨t153, A110, H⟩ := H
        have A11 := Aside0.mk A110
        clear A110
        replace H := Option.bind_eq_some_iff.mp H
        obtain ⟨t154, A120, H⟩ := H
        have A12 := Aside0.mk A120
        clear A120
        by_cases c13 : (((t152 ++ (⟨#[58]⟩ : ByteArray)) ++ ((((t149 ++ (⟨#[32]⟩ : ByteArray)) ++ ((rd_T39 l0 0).f1)) ++ (⟨#[32]⟩ : ByteArray)) ++ ((rd_T39 l0 0).f2))) ++ (⟨#[35]⟩ : ByteArray)).size + t154.size ≤ 9223372036854775807
        ·rw [if_pos c13] at H
         have c13b0 := eq_true c13
         have c13b1 : decide ((((t152 ++ (⟨#[58]⟩ : ByteArray)) ++ ((((t149 ++ (⟨#[32]⟩ : ByteArray)) ++ ((rd_T39 l0 0).f1)) ++ (⟨#[32]⟩ : ByteArray)) ++ ((rd_T39 l0 0).f2))) ++ (⟨#[35]⟩ : ByteArray)).size + t154.size ≤ 9223372036854775807) = true := decide_eq_true c13
         try have c13b3 : (9223372036854775807 < t152.size + 1 + (t149.size + 1 + ((rd_T39 l0 0).f1).size + 1 + ((rd_T39 l0 0).f2).size) + 1 + t154.size) = False := by have h_ := c13; simp only [ByteArray.size_append] at h_; exact eq_false (Nat.not_lt.2 h_)
         try have c13b2 : (9223372036854775807 < (((t152 ++ (⟨#[58]⟩ : ByteArray)) ++ ((((t149 ++ (⟨#[32]⟩ : ByteArray)) ++ ((rd_T39 l0 0).f1)) ++ (⟨#[32]⟩ : ByteArray)) ++ ((rd_T39 l0 0).f2))) ++ (⟨#[35]⟩ : ByteArray)).size + t154.size) = False := eq_false (Nat.not_lt.2 c13)
         by_cases c14 : ((((t152 ++ (⟨#[58]⟩ : ByteArray)) ++ ((((t149 ++ (⟨#[32]⟩ : ByteArray)) ++ ((rd_T39 l0 0).f1)) ++ (⟨#[32]⟩ : ByteArray)) ++ ((rd_T39 l0 0).f2))) ++ (⟨#[35]⟩ : ByteArray)) ++ t154).size + 1 ≤ 9223372036854775807
         ·rw [if_pos c14] at H
          have c14b0 := eq_true c14
          have c14b1 : decide (((((t152 ++ (⟨#[58]⟩ : ByteArray)) ++ ((((t149 ++ (⟨#[32]⟩ : ByteArray)) ++ ((rd_T39 l0 0).f1)) ++ (⟨#[32]⟩ : ByteArray)) ++ ((rd_T39 l0 0).f2))) ++ (⟨#[35]⟩ : ByteArray)) ++ t154).size + 1 ≤ 9223372036854775807) = true := decide_eq_true c14
          try have c14b3 : (9223372036854775807 < t152.size + 1 + (t149.size + 1 + ((rd_T39 l0 0).f1).size + 1 + ((rd_T39 l0 0).f2).size) + 1 + t154.size + 1) = False := by have h_ := c14; simp only [ByteArray.size_append] at h_; exact eq_false (Nat.not_lt.2 h_)
          try have c14b2 : (9223372036854775807 < ((((t152 ++ (⟨#[58]⟩ : ByteArray)) ++ ((((t149 ++ (⟨#[32]⟩ : ByteArray)) ++ ((rd_T39 l0 0).f1)) ++ (⟨#[32]⟩ : ByteArray)) ++ ((rd_T39 l0 0).f2))) ++ (⟨#[35]⟩ : ByteArray)) ++ t154).size + 1) = False := eq_false (Nat.not_lt.2 c14)
          obtain rfl := Option.some.inj H
          go_enter Tryd.func62, Tryd.ntmps62
          try go_wp2
          replace HB := Aside0.mk (below_drew1 HB.out)
          have p148 : 0 ≤ (0 : Int) := (by omega)
          have q148 : 0 < (l0.length : Int) := dt
          obtain ⟨ad148, e148, hx148_0, hx148_1, hx148_2⟩ := at_T39 HR0.out 0 p148 q148
          have hw148_2 := hx148_2
          (try rw [show ((0 : Int)).toNat = 0 from rfl] at hw148_2)
          (try rw [show 0 * 3 = 0 from rfl] at hw148_2)
          (try rw [Addr.add_zero'] at hw148_2)
          have hw148_1 := hx148_1
          (try rw [show ((0 : Int)).toNat = 0 from rfl] at hw148_1)
          (try rw [show 0 * 3 = 0 from rfl] at hw148_1)
          (try rw [Addr.add_zero'] at hw148_1)
          have hw148_0 := hx148_0
          (try rw [show ((0 : Int)).toNat = 0 from rfl] at hw148_0)
          (try rw [show 0 * 3 = 0 from rfl] at hw148_0)
          (try rw [Addr.add_zero'] at hw148_0)
          obtain rfl : adr0 = ad148 := (by injection e148)
          have qi148 : (0 < l0.length) = True := eq_true (by omega)
          (try rw [show ((0 : Int)).toNat = 0 from rfl] at hx148_0)
          (try rw [show 0 * 3 = 0 from rfl] at hx148_0)
          (try rw [Addr.add_zero'] at hx148_0)
          (try rw [show ((0 : Int)).toNat = 0 from rfl] at hx148_1)
          (try rw [show 0 * 3 = 0 from rfl] at hx148_1)
          (try rw [Addr.add_zero'] at hx148_1)
          (try rw [show ((0 : Int)).toNat = 0 from rfl] at hx148_2)
          (try rw [show 0 * 3 = 0 from rfl] at hx148_2)
          (try rw [Addr.add_zero'] at hx148_2)
          replace hx148_0 := (HB.out.cell (World.block_lt_of_cell? w _ hx148_0)).trans hx148_0
          replace hx148_1 := (HB.out.cell (World.block_lt_of_cell? w _ hx148_1)).trans hx148_1
          replace hx148_2 := (HB.out.cell (World.block_lt_of_cell? w _ hx148_2)).trans hx148_2
          replace p148 := eq_true p148
          replace q148 := eq_true q148
          have p150 : 0 ≤ (0 : Int) := (by omega)
          have q150 : 0 < (l0.length : Int) := dt
          obtain ⟨ad150, e150, hx150_0, hx150_1, hx150_2⟩ := at_T39 HR0.out 0 p150 q150
          have hw150_2 := hx150_2
          (try rw [show ((0 : Int)).toNat = 0 from rfl] at hw150_2)
          (try rw [show 0 * 3 = 0 from rfl] at hw150_2)
          (try rw [Addr.add_zero'] at hw150_2)
          have hw150_1 := hx150_1
          (try rw [show ((0 : Int)).toNat = 0 from rfl] at hw150_1)
          (try rw [show 0 * 3 = 0 from rfl] at hw150_1)
          (try rw [Addr.add_zero'] at hw150_1)
          have hw150_0 := hx150_0
          (try rw [show ((0 : Int)).toNat = 0 from rfl] at hw150_0)
          (try rw [show 0 * 3 = 0 from rfl] at hw150_0)
          (try rw [Addr.add_zero'] at hw150_0)
          obtain rfl : adr0 = ad150 := (by injection e150)
          have qi150 : (0 < l0.length) = True := eq_true (by omega)
          (try rw [show ((0 : Int)).toNat = 0 from rfl] at hx150_0)
          (try rw [show 0 * 3 = 0 from rfl] at hx150_0)
          (try rw [Addr.add_zero'] at hx150_0)
          (try rw [show ((0 : Int)).toNat = 0 from rfl] at hx150_1)
          (try rw [show 0 * 3 = 0 from rfl] at hx150_1)
          (try rw [Addr.add_zero'] at hx150_1)
          (try rw [show ((0 : Int)).toNat = 0 from rfl] at hx150_2)
          (try rw [show 0 * 3 = 0 from rfl] at hx150_2)
          (try rw [Addr.add_zero'] at hx150_2)
          replace hx150_0 := (HB.out.cell (World.block_lt_of_cell? w _ hx150_0)).trans hx150_0
          replace hx150_1 := (HB.out.cell (World.block_lt_of_cell? w _ hx150_1)).trans hx150_1
          replace hx150_2 := (HB.out.cell (World.block_lt_of_cell? w _ hx150_2)).trans hx150_2
          replace p150 := eq_true p150
          replace q150 := eq_true q150
          have p151 : 0 ≤ (0 : Int) := (by omega)
          have q151 : 0 < (l0.length : Int) := dt
          obtain ⟨ad151, e151, hx151_0, hx151_1, hx151_2⟩ := at_T39 HR0.out 0 p151 q151
          have hw151_2 := hx151_2
          (try rw [show ((0 : Int)).toNat = 0 from rfl] at hw151_2)
          (try rw [show 0 * 3 = 0 from rfl] at hw151_2)
          (try rw [Addr.add_zero'] at hw151_2)
          have hw151_1 := hx151_1
          (try rw [show ((0 : Int)).toNat = 0 from rfl] at hw151_1)
          (try rw [show 0 * 3 = 0 from rfl] at hw151_1)
          (try rw [Addr.add_zero'] at hw151_1)
          have hw151_0 := hx151_0
          (try rw [show ((0 : Int)).toNat = 0 from rfl] at hw151_0)
          (try rw [show 0 * 3 = 0 from rfl] at hw151_0)
          (try rw [Addr.add_zero'] at hw151_0)
          obtain rfl : adr0 = ad151 := (by injection e151)
          have qi151 : (0 < l0.length) = True := eq_true (by omega)
          (try rw [show ((0 : Int)).toNat = 0 from rfl] at hx151_0)
          (try rw [show 0 * 3 = 0 from rfl] at hx151_0)
          (try rw [Addr.add_zero'] at hx151_0)
          (try rw [show ((0 : Int)).toNat = 0 from rfl] at hx151_1)
          (try rw [show 0 * 3 = 0 from rfl] at hx151_1)
          (try rw [Addr.add_zero'] at hx151_1)
          (try rw [show ((0 : Int)).toNat = 0 from rfl] at hx151_2)
          (try rw [show 0 * 3 = 0 from rfl] at hx151_2)
          (try rw [Addr.add_zero'] at hx151_2)
          replace hx151_0 := (HB.out.cell (World.block_lt_of_cell? w _ hx151_0)).trans hx151_0
          replace hx151_1 := (HB.out.cell (World.block_lt_of_cell? w _ hx151_1)).trans hx151_1
          replace hx151_2 := (HB.out.cell (World.block_lt_of_cell? w _ hx151_2)).trans hx151_2
          replace p151 := eq_true p151
          replace q151 := eq_true q151
          refine start_ (n := 18) (S := fun w' => w'.cell? adr0 = some (.int .i64 ((rd_T39 l0 0).f0)) ∧ w'.cell? ⟨adr0.block, adr0.off + 1, none⟩ = some (.string ((rd_T39 l0 0).f1)) ∧ w'.cell? ⟨adr0.block, adr0.off + 2, none⟩ = some (.string ((rd_T39 l0 0).f2)) ∧ w'.cell? adr0 = some (.int .i64 ((rd_T39 l0 0).f0)) ∧ w'.cell? ⟨adr0.block, adr0.off + 1, none⟩ = some (.string ((rd_T39 l0 0).f1)) ∧ w'.cell? ⟨adr0.block, adr0.off + 2, none⟩ = some (.string ((rd_T39 l0 0).f2)) ∧ w'.cell? adr0 = some (.int .i64 ((rd_T39 l0 0).f0)) ∧ w'.cell? ⟨adr0.block, adr0.off + 1, none⟩ = some (.string ((rd_T39 l0 0).f1)) ∧ w'.cell? ⟨adr0.block, adr0.off + 2, none⟩ = some (.string ((rd_T39 l0 0).f2))) (ds := []) #[false, false, false, false, false, false, false, false, false, false, false, false, false, false, false, false, false, false] (by kernel_rfl) rfl rfl ⟨((HB.out.cell (World.block_lt_of_cell? w _ hw148_0)).trans hw148_0), ((HB.out.cell (World.block_lt_of_cell? w _ hw148_1)).trans hw148_1), ((HB.out.cell (World.block_lt_of_cell? w _ hw148_2)).trans hw148_2), ((HB.out.cell (World.block_lt_of_cell? w _ hw150_0)).trans hw150_0), ((HB.out.cell (World.block_lt_of_cell? w _ hw150_1)).trans hw150_1), ((HB.out.cell (World.block_lt_of_cell? w _ hw150_2)).trans hw150_2), ((HB.out.cell (World.block_lt_of_cell? w _ hw151_0)).trans hw151_0), ((HB.out.cell (World.block_lt_of_cell? w _ hw151_1)).trans hw151_1), ((HB.out.cell (World.block_lt_of_cell? w _ hw151_2)).trans hw151_2)⟩ (fun hHeld => ?_); refine with_tabW spec_l27Frame.tab1 spec_l27Frame.bits1 (fun HT_ HW_ => ?_)
          generalize w.drew = w15 at HB hx148_0 hx148_1 hx148_2 hx150_0 hx150_1 hx150_2 hx151_0 hx151_1 hx151_2 hHeld ⊢
          refine pu (i := 0) (N := some 4) (l' := #[true, false, false, false, false, false, false, false, false, false, false, false, false, false, false, false, false, false]) HT_ ?_
          refine pu (i := 1) (N := some 5) (l' := #[true, true, false, false, false, false, false, false, false, false, false, false, false, false, false, false, false, false]) HT_ ?_
          refine pu (i := 2) (N := some 6) (l' := #[true, true, true, false, false, false, false, false, false, false, false, false, false, false, false, false, false, false]) HT_ ?_
          refine pu (i := 6) (N := some 10) (l' := #[true, true, true, false, false, false, true, false, false, false, false, false, false, false, false, false, false, false]) HT_ ?_
          refine pu (i := 7) (N := some 11) (l' := #[true, true, true, false, false, false, true, true, false, false, false, false, false, false, false, false, false, false]) HT_ ?_
          refine pu (i := 8) (N := some 12) (l' := #[true, true, true, false, false, false, true, true, true, false, false, false, false, false, false, false, false, false]) HT_ ?_
          refine pu (i := 12) (N := some 16) (l' := #[true, true, true, false, false, false, true, true, true, false, false, false, true, false, false, false, false, false]) HT_ ?_
          refine pu (i := 13) (N := some 17) (l' := #[true, true, true, false, false, false, true, true, true, false, false, false, true, true, false, false, false, false]) HT_ ?_
          refine pu (i := 14) (N := some 18) (l' := #[true, true, true, false, false, false, true, true, true, false, false, false, true, true, true, false, false, false]) HT_ ?_
          refine take_ (i := 3) (N := some 7) (v := ?_) (a' := ?_) #[true, true, true, true, false, false, true, true, true, false, false, false, true, true, true, false, false, false] rfl rfl (take_ofW HT_.out HW_.out (by kernel_rfl)) (fun _ _ _ h => h) (Or.inl ⟨by rfl, ?_⟩) hHeld ?_ ?_
          rotate_left
          ·rintro w' ⟨s0, s1, s2, s3, s4, s5, s6, s7, s8⟩
           go_simp
           with_reducible rfl
          rotate_left
          ·simp only [Act.put, List.setIfInBounds_toArray, List.set_cons_zero, List.set_cons_succ, i64_w, i32_w]
           rfl
          refine take_ (i := 9) (N := some 13) (v := ?_) (a' := ?_) #[true, true, true, true, false, false, true, true, true, true, false, false, true, true, true, false, false, false] rfl rfl (take_ofW HT_.out HW_.out (by kernel_rfl)) (fun _ _ _ h => h) (Or.inl ⟨by rfl, ?_⟩) hHeld ?_ ?_
          rotate_left
          ·rintro w' ⟨s0, s1, s2, s3, s4, s5, s6, s7, s8⟩
           go_simp
           with_reducible rfl
          rotate_left
          ·simp only [Act.put, List.setIfInBounds_toArray, List.set_cons_zero, List.set_cons_succ, i64_w, i32_w]
           rfl
          refine take_ (i := 15) (N := some 19) (v := ?_) (a' := ?_) #[true, true, true, true, false, false, true, true, true, true, false, false, true, true, true, true, false, false] rfl rfl (take_ofW HT_.out HW_.out (by kernel_rfl)) (fun _ _ _ h => h) (Or.inl ⟨by rfl, ?_⟩) hHeld ?_ ?_
          rotate_left
          ·rintro w' ⟨s0, s1, s2, s3, s4, s5, s6, s7, s8⟩
           go_simp
           with_reducible rfl
          rotate_left
          ·simp only [Act.put, List.setIfInBounds_toArray, List.set_cons_zero, List.set_cons_succ, i64_w, i32_w]
           rfl
          refine one_ (i := 4) (N := some 8) #[true, true, true, true, true, false, true, true, true, true, false, false, true, true, true, true, false, false] rfl rfl (one_of HT_.out (by kernel_rfl)) (by decide) (fun K hK => ?_)
          refine goes_ Tryd.func84 (by kernel_rfl) rfl #[.int .i64 ((rd_T39 l0 0).f0)] (by rfl) rfl rfl zq25 ?_
          with_reducible refine (spec_l01Dec.calls k ((rd_T39 l0 0).f0) t149 _ A2.out).mono ?_
          rintro e w16 ⟨rfl, hb⟩
          refine ⟨_, rfl, ?_⟩
          replace HB := bs hb
          (try clear hb)
          (try clear hb2)
          (try clear hk)
          (try clear hi)
          refine hK.out _ _ ⟨((HB.out.cell (World.block_lt_of_cell? w _ hw148_0)).trans hw148_0), ((HB.out.cell (World.block_lt_of_cell? w _ hw148_1)).trans hw148_1), ((HB.out.cell (World.block_lt_of_cell? w _ hw148_2)).trans hw148_2), ((HB.out.cell (World.block_lt_of_cell? w _ hw150_0)).trans hw150_0), ((HB.out.cell (World.block_lt_of_cell? w _ hw150_1)).trans hw150_1), ((HB.out.cell (World.block_lt_of_cell? w _ hw150_2)).trans hw150_2), ((HB.out.cell (World.block_lt_of_cell? w _ hw151_0)).trans hw151_0), ((HB.out.cell (World.block_lt_of_cell? w _ hw151_1)).trans hw151_1), ((HB.out.cell (World.block_lt_of_cell? w _ hw151_2)).trans hw151_2)⟩ (fun hHeld => ?_)
          clear hK K
          refine norm_ (a' := ?_) ?_ ?_
          rotate_left
          ·show Act.put _ (some 8) _ = _
           simp only [Act.put, List.setIfInBounds_toArray, List.set_cons_zero, List.set_cons_succ, i64_w, i32_w]
           rfl
          refine pu (i := 5) (N := some 9) (l' := #[true, true, true, true, true, true, true, true, true, true, false, false, true, true, true, true, false, false]) HT_ ?_
          refine pu (i := 10) (N := some 14) (l' := #[true, true, true, true, true, true, true, true, true, true, true, false, true, true, true, true, false, false]) HT_ ?_
          refine pu (i := 11) (N := some 15) (l' := #[true, true, true, true, true, true, true, true, true, true, true, true, true, true, true, true, false, false]) HT_ ?_
          refine pu (i := 16) (N := some 20) (l' := #[true, true, true, true, true, true, true, true, true, true, true, true, true, true, true, true, true, false]) HT_ ?_
          refine pu (i := 17) (N := some 3) (l' := #[true, true, true, true, true, true, true, true, true, true, true, true, true, true, true, true, true, true]) HT_ ?_
          refine done_ (done_of HT_.out (by kernel_rfl)) ?_
          try go_wp2_with (first | ((with_reducible refine gate_callee (f := 84) rfl ?_); refine goesL_ (some 23) rfl rfl Tryd.func84 (by kernel_rfl) rfl #[.int .i64 (((((t149 ++ (⟨#[32]⟩ : ByteArray)) ++ ((rd_T39 l0 0).f1)) ++ (⟨#[32]⟩ : ByteArray)) ++ ((rd_T39 l0 0).f2)).size : Int)] rfl zq66 ?_; (with_reducible refine (spec_l01Dec.calls k (((((t149 ++ (⟨#[32]⟩ : ByteArray)) ++ ((rd_T39 l0 0).f1)) ++ (⟨#[32]⟩ : ByteArray)) ++ ((rd_T39 l0 0).f2)).size : Int) t152 _ A7.out).mono ?_); rintro e w17 ⟨rfl, hb⟩; refine ⟨_, rfl, ?_⟩; replace HB := bs hb; (try clear hb)) | ((with_reducible refine gate_callee (f := 38) rfl ?_); refine goq (some 29) Tryd.func38 #[.string ((((t149 ++ (⟨#[32]⟩ : ByteArray)) ++ ((rd_T39 l0 0).f1)) ++ (⟨#[32]⟩ : ByteArray)) ++ ((rd_T39 l0 0).f2))] ?_; (with_reducible refine (spec_SumOf.calls k ((((t149 ++ (⟨#[32]⟩ : ByteArray)) ++ ((rd_T39 l0 0).f1)) ++ (⟨#[32]⟩ : ByteArray)) ++ ((rd_T39 l0 0).f2)) t153 _ A11.out).mono ?_); rintro e w' ⟨rfl, ⟨nd, rfl⟩⟩; refine ⟨_, rfl, ?_⟩) | ((with_reducible refine gate_callee (f := 84) rfl ?_); refine goq (some 30) Tryd.func84 #[.int .i64 t153] ?_; (with_reducible refine (spec_l01Dec.calls k t153 t154 _ A12.out).mono ?_); rintro e w18 ⟨rfl, hb⟩; refine ⟨_, rfl, ?_⟩; replace HB := bs hb; (try clear hb)))
          go_ret
          exact ⟨er, bl⟩
         ·rw [if_neg c14] at H
          exact absurd H (by simp)
        ·rw [if_neg c13] at H
         exact absurd H (by simp)
       ·rw [if_neg c10] at H
        exact absurd H (by simp)
      ·rw [if_neg c9] at H
       exact absurd H (by simp)
     ·rw [if_neg c8] at H
      exact absurd H (by simp)
    ·rw [if_neg c6] at H
     exact absurd H (by simp)
   ·rw [if_neg c5] at H
    exact absurd H (by simp)
  ·rw [if_neg c4] at H
   exact absurd H (by simp)
 ·rw [if_neg c3] at H
  exact absurd H (by simp)

/-! ### spec_l27Frames: function 64 -/
def spec_l27Frames.l0 : Nat → ByteArray → Int → List Int → Int → Int → Option (ByteArray × Int × Int)
 | 0, _, _, _, _, _ => none
 | k + 1, x5, x6, x1000, x1001, x1002 => if x6 > 0 then ((spec_l27New.f x1000 x1001 x1002).bind fun bt155 => ((spec_l27Frame.f k [(⟨bt155.1, bt155.2.1, bt155.2.2.1⟩ : S39)]).bind fun t161 => (if x5.size + t161.size ≤ 9223372036854775807 then (spec_l27Frames.l0 k (x5 ++ t161) (wrap64 (x6 - 1)) x1000 bt155.2.2.2.1 bt155.2.2.2.2) else (none)))) else (some (x5, x1001, x1002))
def spec_l27Frames.f (k : Nat) (s0_0 : List Int) (s0_1 : Int) (s0_2 : Int) (a1 : Int) : Option (ByteArray × Int × Int) := spec_l27Frames.l0 k (⟨#[]⟩ : ByteArray) a1 s0_0 s0_1 s0_2
set_option maxHeartbeats 8000000 in
set_option maxRecDepth 100000 in
theorem spec_l27Frames.calls (k : Nat) (g : Nat) (s0_0 : List Int) (s0_1 : Int) (s0_2 : Int) (a1 : Int) (r1 : ByteArray) (r2 : Int) (r3 : Int) (w0 w : World) (hI : IsS104 w0 w g s0_0 s0_1 s0_2) (hB : Below w0.heap.size w0 w) (h : spec_l27Frames.f k s0_0 s0_1 s0_2 a1 = some (r1, r2, r3)) :
  Calls Tryd.prog 64 #[.pointer (some ⟨g, 0, none⟩), .int .i64 a1] w fun e w' => e = .returned (.string r1) ∧ IsS104 w0 w' g s0_0 r2 r3 ∧ Below w0.heap.size w0 w' ∧ KeepBut w w' g none := by
 have hu39 := Tryd.underlying39
 have HI0 := Aside0.mk hI
 have HK := Aside0.mk (KeepBut.refl w g none)
 have HL := Aside0.mk hB.size
 clear hI
 have HW0 := Aside0.mk hB.size
 have HB := Aside0.mk hB
 clear hB
 have H : (spec_l27Frames.l0 k (⟨#[]⟩ : ByteArray) a1 s0_0 s0_1 s0_2) = some (r1, r2, r3) := h
 clear h
 have H' := Aside0.mk H
 clear H
 go_enter Tryd.func64, Tryd.ntmps64
 go_wp2
 go_loopg [5, 6] k (fun kq v5 v6 w' => ∃ (x5_1 : ByteArray) (x6_1 : Int) (x1001_1 : Int) (x1002_1 : Int), v5 = .string x5_1 ∧ v6 = .int .i64 x6_1 ∧ Aside0 (spec_l27Frames.l0 kq x5_1 x6_1 s0_0 x1001_1 x1002_1 = some (r1, r2, r3)) ∧ Aside0 (kq ≤ k) ∧ Aside0 (IsS104 w0 w' g s0_0 x1001_1 x1002_1) ∧ Aside0 (KeepBut w w' g none) ∧ Aside0 (Below w0.heap.size w0 w'))
 case atStart => exact ⟨((⟨#[]⟩ : ByteArray)), (a1), (s0_1), (s0_2), sd, sd, H', ⟨Nat.le_refl _⟩, ⟨zq6⟩, ⟨zq3⟩, ⟨zq7⟩⟩
 case round =>
  clear H'
  try clear p2
  obtain ⟨x5_1, x6_1, x1001_1, x1002_1, rfl, rfl, HA, HK1, HI0, HK, HB⟩ := hrel
  cases gk with
  | zero => exact absurd HA.out (by simp [spec_l27Frames.l0])
  | succ k1 =>
   have H := HA.out
   clear HA
   simp only [spec_l27Frames.l0] at H
   by_cases c3 : x6_1 > 0
   ·rw [if_pos c3] at H
    have c3b0 : decide (0 < x6_1) = true := decide_eq_true c3
    clear c3
    replace H := Option.bind_eq_some_iff.mp H
    obtain ⟨⟨t155, t156, t157, t158, t159⟩, A40, H⟩ := H
    replace H : ((spec_l27Frame.f k1 [(⟨t155, t156, t157⟩ : S39)]).bind fun t161 => (if x5_1.size + t161.size ≤ 9223372036854775807 then (spec_l27Frames.l0 k1 (x5_1 ++ t161) (wrap64 (x6_1 - 1)) s0_0 t158 t159) else (none))) = some (r1, r2, r3) := H
    have A4 := Aside0.mk A40
    clear A40
    replace H := Option.bind_eq_some_iff.mp H
    obtain ⟨t161, A50, H⟩ := H
    have A5 := Aside0.mk A50
    clear A50
    by_cases c6 : x5_1.size + t161.size ≤ 9223372036854775807
    ·rw [if_pos c6] at H
     have c6b0 := eq_true c6
     have c6b1 : decide (x5_1.size + t161.size ≤ 9223372036854775807) = true := decide_eq_true c6
     try have c6b2 : (9223372036854775807 < x5_1.size + t161.size) = False := eq_false (Nat.not_lt.2 c6)
     have H' := Aside0.mk H
     clear H
     go_wp2_with (first | ((with_reducible refine gate_callee (f := 59) rfl ?_); refine goq (some 14) Tryd.func59 #[.pointer (some ⟨g, 0, none⟩)] ?_; (with_reducible refine (spec_l27New.calls g s0_0 x1001_1 x1002_1 t155 t156 t157 t158 t159 w0 _ ?side1 ?side2 A4.out).mono ?_); (case side1 => exact zq6); (case side2 => exact zq7); rintro e w7 ⟨rfl, hi, hb, hk⟩; refine ⟨_, rfl, ?_⟩; replace HK := Aside0.mk (KeepBut.trans zq3 hk (.inl rfl)); replace HB := Aside0.mk (hb); replace HI0 := Aside0.mk (hi); (try clear hb)) | ((with_reducible refine gate_dst (N := 7) rfl ?_); refine box_event ?hg (N := 7) ?hd (cs := #[.int .i64 0, .string (⟨#[]⟩ : ByteArray), .string (⟨#[]⟩ : ByteArray)]) (t := 39) ?hr ?_; (case hd => rfl); (case hg => rfl); (case hr => exact zq1); intro gb160 hg w8 hbox hb; replace HB := Aside0.mk (below_step zq7 hb); have BK160 := Aside0.mk (hbox); have GW160 := Aside0.mk ((by rw [hg]; exact (keep_size (w := w) (g := g) (row := none) zq3) : w.heap.size ≤ gb160)); have GE160 := Aside0.mk ((Nat.le_trans HW0.out (by rw [hg]; exact (keep_size (w := w) (g := g) (row := none) zq3) : w.heap.size ≤ gb160) : w0.heap.size ≤ gb160)); replace HK := Aside0.mk (KeepBut.trans zq3 (KeepBut.of_below hb g none) (.inl rfl)); have NB0_160 := Aside0.mk ((by rw [hg]; exact Nat.ne_of_lt (IsS104.lt (show IsS104 w0 _ g s0_0 t158 t159 from by repeat (first | (with_reducible first | exact HI0.out | apply IsS104.alloc | apply IsS104.drewN | apply IsS104.drew | apply IsS104.set_1 | apply IsS104.set_2) | exact HI0.out))) : g ≠ gb160)); have NB160_0 := Aside0.mk ((by rw [hg]; exact Nat.ne_of_gt (IsS104.lt (show IsS104 w0 _ g s0_0 t158 t159 from by repeat (first | (with_reducible first | exact HI0.out | apply IsS104.alloc | apply IsS104.drewN | apply IsS104.drew | apply IsS104.set_1 | apply IsS104.set_2) | exact HI0.out))) : gb160 ≠ g)); replace HI0 := Aside0.mk (IsS104.below zq6 hb); clear hb hbox hg; have hnb9 := NB160_0.out; have hnc9 := NB0_160.out; have hcz10_0 := cz BK160 0 rfl; have hcz10_1 := cz BK160 1 rfl; have hcz10_2 := cz BK160 2 rfl; have hfz10_0 := blk_frozen BK160.out 0; have hfz10_1 := blk_frozen BK160.out 1; have hfz10_2 := blk_frozen BK160.out 2) | ((with_reducible refine gate_callee (f := 62) rfl ?_); refine goq (some 16) Tryd.func62 #[.pointer (some ⟨gb160, 0, none⟩)] ?_; (with_reducible refine (spec_l27Frame.calls k1 ⟨gb160, 0, none⟩ [(⟨t155, t156, t157⟩ : S39)] t161 _ ?side1 ?side2 A5.out).mono ?_); (case side1 => refine C_blk (k := k39) (t := 39) (cs := [.int .i64 t155, .string t156, .string t157]) ?_ (k39_mk _ (⟨t155, t156, t157⟩ : S39)); (with_reducible repeat (first | refine blk_drewN ?_ _ | refine blk_drew ?_ | refine blk_alloc ?_ _)); refine blk_put (cs := #[.int .i64 t155, .string t156, .string (⟨#[]⟩ : ByteArray)]) ?_ 2 _ rfl; (with_reducible repeat (first | refine blk_drewN ?_ _ | refine blk_drew ?_ | refine blk_alloc ?_ _)); refine blk_put (cs := #[.int .i64 t155, .string (⟨#[]⟩ : ByteArray), .string (⟨#[]⟩ : ByteArray)]) ?_ 1 _ rfl; (with_reducible repeat (first | refine blk_drewN ?_ _ | refine blk_drew ?_ | refine blk_alloc ?_ _)); refine blk_put (cs := #[.int .i64 0, .string (⟨#[]⟩ : ByteArray), .string (⟨#[]⟩ : ByteArray)]) ?_ 0 _ rfl; (with_reducible repeat (first | refine blk_drewN ?_ _ | refine blk_drew ?_ | refine blk_alloc ?_ _)); exact BK160.out); (case side2 => rfl); rintro e w11 ⟨rfl, hb⟩; refine ⟨_, rfl, ?_⟩; replace BK160 := Aside0.mk (blk_below (g := gb160) (o := .cells #[.int .i64 t155, .string t156, .string t157] 39 (0, 0)) (by (with_reducible repeat (first | refine blk_drewN ?_ _ | refine blk_drew ?_ | refine blk_alloc ?_ _)); refine blk_put (cs := #[.int .i64 t155, .string t156, .string (⟨#[]⟩ : ByteArray)]) ?_ 2 _ rfl; (with_reducible repeat (first | refine blk_drewN ?_ _ | refine blk_drew ?_ | refine blk_alloc ?_ _)); refine blk_put (cs := #[.int .i64 t155, .string (⟨#[]⟩ : ByteArray), .string (⟨#[]⟩ : ByteArray)]) ?_ 1 _ rfl; (with_reducible repeat (first | refine blk_drewN ?_ _ | refine blk_drew ?_ | refine blk_alloc ?_ _)); refine blk_put (cs := #[.int .i64 0, .string (⟨#[]⟩ : ByteArray), .string (⟨#[]⟩ : ByteArray)]) ?_ 0 _ rfl; (with_reducible repeat (first | refine blk_drewN ?_ _ | refine blk_drew ?_ | refine blk_alloc ?_ _)); exact BK160.out) hb); replace HK := Aside0.mk (KeepBut.trans zq67 (KeepBut.of_below hb g none) (.inl rfl)); replace HB := Aside0.mk (below_step zq4 hb); replace HI0 := Aside0.mk (IsS104.below (show IsS104 w0 (((w8.setCell ⟨gb160, 0, none⟩ (.int .i64 t155)).setCell ⟨gb160, 1, none⟩ (.string t156)).setCell ⟨gb160, 2, none⟩ (.string t157)) g s0_0 t158 t159 from by repeat (first | (with_reducible first | exact HI0.out | apply IsS104.alloc | apply IsS104.drewN | apply IsS104.drew | apply IsS104.set_1 | apply IsS104.set_2 | refine IsS104.far ?_ NB0_160.out _) | exact HI0.out)) hb); (try clear hb)))
     go_roundg k1
     case measure => have := HK1.out; omega
     case rel => exact ⟨(x5_1 ++ t161), (wrap64 (x6_1 - 1)), (t158), (t159), sd, sd, H', ⟨zq11⟩, ⟨zq5⟩, ⟨zq67⟩, ⟨zq4⟩⟩
    ·rw [if_neg c6] at H
     exact absurd H (by simp)
   ·rw [if_neg c3] at H
    have c3b0 : decide (0 < x6_1) = false := decide_eq_false c3
    clear c3
    simp only [Option.some.injEq, Prod.mk.injEq] at H
    obtain ⟨rfl, rfl, rfl⟩ := H
    go_wp2
    go_ret
    exact ⟨er, zq6, zq7, zq3⟩

end Go.Proofs.YtajbomiaoncgiaaDoor.QPL
