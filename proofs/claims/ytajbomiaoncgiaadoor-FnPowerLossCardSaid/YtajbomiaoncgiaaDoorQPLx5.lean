-- Written by a program of this place (wip/tools/prn.py) out of the translation, for this claim. Lean checks it.
import Derived.Test.YtajbomiaoncgiaaDoorQPLz
import Derived.Test.YtajbomiaoncgiaaDoorQPLx3
import Derived.Test.YtajbomiaoncgiaaDoorQPLx4
namespace Go.Proofs.YtajbomiaoncgiaaDoor.QPL
open Go.RowKit Go.Proofs.YtajbomiaoncgiaaDoorQ Go.Proofs.YtajbomiaoncgiaaDoorW.PrintWords Go.Proofs.YtajbomiaoncgiaaDoorW.PrintLast Go.Proofs.YtajbomiaoncgiaaDoorW.PrintMore
attribute [local go_sem] max2_int min2_int max_two min_two max_three min_three max_four min_four   -- for this text's walks alone
set_option linter.unusedVariables false
set_option linter.unusedSimpArgs false

/-! ### spec_l27Draw: function 47 -/
mutual
def spec_l27Draw.j0 : Nat → Int → Bool → List Int → Int → Int → ByteArray → ByteArray → Option (ByteArray × ByteArray × Int × Int)
 | 0, _, _, _, _, _, _, _ => none
 | k + 1, x16, x17, x1000, x1001, x1002, x170000, x170001 => if x17 = true then (if x170000.size + 8 ≤ 9223372036854775807 then ((spec_l00Src_one.f x1000 x1001 x1002 2).bind fun bt179 => (if bt179.1 = true then (some (x170000 ++ (⟨#[57, 58, 53, 32, 115, 97, 105, 108]⟩ : ByteArray), (⟨#[]⟩ : ByteArray), bt179.2.1, bt179.2.2)) else (some (x170000 ++ (⟨#[57, 58, 53, 32, 115, 97, 105, 108]⟩ : ByteArray), x170001, bt179.2.1, bt179.2.2)))) else (none)) else (if x16 = 2 then (if x170001.size + 1 ≤ 9223372036854775807 then (some (x170000, x170001 ++ (⟨#[49]⟩ : ByteArray), x1001, x1002)) else (none)) else (if x16 = 3 then ((spec_l00Src_pick.f x1000 x1001 x1002 2).bind fun bt182 => (spec_l27Draw.l0 k (wrap64 ((wrap64 (4000 - (x170001.size : Int))) + bt182.1)) x1000 bt182.2.1 bt182.2.2 x170000 x170001)) else (some (x170000, x170001, x1001, x1002))))
def spec_l27Draw.l0 : Nat → Int → List Int → Int → Int → ByteArray → ByteArray → Option (ByteArray × ByteArray × Int × Int)
 | 0, _, _, _, _, _, _ => none
 | k + 1, x4, x1000, x1001, x1002, x170000, x170001 => if (x170000.size : Int) < x4 then (if x170000.size + 1 ≤ 9223372036854775807 then (spec_l27Draw.l0 k x4 x1000 x1001 x1002 (x170000 ++ (⟨#[120]⟩ : ByteArray)) x170001) else (none)) else (some (x170000, x170001, x1001, x1002))
end
def spec_l27Draw.f (k : Nat) (s0_0 : List Int) (s0_1 : Int) (s0_2 : Int) : Option (ByteArray × ByteArray × Int × Int) := (spec_l00Src_pick.f s0_0 s0_1 s0_2 5).bind fun bt163 => ((spec_l27Frames.f k s0_0 bt163.2.1 bt163.2.2 bt163.1).bind fun bt166 => ((spec_l00Src_pick.f s0_0 bt166.2.1 bt166.2.2 4).bind fun bt170 => ((spec_l27Frames.f k s0_0 bt170.2.1 bt170.2.2 bt170.1).bind fun bt173 => ((spec_l00Src_pick.f s0_0 bt173.2.1 bt173.2.2 12).bind fun bt176 => (if bt176.1 = 0 then (spec_l27Draw.j0 k bt176.1 (bt176.1 == 0) s0_0 bt176.2.1 bt176.2.2 bt166.1 bt173.1) else (spec_l27Draw.j0 k bt176.1 (bt176.1 == 1) s0_0 bt176.2.1 bt176.2.2 bt166.1 bt173.1))))))
def spec_l27Draw.T12 : Bool × List (List Nat × List Nat) := (true, [([], []), ([0], [0]), ([1], [1]), ([2], [2]), ([], []), ([4], [4]), ([3, 5], [3, 5]), ([6, 5, 0, 1, 2, 3, 4, 5, 6], [6])])
def spec_l27Draw.B12 : List Nat := [0, 1, 3, 7, 0, 16, 63, 127]
theorem spec_l27Draw.tab12 : rtab .any (opsOf Tryd.f47 12) = spec_l27Draw.T12 := by kernel_rfl
theorem spec_l27Draw.bits12 : waitsOk spec_l27Draw.T12.2 spec_l27Draw.B12 = true := by kernel_rfl
set_option maxHeartbeats 8000000 in
set_option maxRecDepth 100000 in
theorem spec_l27Draw.calls (k : Nat) (g : Nat) (s0_0 : List Int) (s0_1 : Int) (s0_2 : Int) (r1 : ByteArray) (r2 : ByteArray) (r3 : Int) (r4 : Int) (w0 w : World) (hI : IsS104 w0 w g s0_0 s0_1 s0_2) (hB : Below w0.heap.size w0 w) (h : spec_l27Draw.f k s0_0 s0_1 s0_2 = some (r1, r2, r3, r4)) :
  Calls Tryd.prog 47 #[.pointer (some ⟨g, 0, none⟩)] w fun e w' => e = .returned (.agg #[.string r1, .string r2]) ∧ IsS104 w0 w' g s0_0 r3 r4 ∧ Below w0.heap.size w0 w' ∧ KeepBut w w' g none := by
 have hu25 := Tryd.underlying25
 have HI0 := Aside0.mk hI
 have HK := Aside0.mk (KeepBut.refl w g none)
 have HL := Aside0.mk hB.size
 clear hI
 have HW0 := Aside0.mk hB.size
 have HB := Aside0.mk hB
 clear hB
 have H : ((spec_l00Src_pick.f s0_0 s0_1 s0_2 5).bind fun bt163 => ((spec_l27Frames.f k s0_0 bt163.2.1 bt163.2.2 bt163.1).bind fun bt166 => ((spec_l00Src_pick.f s0_0 bt166.2.1 bt166.2.2 4).bind fun bt170 => ((spec_l27Frames.f k s0_0 bt170.2.1 bt170.2.2 bt170.1).bind fun bt173 => ((spec_l00Src_pick.f s0_0 bt173.2.1 bt173.2.2 12).bind fun bt176 => (if bt176.1 = 0 then (spec_l27Draw.j0 k bt176.1 (bt176.1 == 0) s0_0 bt176.2.1 bt176.2.2 bt166.1 bt173.1) else (spec_l27Draw.j0 k bt176.1 (bt176.1 == 1) s0_0 bt176.2.1 bt176.2.2 bt166.1 bt173.1))))))) = some (r1, r2, r3, r4) := h
 clear h
 replace H := Option.bind_eq_some_iff.mp H
 obtain ⟨⟨t163, t164, t165⟩, A20, H⟩ := H
 dsimp only at H
 have A2 := Aside0.mk A20
 clear A20
 replace H := Option.bind_eq_some_iff.mp H
 obtain ⟨⟨t166, t167, t168⟩, A30, H⟩ := H
 dsimp only at H
 have A3 := Aside0.mk A30
 clear A30
 replace H := Option.bind_eq_some_iff.mp H
 obtain ⟨⟨t170, t171, t172⟩, A40, H⟩ := H
 dsimp only at H
 have A4 := Aside0.mk A40
 clear A40
 replace H := Option.bind_eq_some_iff.mp H
 obtain ⟨⟨t173, t174, t175⟩, A50, H⟩ := H
 replace H : ((spec_l00Src_pick.f s0_0 t174 t175 12).bind fun bt176 => (if bt176.1 = 0 then (spec_l27Draw.j0 k bt176.1 (bt176.1 == 0) s0_0 bt176.2.1 bt176.2.2 t166 t173) else (spec_l27Draw.j0 k bt176.1 (bt176.1 == 1) s0_0 bt176.2.1 bt176.2.2 t166 t173))) = some (r1, r2, r3, r4) := H
 have A5 := Aside0.mk A50
 clear A50
 replace H := Option.bind_eq_some_iff.mp H
 obtain ⟨⟨t176, t177, t178⟩, A60, H⟩ := H
 replace H : (if t176 = 0 then (spec_l27Draw.j0 k t176 (t176 == 0) s0_0 t177 t178 t166 t173) else (spec_l27Draw.j0 k t176 (t176 == 1) s0_0 t177 t178 t166 t173)) = some (r1, r2, r3, r4) := H
 have A6 := Aside0.mk A60
 clear A60
 have HC7 := Aside0.mk H
 clear H
 go_enter Tryd.func47, Tryd.ntmps47
 go_upto_if 17 with (first | ((with_reducible refine gate_dst (N := 2) rfl ?_); refine box_event ?hg (N := 2) ?hd (cs := #[.string (⟨#[]⟩ : ByteArray), .string (⟨#[]⟩ : ByteArray)]) (t := 25) ?hr ?_; (case hd => rfl); (case hg => rfl); (case hr => exact zq1); intro gb162 hg w8 hbox hb; replace HB := Aside0.mk (below_step zq7 hb); have BK162 := Aside0.mk (hbox); have GW162 := Aside0.mk ((by rw [hg]; exact (keep_size (w := w) (g := g) (row := none) zq3) : w.heap.size ≤ gb162)); have GE162 := Aside0.mk ((Nat.le_trans HW0.out (by rw [hg]; exact (keep_size (w := w) (g := g) (row := none) zq3) : w.heap.size ≤ gb162) : w0.heap.size ≤ gb162)); replace HK := Aside0.mk (KeepBut.trans zq3 (KeepBut.of_below hb g none) (.inl rfl)); have NB0_162 := Aside0.mk ((by rw [hg]; exact Nat.ne_of_lt (IsS104.lt (show IsS104 w0 _ g s0_0 s0_1 s0_2 from by repeat (first | (with_reducible first | exact HI0.out | apply IsS104.alloc | apply IsS104.drewN | apply IsS104.drew | apply IsS104.set_1 | apply IsS104.set_2) | exact HI0.out))) : g ≠ gb162)); have NB162_0 := Aside0.mk ((by rw [hg]; exact Nat.ne_of_gt (IsS104.lt (show IsS104 w0 _ g s0_0 s0_1 s0_2 from by repeat (first | (with_reducible first | exact HI0.out | apply IsS104.alloc | apply IsS104.drewN | apply IsS104.drew | apply IsS104.set_1 | apply IsS104.set_2) | exact HI0.out))) : gb162 ≠ g)); replace HI0 := Aside0.mk (IsS104.below zq6 hb); clear hb hbox hg) | ((with_reducible refine gate_callee (f := 50) rfl ?_); refine goq (some 7) Tryd.func50 #[.pointer (some ⟨g, 0, none⟩), .int .i64 5] ?_; (with_reducible refine (spec_l00Src_pick.calls g s0_0 s0_1 s0_2 5 t163 t164 t165 w0 _ ?side1 ?side2 A2.out).mono ?_); (case side1 => exact zq5); (case side2 => exact zq4); rintro e w9 ⟨rfl, hi, hb, hk⟩; refine ⟨_, rfl, ?_⟩; replace BK162 := Aside0.mk (KeepBut.blk hk (g' := gb162) (o := .cells #[.string (⟨#[]⟩ : ByteArray), .string (⟨#[]⟩ : ByteArray)] 25 (0, 0)) zq0 NB162_0.out (by simp)); replace HK := Aside0.mk (KeepBut.trans zq26 hk (.inl rfl)); replace HB := Aside0.mk (hb); replace HI0 := Aside0.mk (hi); (try clear hb)) | ((with_reducible refine gate_callee (f := 64) rfl ?_); refine goq (some 8) Tryd.func64 #[.pointer (some ⟨g, 0, none⟩), .int .i64 t163] ?_; (with_reducible refine (spec_l27Frames.calls k g s0_0 t164 t165 t163 t166 t167 t168 w0 _ ?side1 ?side2 A3.out).mono ?_); (case side1 => exact zq5); (case side2 => exact zq4); rintro e w10 ⟨rfl, hi, hb, hk⟩; refine ⟨_, rfl, ?_⟩; replace BK162 := Aside0.mk (KeepBut.blk hk (g' := gb162) (o := .cells #[.string (⟨#[]⟩ : ByteArray), .string (⟨#[]⟩ : ByteArray)] 25 (0, 0)) zq0 NB162_0.out (by simp)); replace HK := Aside0.mk (KeepBut.trans zq26 hk (.inl rfl)); replace HB := Aside0.mk (hb); replace HI0 := Aside0.mk (hi); (try clear hb)) | ((with_reducible refine gate_dst (N := 3) rfl ?_); refine box_event ?hg (N := 3) ?hd (cs := #[.string (⟨#[]⟩ : ByteArray), .string (⟨#[]⟩ : ByteArray)]) (t := 25) ?hr ?_; (case hd => rfl); (case hg => rfl); (case hr => exact zq1); intro gb169 hg w11 hbox hb; replace HB := Aside0.mk (below_step zq4 hb); have BK169 := Aside0.mk (hbox); have GW169 := Aside0.mk ((by rw [hg]; exact (keep_size (w := w) (g := g) (row := none) zq26) : w.heap.size ≤ gb169)); have GE169 := Aside0.mk ((Nat.le_trans HW0.out (by rw [hg]; exact (keep_size (w := w) (g := g) (row := none) zq26) : w.heap.size ≤ gb169) : w0.heap.size ≤ gb169)); replace HK := Aside0.mk (KeepBut.trans zq26 (KeepBut.of_below hb g none) (.inl rfl)); have NB162_169 := nlt BK162 hg; have NB169_162 := ngt BK162 hg; replace BK162 := kb BK162 hb; have NB0_169 := Aside0.mk ((by rw [hg]; exact Nat.ne_of_lt (IsS104.lt (show IsS104 w0 _ g s0_0 t167 t168 from by repeat (first | (with_reducible first | exact HI0.out | apply IsS104.alloc | apply IsS104.drewN | apply IsS104.drew | apply IsS104.set_1 | apply IsS104.set_2 | refine IsS104.far ?_ NB0_162.out _) | exact HI0.out))) : g ≠ gb169)); have NB169_0 := Aside0.mk ((by rw [hg]; exact Nat.ne_of_gt (IsS104.lt (show IsS104 w0 _ g s0_0 t167 t168 from by repeat (first | (with_reducible first | exact HI0.out | apply IsS104.alloc | apply IsS104.drewN | apply IsS104.drew | apply IsS104.set_1 | apply IsS104.set_2 | refine IsS104.far ?_ NB0_162.out _) | exact HI0.out))) : gb169 ≠ g)); replace HI0 := Aside0.mk (IsS104.below zq5 hb); clear hb hbox hg; have hnb12 := NB169_162.out; have hnc12 := NB162_169.out; have hnb13 := NB169_0.out; have hnc13 := NB0_169.out; have hcz14_0 := cz BK169 0 rfl; have hcz14_1 := cz BK169 1 rfl; have hfz14_0 := blk_frozen BK169.out 0; have hfz14_1 := blk_frozen BK169.out 1) | ((with_reducible refine gate_callee (f := 50) rfl ?_); refine goq (some 12) Tryd.func50 #[.pointer (some ⟨g, 0, none⟩), .int .i64 4] ?_; (with_reducible refine (spec_l00Src_pick.calls g s0_0 t167 t168 4 t170 t171 t172 w0 _ ?side1 ?side2 A4.out).mono ?_); (case side1 => exact zq5); (case side2 => exact zq4); rintro e w15 ⟨rfl, hi, hb, hk⟩; refine ⟨_, rfl, ?_⟩; replace BK162 := Aside0.mk (KeepBut.blk hk (g' := gb162) (o := .cells #[.string (⟨#[]⟩ : ByteArray), .string (⟨#[]⟩ : ByteArray)] 25 (0, 0)) zq2 NB162_0.out (by simp)); replace BK169 := Aside0.mk (KeepBut.blk hk (g' := gb169) (o := .cells #[.string t166, .string (⟨#[]⟩ : ByteArray)] 25 (0, 0)) zq68 NB169_0.out (by simp)); replace HK := Aside0.mk (KeepBut.trans zq9 hk (.inl rfl)); replace HB := Aside0.mk (hb); replace HI0 := Aside0.mk (hi); (try clear hb)) | ((with_reducible refine gate_callee (f := 64) rfl ?_); refine goq (some 13) Tryd.func64 #[.pointer (some ⟨g, 0, none⟩), .int .i64 t170] ?_; (with_reducible refine (spec_l27Frames.calls k g s0_0 t171 t172 t170 t173 t174 t175 w0 _ ?side1 ?side2 A5.out).mono ?_); (case side1 => exact zq5); (case side2 => exact zq4); rintro e w16 ⟨rfl, hi, hb, hk⟩; refine ⟨_, rfl, ?_⟩; replace BK162 := Aside0.mk (KeepBut.blk hk (g' := gb162) (o := .cells #[.string (⟨#[]⟩ : ByteArray), .string (⟨#[]⟩ : ByteArray)] 25 (0, 0)) zq0 NB162_0.out (by simp)); replace BK169 := Aside0.mk (KeepBut.blk hk (g' := gb169) (o := .cells #[.string t166, .string (⟨#[]⟩ : ByteArray)] 25 (0, 0)) zq0 NB169_0.out (by simp)); replace HK := Aside0.mk (KeepBut.trans zq9 hk (.inl rfl)); replace HB := Aside0.mk (hb); replace HI0 := Aside0.mk (hi); (try clear hb); have hcz17_0 := cz BK169 0 rfl; have hcz17_1 := cz BK169 1 rfl; have hfz17_0 := blk_frozen BK169.out 0; have hfz17_1 := blk_frozen BK169.out 1) | ((with_reducible refine gate_callee (f := 50) rfl ?_); refine goq (some 16) Tryd.func50 #[.pointer (some ⟨g, 0, none⟩), .int .i64 12] ?_; (with_reducible refine (spec_l00Src_pick.calls g s0_0 t174 t175 12 t176 t177 t178 w0 _ ?side1 ?side2 A6.out).mono ?_); (case side1 => exact zq5); (case side2 => exact zq4); rintro e w18 ⟨rfl, hi, hb, hk⟩; refine ⟨_, rfl, ?_⟩; replace BK162 := Aside0.mk (KeepBut.blk hk (g' := gb162) (o := .cells #[.string (⟨#[]⟩ : ByteArray), .string (⟨#[]⟩ : ByteArray)] 25 (0, 0)) zq34 NB162_0.out (by simp)); replace BK169 := Aside0.mk (KeepBut.blk hk (g' := gb169) (o := .cells #[.string t166, .string t173] 25 (0, 0)) (by (with_reducible repeat (first | refine blk_drewN ?_ _ | refine blk_drew ?_ | refine blk_alloc ?_ _)); refine blk_put (cs := #[.string t166, .string (⟨#[]⟩ : ByteArray)]) ?_ 1 _ rfl; (with_reducible repeat (first | refine blk_drewN ?_ _ | refine blk_drew ?_ | refine blk_alloc ?_ _)); exact BK169.out) NB169_0.out (by simp)); replace HK := Aside0.mk (KeepBut.trans zq9 hk (.inl rfl)); replace HB := Aside0.mk (hb); replace HI0 := Aside0.mk (hi); (try clear hb)))
 (try simp only [Act.put, List.setIfInBounds_toArray, List.set_cons_zero, List.set_cons_succ])
 go_cut [17] (fun v17 wc => ∃ (kq : Nat) (x17_6 : Bool), v17 = .bool x17_6 ∧ Aside0 (spec_l27Draw.j0 kq t176 x17_6 s0_0 t177 t178 t166 t173 = some (r1, r2, r3, r4)) ∧ Aside0 (kq ≤ k) ∧ Aside0 (wc.heap[gb162]? = some (.cells #[.string (⟨#[]⟩ : ByteArray), .string (⟨#[]⟩ : ByteArray)] 25 (0, 0))) ∧ Aside0 (wc.heap[gb169]? = some (.cells #[.string t166, .string t173] 25 (0, 0))) ∧ Aside0 (IsS104 w0 wc g s0_0 t177 t178) ∧ Aside0 (KeepBut w wc g none) ∧ Aside0 (Below w0.heap.size w0 wc))
 case first =>
  have H := HC7.out
  clear HC7
  by_cases c19 : t176 = 0
  ·rw [if_pos c19] at H
   have c19b0 : (t176 == 0) = true := beq_iff_eq.mpr c19
   have c19b1 : (t176 != 0) = false := bne_eq_false_iff_eq.mpr c19
   clear c19
   (first | rw [c19b0] | (simp only [i64_w, i32_w]; rw [c19b0]) | skip)
   have H' := Aside0.mk H
   clear H
   go_wp2
   go_meet
   case rel => exact ⟨_, ((t176 == 0)), sd, H', ⟨om⟩, ⟨zq0⟩, ⟨zq0⟩, ⟨zq5⟩, ⟨zq9⟩, ⟨zq4⟩⟩
  ·rw [if_neg c19] at H
   have c19b0 : (t176 == 0) = false := beq_eq_false_iff_ne.mpr c19
   have c19b1 : (t176 != 0) = true := bne_iff_ne.mpr c19
   (first | rw [c19b0] | (simp only [i64_w, i32_w]; rw [c19b0]) | skip)
   have H' := Aside0.mk H
   clear H
   go_wp2
   go_meet
   case rel => exact ⟨_, ((t176 == 1)), sd, H', ⟨om⟩, ⟨zq0⟩, ⟨zq0⟩, ⟨zq5⟩, ⟨zq9⟩, ⟨zq4⟩⟩
 case rest =>
  clear HC7
  try clear c1; try clear p2; try clear c4; try clear c5; try clear c6; try clear c12; try clear c13; try clear c19; try clear c19b0; try clear c19b1; try clear hcz14_0; try clear hcz14_1; try clear hcz17_0; try clear hcz17_1; try clear hfz14_0; try clear hfz14_1; try clear hfz17_0; try clear hfz17_1
  obtain ⟨kq, x17_6, rfl, HA, HJ6, BK162, BK169, HI0, HK, HB⟩ := hcut
  cases kq with
  | zero => exact absurd HA.out (by simp [spec_l27Draw.j0])
  | succ kj6 =>
   have H := HA.out
   clear HA
   simp only [spec_l27Draw.j0] at H
   by_cases c20 : x17_6 = true
   ·subst c20
    rw [if_pos rfl] at H
    by_cases c21 : t166.size + 8 ≤ 9223372036854775807
    ·rw [if_pos c21] at H
     have c21b0 := eq_true c21
     have c21b1 : decide (t166.size + 8 ≤ 9223372036854775807) = true := decide_eq_true c21
     try have c21b2 : (9223372036854775807 < t166.size + 8) = False := eq_false (Nat.not_lt.2 c21)
     replace H := Option.bind_eq_some_iff.mp H
     obtain ⟨⟨t179, t180, t181⟩, A220, H⟩ := H
     replace H : (if t179 = true then (some (t166 ++ (⟨#[57, 58, 53, 32, 115, 97, 105, 108]⟩ : ByteArray), (⟨#[]⟩ : ByteArray), t180, t181)) else (some (t166 ++ (⟨#[57, 58, 53, 32, 115, 97, 105, 108]⟩ : ByteArray), t173, t180, t181))) = some (r1, r2, r3, r4) := H
     have A22 := Aside0.mk A220
     clear A220
     by_cases c23 : t179 = true
     ·subst c23
      rw [if_pos rfl] at H
      simp only [Option.some.injEq, Prod.mk.injEq] at H
      obtain ⟨rfl, rfl, rfl, rfl⟩ := H
      have hnb24 := NB169_162.out
      have hnc24 := NB162_169.out
      have hnb25 := NB169_0.out
      have hnc25 := NB0_169.out
      have hcz26_0 := cz BK169 0 rfl
      have hcz26_1 := cz BK169 1 rfl
      have hfz26_0 := blk_frozen BK169.out 0
      have hfz26_1 := blk_frozen BK169.out 1
      go_wp2_with (first | ((with_reducible refine gate_callee (f := 48) rfl ?_); refine goq (some 25) Tryd.func48 #[.pointer (some ⟨g, 0, none⟩), .int .i64 2] ?_; (with_reducible refine (spec_l00Src_one.calls g s0_0 t177 t178 2 true t180 t181 w0 _ ?side1 ?side2 A22.out).mono ?_); (case side1 => exact zq5); (case side2 => exact zq4); rintro e w27 ⟨rfl, hi, hb, hk⟩; refine ⟨_, rfl, ?_⟩; replace BK162 := Aside0.mk (KeepBut.blk hk (g' := gb162) (o := .cells #[.string (⟨#[]⟩ : ByteArray), .string (⟨#[]⟩ : ByteArray)] 25 (0, 0)) zq34 NB162_0.out (by simp)); replace BK169 := Aside0.mk (KeepBut.blk hk (g' := gb169) (o := .cells #[.string (t166 ++ (⟨#[57, 58, 53, 32, 115, 97, 105, 108]⟩ : ByteArray)), .string t173] 25 (0, 0)) zq69 NB169_0.out (by simp)); replace HK := Aside0.mk (KeepBut.trans zq9 hk (.inl rfl)); replace HB := Aside0.mk (hb); replace HI0 := Aside0.mk (hi); (try clear hb); have hcz28_0 := cz BK169 0 rfl; have hcz28_1 := cz BK169 1 rfl; have hfz28_0 := blk_frozen BK169.out 0; have hfz28_1 := blk_frozen BK169.out 1; have hnb29 := NB162_0.out; have hnc29 := NB0_162.out; have hcz30_0 := cz BK162 0 rfl; have hcz30_1 := cz BK162 1 rfl; have hfz30_0 := blk_frozen BK162.out 0; have hfz30_1 := blk_frozen BK162.out 1))
      refine bodyPost_ret (results_cell_row rfl _ _ gb162 25 #[.string (t166 ++ (⟨#[57, 58, 53, 32, 115, 97, 105, 108]⟩ : ByteArray)), .string (⟨#[]⟩ : ByteArray)] (0, 0) _ rfl (by (with_reducible repeat (first | refine blk_drewN ?_ _ | refine blk_drew ?_ | refine blk_alloc ?_ _)); refine blk_put (cs := #[.string (t166 ++ (⟨#[57, 58, 53, 32, 115, 97, 105, 108]⟩ : ByteArray)), .string (⟨#[]⟩ : ByteArray)]) ?_ 1 _ rfl; (with_reducible repeat (first | refine blk_drewN ?_ _ | refine blk_drew ?_ | refine blk_alloc ?_ _)); refine blk_put (cs := #[.string (⟨#[]⟩ : ByteArray), .string (⟨#[]⟩ : ByteArray)]) ?_ 0 _ rfl; (with_reducible repeat (first | refine blk_drewN ?_ _ | refine blk_drew ?_ | refine blk_alloc ?_ _)); refine blk_far ?_ NB162_169.out _; (with_reducible repeat (first | refine blk_drewN ?_ _ | refine blk_drew ?_ | refine blk_alloc ?_ _)); exact BK162.out) Tryd.underlying25 rfl (by kernel_rfl)) rfl ?_
      exact ⟨er, zq5, zq4, zq9⟩
     ·replace c23 := Bool.eq_false_iff.mpr c23
      subst c23
      rw [if_neg (show ¬ (false = true) by decide)] at H
      simp only [Option.some.injEq, Prod.mk.injEq] at H
      obtain ⟨rfl, rfl, rfl, rfl⟩ := H
      have hnb31 := NB169_162.out
      have hnc31 := NB162_169.out
      have hnb32 := NB169_0.out
      have hnc32 := NB0_169.out
      have hcz33_0 := cz BK169 0 rfl
      have hcz33_1 := cz BK169 1 rfl
      have hfz33_0 := blk_frozen BK169.out 0
      have hfz33_1 := blk_frozen BK169.out 1
      go_wp2_with (first | ((with_reducible refine gate_callee (f := 48) rfl ?_); refine goq (some 25) Tryd.func48 #[.pointer (some ⟨g, 0, none⟩), .int .i64 2] ?_; (with_reducible refine (spec_l00Src_one.calls g s0_0 t177 t178 2 false t180 t181 w0 _ ?side1 ?side2 A22.out).mono ?_); (case side1 => exact zq5); (case side2 => exact zq4); rintro e w34 ⟨rfl, hi, hb, hk⟩; refine ⟨_, rfl, ?_⟩; replace BK162 := Aside0.mk (KeepBut.blk hk (g' := gb162) (o := .cells #[.string (⟨#[]⟩ : ByteArray), .string (⟨#[]⟩ : ByteArray)] 25 (0, 0)) zq34 NB162_0.out (by simp)); replace BK169 := Aside0.mk (KeepBut.blk hk (g' := gb169) (o := .cells #[.string (t166 ++ (⟨#[57, 58, 53, 32, 115, 97, 105, 108]⟩ : ByteArray)), .string t173] 25 (0, 0)) zq69 NB169_0.out (by simp)); replace HK := Aside0.mk (KeepBut.trans zq9 hk (.inl rfl)); replace HB := Aside0.mk (hb); replace HI0 := Aside0.mk (hi); (try clear hb); have hcz35_0 := cz BK169 0 rfl; have hcz35_1 := cz BK169 1 rfl; have hfz35_0 := blk_frozen BK169.out 0; have hfz35_1 := blk_frozen BK169.out 1; have hnb36 := NB162_0.out; have hnc36 := NB0_162.out; have hcz37_0 := cz BK162 0 rfl; have hcz37_1 := cz BK162 1 rfl; have hfz37_0 := blk_frozen BK162.out 0; have hfz37_1 := blk_frozen BK162.out 1))
      refine bodyPost_ret (results_cell_row rfl _ _ gb162 25 #[.string (t166 ++ (⟨#[57, 58, 53, 32, 115, 97, 105, 108]⟩ : ByteArray)), .string t173] (0, 0) _ rfl (by (with_reducible repeat (first | refine blk_drewN ?_ _ | refine blk_drew ?_ | refine blk_alloc ?_ _)); refine blk_put (cs := #[.string (t166 ++ (⟨#[57, 58, 53, 32, 115, 97, 105, 108]⟩ : ByteArray)), .string (⟨#[]⟩ : ByteArray)]) ?_ 1 _ rfl; (with_reducible repeat (first | refine blk_drewN ?_ _ | refine blk_drew ?_ | refine blk_alloc ?_ _)); refine blk_put (cs := #[.string (⟨#[]⟩ : ByteArray), .string (⟨#[]⟩ : ByteArray)]) ?_ 0 _ rfl; (with_reducible repeat (first | refine blk_drewN ?_ _ | refine blk_drew ?_ | refine blk_alloc ?_ _)); exact BK162.out) Tryd.underlying25 rfl (by kernel_rfl)) rfl ?_
      exact ⟨er, zq5, zq4, zq9⟩
    ·rw [if_neg c21] at H
     exact absurd H (by simp)
   ·replace c20 := Bool.eq_false_iff.mpr c20
    subst c20
    rw [if_neg (show ¬ (false = true) by decide)] at H
    by_cases c38 : t176 = 2
    ·rw [if_pos c38] at H
     have c38b0 : (t176 == 2) = true := beq_iff_eq.mpr c38
     have c38b1 : (t176 != 2) = false := bne_eq_false_iff_eq.mpr c38
     clear c38
     by_cases c39 : t173.size + 1 ≤ 9223372036854775807
     ·rw [if_pos c39] at H
      have c39b0 := eq_true c39
      have c39b1 : decide (t173.size + 1 ≤ 9223372036854775807) = true := decide_eq_true c39
      try have c39b2 : (9223372036854775807 < t173.size + 1) = False := eq_false (Nat.not_lt.2 c39)
      simp only [Option.some.injEq, Prod.mk.injEq] at H
      obtain ⟨rfl, rfl, rfl, rfl⟩ := H
      have hnb40 := NB169_162.out
      have hnc40 := NB162_169.out
      have hnb41 := NB169_0.out
      have hnc41 := NB0_169.out
      have hcz42_0 := cz BK169 0 rfl
      have hcz42_1 := cz BK169 1 rfl
      have hfz42_0 := blk_frozen BK169.out 0
      have hfz42_1 := blk_frozen BK169.out 1
      have hnb43 := NB162_0.out
      have hnc43 := NB0_162.out
      have hcz44_0 := cz BK162 0 rfl
      have hcz44_1 := cz BK162 1 rfl
      have hfz44_0 := blk_frozen BK162.out 0
      have hfz44_1 := blk_frozen BK162.out 1
      go_wp2
      refine bodyPost_ret (results_cell_row rfl _ _ gb162 25 #[.string t166, .string (t173 ++ (⟨#[49]⟩ : ByteArray))] (0, 0) _ rfl (by (with_reducible repeat (first | refine blk_drewN ?_ _ | refine blk_drew ?_ | refine blk_alloc ?_ _)); refine blk_put (cs := #[.string t166, .string (⟨#[]⟩ : ByteArray)]) ?_ 1 _ rfl; (with_reducible repeat (first | refine blk_drewN ?_ _ | refine blk_drew ?_ | refine blk_alloc ?_ _)); refine blk_put (cs := #[.string (⟨#[]⟩ : ByteArray), .string (⟨#[]⟩ : ByteArray)]) ?_ 0 _ rfl; (with_reducible repeat (first | refine blk_drewN ?_ _ | refine blk_drew ?_ | refine blk_alloc ?_ _)); refine blk_far ?_ NB162_169.out _; (with_reducible repeat (first | refine blk_drewN ?_ _ | refine blk_drew ?_ | refine blk_alloc ?_ _)); exact BK162.out) Tryd.underlying25 rfl (by kernel_rfl)) rfl ?_
      exact ⟨er, zq5, zq4, zq9⟩
     ·rw [if_neg c39] at H
      exact absurd H (by simp)
    ·rw [if_neg c38] at H
     have c38b0 : (t176 == 2) = false := beq_eq_false_iff_ne.mpr c38
     have c38b1 : (t176 != 2) = true := bne_iff_ne.mpr c38
     by_cases c45 : t176 = 3
     ·rw [if_pos c45] at H
      have c45b0 : (t176 == 3) = true := beq_iff_eq.mpr c45
      have c45b1 : (t176 != 3) = false := bne_eq_false_iff_eq.mpr c45
      clear c45
      replace H := Option.bind_eq_some_iff.mp H
      obtain ⟨⟨t182, t183, t184⟩, A460, H⟩ := H
      replace H : (spec_l27Draw.l0 kj6 (wrap64 ((wrap64 (4000 - (t173.size : Int))) + t182)) s0_0 t183 t184 t166 t173) = some (r1, r2, r3, r4) := H
      have A46 := Aside0.mk A460
      clear A460
      have H' := Aside0.mk H
      clear H
      try go_wp2
      replace BK162 := Aside0.mk (blk_drew BK162.out)
      replace BK169 := Aside0.mk (blk_drew BK169.out)
      replace HI0 := Aside0.mk (IsS104.drew HI0.out)
      replace HK := Aside0.mk (keep_drew HK.out)
      replace HB := Aside0.mk (below_drew1 HB.out)
      refine start_ (n := 8) (S := fun w' => w'.cell? ⟨gb169, 0, none⟩ = some (.string t166) ∧ w'.cell? ⟨gb169, 1, none⟩ = some (.string t173)) (ds := []) #[false, false, false, false, false, false, false, false] (by kernel_rfl) rfl rfl ⟨(blk_cell BK169.out 0).trans rfl, (blk_cell BK169.out 1).trans rfl⟩ (fun hHeld => ?_); refine with_tabW spec_l27Draw.tab12 spec_l27Draw.bits12 (fun HT_ HW_ => ?_)
      generalize wc.drew = w47 at BK162 BK169 HI0 HK HB hHeld ⊢
      refine pu (i := 0) (N := some 35) (l' := #[true, false, false, false, false, false, false, false]) HT_ ?_
      refine pu (i := 4) (N := some 39) (l' := #[true, false, false, false, true, false, false, false]) HT_ ?_
      refine take_ (i := 1) (N := some 36) (v := ?_) (a' := ?_) #[true, true, false, false, true, false, false, false] rfl rfl (take_ofW HT_.out HW_.out (by kernel_rfl)) (fun _ _ _ h => h) (Or.inl ⟨by rfl, ?_⟩) hHeld ?_ ?_
      rotate_left
      ·rintro w' ⟨s0, s1⟩
       go_simp
       with_reducible rfl
      rotate_left
      ·simp only [Act.put, List.setIfInBounds_toArray, List.set_cons_zero, List.set_cons_succ, i64_w, i32_w]
       rfl
      refine pu (i := 2) (N := some 37) (l' := #[true, true, true, false, true, false, false, false]) HT_ ?_
      refine pu (i := 3) (N := some 38) (l' := #[true, true, true, true, true, false, false, false]) HT_ ?_
      refine one_ (i := 5) (N := some 40) #[true, true, true, true, true, true, false, false] rfl rfl (one_of HT_.out (by kernel_rfl)) (by decide) (fun K hK => ?_)
      refine goes_ Tryd.func50 (by kernel_rfl) rfl #[.pointer (some ⟨g, 0, none⟩), .int .i64 2] (by rfl) rfl rfl zq25 ?_
      with_reducible refine (spec_l00Src_pick.calls g s0_0 t177 t178 2 t182 t183 t184 w0 _ ?side1 ?side2 A46.out).mono ?_
      (case side1 => exact zq5)
      (case side2 => exact zq4)
      rintro e w48 ⟨rfl, hi, hb, hk⟩
      refine ⟨_, rfl, ?_⟩
      replace BK162 := Aside0.mk (KeepBut.blk hk (g' := gb162) (o := .cells #[.string (⟨#[]⟩ : ByteArray), .string (⟨#[]⟩ : ByteArray)] 25 (0, 0)) zq0 NB162_0.out (by simp))
      replace BK169 := Aside0.mk (KeepBut.blk hk (g' := gb169) (o := .cells #[.string t166, .string t173] 25 (0, 0)) zq0 NB169_0.out (by simp))
      replace HK := Aside0.mk (KeepBut.trans zq9 hk (.inl rfl))
      replace HB := Aside0.mk (hb)
      replace HI0 := Aside0.mk (hi)
      (try clear hb)
      (try clear hb2)
      (try clear hk)
      (try clear hi)
      refine hK.out _ _ ⟨(blk_cell BK169.out 0).trans rfl, (blk_cell BK169.out 1).trans rfl⟩ (fun hHeld => ?_)
      clear hK K
      refine norm_ (a' := ?_) ?_ ?_
      rotate_left
      ·show Act.put _ (some 40) _ = _
       simp only [Act.put, List.setIfInBounds_toArray, List.set_cons_zero, List.set_cons_succ, i64_w, i32_w]
       rfl
      refine pu (i := 6) (N := some 41) (l' := #[true, true, true, true, true, true, true, false]) HT_ ?_
      refine pu (i := 7) (N := some 4) (l' := #[true, true, true, true, true, true, true, true]) HT_ ?_
      refine done_ (done_of HT_.out (by kernel_rfl)) ?_
      try go_wp2
      go_loopg [] kj6 (fun kq w' => ∃ (x170000_2 : ByteArray), Aside0 (spec_l27Draw.l0 kq (wrap64 ((wrap64 (4000 - (t173.size : Int))) + t182)) s0_0 t183 t184 x170000_2 t173 = some (r1, r2, r3, r4)) ∧ Aside0 (kq ≤ kj6) ∧ Aside0 (w'.heap[gb162]? = some (.cells #[.string (⟨#[]⟩ : ByteArray), .string (⟨#[]⟩ : ByteArray)] 25 (0, 0))) ∧ Aside0 (w'.heap[gb169]? = some (.cells #[.string x170000_2, .string t173] 25 (0, 0))) ∧ Aside0 (IsS104 w0 w' g s0_0 t183 t184) ∧ Aside0 (KeepBut w w' g none) ∧ Aside0 (Below w0.heap.size w0 w'))
      case atStart => exact ⟨(t166), H', ⟨Nat.le_refl _⟩, ⟨zq0⟩, ⟨zq0⟩, ⟨zq5⟩, ⟨zq9⟩, ⟨zq4⟩⟩
      case round =>
       clear H'
       try clear c1; try clear c2; try clear p2; try clear c3; try clear c4; try clear c5; try clear c6; try clear p6; try clear c12; try clear c13; try clear c19; try clear c19b0; try clear c19b1; try clear c20; try clear c21; try clear c21b0; try clear c21b1; try clear c21b2; try clear c23; try clear c24; try clear c25; try clear c29; try clear c31; try clear c32; try clear c36; try clear c38; try clear c38b0; try clear c38b1; try clear c39; try clear c39b0; try clear c39b1; try clear c39b2; try clear c40; try clear c41; try clear c43; try clear c45; try clear c45b0; try clear c45b1; try clear c47; try clear c48; try clear hcz14_0; try clear hcz14_1; try clear hcz17_0; try clear hcz17_1; try clear hcz26_0; try clear hcz26_1; try clear hcz28_0; try clear hcz28_1; try clear hcz30_0; try clear hcz30_1; try clear hcz33_0; try clear hcz33_1; try clear hcz35_0; try clear hcz35_1; try clear hcz37_0; try clear hcz37_1; try clear hcz42_0; try clear hcz42_1; try clear hcz44_0; try clear hcz44_1; try clear hfz14_0; try clear hfz14_1; try clear hfz17_0; try clear hfz17_1; try clear hfz26_0; try clear hfz26_1; try clear hfz28_0; try clear hfz28_1; try clear hfz30_0; try clear hfz30_1; try clear hfz33_0; try clear hfz33_1; try clear hfz35_0; try clear hfz35_1; try clear hfz37_0; try clear hfz37_1; try clear hfz42_0; try clear hfz42_1; try clear hfz44_0; try clear hfz44_1
       obtain ⟨x170000_2, HA, HK2, BK162, BK169, HI0, HK, HB⟩ := hrel
       cases gk with
       | zero => exact absurd HA.out (by simp [spec_l27Draw.l0])
       | succ k2 =>
        have H := HA.out
        clear HA
        simp only [spec_l27Draw.l0] at H
        by_cases c49 : (x170000_2.size : Int) < (wrap64 ((wrap64 (4000 - (t173.size : Int))) + t182))
        ·rw [if_pos c49] at H
         have c49b0 : decide ((x170000_2.size : Int) < (wrap64 ((wrap64 (4000 - (t173.size : Int))) + t182))) = true := decide_eq_true c49
         clear c49
         by_cases c50 : x170000_2.size + 1 ≤ 9223372036854775807
         ·rw [if_pos c50] at H
          have c50b0 := eq_true c50
          have c50b1 : decide (x170000_2.size + 1 ≤ 9223372036854775807) = true := decide_eq_true c50
          try have c50b2 : (9223372036854775807 < x170000_2.size + 1) = False := eq_false (Nat.not_lt.2 c50)
          have H' := Aside0.mk H
          clear H
          have hnb51 := NB169_162.out
          have hnc51 := NB162_169.out
          have hnb52 := NB169_0.out
          have hnc52 := NB0_169.out
          have hcz53_0 := cz BK169 0 rfl
          have hcz53_1 := cz BK169 1 rfl
          have hfz53_0 := blk_frozen BK169.out 0
          have hfz53_1 := blk_frozen BK169.out 1
          go_wp2
          go_roundg k2
          case measure => have := HJ6.out; have := HK2.out; omega
          case rel => exact ⟨(x170000_2 ++ (⟨#[120]⟩ : ByteArray)), H', ⟨by have := HJ6.out; have := HK2.out; omega⟩, ⟨zq34⟩, ⟨by (with_reducible repeat (first | refine blk_drewN ?_ _ | refine blk_drew ?_ | refine blk_alloc ?_ _)); refine blk_put (cs := #[.string x170000_2, .string t173]) ?_ 0 _ rfl; (with_reducible repeat (first | refine blk_drewN ?_ _ | refine blk_drew ?_ | refine blk_alloc ?_ _)); exact BK169.out⟩, ⟨zq5⟩, ⟨zq9⟩, ⟨zq4⟩⟩
         ·rw [if_neg c50] at H
          exact absurd H (by simp)
        ·rw [if_neg c49] at H
         have c49b0 : decide ((x170000_2.size : Int) < (wrap64 ((wrap64 (4000 - (t173.size : Int))) + t182))) = false := decide_eq_false c49
         clear c49
         simp only [Option.some.injEq, Prod.mk.injEq] at H
         obtain ⟨rfl, rfl, rfl, rfl⟩ := H
         have hnb54 := NB169_162.out
         have hnc54 := NB162_169.out
         have hnb55 := NB169_0.out
         have hnc55 := NB0_169.out
         have hcz56_0 := cz BK169 0 rfl
         have hcz56_1 := cz BK169 1 rfl
         have hfz56_0 := blk_frozen BK169.out 0
         have hfz56_1 := blk_frozen BK169.out 1
         have hnb57 := NB162_0.out
         have hnc57 := NB0_162.out
         have hcz58_0 := cz BK162 0 rfl
         have hcz58_1 := cz BK162 1 rfl
         have hfz58_0 := blk_frozen BK162.out 0
         have hfz58_1 := blk_frozen BK162.out 1
         go_wp2
         refine bodyPost_ret (results_cell_row rfl _ _ gb162 25 #[.string x170000_2, .string t173] (0, 0) _ rfl (by (with_reducible repeat (first | refine blk_drewN ?_ _ | refine blk_drew ?_ | refine blk_alloc ?_ _)); refine blk_put (cs := #[.string x170000_2, .string (⟨#[]⟩ : ByteArray)]) ?_ 1 _ rfl; (with_reducible repeat (first | refine blk_drewN ?_ _ | refine blk_drew ?_ | refine blk_alloc ?_ _)); refine blk_put (cs := #[.string (⟨#[]⟩ : ByteArray), .string (⟨#[]⟩ : ByteArray)]) ?_ 0 _ rfl; (with_reducible repeat (first | refine blk_drewN ?_ _ | refine blk_drew ?_ | refine blk_alloc ?_ _)); exact BK162.out) Tryd.underlying25 rfl (by kernel_rfl)) rfl ?_
         exact ⟨er, zq5, zq4, zq9⟩
     ·rw [if_neg c45] at H
      have c45b0 : (t176 == 3) = false := beq_eq_false_iff_ne.mpr c45
      have c45b1 : (t176 != 3) = true := bne_iff_ne.mpr c45
      simp only [Option.some.injEq, Prod.mk.injEq] at H
      obtain ⟨rfl, rfl, rfl, rfl⟩ := H
      have hnb59 := NB169_162.out
      have hnc59 := NB162_169.out
      have hnb60 := NB169_0.out
      have hnc60 := NB0_169.out
      have hcz61_0 := cz BK169 0 rfl
      have hcz61_1 := cz BK169 1 rfl
      have hfz61_0 := blk_frozen BK169.out 0
      have hfz61_1 := blk_frozen BK169.out 1
      have hnb62 := NB162_0.out
      have hnc62 := NB0_162.out
      have hcz63_0 := cz BK162 0 rfl
      have hcz63_1 := cz BK162 1 rfl
      have hfz63_0 := blk_frozen BK162.out 0
      have hfz63_1 := blk_frozen BK162.out 1
      go_wp2
      refine bodyPost_ret (results_cell_row rfl _ _ gb162 25 #[.string t166, .string t173] (0, 0) _ rfl zq68 Tryd.underlying25 rfl (by kernel_rfl)) rfl ?_
      exact ⟨er, zq5, zq4, zq9⟩

/-! ### spec_l00Src_among: function 49 -/
def spec_l00Src_among.f (s0_0 : List Int) (s0_1 : Int) (s0_2 : Int) (l1 : List Int) : Option (Int × Int × Int) := (spec_l00Src_pick.f s0_0 s0_1 s0_2 (l1.length : Int)).bind fun bt185 => (if 0 ≤ bt185.1 then (if bt185.1 < (l1.length : Int) then (some (rd l1 bt185.1, bt185.2.1, bt185.2.2)) else (none)) else (none))
set_option maxHeartbeats 8000000 in
set_option maxRecDepth 100000 in
theorem spec_l00Src_among.calls (g : Nat) (s0_0 : List Int) (s0_1 : Int) (s0_2 : Int) (A1 : Option Addr) (c1 : Nat) (l1 : List Int) (r1 : Int) (r2 : Int) (r3 : Int) (w0 w : World) (hI : IsS104 w0 w g s0_0 s0_1 s0_2) (hB : Below w0.heap.size w0 w) (hr1 : Kd.C (Kd.int .i64) w A1 l1.length l1) (hc1 : l1.length ≤ c1) (hf1 : ∀ ad, A1 = some ad → 0 < l1.length → ad.block ≠ g) (h : spec_l00Src_among.f s0_0 s0_1 s0_2 l1 = some (r1, r2, r3)) :
  Calls Tryd.prog 49 #[.pointer (some ⟨g, 0, none⟩), .slice A1 l1.length c1] w fun e w' => e = .returned (.int .i64 r1) ∧ IsS104 w0 w' g s0_0 r2 r3 ∧ Below w0.heap.size w0 w' ∧ KeepBut w w' g none := by
 have HR1 := Aside0.mk hr1
 have HC1 := Aside0.mk hc1
 clear hr1 hc1
 have HI0 := Aside0.mk hI
 have HK := Aside0.mk (KeepBut.refl w g none)
 have HL := Aside0.mk hB.size
 clear hI
 have HW0 := Aside0.mk hB.size
 have HB := Aside0.mk hB
 clear hB
 have H : ((spec_l00Src_pick.f s0_0 s0_1 s0_2 (l1.length : Int)).bind fun bt185 => (if 0 ≤ bt185.1 then (if bt185.1 < (l1.length : Int) then (some (rd l1 bt185.1, bt185.2.1, bt185.2.2)) else (none)) else (none))) = some (r1, r2, r3) := h
 clear h
 replace H := Option.bind_eq_some_iff.mp H
 obtain ⟨⟨t185, t186, t187⟩, A30, H⟩ := H
 replace H : (if 0 ≤ t185 then (if t185 < (l1.length : Int) then (some (rd l1 t185, t186, t187)) else (none)) else (none)) = some (r1, r2, r3) := H
 have A3 := Aside0.mk A30
 clear A30
 by_cases c4 : 0 ≤ t185
 ·rw [if_pos c4] at H
  have c4b0 : decide (0 ≤ t185) = true := decide_eq_true c4
  clear c4
  by_cases c5 : t185 < (l1.length : Int)
  ·rw [if_pos c5] at H
   have c5b0 : decide (t185 < (l1.length : Int)) = true := decide_eq_true c5
   clear c5
   simp only [Option.some.injEq, Prod.mk.injEq] at H
   obtain ⟨rfl, rfl, rfl⟩ := H
   go_enter Tryd.func49, Tryd.ntmps49
   go_wp2_with (first | ((with_reducible refine gate_callee (f := 50) rfl ?_); refine goq (some 9) Tryd.func50 #[.pointer (some ⟨g, 0, none⟩), .int .i64 (l1.length : Int)] ?_; (with_reducible refine (spec_l00Src_pick.calls g s0_0 s0_1 s0_2 (l1.length : Int) t185 t186 t187 w0 _ ?side1 ?side2 A3.out).mono ?_); (case side1 => exact zq6); (case side2 => exact zq7); rintro e w6 ⟨rfl, hi, hb, hk⟩; refine ⟨_, rfl, ?_⟩; replace HK := Aside0.mk (KeepBut.trans zq3 hk (.inl rfl)); replace HB := Aside0.mk (hb); replace HI0 := Aside0.mk (hi); (try clear hb); have p188 : 0 ≤ (t185 : Int) := dt; have q188 : t185 < (l1.length : Int) := dt; obtain ⟨ad188, e188, hx188_0⟩ := Kd.at_int HR1.out t185 p188 q188; cases e188; replace hx188_0 := keep_cell HK.out hx188_0 (by first | (rw [add_block]; exact hf1 _ rfl (by omega)) | exact hf1 _ rfl (by omega) | exact hf1 ad188 rfl (by omega)); replace p188 := eq_true p188; replace q188 := eq_true q188))
   go_ret
   exact ⟨er, zq6, zq7, zq3⟩
  ·rw [if_neg c5] at H
   exact absurd H (by simp)
 ·rw [if_neg c4] at H
  exact absurd H (by simp)

/-! ### spec_DrawLosePower: function 7 -/
def spec_DrawLosePower.f (k : Nat) (l0 : List Int) : Option (ByteArray × ByteArray × Int) := (spec_l00From.f l0).bind fun bt190 => ((spec_l27Draw.f k bt190.1 bt190.2.1 bt190.2.2).bind fun bt194 => ((spec_l00Src_one.f bt190.1 bt194.2.2.1 bt194.2.2.2 6).bind fun bt199 => (if bt199.1 = true then ((spec_l00Src_among.f bt190.1 bt199.2.1 bt199.2.2 (([(-1), 0, (bt194.2.1.size : Int), wrap64 ((bt194.2.1.size : Int) + 1), 9223372036854775807] : List Int))).bind fun bt205 => (some (bt194.1, bt194.2.1, bt205.1))) else ((spec_l00Src_pick.f bt190.1 bt199.2.1 bt199.2.2 (wrap64 ((bt194.2.1.size : Int) + 1))).bind fun bt208 => (some (bt194.1, bt194.2.1, bt208.1))))))
def spec_DrawLosePower.T5 : Bool × List (List Nat × List Nat) := (true, [([], []), ([], []), ([], []), ([], []), ([3], [3]), ([2, 4], [2, 4]), ([1, 5], [1, 5]), ([0, 6, 0], [0]), ([6, 7, 0, 1, 2, 3, 4, 5, 6, 7], [6])])
def spec_DrawLosePower.B5 : List Nat := [0, 0, 0, 0, 8, 28, 62, 127, 255]
theorem spec_DrawLosePower.tab5 : rtab .any (opsOf Tryd.f7 5) = spec_DrawLosePower.T5 := by kernel_rfl
theorem spec_DrawLosePower.bits5 : waitsOk spec_DrawLosePower.T5.2 spec_DrawLosePower.B5 = true := by kernel_rfl
set_option maxHeartbeats 8000000 in
set_option maxRecDepth 100000 in
theorem spec_DrawLosePower.calls (k : Nat) (A0 : Option Addr) (c0 : Nat) (l0 : List Int) (r1 : ByteArray) (r2 : ByteArray) (r3 : Int) (w : World) (hr0 : Kd.C (Kd.int .u8) w A0 l0.length l0) (hc0 : l0.length ≤ c0) (h : spec_DrawLosePower.f k l0 = some (r1, r2, r3)) :
  Calls Tryd.prog 7 #[.slice A0 l0.length c0] w fun e w' => e = .returned (.tuple #[.agg #[.string r1, .string r2], .int .i64 r3]) ∧ Below w.heap.size w w' := by
 have hu25 := Tryd.underlying25
 have HR0 := Aside0.mk hr0
 have HC0 := Aside0.mk hc0
 clear hr0 hc0
 have HB := Aside0.mk (Below.refl w.heap.size w)
 have H : ((spec_l00From.f l0).bind fun bt190 => ((spec_l27Draw.f k bt190.1 bt190.2.1 bt190.2.2).bind fun bt194 => ((spec_l00Src_one.f bt190.1 bt194.2.2.1 bt194.2.2.2 6).bind fun bt199 => (if bt199.1 = true then ((spec_l00Src_among.f bt190.1 bt199.2.1 bt199.2.2 (([(-1), 0, (bt194.2.1.size : Int), wrap64 ((bt194.2.1.size : Int) + 1), 9223372036854775807] : List Int))).bind fun bt205 => (some (bt194.1, bt194.2.1, bt205.1))) else ((spec_l00Src_pick.f bt190.1 bt199.2.1 bt199.2.2 (wrap64 ((bt194.2.1.size : Int) + 1))).bind fun bt208 => (some (bt194.1, bt194.2.1, bt208.1))))))) = some (r1, r2, r3) := h
 clear h
 replace H := Option.bind_eq_some_iff.mp H
 obtain ⟨⟨t190, t191, t192⟩, A20, H⟩ := H
 dsimp only at H
 have A2 := Aside0.mk A20
 clear A20
 replace H := Option.bind_eq_some_iff.mp H
 obtain ⟨⟨t194, t195, t196, t197⟩, A30, H⟩ := H
 dsimp only at H
 have A3 := Aside0.mk A30
 clear A30
 replace H := Option.bind_eq_some_iff.mp H
 obtain ⟨⟨t199, t200, t201⟩, A40, H⟩ := H
 dsimp only at H
 have A4 := Aside0.mk A40
 clear A40
 by_cases c5 : t199 = true
 ·subst c5
  rw [if_pos rfl] at H
  obtain ⟨y202, hy202⟩ : ∃ y_ : List Int, y_ = (([(-1), 0, (t195.size : Int), wrap64 ((t195.size : Int) + 1), 9223372036854775807] : List Int)) := ⟨_, rfl⟩
  replace H : ((spec_l00Src_among.f t190 t200 t201 y202).bind fun bt205 => (some (t194, t195, bt205.1))) = some (r1, r2, r3) := by first | (rw [hy202]; with_reducible exact H) | (have H2_ := (Option.bind_some _ _).symm.trans H; rw [hy202]; with_reducible exact H2_) | (have H2_ := (Option.bind_some _ _).symm.trans H; with_reducible exact H2_) | with_reducible exact H | (rw [hy202]; exact H) | exact H
  have Ny202 := Aside0.mk hy202
  clear hy202
  replace H := Option.bind_eq_some_iff.mp H
  obtain ⟨⟨t205, t206, t207⟩, A60, H⟩ := H
  replace H : (some (t194, t195, t205)) = some (r1, r2, r3) := H
  have A6 := Aside0.mk A60
  clear A60
  simp only [Option.some.injEq, Prod.mk.injEq] at H
  obtain ⟨rfl, rfl, rfl⟩ := H
  go_enter Tryd.func7, Tryd.ntmps7
  try go_wp2_with (first | ((with_reducible refine gate_dst (N := 2) rfl ?_); refine box_event ?hg (N := 2) ?hd (cs := #[.string (⟨#[]⟩ : ByteArray), .string (⟨#[]⟩ : ByteArray)]) (t := 25) ?hr ?_; (case hd => rfl); (case hg => rfl); (case hr => exact zq1); intro gb189 hg w7 hbox hb; have BK189 := Aside0.mk (hbox); have GW189 := gsz hg; have GE189 := gsz hg; replace HB := bs hb; clear hb hbox hg) | ((with_reducible refine gate_callee (f := 46) rfl ?_); refine goq (some 8) Tryd.func46 #[.slice A0 l0.length c0] ?_; (with_reducible refine (spec_l00From.calls _ _ l0 t190 t191 t192 w _ ?side1 ?side2 ?side3 A2.out).mono ?_); (case side1 => exact zq39); (case side2 => exact HR0.out); (case side3 => exact HC0.out); rintro e w8 ⟨g193, rfl, hi, hb, hb2⟩; refine ⟨_, rfl, ?_⟩; replace HB := Aside0.mk (hb); have HI193 := Aside0.mk (hi); have NB193_189 := Aside0.mk (IsS104.ne_blk hi (blk_below (g := gb189) (o := .cells #[.string (⟨#[]⟩ : ByteArray), .string (⟨#[]⟩ : ByteArray)] 25 (0, 0)) zq0 hb2) (by decide)); have NB189_193 := Aside0.mk (Ne.symm (IsS104.ne_blk hi (blk_below (g := gb189) (o := .cells #[.string (⟨#[]⟩ : ByteArray), .string (⟨#[]⟩ : ByteArray)] 25 (0, 0)) zq0 hb2) (by decide))); replace BK189 := Aside0.mk (blk_below (g := gb189) (o := .cells #[.string (⟨#[]⟩ : ByteArray), .string (⟨#[]⟩ : ByteArray)] 25 (0, 0)) zq0 hb2); (try clear hb)) | ((with_reducible refine gate_callee (f := 47) rfl ?_); refine goq (some 10) Tryd.func47 #[.pointer (some ⟨g193, 0, none⟩)] ?_; (with_reducible refine (spec_l27Draw.calls k g193 t190 t191 t192 t194 t195 t196 t197 w _ ?side1 ?side2 A3.out).mono ?_); (case side1 => exact zq14); (case side2 => exact zq8); rintro e w9 ⟨rfl, hi, hb, hk⟩; refine ⟨_, rfl, ?_⟩; replace BK189 := Aside0.mk (KeepBut.blk hk (g' := gb189) (o := .cells #[.string (⟨#[]⟩ : ByteArray), .string (⟨#[]⟩ : ByteArray)] 25 (0, 0)) zq0 NB189_193.out (by simp)); replace HB := Aside0.mk (hb); replace HI193 := Aside0.mk (hi); (try clear hb)) | ((with_reducible refine gate_dst (N := 5) rfl ?_); refine box_event ?hg (N := 5) ?hd (cs := #[.string (⟨#[]⟩ : ByteArray), .string (⟨#[]⟩ : ByteArray)]) (t := 25) ?hr ?_; (case hd => rfl); (case hg => rfl); (case hr => exact zq1); intro gb198 hg w10 hbox hb; have BK198 := Aside0.mk (hbox); have GW198 := Aside0.mk ((by rw [hg]; exact (below_size zq8) : w.heap.size ≤ gb198)); have GE198 := Aside0.mk ((by rw [hg]; exact (below_size zq8) : w.heap.size ≤ gb198)); replace HB := Aside0.mk (below_step zq8 hb); have NB189_198 := nlt BK189 hg; have NB198_189 := ngt BK189 hg; replace BK189 := kb BK189 hb; have NB193_198 := Aside0.mk ((by rw [hg]; exact Nat.ne_of_lt (IsS104.lt (show IsS104 w _ g193 t190 t196 t197 from by repeat (first | (with_reducible first | exact HI193.out | apply IsS104.alloc | apply IsS104.drewN | apply IsS104.drew | apply IsS104.set_1 | apply IsS104.set_2 | refine IsS104.far ?_ NB193_189.out _) | exact HI193.out))) : g193 ≠ gb198)); have NB198_193 := Aside0.mk ((by rw [hg]; exact Nat.ne_of_gt (IsS104.lt (show IsS104 w _ g193 t190 t196 t197 from by repeat (first | (with_reducible first | exact HI193.out | apply IsS104.alloc | apply IsS104.drewN | apply IsS104.drew | apply IsS104.set_1 | apply IsS104.set_2 | refine IsS104.far ?_ NB193_189.out _) | exact HI193.out))) : gb198 ≠ g193)); replace HI193 := Aside0.mk (IsS104.below zq14 hb); clear hb hbox hg; have hnb11 := NB198_189.out; have hnc11 := NB189_198.out; have hnb12 := NB198_193.out; have hnc12 := NB193_198.out; have hcz13_0 := cz BK198 0 rfl; have hcz13_1 := cz BK198 1 rfl; have hfz13_0 := blk_frozen BK198.out 0; have hfz13_1 := blk_frozen BK198.out 1) | ((with_reducible refine gate_callee (f := 48) rfl ?_); refine goq (some 15) Tryd.func48 #[.pointer (some ⟨g193, 0, none⟩), .int .i64 6] ?_; (with_reducible refine (spec_l00Src_one.calls g193 t190 t196 t197 6 true t200 t201 w _ ?side1 ?side2 A4.out).mono ?_); (case side1 => exact zq14); (case side2 => exact zq8); rintro e w14 ⟨rfl, hi, hb, hk⟩; refine ⟨_, rfl, ?_⟩; replace BK189 := Aside0.mk (KeepBut.blk hk (g' := gb189) (o := .cells #[.string (⟨#[]⟩ : ByteArray), .string (⟨#[]⟩ : ByteArray)] 25 (0, 0)) zq2 NB189_193.out (by simp)); replace BK198 := Aside0.mk (KeepBut.blk hk (g' := gb198) (o := .cells #[.string t194, .string t195] 25 (0, 0)) zq35 NB198_193.out (by simp)); replace HB := Aside0.mk (hb); replace HI193 := Aside0.mk (hi); (try clear hb)))
  replace BK189 := Aside0.mk (blk_drew BK189.out)
  replace BK198 := Aside0.mk (blk_drew BK198.out)
  replace HI193 := Aside0.mk (IsS104.drew HI193.out)
  replace HB := Aside0.mk (below_drew1 HB.out)
  refine start_ (n := 9) (S := fun w' => w'.cell? ⟨gb198, 0, none⟩ = some (.string t194) ∧ w'.cell? ⟨gb198, 1, none⟩ = some (.string t195)) (ds := []) #[false, false, false, false, false, false, false, false, false] (by kernel_rfl) rfl rfl ⟨(blk_cell BK198.out 0).trans rfl, (blk_cell BK198.out 1).trans rfl⟩ (fun hHeld => ?_); refine with_tabW spec_DrawLosePower.tab5 spec_DrawLosePower.bits5 (fun HT_ HW_ => ?_)
  generalize w14.drew = w15 at BK189 BK198 HI193 HB hHeld ⊢
  refine pu (i := 1) (N := some 17) (l' := #[false, true, false, false, false, false, false, false, false]) HT_ ?_
  refine pu (i := 2) (N := some 18) (l' := #[false, true, true, false, false, false, false, false, false]) HT_ ?_
  refine pu (i := 3) (N := some 19) (l' := #[false, true, true, true, false, false, false, false, false]) HT_ ?_
  refine pu (i := 4) (N := some 20) (l' := #[false, true, true, true, true, false, false, false, false]) HT_ ?_
  refine take_ (i := 0) (N := some 16) (v := ?_) (a' := ?_) #[true, true, true, true, true, false, false, false, false] rfl rfl (take_ofW HT_.out HW_.out (by kernel_rfl)) (fun _ _ _ h => h) (Or.inl ⟨by rfl, ?_⟩) hHeld ?_ ?_
  rotate_left
  ·rintro w' ⟨s0, s1⟩
   go_simp
   with_reducible rfl
  rotate_left
  ·simp only [Act.put, List.setIfInBounds_toArray, List.set_cons_zero, List.set_cons_succ, i64_w, i32_w]
   rfl
  refine one_ (i := 5) (N := some 21) #[true, true, true, true, true, true, false, false, false] rfl rfl (one_of HT_.out (by kernel_rfl)) (by decide) (fun K hK => ?_)
  refine Kd.R_lit_step (Kd.int .i64) _ 2 ?hg (N := 21) ?hd (xs := ([(-1), 0, (t195.size : Int), wrap64 ((t195.size : Int) + 1), 9223372036854775807] : List Int)) (inner := [.int .i64 (-1), .int .i64 0, .int .i64 (t195.size : Int), .int .i64 (wrap64 ((t195.size : Int) + 1)), .int .i64 9223372036854775807]) (ok := fun _ => True) (okp := fun _ => True) ?hr ?hp (fun _ hk => hk) trivial (Below.refl _ _) (Nat.le_refl _) (by simp) ?_; (case hd => rfl); (case hg => rfl); (case hr => exact zq1); (case hp => exact (Reps.one (show Kd.M (Kd.int .i64) _ _ _ (-1) [.int .i64 (-1)] from rfl) (Reps.one (show Kd.M (Kd.int .i64) _ _ _ 0 [.int .i64 0] from rfl) (Reps.one (show Kd.M (Kd.int .i64) _ _ _ (t195.size : Int) [.int .i64 (t195.size : Int)] from rfl) (Reps.one (show Kd.M (Kd.int .i64) _ _ _ (wrap64 ((t195.size : Int) + 1)) [.int .i64 (wrap64 ((t195.size : Int) + 1))] from rfl) (Reps.one (show Kd.M (Kd.int .i64) _ _ _ 9223372036854775807 [.int .i64 9223372036854775807] from rfl) (Reps.none _ _)))))))
  intro v203 w16 ho17 hb hg_ hnew_
  clear hg_ hnew_
  (first | rw [← Ny202.out] at ho17 | (simp only [Int.reduceToNat] at ho17; rw [← Ny202.out] at ho17))
  have HO204 := Aside0.mk (Kd.R_lower ho17 (below_size zq8))
  replace BK189 := kb BK189 hb
  replace BK198 := kb BK198 hb
  replace HB := Aside0.mk (below_step zq8 hb)
  replace HI193 := Aside0.mk (IsS104.below zq14 hb)
  clear hb ho17
  obtain ⟨Ao18, co18, eo18⟩ := Kd.R_slice HO204.out
  (first | subst eo18 | (injection eo18 with f1_ f2_ f3_; have f4_ := f1_.symm; have f5_ := f3_.symm; clear f1_ f2_ f3_; subst f4_; subst f5_))
  refine hK.out _ _ ⟨(blk_cell BK198.out 0).trans rfl, (blk_cell BK198.out 1).trans rfl⟩ (fun hHeld => ?_)
  clear hK K
  refine norm_ (a' := ?_) ?_ ?_
  rotate_left
  ·show Act.put _ (some 21) _ = _
   simp only [Act.put, List.setIfInBounds_toArray, List.set_cons_zero, List.set_cons_succ, i64_w, i32_w]
   rfl
  refine one_ (i := 6) (N := some 22) #[true, true, true, true, true, true, true, false, false] rfl rfl (one_of HT_.out (by kernel_rfl)) (by decide) (fun K hK => ?_)
  refine goes_ Tryd.func49 (by kernel_rfl) rfl #[.pointer (some ⟨g193, 0, none⟩), .slice Ao18 y202.length co18] (by rfl) rfl rfl zq25 ?_
  with_reducible refine (spec_l00Src_among.calls g193 t190 t200 t201 _ _ y202 t205 t206 t207 w _ ?side1 ?side2 ?side3 ?side4 ?side5 A6.out).mono ?_
  (case side1 => exact zq14)
  (case side2 => exact zq8)
  (case side3 => repeat (first | exact (Kd.R_reads' HO204.out).2.2 | (with_reducible refine Kd.C_alloc ?_ _) | (with_reducible refine Kd.C_drewN ?_ _) | (with_reducible refine Kd.C_drew ?_)))
  (case side4 => exact (Kd.R_reads' HO204.out).2.1)
  (case side5 => exact far_slice (IsS104.own_ne HI193.out HO204.out (by decide)))
  rintro e w19 ⟨rfl, hi, hb, hk⟩
  refine ⟨_, rfl, ?_⟩
  replace BK189 := Aside0.mk (KeepBut.blk hk (g' := gb189) (o := .cells #[.string (⟨#[]⟩ : ByteArray), .string (⟨#[]⟩ : ByteArray)] 25 (0, 0)) zq0 NB189_193.out (by simp))
  replace BK198 := Aside0.mk (KeepBut.blk hk (g' := gb198) (o := .cells #[.string t194, .string t195] 25 (0, 0)) zq0 NB198_193.out (by simp))
  replace HO204 := Aside0.mk (Kd.R_mono (Kd.R_keep (IsS104.apart (show IsS104 w _ g193 t190 t200 t201 from by repeat (first | (with_reducible first | exact HI193.out | apply IsS104.alloc | apply IsS104.drewN | apply IsS104.drew | apply IsS104.set_1 | apply IsS104.set_2 | refine IsS104.far ?_ NB193_189.out _ | refine IsS104.far ?_ NB193_198.out _) | exact HI193.out)) (by (with_reducible repeat (first | apply Kd.R_alloc | apply Kd.R_drewN | apply Kd.R_drew)); exact HO204.out) (by decide)) hk (fun _ h => h.2)) (fun _ h => h.1))
  replace HB := Aside0.mk (hb)
  replace HI193 := Aside0.mk (hi)
  (try clear hb)
  (try clear hb2)
  (try clear hk)
  (try clear hi)
  refine hK.out _ _ ⟨(blk_cell BK198.out 0).trans rfl, (blk_cell BK198.out 1).trans rfl⟩ (fun hHeld => ?_)
  clear hK K
  refine norm_ (a' := ?_) ?_ ?_
  rotate_left
  ·show Act.put _ (some 22) _ = _
   simp only [Act.put, List.setIfInBounds_toArray, List.set_cons_zero, List.set_cons_succ, i64_w, i32_w]
   rfl
  refine one_ (i := 7) (N := none) #[true, true, true, true, true, true, true, true, false] rfl rfl (one_of HT_.out (by kernel_rfl)) (by decide) (fun K hK => ?_)
  have hs20 := cz BK189 0 rfl
  have hfs20 := blk_frozen BK189.out 0
  have hns20_1 := NB198_189.out
  have hms20_1 := NB189_198.out
  have hs21 := cz BK189 1 rfl
  have hfs21 := blk_frozen BK189.out 1
  have hns21_1 := NB198_189.out
  have hms21_1 := NB189_198.out
  refine skip_ (w1 := ?_) (by rfl) rfl ?_ ?_
  rotate_left
  ·go_simp
   rfl
  refine hK.out _ _ ⟨((cell_far (p := ⟨gb189, _, none⟩) NB198_189.out _).trans (((cell_far (p := ⟨gb189, _, none⟩) NB198_189.out _).trans (hHeld.1)))), ((cell_far (p := ⟨gb189, _, none⟩) NB198_189.out _).trans (((cell_far (p := ⟨gb189, _, none⟩) NB198_189.out _).trans (hHeld.2))))⟩ (fun hHeld => ?_)
  clear hK K
  refine pu (i := 8) (N := some 3) (l' := #[true, true, true, true, true, true, true, true, true]) HT_ ?_
  refine done_ (done_of HT_.out (by kernel_rfl)) ?_
  try go_wp2
  refine bodyPost_ret (results_ct rfl _ _ gb189 25 #[.string t194, .string t195] (0, 0) _ rfl zq35 Tryd.underlying25 rfl (by kernel_rfl)) rfl ?_
  exact ⟨er, zq8⟩
 ·replace c5 := Bool.eq_false_iff.mpr c5
  subst c5
  rw [if_neg (show ¬ (false = true) by decide)] at H
  replace H := Option.bind_eq_some_iff.mp H
  obtain ⟨⟨t208, t209, t210⟩, A220, H⟩ := H
  replace H : (some (t194, t195, t208)) = some (r1, r2, r3) := H
  have A22 := Aside0.mk A220
  clear A220
  simp only [Option.some.injEq, Prod.mk.injEq] at H
  obtain ⟨rfl, rfl, rfl⟩ := H
  go_enter Tryd.func7, Tryd.ntmps7
  try go_wp2_with (first | ((with_reducible refine gate_dst (N := 2) rfl ?_); refine box_event ?hg (N := 2) ?hd (cs := #[.string (⟨#[]⟩ : ByteArray), .string (⟨#[]⟩ : ByteArray)]) (t := 25) ?hr ?_; (case hd => rfl); (case hg => rfl); (case hr => exact zq1); intro gb189 hg w23 hbox hb; have BK189 := Aside0.mk (hbox); have GW189 := gsz hg; have GE189 := gsz hg; replace HB := bs hb; clear hb hbox hg) | ((with_reducible refine gate_callee (f := 46) rfl ?_); refine goq (some 8) Tryd.func46 #[.slice A0 l0.length c0] ?_; (with_reducible refine (spec_l00From.calls _ _ l0 t190 t191 t192 w _ ?side1 ?side2 ?side3 A2.out).mono ?_); (case side1 => exact zq39); (case side2 => exact HR0.out); (case side3 => exact HC0.out); rintro e w24 ⟨g193, rfl, hi, hb, hb2⟩; refine ⟨_, rfl, ?_⟩; replace HB := Aside0.mk (hb); have HI193 := Aside0.mk (hi); have NB193_189 := Aside0.mk (IsS104.ne_blk hi (blk_below (g := gb189) (o := .cells #[.string (⟨#[]⟩ : ByteArray), .string (⟨#[]⟩ : ByteArray)] 25 (0, 0)) zq0 hb2) (by decide)); have NB189_193 := Aside0.mk (Ne.symm (IsS104.ne_blk hi (blk_below (g := gb189) (o := .cells #[.string (⟨#[]⟩ : ByteArray), .string (⟨#[]⟩ : ByteArray)] 25 (0, 0)) zq0 hb2) (by decide))); replace BK189 := Aside0.mk (blk_below (g := gb189) (o := .cells #[.string (⟨#[]⟩ : ByteArray), .string (⟨#[]⟩ : ByteArray)] 25 (0, 0)) zq0 hb2); (try clear hb)) | ((with_reducible refine gate_callee (f := 47) rfl ?_); refine goq (some 10) Tryd.func47 #[.pointer (some ⟨g193, 0, none⟩)] ?_; (with_reducible refine (spec_l27Draw.calls k g193 t190 t191 t192 t194 t195 t196 t197 w _ ?side1 ?side2 A3.out).mono ?_); (case side1 => exact zq14); (case side2 => exact zq8); rintro e w25 ⟨rfl, hi, hb, hk⟩; refine ⟨_, rfl, ?_⟩; replace BK189 := Aside0.mk (KeepBut.blk hk (g' := gb189) (o := .cells #[.string (⟨#[]⟩ : ByteArray), .string (⟨#[]⟩ : ByteArray)] 25 (0, 0)) zq0 NB189_193.out (by simp)); replace HB := Aside0.mk (hb); replace HI193 := Aside0.mk (hi); (try clear hb)) | ((with_reducible refine gate_dst (N := 5) rfl ?_); refine box_event ?hg (N := 5) ?hd (cs := #[.string (⟨#[]⟩ : ByteArray), .string (⟨#[]⟩ : ByteArray)]) (t := 25) ?hr ?_; (case hd => rfl); (case hg => rfl); (case hr => exact zq1); intro gb198 hg w26 hbox hb; have BK198 := Aside0.mk (hbox); have GW198 := Aside0.mk ((by rw [hg]; exact (below_size zq8) : w.heap.size ≤ gb198)); have GE198 := Aside0.mk ((by rw [hg]; exact (below_size zq8) : w.heap.size ≤ gb198)); replace HB := Aside0.mk (below_step zq8 hb); have NB189_198 := nlt BK189 hg; have NB198_189 := ngt BK189 hg; replace BK189 := kb BK189 hb; have NB193_198 := Aside0.mk ((by rw [hg]; exact Nat.ne_of_lt (IsS104.lt (show IsS104 w _ g193 t190 t196 t197 from by repeat (first | (with_reducible first | exact HI193.out | apply IsS104.alloc | apply IsS104.drewN | apply IsS104.drew | apply IsS104.set_1 | apply IsS104.set_2 | refine IsS104.far ?_ NB193_189.out _) | exact HI193.out))) : g193 ≠ gb198)); have NB198_193 := Aside0.mk ((by rw [hg]; exact Nat.ne_of_gt (IsS104.lt (show IsS104 w _ g193 t190 t196 t197 from by repeat (first | (with_reducible first | exact HI193.out | apply IsS104.alloc | apply IsS104.drewN | apply IsS104.drew | apply IsS104.set_1 | apply IsS104.set_2 | refine IsS104.far ?_ NB193_189.out _) | exact HI193.out))) : gb198 ≠ g193)); replace HI193 := Aside0.mk (IsS104.below zq14 hb); clear hb hbox hg; have hnb27 := NB198_189.out; have hnc27 := NB189_198.out; have hnb28 := NB198_193.out; have hnc28 := NB193_198.out; have hcz29_0 := cz BK198 0 rfl; have hcz29_1 := cz BK198 1 rfl; have hfz29_0 := blk_frozen BK198.out 0; have hfz29_1 := blk_frozen BK198.out 1) | ((with_reducible refine gate_callee (f := 48) rfl ?_); refine goq (some 15) Tryd.func48 #[.pointer (some ⟨g193, 0, none⟩), .int .i64 6] ?_; (with_reducible refine (spec_l00Src_one.calls g193 t190 t196 t197 6 false t200 t201 w _ ?side1 ?side2 A4.out).mono ?_); (case side1 => exact zq14); (case side2 => exact zq8); rintro e w30 ⟨rfl, hi, hb, hk⟩; refine ⟨_, rfl, ?_⟩; replace BK189 := Aside0.mk (KeepBut.blk hk (g' := gb189) (o := .cells #[.string (⟨#[]⟩ : ByteArray), .string (⟨#[]⟩ : ByteArray)] 25 (0, 0)) zq2 NB189_193.out (by simp)); replace BK198 := Aside0.mk (KeepBut.blk hk (g' := gb198) (o := .cells #[.string t194, .string t195] 25 (0, 0)) zq35 NB198_193.out (by simp)); replace HB := Aside0.mk (hb); replace HI193 := Aside0.mk (hi); (try clear hb)))
  replace BK189 := Aside0.mk (blk_drew BK189.out)
  replace BK198 := Aside0.mk (blk_drew BK198.out)
  replace HI193 := Aside0.mk (IsS104.drew HI193.out)
  replace HB := Aside0.mk (below_drew1 HB.out)
  refine start_ (n := 7) (S := fun w' => w'.cell? ⟨gb198, 0, none⟩ = some (.string t194) ∧ w'.cell? ⟨gb198, 1, none⟩ = some (.string t195)) (ds := []) #[false, false, false, false, false, false, false] (by kernel_rfl) rfl rfl ⟨(blk_cell BK198.out 0).trans rfl, (blk_cell BK198.out 1).trans rfl⟩ (fun hHeld => ?_)
  generalize w30.drew = w31 at BK189 BK198 HI193 HB hHeld ⊢
  refine pure_ (i := 1) (N := some 24) (v := ?_) (a' := ?_) #[false, true, false, false, false, false, false] rfl rfl (by kernel_rfl) (fun _ _ _ h => h) (Or.inl ⟨by rfl, ?_⟩) ?_ ?_
  rotate_left
  ·intro w'
   go_simp
   with_reducible rfl
  rotate_left
  ·simp only [Act.put, List.setIfInBounds_toArray, List.set_cons_zero, List.set_cons_succ, i64_w, i32_w]
   rfl
  refine pure_ (i := 2) (N := some 25) (v := ?_) (a' := ?_) #[false, true, true, false, false, false, false] rfl rfl (by kernel_rfl) (fun _ _ _ h => h) (Or.inl ⟨by rfl, ?_⟩) ?_ ?_
  rotate_left
  ·intro w'
   go_simp
   with_reducible rfl
  rotate_left
  ·simp only [Act.put, List.setIfInBounds_toArray, List.set_cons_zero, List.set_cons_succ, i64_w, i32_w]
   rfl
  refine pure_ (i := 3) (N := some 26) (v := ?_) (a' := ?_) #[false, true, true, true, false, false, false] rfl rfl (by kernel_rfl) (fun _ _ _ h => h) (Or.inl ⟨by rfl, ?_⟩) ?_ ?_
  rotate_left
  ·intro w'
   go_simp
   with_reducible rfl
  rotate_left
  ·simp only [Act.put, List.setIfInBounds_toArray, List.set_cons_zero, List.set_cons_succ, i64_w, i32_w]
   rfl
  refine take_ (i := 0) (N := some 23) (v := ?_) (a' := ?_) #[true, true, true, true, false, false, false] rfl rfl (by kernel_rfl) (fun _ _ _ h => h) (Or.inl ⟨by rfl, ?_⟩) hHeld ?_ ?_
  rotate_left
  ·rintro w' ⟨s0, s1⟩
   go_simp
   with_reducible rfl
  rotate_left
  ·simp only [Act.put, List.setIfInBounds_toArray, List.set_cons_zero, List.set_cons_succ, i64_w, i32_w]
   rfl
  refine one_ (i := 4) (N := some 27) #[true, true, true, true, true, false, false] rfl rfl (by kernel_rfl) (by decide) (fun K hK => ?_)
  refine goes_ Tryd.func50 (by kernel_rfl) rfl #[.pointer (some ⟨g193, 0, none⟩), .int .i64 (wrap64 ((t195.size : Int) + 1))] (by rfl) rfl rfl zq25 ?_
  with_reducible refine (spec_l00Src_pick.calls g193 t190 t200 t201 (wrap64 ((t195.size : Int) + 1)) t208 t209 t210 w _ ?side1 ?side2 A22.out).mono ?_
  (case side1 => exact zq14)
  (case side2 => exact zq8)
  rintro e w32 ⟨rfl, hi, hb, hk⟩
  refine ⟨_, rfl, ?_⟩
  replace BK189 := Aside0.mk (KeepBut.blk hk (g' := gb189) (o := .cells #[.string (⟨#[]⟩ : ByteArray), .string (⟨#[]⟩ : ByteArray)] 25 (0, 0)) zq0 NB189_193.out (by simp))
  replace BK198 := Aside0.mk (KeepBut.blk hk (g' := gb198) (o := .cells #[.string t194, .string t195] 25 (0, 0)) zq0 NB198_193.out (by simp))
  replace HB := Aside0.mk (hb)
  replace HI193 := Aside0.mk (hi)
  (try clear hb)
  (try clear hb2)
  (try clear hk)
  (try clear hi)
  refine hK.out _ _ ⟨(blk_cell BK198.out 0).trans rfl, (blk_cell BK198.out 1).trans rfl⟩ (fun hHeld => ?_)
  clear hK K
  refine norm_ (a' := ?_) ?_ ?_
  rotate_left
  ·show Act.put _ (some 27) _ = _
   simp only [Act.put, List.setIfInBounds_toArray, List.set_cons_zero, List.set_cons_succ, i64_w, i32_w]
   rfl
  refine one_ (i := 5) (N := none) #[true, true, true, true, true, true, false] rfl rfl (by kernel_rfl) (by decide) (fun K hK => ?_)
  have hs33 := cz BK189 0 rfl
  have hfs33 := blk_frozen BK189.out 0
  have hns33_1 := NB198_189.out
  have hms33_1 := NB189_198.out
  have hs34 := cz BK189 1 rfl
  have hfs34 := blk_frozen BK189.out 1
  have hns34_1 := NB198_189.out
  have hms34_1 := NB189_198.out
  refine skip_ (w1 := ?_) (by rfl) rfl ?_ ?_
  rotate_left
  ·go_simp
   rfl
  refine hK.out _ _ ⟨((cell_far (p := ⟨gb189, _, none⟩) NB198_189.out _).trans (((cell_far (p := ⟨gb189, _, none⟩) NB198_189.out _).trans (hHeld.1)))), ((cell_far (p := ⟨gb189, _, none⟩) NB198_189.out _).trans (((cell_far (p := ⟨gb189, _, none⟩) NB198_189.out _).trans (hHeld.2))))⟩ (fun hHeld => ?_)
  clear hK K
  refine pure_ (i := 6) (N := some 3) (v := ?_) (a' := ?_) #[true, true, true, true, true, true, true] rfl rfl (by kernel_rfl) (fun _ _ _ h => h) (Or.inl ⟨by rfl, ?_⟩) ?_ ?_
  rotate_left
  ·intro w'
   go_simp
   with_reducible rfl
  rotate_left
  ·simp only [Act.put, List.setIfInBounds_toArray, List.set_cons_zero, List.set_cons_succ, i64_w, i32_w]
   rfl
  refine done_ (by kernel_rfl) ?_
  try go_wp2
  refine bodyPost_ret (results_ct rfl _ _ gb189 25 #[.string t194, .string t195] (0, 0) _ rfl zq35 Tryd.underlying25 rfl (by kernel_rfl)) rfl ?_
  exact ⟨er, zq8⟩

end Go.Proofs.YtajbomiaoncgiaaDoor.QPL
