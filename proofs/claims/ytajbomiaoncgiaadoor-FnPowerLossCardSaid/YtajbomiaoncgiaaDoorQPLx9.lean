-- Written by a program of this place (wip/tools/prn.py) out of the translation, for this claim. Lean checks it.
import Derived.Test.YtajbomiaoncgiaaDoorQPLz
import Derived.Test.YtajbomiaoncgiaaDoorQPLx3
import Derived.Test.YtajbomiaoncgiaaDoorQPLx6
import Derived.Test.YtajbomiaoncgiaaDoorQPLx8
namespace Go.Proofs.YtajbomiaoncgiaaDoor.QPL
open Go.RowKit Go.Proofs.YtajbomiaoncgiaaDoorQ Go.Proofs.YtajbomiaoncgiaaDoorW.PrintWords Go.Proofs.YtajbomiaoncgiaaDoorW.PrintLast Go.Proofs.YtajbomiaoncgiaaDoorW.PrintMore
attribute [local go_sem] max2_int min2_int max_two min_two max_three min_three max_four min_four   -- for this text's walks alone
set_option linter.unusedVariables false
set_option linter.unusedSimpArgs false

/-! ### impl_ReadFrames: function 25 -/
def impl_ReadFrames.l0 : Nat → ByteArray → List (S39) → Int → Option ((List (S39)) × Int)
 | 0, _, _, _ => none
 | k + 1, x0, x4, x5 => if 0 ≤ x5 then (if x5 ≤ (x0.size : Int) then ((impl_readFrame.f k (x0.extract (x5 : Int).toNat x0.size)).bind fun bt247 => (if bt247.2.2.2 = 0 then (some (x4, x5)) else (if x4.length < 3518437208883 then (impl_ReadFrames.l0 k x0 (x4 ++ [(⟨bt247.1, bt247.2.1, bt247.2.2.1⟩ : S39)]) (wrap64 (x5 + bt247.2.2.2))) else (none)))) else (none)) else (none)
def impl_ReadFrames.f (k : Nat) (a0 : ByteArray) : Option ((List (S39)) × Int) := impl_ReadFrames.l0 k a0 (([] : List (S39))) 0
set_option maxHeartbeats 8000000 in
set_option maxRecDepth 100000 in
theorem impl_ReadFrames.calls (k : Nat) (a0 : ByteArray) (r1 : List (S39)) (r2 : Int) (w : World) (hG : GF w) (h : impl_ReadFrames.f k a0 = some (r1, r2)) :
  Calls Tryd.prog 25 #[.string a0] w fun e w' => ∃ v0_ : Value, e = .returned (.tuple #[v0_, .int .i64 r2]) ∧ Kd.R k39 39 w' w.heap.size (fun _ => True) v0_ r1 ∧ Below w.heap.size w w' := by
 have hu39 := Tryd.underlying39
 have HB := Aside0.mk (Below.refl w.heap.size w)
 have HG := Aside0.mk hG
 clear hG
 have H : (impl_ReadFrames.l0 k a0 (([] : List (S39))) 0) = some (r1, r2) := h
 clear h
 obtain ⟨y244, hy244⟩ : ∃ y_ : List (S39), y_ = (([] : List (S39))) := ⟨_, rfl⟩
 replace H : (impl_ReadFrames.l0 k a0 y244 0) = some (r1, r2) := by first | (rw [hy244]; with_reducible exact H) | (have H2_ := (Option.bind_some _ _).symm.trans H; rw [hy244]; with_reducible exact H2_) | (have H2_ := (Option.bind_some _ _).symm.trans H; with_reducible exact H2_) | with_reducible exact H | (rw [hy244]; exact H) | exact H
 have Ny244 := Aside0.mk hy244
 clear hy244
 have H' := Aside0.mk H
 clear H
 go_enter Tryd.func25, Tryd.ntmps25
 go_wp2_with (first | ((with_reducible refine gate_dst (N := 8) rfl ?_); refine Kd.R_lit k39 _ 39 ?hg (N := 8) ?hd (xs := ([] : List (S39))) (inner := []) (ok := fun _ => True) (okp := fun _ => True) ?hr ?hp (fun _ hk => hk) trivial (Below.refl _ _) (Nat.le_refl _) (by simp) ?_; (case hd => rfl); (case hg => rfl); (case hr => exact zq1); (case hp => exact (Reps.none _ _)); intro v245 w2 ho3 hb hg_ hnew_; clear hg_ hnew_; (first | rw [← Ny244.out] at ho3 | (simp only [Int.reduceToNat] at ho3; rw [← Ny244.out] at ho3)); have HO246 := Aside0.mk (Kd.R_lower ho3 (below_size bl)); replace HB := bs hb; clear hb ho3))
 go_loopg [4, 5] k (fun kq v4 v5 w' => ∃ (x4_1 : List (S39)) (x5_1 : Int), v5 = .int .i64 x5_1 ∧ Aside0 (impl_ReadFrames.l0 kq a0 x4_1 x5_1 = some (r1, r2)) ∧ Aside0 (kq ≤ k) ∧ Aside0 (Kd.R k39 39 w' w.heap.size (fun _ => True) v4 x4_1) ∧ Aside0 (Below w.heap.size w w'))
 case atStart => exact ⟨(y244), (0), sd, H', ⟨Nat.le_refl _⟩, ⟨by (with_reducible repeat (first | apply Kd.R_alloc | apply Kd.R_drewN | apply Kd.R_drew)); exact HO246.out⟩, ⟨bl⟩⟩
 case round =>
  clear H'
  try clear c2; try clear p2
  obtain ⟨x4_1, x5_1, rfl, HA, HK1, HO_4, HB⟩ := hrel
  cases gk with
  | zero => exact absurd HA.out (by simp [impl_ReadFrames.l0])
  | succ k1 =>
   have H := HA.out
   clear HA
   simp only [impl_ReadFrames.l0] at H
   by_cases c4 : 0 ≤ x5_1
   ·rw [if_pos c4] at H
    have c4b0 := eq_true c4
    have c4b1 : decide (0 ≤ x5_1) = true := decide_eq_true c4
    clear c4
    by_cases c5 : x5_1 ≤ (a0.size : Int)
    ·rw [if_pos c5] at H
     have c5b0 := eq_true c5
     have c5b1 : decide (x5_1 ≤ (a0.size : Int)) = true := decide_eq_true c5
     clear c5
     replace H := Option.bind_eq_some_iff.mp H
     obtain ⟨⟨t247, t248, t249, t250⟩, A60, H⟩ := H
     replace H : (if t250 = 0 then (some (x4_1, x5_1)) else (if x4_1.length < 3518437208883 then (impl_ReadFrames.l0 k1 a0 (x4_1 ++ [(⟨t247, t248, t249⟩ : S39)]) (wrap64 (x5_1 + t250))) else (none))) = some (r1, r2) := H
     have A6 := Aside0.mk A60
     clear A60
     by_cases c7 : t250 = 0
     ·rw [if_pos c7] at H
      have c7b0 : (t250 == 0) = true := beq_iff_eq.mpr c7
      have c7b1 : (t250 != 0) = false := bne_eq_false_iff_eq.mpr c7
      clear c7
      simp only [Option.some.injEq, Prod.mk.injEq] at H
      obtain ⟨rfl, rfl⟩ := H
      go_wp2_with (first | ((with_reducible refine gate_callee (f := 67) rfl ?_); refine goq (some 13) Tryd.func67 #[.string (a0.extract (x5_1 : Int).toNat a0.size)] ?_; (with_reducible refine (impl_readFrame.calls k1 (a0.extract (x5_1 : Int).toNat a0.size) t247 t248 t249 t250 _ ?side1 A6.out).mono ?_); (case side1 => exact (GF.below HG.out bl)); rintro e w8 ⟨rfl, hb⟩; refine ⟨_, rfl, ?_⟩; replace HO_4 := Aside0.mk (Kd.R_below zq15 hb); replace HB := bs hb; (try clear hb)) | ((with_reducible refine gate_dst (N := 6) rfl ?_); refine box_event ?hg (N := 6) ?hd (cs := #[.int .i64 0, .string (⟨#[]⟩ : ByteArray), .string (⟨#[]⟩ : ByteArray)]) (t := 39) ?hr ?_; (case hd => rfl); (case hg => rfl); (case hr => exact zq1); intro gb251 hg w9 hbox hb; replace HO_4 := Aside0.mk (Kd.R_below (Kd.R_elderB zq15 gb251 (Nat.le_of_eq hg.symm)) hb); have BK251 := Aside0.mk (hbox); have GW251 := gsz hg; have GE251 := gsz hg; replace HB := bs hb; clear hb hbox hg; have hcz10_0 := cz BK251 0 rfl; have hcz10_1 := cz BK251 1 rfl; have hcz10_2 := cz BK251 2 rfl; have hfz10_0 := blk_frozen BK251.out 0; have hfz10_1 := blk_frozen BK251.out 1; have hfz10_2 := blk_frozen BK251.out 2))
      go_ret2
      exact ⟨_, er, by (with_reducible repeat (first | apply Kd.R_alloc | apply Kd.R_drewN | apply Kd.R_drew)); exact Kd.R_mono (Kd.R_far (p := ⟨gb251, 2, none⟩) (Kd.R_far (p := ⟨gb251, 1, none⟩) (Kd.R_far (p := ⟨gb251, 0, none⟩) (Kd.R_mono HO_4.out (fun k_ hk => (⟨hk, hk.2⟩ : _ ∧ k_ ≠ gb251))) (fun _ hk => hk.2) (.int .i64 t247)) (fun _ hk => hk.2) (.string t248)) (fun _ hk => hk.2) (.string t249)) (fun _ hk => trivial), bl⟩
     ·rw [if_neg c7] at H
      have c7b0 : (t250 == 0) = false := beq_eq_false_iff_ne.mpr c7
      have c7b1 : (t250 != 0) = true := bne_iff_ne.mpr c7
      by_cases c11 : x4_1.length < 3518437208883
      ·rw [if_pos c11] at H
       have LMc11 := Aside0.mk c11
       clear c11
       obtain ⟨y252, hy252⟩ : ∃ y_ : List (S39), y_ = (x4_1 ++ [(⟨t247, t248, t249⟩ : S39)]) := ⟨_, rfl⟩
       replace H : (impl_ReadFrames.l0 k1 a0 y252 (wrap64 (x5_1 + t250))) = some (r1, r2) := by first | (rw [hy252]; with_reducible exact H) | (have H2_ := (Option.bind_some _ _).symm.trans H; rw [hy252]; with_reducible exact H2_) | (have H2_ := (Option.bind_some _ _).symm.trans H; with_reducible exact H2_) | with_reducible exact H | (rw [hy252]; exact H) | exact H
       have Ny252 := Aside0.mk hy252
       clear hy252
       have H' := Aside0.mk H
       clear H
       go_wp2_with (first | ((with_reducible refine gate_callee (f := 67) rfl ?_); refine goq (some 13) Tryd.func67 #[.string (a0.extract (x5_1 : Int).toNat a0.size)] ?_; (with_reducible refine (impl_readFrame.calls k1 (a0.extract (x5_1 : Int).toNat a0.size) t247 t248 t249 t250 _ ?side1 A6.out).mono ?_); (case side1 => exact (GF.below HG.out bl)); rintro e w12 ⟨rfl, hb⟩; refine ⟨_, rfl, ?_⟩; replace HO_4 := Aside0.mk (Kd.R_below zq15 hb); replace HB := bs hb; (try clear hb)) | ((with_reducible refine gate_dst (N := 6) rfl ?_); refine box_event ?hg (N := 6) ?hd (cs := #[.int .i64 0, .string (⟨#[]⟩ : ByteArray), .string (⟨#[]⟩ : ByteArray)]) (t := 39) ?hr ?_; (case hd => rfl); (case hg => rfl); (case hr => exact zq1); intro gb251 hg w13 hbox hb; replace HO_4 := Aside0.mk (Kd.R_below (Kd.R_elderB zq15 gb251 (Nat.le_of_eq hg.symm)) hb); have BK251 := Aside0.mk (hbox); have GW251 := gsz hg; have GE251 := gsz hg; replace HB := bs hb; clear hb hbox hg; have hcz14_0 := cz BK251 0 rfl; have hcz14_1 := cz BK251 1 rfl; have hcz14_2 := cz BK251 2 rfl; have hfz14_0 := blk_frozen BK251.out 0; have hfz14_1 := blk_frozen BK251.out 1; have hfz14_2 := blk_frozen BK251.out 2) | ((with_reducible refine gate_builtin (b := .append) (xs := #[.tmp 20, .tmp 22]) rfl ?_); at_builtin; refine Kd.R_append k39 (w0 := w) w.heap.size rfl (.tmp 20) (.tmp 22) 33 39 (.agg #[(.int .i64 0), (.string ⟨#[]⟩), (.string ⟨#[]⟩)]) 40 rfl Tryd.underlying33 info39 rfl (by decide) (by omega) u4 x4_1 (⟨t247, t248, t249⟩ : S39) [.int .i64 t247, .string t248, .string t249] (fun k_ => k_ ≠ gb251) (fun _ => False) rfl zq1 ?aP (fun _ hk => hk.elim) ?aF ?aO ?aB ?aS ?aL ?_; (case aP => exact k39_mkM _ _ _ (⟨t247, t248, t249⟩ : S39)); (case aB => exact bl); (case aF => exact (fun k_ hk => Kd.freshB (g := gb251) (o := .cells #[.int .i64 t247, .string t248, .string t249] 39 (0, 0)) zq72 k_ hk)); (case aO => exact (by (with_reducible repeat (first | apply Kd.R_alloc | apply Kd.R_drewN | apply Kd.R_drew)); exact Kd.R_mono (Kd.R_far (p := ⟨gb251, 2, none⟩) (Kd.R_far (p := ⟨gb251, 1, none⟩) (Kd.R_far (p := ⟨gb251, 0, none⟩) (Kd.R_mono HO_4.out (fun k_ hk => (⟨hk, hk.2⟩ : _ ∧ k_ ≠ gb251))) (fun _ hk => hk.2) (.int .i64 t247)) (fun _ hk => hk.2) (.string t248)) (fun _ hk => hk.2) (.string t249)) (fun _ hk => hk.1.2))); (case aS => exact (below_size bl)); (case aL => have := LMc11.out; omega); intro v253 w15 ho hb hg hat; rw [← Ny252.out] at ho; replace BK251 := Aside0.mk (blk_grown (g := gb251) (o := .cells #[.int .i64 t247, .string t248, .string t249] 39 (0, 0)) zq72 hg (Kd.R_away HO_4.out (fun _ hk => hk.2))); replace HB := Aside0.mk (hb); have HO254 := Aside0.mk (ho); clear HO_4; clear ho hb hg hat))
       go_roundg k1
       case measure => have := HK1.out; omega
       case rel => exact ⟨(y252), (wrap64 (x5_1 + t250)), sd, H', ⟨zq11⟩, ⟨by (with_reducible repeat (first | apply Kd.R_alloc | apply Kd.R_drewN | apply Kd.R_drew)); exact Kd.R_mono HO254.out (fun _ hk => trivial)⟩, ⟨bl⟩⟩
      ·rw [if_neg c11] at H
       exact absurd H (by simp)
    ·rw [if_neg c5] at H
     exact absurd H (by simp)
   ·rw [if_neg c4] at H
    exact absurd H (by simp)

/-! ### impl_validLog: function 51 -/
def impl_validLog.f (k : Nat) (a0_0 : ByteArray) (a0_1 : ByteArray) : Option (Bool) := (impl_ReadFrames.f k a0_1).bind fun bt256 => (if bt256.2 = (a0_1.size : Int) then (some (decide ((wrap64 ((a0_0.size : Int) + (a0_1.size : Int))) ≤ 4000))) else (some false))
set_option maxHeartbeats 8000000 in
set_option maxRecDepth 100000 in
theorem impl_validLog.calls (k : Nat) (a0_0 : ByteArray) (a0_1 : ByteArray) (r : Bool) (w : World) (hG : GF w) (h : impl_validLog.f k a0_0 a0_1 = some r) :
  Calls Tryd.prog 51 #[.agg #[.string a0_0, .string a0_1]] w fun e w' => e = .returned (.bool r) ∧ Below w.heap.size w w' := by
 have hu25 := Tryd.underlying25
 have HB := Aside0.mk (Below.refl w.heap.size w)
 have HG := Aside0.mk hG
 clear hG
 have H : ((impl_ReadFrames.f k a0_1).bind fun bt256 => (if bt256.2 = (a0_1.size : Int) then (some (decide ((wrap64 ((a0_0.size : Int) + (a0_1.size : Int))) ≤ 4000))) else (some false))) = some r := h
 clear h
 replace H := Option.bind_eq_some_iff.mp H
 obtain ⟨⟨t256, t257⟩, A20, H⟩ := H
 replace H : (if t257 = (a0_1.size : Int) then (some (decide ((wrap64 ((a0_0.size : Int) + (a0_1.size : Int))) ≤ 4000))) else (some false)) = some r := H
 have A2 := Aside0.mk A20
 clear A20
 by_cases c3 : t257 = (a0_1.size : Int)
 ·rw [if_pos c3] at H
  have c3b0 : (t257 == (a0_1.size : Int)) = true := beq_iff_eq.mpr c3
  have c3b1 : (t257 != (a0_1.size : Int)) = false := bne_eq_false_iff_eq.mpr c3
  clear c3
  obtain rfl := Option.some.inj H
  go_enter Tryd.func51, Tryd.ntmps51
  go_wp2_with (first | ((with_reducible refine gate_dst (N := 1) rfl ?_); (try (refine gate_guard (by rfl) ?_; dsimp only)); refine box_event ?hg (N := 1) ?hd (cs := #[.string a0_0, .string a0_1]) (t := 25) ?hr ?_; (case hd => rfl); (case hg => rfl); (case hr => exact zq1); intro gb255 hg w4 hbox hb; have BK255 := Aside0.mk (hbox); have GW255 := gsz hg; have GE255 := gsz hg; replace HB := bs hb; clear hb hbox hg; have hcz5_0 := cz BK255 0 rfl; have hcz5_1 := cz BK255 1 rfl; have hfz5_0 := blk_frozen BK255.out 0; have hfz5_1 := blk_frozen BK255.out 1) | ((with_reducible refine gate_callee (f := 25) rfl ?_); refine goq (some 8) Tryd.func25 #[.string a0_1] ?_; (with_reducible refine (impl_ReadFrames.calls k a0_1 t256 t257 _ ?side1 A2.out).mono ?_); (case side1 => exact (GF.below HG.out bl)); rintro e w6 ⟨v258, rfl, ho0, hb⟩; refine ⟨_, rfl, ?_⟩; have HO259 := Aside0.mk (Kd.R_lower ho0 (below_size bl)); replace BK255 := kb BK255 hb; replace HB := bs hb; (try clear hb); (try clear ho0); have hcz7_0 := cz BK255 0 rfl; have hcz7_1 := cz BK255 1 rfl; have hfz7_0 := blk_frozen BK255.out 0; have hfz7_1 := blk_frozen BK255.out 1))
  go_ret
  exact ⟨er, bl⟩
 ·rw [if_neg c3] at H
  have c3b0 : (t257 == (a0_1.size : Int)) = false := beq_eq_false_iff_ne.mpr c3
  have c3b1 : (t257 != (a0_1.size : Int)) = true := bne_iff_ne.mpr c3
  obtain rfl := Option.some.inj H
  go_enter Tryd.func51, Tryd.ntmps51
  go_wp2_with (first | ((with_reducible refine gate_dst (N := 1) rfl ?_); (try (refine gate_guard (by rfl) ?_; dsimp only)); refine box_event ?hg (N := 1) ?hd (cs := #[.string a0_0, .string a0_1]) (t := 25) ?hr ?_; (case hd => rfl); (case hg => rfl); (case hr => exact zq1); intro gb255 hg w8 hbox hb; have BK255 := Aside0.mk (hbox); have GW255 := gsz hg; have GE255 := gsz hg; replace HB := bs hb; clear hb hbox hg; have hcz9_0 := cz BK255 0 rfl; have hcz9_1 := cz BK255 1 rfl; have hfz9_0 := blk_frozen BK255.out 0; have hfz9_1 := blk_frozen BK255.out 1) | ((with_reducible refine gate_callee (f := 25) rfl ?_); refine goq (some 8) Tryd.func25 #[.string a0_1] ?_; (with_reducible refine (impl_ReadFrames.calls k a0_1 t256 t257 _ ?side1 A2.out).mono ?_); (case side1 => exact (GF.below HG.out bl)); rintro e w10 ⟨v258, rfl, ho0, hb⟩; refine ⟨_, rfl, ?_⟩; have HO259 := Aside0.mk (Kd.R_lower ho0 (below_size bl)); replace BK255 := kb BK255 hb; replace HB := bs hb; (try clear hb); (try clear ho0); have hcz11_0 := cz BK255 0 rfl; have hcz11_1 := cz BK255 1 rfl; have hfz11_0 := blk_frozen BK255.out 0; have hfz11_1 := blk_frozen BK255.out 1))
  go_ret
  exact ⟨er, bl⟩

/-! ### impl_LosePower: function 8 -/
def impl_LosePower.f (k : Nat) (a0_0 : ByteArray) (a0_1 : ByteArray) (a1 : Int) : Option (ByteArray × ByteArray × Int) := (impl_validLog.f k a0_0 a0_1).bind fun t262 => (if t262 = true then ((impl_within.f a1 0 (a0_1.size : Int)).bind fun t263 => (if t263 = true then (if 0 ≤ a1 then (if a1 ≤ (a0_1.size : Int) then (if a0_0.size + (a0_1.extract 0 (a1 : Int).toNat).size ≤ 9223372036854775807 then (some (a0_0 ++ (a0_1.extract 0 (a1 : Int).toNat), (⟨#[]⟩ : ByteArray), 0)) else (none)) else (none)) else (none)) else (some ((⟨#[]⟩ : ByteArray), (⟨#[]⟩ : ByteArray), 2)))) else (some ((⟨#[]⟩ : ByteArray), (⟨#[]⟩ : ByteArray), 1)))
def impl_LosePower.T5 : Bool × List (List Nat × List Nat) := (true, [([], []), ([0], [0]), ([], []), ([2], [2]), ([], []), ([3, 4], [3, 4]), ([1, 5], [1, 5]), ([6], [6]), ([7, 0, 1, 2, 3, 4, 5, 6, 7], [7]), ([8, 0, 1, 2, 3, 4, 5, 6, 7, 8], [])])
def impl_LosePower.B5 : List Nat := [0, 1, 0, 4, 0, 28, 63, 127, 255, 511]
theorem impl_LosePower.tab5 : rtab .any (opsOf Tryd.f8 5) = impl_LosePower.T5 := by kernel_rfl
theorem impl_LosePower.bits5 : waitsOk impl_LosePower.T5.2 impl_LosePower.B5 = true := by kernel_rfl
set_option maxHeartbeats 8000000 in
set_option maxRecDepth 100000 in
theorem impl_LosePower.calls (k : Nat) (a0_0 : ByteArray) (a0_1 : ByteArray) (a1 : Int) (r1 : ByteArray) (r2 : ByteArray) (r3 : Int) (w : World) (hG : GF w) (h : impl_LosePower.f k a0_0 a0_1 a1 = some (r1, r2, r3)) :
  Calls Tryd.prog 8 #[.agg #[.string a0_0, .string a0_1], .int .i64 a1] w fun e w' => e = .returned (.tuple #[.agg #[.string r1, .string r2], .int .i64 r3]) ∧ Below w.heap.size w w' := by
 have hu25 := Tryd.underlying25
 have HB := Aside0.mk (Below.refl w.heap.size w)
 have HG := Aside0.mk hG
 clear hG
 have H : ((impl_validLog.f k a0_0 a0_1).bind fun t262 => (if t262 = true then ((impl_within.f a1 0 (a0_1.size : Int)).bind fun t263 => (if t263 = true then (if 0 ≤ a1 then (if a1 ≤ (a0_1.size : Int) then (if a0_0.size + (a0_1.extract 0 (a1 : Int).toNat).size ≤ 9223372036854775807 then (some (a0_0 ++ (a0_1.extract 0 (a1 : Int).toNat), (⟨#[]⟩ : ByteArray), 0)) else (none)) else (none)) else (none)) else (some ((⟨#[]⟩ : ByteArray), (⟨#[]⟩ : ByteArray), 2)))) else (some ((⟨#[]⟩ : ByteArray), (⟨#[]⟩ : ByteArray), 1)))) = some (r1, r2, r3) := h
 clear h
 replace H := Option.bind_eq_some_iff.mp H
 obtain ⟨t262, A30, H⟩ := H
 have A3 := Aside0.mk A30
 clear A30
 by_cases c4 : t262 = true
 ·subst c4
  rw [if_pos rfl] at H
  replace H := Option.bind_eq_some_iff.mp H
  obtain ⟨t263, A50, H⟩ := H
  have A5 := Aside0.mk A50
  clear A50
  by_cases c6 : t263 = true
  ·subst c6
   rw [if_pos rfl] at H
   by_cases c7 : 0 ≤ a1
   ·rw [if_pos c7] at H
    have c7b0 := eq_true c7
    have c7b1 : decide (0 ≤ a1) = true := decide_eq_true c7
    clear c7
    by_cases c8 : a1 ≤ (a0_1.size : Int)
    ·rw [if_pos c8] at H
     have c8b0 := eq_true c8
     have c8b1 : decide (a1 ≤ (a0_1.size : Int)) = true := decide_eq_true c8
     clear c8
     by_cases c9 : a0_0.size + (a0_1.extract 0 (a1 : Int).toNat).size ≤ 9223372036854775807
     ·rw [if_pos c9] at H
      have c9b0 := eq_true c9
      have c9b1 : decide (a0_0.size + (a0_1.extract 0 (a1 : Int).toNat).size ≤ 9223372036854775807) = true := decide_eq_true c9
      try have c9b3 : (9223372036854775807 < a0_0.size + a1.toNat) = False := by have h_ := c9; simp only [ByteArray.size_append, ByteArray.size_extract] at h_; have q0_ : a1 ≤ (a0_1.size : Int) := dt; exact eq_false (by omega)
      try have c9b2 : (9223372036854775807 < a0_0.size + (a0_1.extract 0 (a1 : Int).toNat).size) = False := eq_false (Nat.not_lt.2 c9)
      simp only [Option.some.injEq, Prod.mk.injEq] at H
      obtain ⟨rfl, rfl, rfl⟩ := H
      go_enter Tryd.func8, Tryd.ntmps8
      try go_wp2_with (first | ((with_reducible refine gate_dst (N := 2) rfl ?_); refine box_event ?hg (N := 2) ?hd (cs := #[.string a0_0, .string a0_1]) (t := 25) ?hr ?_; (case hd => rfl); (case hg => rfl); (case hr => exact zq1); intro gb260 hg w10 hbox hb; have BK260 := Aside0.mk (hbox); have GW260 := gsz hg; have GE260 := gsz hg; replace HB := bs hb; clear hb hbox hg) | ((with_reducible refine gate_dst (N := 4) rfl ?_); refine box_event ?hg (N := 4) ?hd (cs := #[.string (⟨#[]⟩ : ByteArray), .string (⟨#[]⟩ : ByteArray)]) (t := 25) ?hr ?_; (case hd => rfl); (case hg => rfl); (case hr => exact zq1); intro gb261 hg w11 hbox hb; have BK261 := Aside0.mk (hbox); have GW261 := gsz hg; have GE261 := gsz hg; replace HB := bs hb; have NB260_261 := nlt BK260 hg; have NB261_260 := ngt BK260 hg; replace BK260 := kb BK260 hb; clear hb hbox hg; have hnb12 := NB260_261.out; have hnc12 := NB261_260.out; have hcz13_0 := cz BK260 0 rfl; have hcz13_1 := cz BK260 1 rfl; have hfz13_0 := blk_frozen BK260.out 0; have hfz13_1 := blk_frozen BK260.out 1) | ((with_reducible refine gate_callee (f := 51) rfl ?_); refine goq (some 7) Tryd.func51 #[.agg #[.string a0_0, .string a0_1]] ?_; (with_reducible refine (impl_validLog.calls k a0_0 a0_1 true _ ?side1 A3.out).mono ?_); (case side1 => exact (GF.below HG.out bl)); rintro e w14 ⟨rfl, hb⟩; refine ⟨_, rfl, ?_⟩; replace BK260 := kb BK260 hb; replace BK261 := kb BK261 hb; replace HB := bs hb; (try clear hb); have hcz15_0 := cz BK260 0 rfl; have hcz15_1 := cz BK260 1 rfl; have hfz15_0 := blk_frozen BK260.out 0; have hfz15_1 := blk_frozen BK260.out 1) | ((with_reducible refine gate_callee (f := 52) rfl ?_); refine goq (some 14) Tryd.func52 #[.int .i64 a1, .int .i64 0, .int .i64 (a0_1.size : Int)] ?_; (with_reducible refine (impl_within.calls a1 0 (a0_1.size : Int) true _ A5.out).mono ?_); rintro e w' ⟨rfl, ⟨nd, rfl⟩⟩; refine ⟨_, rfl, ?_⟩; (try (rw [drewN_self w14]; generalize hq_ : World.drewN w14 _ = w14; have n0_ : Aside0 (w14.heap[gb260]? = some (.cells #[.string a0_0, .string a0_1] 25 (0, 0))) := ⟨zq16⟩; have n1_ : Aside0 (w14.heap[gb261]? = some (.cells #[.string (⟨#[]⟩ : ByteArray), .string (⟨#[]⟩ : ByteArray)] 25 (0, 0))) := ⟨zq16⟩; have n2_ : Aside0 (Below w.heap.size w w14) := ⟨by rw [← hq_]; exact bl⟩; clear BK260 BK261 HB hq_; have BK260 := n0_; have BK261 := n1_; have HB := n2_; clear n0_ n1_ n2_))))
      replace BK260 := Aside0.mk (blk_drew BK260.out)
      replace BK261 := Aside0.mk (blk_drew BK261.out)
      replace HB := Aside0.mk (below_drew1 HB.out)
      refine start_ (n := 10) (S := fun w' => w'.cell? ⟨gb260, 0, none⟩ = some (.string a0_0) ∧ w'.cell? ⟨gb260, 1, none⟩ = some (.string a0_1)) (ds := []) #[false, false, false, false, false, false, false, false, false, false] (by kernel_rfl) rfl rfl ⟨(blk_cell BK260.out 0).trans rfl, (blk_cell BK260.out 1).trans rfl⟩ (fun hHeld => ?_); refine with_tabW impl_LosePower.tab5 impl_LosePower.bits5 (fun HT_ HW_ => ?_)
      generalize w14.drew = w16 at BK260 BK261 HB hHeld ⊢
      refine pu (i := 0) (N := some 17) (l' := #[true, false, false, false, false, false, false, false, false, false]) HT_ ?_
      refine pu (i := 2) (N := some 19) (l' := #[true, false, true, false, false, false, false, false, false, false]) HT_ ?_
      refine pu (i := 4) (N := some 21) (l' := #[true, false, true, false, true, false, false, false, false, false]) HT_ ?_
      refine take_ (i := 1) (N := some 18) (v := ?_) (a' := ?_) #[true, true, true, false, true, false, false, false, false, false] rfl rfl (take_ofW HT_.out HW_.out (by kernel_rfl)) (fun _ _ _ h => h) (Or.inl ⟨by rfl, ?_⟩) hHeld ?_ ?_
      rotate_left
      ·rintro w' ⟨s0, s1⟩
       go_simp
       with_reducible rfl
      rotate_left
      ·simp only [Act.put, List.setIfInBounds_toArray, List.set_cons_zero, List.set_cons_succ, i64_w, i32_w]
       rfl
      refine take_ (i := 3) (N := some 20) (v := ?_) (a' := ?_) #[true, true, true, true, true, false, false, false, false, false] rfl rfl (take_ofW HT_.out HW_.out (by kernel_rfl)) (fun _ _ _ h => h) (Or.inl ⟨by rfl, ?_⟩) hHeld ?_ ?_
      rotate_left
      ·rintro w' ⟨s0, s1⟩
       go_simp
       with_reducible rfl
      rotate_left
      ·simp only [Act.put, List.setIfInBounds_toArray, List.set_cons_zero, List.set_cons_succ, i64_w, i32_w]
       rfl
      refine pu (i := 5) (N := some 22) (l' := #[true, true, true, true, true, true, false, false, false, false]) HT_ ?_
      refine pu (i := 6) (N := some 23) (l' := #[true, true, true, true, true, true, true, false, false, false]) HT_ ?_
      refine pu (i := 7) (N := some 24) (l' := #[true, true, true, true, true, true, true, true, false, false]) HT_ ?_
      refine one_ (i := 8) (N := none) #[true, true, true, true, true, true, true, true, true, false] rfl rfl (one_of HT_.out (by kernel_rfl)) (by decide) (fun K hK => ?_)
      have hs17 := cz BK261 0 rfl
      have hfs17 := blk_frozen BK261.out 0
      have hns17_0 := NB260_261.out
      have hms17_0 := NB261_260.out
      have hs18 := cz BK261 1 rfl
      have hfs18 := blk_frozen BK261.out 1
      have hns18_0 := NB260_261.out
      have hms18_0 := NB261_260.out
      refine skip_ (w1 := ?_) (by rfl) rfl ?_ ?_
      rotate_left
      ·go_simp
       rfl
      refine hK.out _ _ ⟨((cell_far (p := ⟨gb261, _, none⟩) NB260_261.out _).trans (((cell_far (p := ⟨gb261, _, none⟩) NB260_261.out _).trans (hHeld.1)))), ((cell_far (p := ⟨gb261, _, none⟩) NB260_261.out _).trans (((cell_far (p := ⟨gb261, _, none⟩) NB260_261.out _).trans (hHeld.2))))⟩ (fun hHeld => ?_)
      clear hK K
      refine pu (i := 9) (N := some 5) (l' := #[true, true, true, true, true, true, true, true, true, true]) HT_ ?_
      refine done_ (done_of HT_.out (by kernel_rfl)) ?_
      try go_wp2
      refine bodyPost_ret (results_ct rfl _ _ gb261 25 #[.string (a0_0 ++ (a0_1.extract 0 (a1 : Int).toNat)), .string (⟨#[]⟩ : ByteArray)] (0, 0) _ rfl zq45 Tryd.underlying25 rfl (by kernel_rfl)) rfl ?_
      exact ⟨er, bl⟩
     ·rw [if_neg c9] at H
      exact absurd H (by simp)
    ·rw [if_neg c8] at H
     exact absurd H (by simp)
   ·rw [if_neg c7] at H
    exact absurd H (by simp)
  ·replace c6 := Bool.eq_false_iff.mpr c6
   subst c6
   rw [if_neg (show ¬ (false = true) by decide)] at H
   simp only [Option.some.injEq, Prod.mk.injEq] at H
   obtain ⟨rfl, rfl, rfl⟩ := H
   go_enter Tryd.func8, Tryd.ntmps8
   go_wp2_with (first | ((with_reducible refine gate_dst (N := 2) rfl ?_); refine box_event ?hg (N := 2) ?hd (cs := #[.string a0_0, .string a0_1]) (t := 25) ?hr ?_; (case hd => rfl); (case hg => rfl); (case hr => exact zq1); intro gb260 hg w19 hbox hb; have BK260 := Aside0.mk (hbox); have GW260 := gsz hg; have GE260 := gsz hg; replace HB := bs hb; clear hb hbox hg) | ((with_reducible refine gate_dst (N := 4) rfl ?_); refine box_event ?hg (N := 4) ?hd (cs := #[.string (⟨#[]⟩ : ByteArray), .string (⟨#[]⟩ : ByteArray)]) (t := 25) ?hr ?_; (case hd => rfl); (case hg => rfl); (case hr => exact zq1); intro gb261 hg w20 hbox hb; have BK261 := Aside0.mk (hbox); have GW261 := gsz hg; have GE261 := gsz hg; replace HB := bs hb; have NB260_261 := nlt BK260 hg; have NB261_260 := ngt BK260 hg; replace BK260 := kb BK260 hb; clear hb hbox hg; have hnb21 := NB260_261.out; have hnc21 := NB261_260.out; have hcz22_0 := cz BK260 0 rfl; have hcz22_1 := cz BK260 1 rfl; have hfz22_0 := blk_frozen BK260.out 0; have hfz22_1 := blk_frozen BK260.out 1) | ((with_reducible refine gate_callee (f := 51) rfl ?_); refine goq (some 7) Tryd.func51 #[.agg #[.string a0_0, .string a0_1]] ?_; (with_reducible refine (impl_validLog.calls k a0_0 a0_1 true _ ?side1 A3.out).mono ?_); (case side1 => exact (GF.below HG.out bl)); rintro e w23 ⟨rfl, hb⟩; refine ⟨_, rfl, ?_⟩; replace BK260 := kb BK260 hb; replace BK261 := kb BK261 hb; replace HB := bs hb; (try clear hb); have hcz24_0 := cz BK260 0 rfl; have hcz24_1 := cz BK260 1 rfl; have hfz24_0 := blk_frozen BK260.out 0; have hfz24_1 := blk_frozen BK260.out 1) | ((with_reducible refine gate_callee (f := 52) rfl ?_); refine goq (some 14) Tryd.func52 #[.int .i64 a1, .int .i64 0, .int .i64 (a0_1.size : Int)] ?_; (with_reducible refine (impl_within.calls a1 0 (a0_1.size : Int) false _ A5.out).mono ?_); rintro e w' ⟨rfl, ⟨nd, rfl⟩⟩; refine ⟨_, rfl, ?_⟩; (try (rw [drewN_self w23]; generalize hq_ : World.drewN w23 _ = w23; have n0_ : Aside0 (w23.heap[gb260]? = some (.cells #[.string a0_0, .string a0_1] 25 (0, 0))) := ⟨zq16⟩; have n1_ : Aside0 (w23.heap[gb261]? = some (.cells #[.string (⟨#[]⟩ : ByteArray), .string (⟨#[]⟩ : ByteArray)] 25 (0, 0))) := ⟨zq16⟩; have n2_ : Aside0 (Below w.heap.size w w23) := ⟨by rw [← hq_]; exact bl⟩; clear BK260 BK261 HB hq_; have BK260 := n0_; have BK261 := n1_; have HB := n2_; clear n0_ n1_ n2_)); have hcz25_0 := cz BK261 0 rfl; have hcz25_1 := cz BK261 1 rfl; have hfz25_0 := blk_frozen BK261.out 0; have hfz25_1 := blk_frozen BK261.out 1))
   refine bodyPost_ret (results_ct rfl _ _ gb261 25 #[.string (⟨#[]⟩ : ByteArray), .string (⟨#[]⟩ : ByteArray)] (0, 0) _ rfl zq13 Tryd.underlying25 rfl (by kernel_rfl)) rfl ?_
   exact ⟨er, bl⟩
 ·replace c4 := Bool.eq_false_iff.mpr c4
  subst c4
  rw [if_neg (show ¬ (false = true) by decide)] at H
  simp only [Option.some.injEq, Prod.mk.injEq] at H
  obtain ⟨rfl, rfl, rfl⟩ := H
  go_enter Tryd.func8, Tryd.ntmps8
  go_wp2_with (first | ((with_reducible refine gate_dst (N := 2) rfl ?_); refine box_event ?hg (N := 2) ?hd (cs := #[.string a0_0, .string a0_1]) (t := 25) ?hr ?_; (case hd => rfl); (case hg => rfl); (case hr => exact zq1); intro gb260 hg w26 hbox hb; have BK260 := Aside0.mk (hbox); have GW260 := gsz hg; have GE260 := gsz hg; replace HB := bs hb; clear hb hbox hg) | ((with_reducible refine gate_dst (N := 4) rfl ?_); refine box_event ?hg (N := 4) ?hd (cs := #[.string (⟨#[]⟩ : ByteArray), .string (⟨#[]⟩ : ByteArray)]) (t := 25) ?hr ?_; (case hd => rfl); (case hg => rfl); (case hr => exact zq1); intro gb261 hg w27 hbox hb; have BK261 := Aside0.mk (hbox); have GW261 := gsz hg; have GE261 := gsz hg; replace HB := bs hb; have NB260_261 := nlt BK260 hg; have NB261_260 := ngt BK260 hg; replace BK260 := kb BK260 hb; clear hb hbox hg; have hnb28 := NB260_261.out; have hnc28 := NB261_260.out; have hcz29_0 := cz BK260 0 rfl; have hcz29_1 := cz BK260 1 rfl; have hfz29_0 := blk_frozen BK260.out 0; have hfz29_1 := blk_frozen BK260.out 1) | ((with_reducible refine gate_callee (f := 51) rfl ?_); refine goq (some 7) Tryd.func51 #[.agg #[.string a0_0, .string a0_1]] ?_; (with_reducible refine (impl_validLog.calls k a0_0 a0_1 false _ ?side1 A3.out).mono ?_); (case side1 => exact (GF.below HG.out bl)); rintro e w30 ⟨rfl, hb⟩; refine ⟨_, rfl, ?_⟩; replace BK260 := kb BK260 hb; replace BK261 := kb BK261 hb; replace HB := bs hb; (try clear hb); have hcz31_0 := cz BK261 0 rfl; have hcz31_1 := cz BK261 1 rfl; have hfz31_0 := blk_frozen BK261.out 0; have hfz31_1 := blk_frozen BK261.out 1))
  refine bodyPost_ret (results_ct rfl _ _ gb261 25 #[.string (⟨#[]⟩ : ByteArray), .string (⟨#[]⟩ : ByteArray)] (0, 0) _ rfl zq13 Tryd.underlying25 rfl (by kernel_rfl)) rfl ?_
  exact ⟨er, bl⟩

/-! ### spec_l01Digit: function 91 -/
def spec_l01Digit.f (a0 : Int) : Option (Bool) := if a0 ≥ 48 then (some (decide (a0 ≤ 57))) else (some false)
set_option maxHeartbeats 8000000 in
set_option maxRecDepth 100000 in
theorem spec_l01Digit.calls (a0 : Int) (r : Bool) (w : World) (h : spec_l01Digit.f a0 = some r) :
  Calls Tryd.prog 91 #[.int .u8 a0] w fun e w' => e = .returned (.bool r) ∧ Drawn0 w w' := by
 have H : (if a0 ≥ 48 then (some (decide (a0 ≤ 57))) else (some false)) = some r := h
 clear h
 by_cases c2 : a0 ≥ 48
 ·rw [if_pos c2] at H
  have c2b0 : decide (48 ≤ a0) = true := decide_eq_true c2
  clear c2
  obtain rfl := Option.some.inj H
  go_enter Tryd.func91, Tryd.ntmps91
  go_wp2
  go_ret
  exact ⟨sd, dr⟩
 ·rw [if_neg c2] at H
  have c2b0 : decide (48 ≤ a0) = false := decide_eq_false c2
  clear c2
  obtain rfl := Option.some.inj H
  go_enter Tryd.func91, Tryd.ntmps91
  go_wp2
  go_ret
  exact ⟨sd, dr⟩

/-! ### spec_l01Number: function 109 -/
mutual
def spec_l01Number.j0 : Nat → ByteArray → ByteArray → Bool → Option (Int × Bool)
 | 0, _, _, _ => none
 | k + 1, x0, x4, x14 => if x14 = true then (if 1 ≤ (x4.size : Int) then (spec_l01Number.j1 k x0 (x4.extract 1 x4.size)) else (none)) else (spec_l01Number.j1 k x0 x4)
def spec_l01Number.j1 : Nat → ByteArray → ByteArray → Option (Int × Bool)
 | 0, _, _ => none
 | k + 1, x0, x4 => if (x4.size : Int) < 1 then (spec_l01Number.j2 k x0 x4 true) else (spec_l01Number.j2 k x0 x4 (decide ((x4.size : Int) > 18)))
def spec_l01Number.j2 : Nat → ByteArray → ByteArray → Bool → Option (Int × Bool)
 | 0, _, _, _ => none
 | k + 1, x0, x4, x24 => if x24 = true then (some (0, false)) else (spec_l01Number.l0 k x0 x4 0 0)
def spec_l01Number.l0 : Nat → ByteArray → ByteArray → Int → Int → Option (Int × Bool)
 | 0, _, _, _, _ => none
 | k + 1, x0, x4, x5, x6 => if x6 < (x4.size : Int) then (if 0 ≤ x6 then ((spec_l01Digit.f (bt x4 x6)).bind fun t264 => (if t264 = true then (spec_l01Number.l0 k x0 x4 (wrap64 ((wrap64 (10 * x5)) + (((bt x4 x6) - 48) % 256))) (wrap64 (x6 + 1))) else (some (0, false)))) else (none)) else (if (x4.size : Int) < (x0.size : Int) then ((spec_l01Dec.f k (wrap64 (-x5))).bind fun t265 => (if t265.toList = x0.toList then (some (wrap64 (-x5), true)) else (some (0, false)))) else ((spec_l01Dec.f k x5).bind fun t266 => (if t266.toList = x0.toList then (some (x5, true)) else (some (0, false)))))
end
def spec_l01Number.f (k : Nat) (a0 : ByteArray) : Option (Int × Bool) := if a0.toList = ([] : List UInt8) then (spec_l01Number.j0 k a0 a0 false) else (if 0 < (a0.size : Int) then (spec_l01Number.j0 k a0 a0 ((bt a0 0) == 45)) else (none))
set_option maxHeartbeats 8000000 in
set_option maxRecDepth 100000 in
theorem spec_l01Number.calls (k : Nat) (a0 : ByteArray) (r1 : Int) (r2 : Bool) (w : World) (h : spec_l01Number.f k a0 = some (r1, r2)) :
  Calls Tryd.prog 109 #[.string a0] w fun e w' => e = .returned (.tuple #[.int .i64 r1, .bool r2]) ∧ Below w.heap.size w w' := by
 have HB := Aside0.mk (Below.refl w.heap.size w)
 have H : (if a0.toList = ([] : List UInt8) then (spec_l01Number.j0 k a0 a0 false) else (if 0 < (a0.size : Int) then (spec_l01Number.j0 k a0 a0 ((bt a0 0) == 45)) else (none))) = some (r1, r2) := h
 clear h
 have HC2 := Aside0.mk H
 clear H
 go_enter Tryd.func109, Tryd.ntmps109
 go_upto_region 2 with (fail)
 go_cut [14] (fun v14 wc => ∃ (kq : Nat) (x14_1 : Bool), v14 = .bool x14_1 ∧ Aside0 (spec_l01Number.j0 kq a0 a0 x14_1 = some (r1, r2)) ∧ Aside0 (kq ≤ k) ∧ Aside0 (Below w.heap.size w wc))
 case first =>
  have H := HC2.out
  clear HC2
  by_cases c3 : a0.toList = ([] : List UInt8)
  ·rw [if_pos c3] at H
   have c3b0 : (a0.toList == ([] : List UInt8)) = true := beq_iff_eq.mpr c3
   have c3b1 : (a0.toList != ([] : List UInt8)) = false := bne_eq_false_iff_eq.mpr c3
   clear c3
   (first | rw [c3b0] | (simp only [i64_w, i32_w]; rw [c3b0]) | skip)
   have H' := Aside0.mk H
   clear H
   go_wp2
   go_meet
   case rel => exact ⟨_, (false), sd, H', ⟨om⟩, ⟨bl⟩⟩
  ·rw [if_neg c3] at H
   have c3b0 : (a0.toList == ([] : List UInt8)) = false := beq_eq_false_iff_ne.mpr c3
   have c3b1 : (a0.toList != ([] : List UInt8)) = true := bne_iff_ne.mpr c3
   (first | rw [c3b0] | (simp only [i64_w, i32_w]; rw [c3b0]) | skip)
   by_cases c4 : 0 < (a0.size : Int)
   ·rw [if_pos c4] at H
    have c4b0 : decide (0 < (a0.size : Int)) = true := decide_eq_true c4
    have c4b1 : decide (0 < a0.size) = true := decide_eq_true (by omega)
    clear c4
    have H' := Aside0.mk H
    clear H
    have p5 : 0 ≤ (0 : Int) := (by omega)
    have q5 : 0 < a0.size := (by have : (0 : Int) < (a0.size : Int) := dt; omega)
    have hx5 : ∀ h : 0 < a0.size, ((a0[0]'h).toNat : Int) = bt a0 0 := bt_at a0 0
    clear p5
    have qi5 : (0 < (a0.size : Int)) = True := eq_true (dt)
    replace q5 := eq_true q5
    go_wp2
    go_meet
    case rel => exact ⟨_, (((bt a0 0) == 45)), sd, H', ⟨om⟩, ⟨bl⟩⟩
   ·rw [if_neg c4] at H
    exact absurd H (by simp)
 case rest =>
  clear HC2
  try clear c1; try clear p2; try clear c3; try clear c3b0; try clear c3b1; try clear c4; try clear c4b0; try clear c4b1; try clear p5; try clear q5; try clear hx5; try clear qi5
  obtain ⟨kq, x14_1, rfl, HA, HJ1, HB⟩ := hcut
  cases kq with
  | zero => exact absurd HA.out (by simp [spec_l01Number.j0])
  | succ kj1 =>
   have H := HA.out
   clear HA
   simp only [spec_l01Number.j0] at H
   have HC6 := Aside0.mk H
   clear H
   go_upto_if 14 with (fail)
   go_cut [4] (fun v4 wc => ∃ (kq : Nat) (x4_5 : ByteArray), v4 = .string x4_5 ∧ Aside0 (spec_l01Number.j1 kq a0 x4_5 = some (r1, r2)) ∧ Aside0 (kq ≤ kj1) ∧ Aside0 (Below w.heap.size w wc))
   case first =>
    have H := HC6.out
    clear HC6
    by_cases c7 : x14_1 = true
    ·subst c7
     rw [if_pos rfl] at H
     by_cases c8 : 1 ≤ (a0.size : Int)
     ·rw [if_pos c8] at H
      have c8b0 := eq_true c8
      have c8b1 : decide (1 ≤ (a0.size : Int)) = true := decide_eq_true c8
      clear c8
      have H' := Aside0.mk H
      clear H
      go_wp2
      go_meet
      case rel => exact ⟨_, (a0.extract 1 a0.size), sd, H', ⟨zq23⟩, ⟨bl⟩⟩
     ·rw [if_neg c8] at H
      exact absurd H (by simp)
    ·replace c7 := Bool.eq_false_iff.mpr c7
     subst c7
     rw [if_neg (show ¬ (false = true) by decide)] at H
     have H' := Aside0.mk H
     clear H
     go_wp2
     go_meet
     case rel => exact ⟨_, (a0), sd, H', ⟨zq23⟩, ⟨bl⟩⟩
   case rest =>
    clear HC6
    try clear c1; try clear p2; try clear c3; try clear c3b0; try clear c3b1; try clear c4; try clear c4b0; try clear c4b1; try clear p5; try clear q5; try clear hx5; try clear qi5; try clear c7; try clear c8; try clear c8b0; try clear c8b1
    obtain ⟨kq, x4_5, rfl, HA, HJ5, HB⟩ := hcut
    cases kq with
    | zero => exact absurd HA.out (by simp [spec_l01Number.j1])
    | succ kj5 =>
     have H := HA.out
     clear HA
     simp only [spec_l01Number.j1] at H
     have HC9 := Aside0.mk H
     clear H
     go_upto_region 4 with (fail)
     go_cut [24] (fun v24 wc => ∃ (kq : Nat) (x24_8 : Bool), v24 = .bool x24_8 ∧ Aside0 (spec_l01Number.j2 kq a0 x4_5 x24_8 = some (r1, r2)) ∧ Aside0 (kq ≤ kj5) ∧ Aside0 (Below w.heap.size w wc))
     case first =>
      have H := HC9.out
      clear HC9
      by_cases c10 : (x4_5.size : Int) < 1
      ·rw [if_pos c10] at H
       have c10b0 : decide ((x4_5.size : Int) < 1) = true := decide_eq_true c10
       have c10b1 : decide (x4_5.size < 1) = true := decide_eq_true (by omega)
       clear c10
       (first | rw [c10b0] | (simp only [i64_w, i32_w]; rw [c10b0]) | skip)
       have H' := Aside0.mk H
       clear H
       go_wp2
       go_meet
       case rel => exact ⟨_, (true), sd, H', ⟨by have := HJ1.out; have := HJ5.out; first | omega | exact Nat.le_refl _⟩, ⟨bl⟩⟩
      ·rw [if_neg c10] at H
       have c10b0 : decide ((x4_5.size : Int) < 1) = false := decide_eq_false c10
       have c10b1 : decide (x4_5.size < 1) = false := decide_eq_false (by omega)
       clear c10
       (first | rw [c10b0] | (simp only [i64_w, i32_w]; rw [c10b0]) | skip)
       have H' := Aside0.mk H
       clear H
       go_wp2
       go_meet
       case rel => exact ⟨_, (decide ((x4_5.size : Int) > 18)), sd, H', ⟨by have := HJ1.out; have := HJ5.out; first | omega | exact Nat.le_refl _⟩, ⟨bl⟩⟩
     case rest =>
      clear HC9
      try clear c1; try clear p2; try clear c3; try clear c3b0; try clear c3b1; try clear c4; try clear c4b0; try clear c4b1; try clear p5; try clear q5; try clear hx5; try clear qi5; try clear c7; try clear c8; try clear c8b0; try clear c8b1; try clear c10; try clear c10b0; try clear c10b1
      obtain ⟨kq, x24_8, rfl, HA, HJ8, HB⟩ := hcut
      cases kq with
      | zero => exact absurd HA.out (by simp [spec_l01Number.j2])
      | succ kj8 =>
       have H := HA.out
       clear HA
       simp only [spec_l01Number.j2] at H
       by_cases c11 : x24_8 = true
       ·subst c11
        rw [if_pos rfl] at H
        simp only [Option.some.injEq, Prod.mk.injEq] at H
        obtain ⟨rfl, rfl⟩ := H
        go_wp2
        go_ret2
        exact ⟨er, bl⟩
       ·replace c11 := Bool.eq_false_iff.mpr c11
        subst c11
        rw [if_neg (show ¬ (false = true) by decide)] at H
        have H' := Aside0.mk H
        clear H
        go_wp2
        go_loopg [5, 6] kj8 (fun kq v5 v6 w' => ∃ (x5_4 : Int) (x6_4 : Int), v5 = .int .i64 x5_4 ∧ v6 = .int .i64 x6_4 ∧ Aside0 (spec_l01Number.l0 kq a0 x4_5 x5_4 x6_4 = some (r1, r2)) ∧ Aside0 (kq ≤ kj8) ∧ Aside0 (Below w.heap.size w w'))
        case atStart => exact ⟨(0), (0), sd, sd, H', ⟨Nat.le_refl _⟩, ⟨bl⟩⟩
        case round =>
         clear H'
         try clear c1; try clear p2; try clear c3; try clear c3b0; try clear c3b1; try clear c4; try clear c4b0; try clear c4b1; try clear p5; try clear q5; try clear hx5; try clear qi5; try clear c7; try clear c8; try clear c8b0; try clear c8b1; try clear c10; try clear c10b0; try clear c10b1; try clear c11
         obtain ⟨x5_4, x6_4, rfl, rfl, HA, HK4, HB⟩ := hrel
         cases gk with
         | zero => exact absurd HA.out (by simp [spec_l01Number.l0])
         | succ k4 =>
          have H := HA.out
          clear HA
          simp only [spec_l01Number.l0] at H
          by_cases c12 : x6_4 < (x4_5.size : Int)
          ·rw [if_pos c12] at H
           have c12b0 : decide (x6_4 < (x4_5.size : Int)) = true := decide_eq_true c12
           clear c12
           by_cases c13 : 0 ≤ x6_4
           ·rw [if_pos c13] at H
            have c13b0 : decide (0 ≤ x6_4) = true := decide_eq_true c13
            clear c13
            replace H := Option.bind_eq_some_iff.mp H
            obtain ⟨t264, A150, H⟩ := H
            have A15 := Aside0.mk A150
            clear A150
            by_cases c16 : t264 = true
            ·subst c16
             rw [if_pos rfl] at H
             have H' := Aside0.mk H
             clear H
             have p14 : 0 ≤ (x6_4 : Int) := dt
             have q14 : x6_4 < (x4_5.size : Int) := dt
             have hx14 := bt_at x4_5 x6_4
             replace p14 := eq_true p14
             replace q14 := eq_true q14
             go_wp2_with (first | ((with_reducible refine gate_callee (f := 91) rfl ?_); refine goq (some 34) Tryd.func91 #[.int .u8 (bt x4_5 x6_4)] ?_; (with_reducible refine (spec_l01Digit.calls (bt x4_5 x6_4) true _ A15.out).mono ?_); rintro e w' ⟨rfl, ⟨nd, rfl⟩⟩; refine ⟨_, rfl, ?_⟩; have p17 : 0 ≤ (x6_4 : Int) := dt; have q17 : x6_4 < (x4_5.size : Int) := dt; have hx17 := bt_at x4_5 x6_4; replace p17 := eq_true p17; replace q17 := eq_true q17))
             go_roundg k4
             case measure => have := HJ1.out; have := HJ5.out; have := HJ8.out; have := HK4.out; omega
             case rel => exact ⟨(wrap64 ((wrap64 (10 * x5_4)) + (((bt x4_5 x6_4) - 48) % 256))), (wrap64 (x6_4 + 1)), sd, sd, H', ⟨by have := HJ1.out; have := HJ5.out; have := HJ8.out; have := HK4.out; omega⟩, ⟨bl⟩⟩
            ·replace c16 := Bool.eq_false_iff.mpr c16
             subst c16
             rw [if_neg (show ¬ (false = true) by decide)] at H
             simp only [Option.some.injEq, Prod.mk.injEq] at H
             obtain ⟨rfl, rfl⟩ := H
             have p14 : 0 ≤ (x6_4 : Int) := dt
             have q14 : x6_4 < (x4_5.size : Int) := dt
             have hx14 := bt_at x4_5 x6_4
             replace p14 := eq_true p14
             replace q14 := eq_true q14
             go_wp2_with (first | ((with_reducible refine gate_callee (f := 91) rfl ?_); refine goq (some 34) Tryd.func91 #[.int .u8 (bt x4_5 x6_4)] ?_; (with_reducible refine (spec_l01Digit.calls (bt x4_5 x6_4) false _ A15.out).mono ?_); rintro e w' ⟨rfl, ⟨nd, rfl⟩⟩; refine ⟨_, rfl, ?_⟩))
             go_ret2
             exact ⟨er, bl⟩
           ·rw [if_neg c13] at H
            exact absurd H (by simp)
          ·rw [if_neg c12] at H
           have c12b0 : decide (x6_4 < (x4_5.size : Int)) = false := decide_eq_false c12
           clear c12
           by_cases c18 : (x4_5.size : Int) < (a0.size : Int)
           ·rw [if_pos c18] at H
            have c18b0 : decide ((x4_5.size : Int) < (a0.size : Int)) = true := decide_eq_true c18
            have c18b1 : decide (x4_5.size < a0.size) = true := decide_eq_true (Int.ofNat_lt.mp c18)
            clear c18
            replace H := Option.bind_eq_some_iff.mp H
            obtain ⟨t265, A190, H⟩ := H
            have A19 := Aside0.mk A190
            clear A190
            by_cases c20 : t265.toList = a0.toList
            ·rw [if_pos c20] at H
             have c20b0 : (t265.toList == a0.toList) = true := beq_iff_eq.mpr c20
             have c20b1 : (t265.toList != a0.toList) = false := bne_eq_false_iff_eq.mpr c20
             clear c20
             simp only [Option.some.injEq, Prod.mk.injEq] at H
             obtain ⟨rfl, rfl⟩ := H
             go_wp2_with (first | ((with_reducible refine gate_callee (f := 84) rfl ?_); refine goq (some 52) Tryd.func84 #[.int .i64 (wrap64 (-x5_4))] ?_; (with_reducible refine (spec_l01Dec.calls k4 (wrap64 (-x5_4)) t265 _ A19.out).mono ?_); rintro e w21 ⟨rfl, hb⟩; refine ⟨_, rfl, ?_⟩; replace HB := bs hb; (try clear hb)))
             go_ret2
             exact ⟨er, bl⟩
            ·rw [if_neg c20] at H
             have c20b0 : (t265.toList == a0.toList) = false := beq_eq_false_iff_ne.mpr c20
             have c20b1 : (t265.toList != a0.toList) = true := bne_iff_ne.mpr c20
             simp only [Option.some.injEq, Prod.mk.injEq] at H
             obtain ⟨rfl, rfl⟩ := H
             go_wp2_with (first | ((with_reducible refine gate_callee (f := 84) rfl ?_); refine goq (some 52) Tryd.func84 #[.int .i64 (wrap64 (-x5_4))] ?_; (with_reducible refine (spec_l01Dec.calls k4 (wrap64 (-x5_4)) t265 _ A19.out).mono ?_); rintro e w22 ⟨rfl, hb⟩; refine ⟨_, rfl, ?_⟩; replace HB := bs hb; (try clear hb)))
             go_ret2
             exact ⟨er, bl⟩
           ·rw [if_neg c18] at H
            have c18b0 : decide ((x4_5.size : Int) < (a0.size : Int)) = false := decide_eq_false c18
            have c18b1 : decide (x4_5.size < a0.size) = false := decide_eq_false (fun h => c18 (Int.ofNat_lt.mpr h))
            clear c18
            replace H := Option.bind_eq_some_iff.mp H
            obtain ⟨t266, A230, H⟩ := H
            have A23 := Aside0.mk A230
            clear A230
            by_cases c24 : t266.toList = a0.toList
            ·rw [if_pos c24] at H
             have c24b0 : (t266.toList == a0.toList) = true := beq_iff_eq.mpr c24
             have c24b1 : (t266.toList != a0.toList) = false := bne_eq_false_iff_eq.mpr c24
             clear c24
             simp only [Option.some.injEq, Prod.mk.injEq] at H
             obtain ⟨rfl, rfl⟩ := H
             go_wp2_with (first | ((with_reducible refine gate_callee (f := 84) rfl ?_); refine goq (some 52) Tryd.func84 #[.int .i64 x5_4] ?_; (with_reducible refine (spec_l01Dec.calls k4 x5_4 t266 _ A23.out).mono ?_); rintro e w25 ⟨rfl, hb⟩; refine ⟨_, rfl, ?_⟩; replace HB := bs hb; (try clear hb)))
             go_ret2
             exact ⟨er, bl⟩
            ·rw [if_neg c24] at H
             have c24b0 : (t266.toList == a0.toList) = false := beq_eq_false_iff_ne.mpr c24
             have c24b1 : (t266.toList != a0.toList) = true := bne_iff_ne.mpr c24
             simp only [Option.some.injEq, Prod.mk.injEq] at H
             obtain ⟨rfl, rfl⟩ := H
             go_wp2_with (first | ((with_reducible refine gate_callee (f := 84) rfl ?_); refine goq (some 52) Tryd.func84 #[.int .i64 x5_4] ?_; (with_reducible refine (spec_l01Dec.calls k4 x5_4 t266 _ A23.out).mono ?_); rintro e w26 ⟨rfl, hb⟩; refine ⟨_, rfl, ?_⟩; replace HB := bs hb; (try clear hb)))
             go_ret2
             exact ⟨er, bl⟩

/-! ### spec_l00In: function 54 -/
def spec_l00In.f (a0 : Int) (a1 : Int) (a2 : Int) : Option (Bool) := if a0 ≥ a1 then (some (decide (a0 ≤ a2))) else (some false)
set_option maxHeartbeats 8000000 in
set_option maxRecDepth 100000 in
theorem spec_l00In.calls (a0 : Int) (a1 : Int) (a2 : Int) (r : Bool) (w : World) (h : spec_l00In.f a0 a1 a2 = some r) :
  Calls Tryd.prog 54 #[.int .i64 a0, .int .i64 a1, .int .i64 a2] w fun e w' => e = .returned (.bool r) ∧ Drawn0 w w' := by
 have H : (if a0 ≥ a1 then (some (decide (a0 ≤ a2))) else (some false)) = some r := h
 clear h
 by_cases c4 : a0 ≥ a1
 ·rw [if_pos c4] at H
  have c4b0 : decide (a1 ≤ a0) = true := decide_eq_true c4
  clear c4
  obtain rfl := Option.some.inj H
  go_enter Tryd.func54, Tryd.ntmps54
  go_wp2
  go_ret
  exact ⟨sd, dr⟩
 ·rw [if_neg c4] at H
  have c4b0 : decide (a1 ≤ a0) = false := decide_eq_false c4
  clear c4
  obtain rfl := Option.some.inj H
  go_enter Tryd.func54, Tryd.ntmps54
  go_wp2
  go_ret
  exact ⟨sd, dr⟩

/-! ### spec_l01Small: function 90 -/
def spec_l01Small.f (a0 : Int) : Option (Bool) := if a0 ≥ 97 then (some (decide (a0 ≤ 122))) else (some false)
set_option maxHeartbeats 8000000 in
set_option maxRecDepth 100000 in
theorem spec_l01Small.calls (a0 : Int) (r : Bool) (w : World) (h : spec_l01Small.f a0 = some r) :
  Calls Tryd.prog 90 #[.int .u8 a0] w fun e w' => e = .returned (.bool r) ∧ Drawn0 w w' := by
 have H : (if a0 ≥ 97 then (some (decide (a0 ≤ 122))) else (some false)) = some r := h
 clear h
 by_cases c2 : a0 ≥ 97
 ·rw [if_pos c2] at H
  have c2b0 : decide (97 ≤ a0) = true := decide_eq_true c2
  clear c2
  obtain rfl := Option.some.inj H
  go_enter Tryd.func90, Tryd.ntmps90
  go_wp2
  go_ret
  exact ⟨sd, dr⟩
 ·rw [if_neg c2] at H
  have c2b0 : decide (97 ≤ a0) = false := decide_eq_false c2
  clear c2
  obtain rfl := Option.some.inj H
  go_enter Tryd.func90, Tryd.ntmps90
  go_wp2
  go_ret
  exact ⟨sd, dr⟩

end Go.Proofs.YtajbomiaoncgiaaDoor.QPL
