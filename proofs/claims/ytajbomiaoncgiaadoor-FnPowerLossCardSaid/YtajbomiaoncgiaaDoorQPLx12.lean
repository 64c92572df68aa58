-- Written by a program of this place (wip/tools/prn.py) out of the translation, for this claim. Lean checks it.
import Derived.Test.YtajbomiaoncgiaaDoorQPLz
import Derived.Test.YtajbomiaoncgiaaDoorQPLx3
import Derived.Test.YtajbomiaoncgiaaDoorQPLx4
import Derived.Test.YtajbomiaoncgiaaDoorQPLx5
import Derived.Test.YtajbomiaoncgiaaDoorQPLx9
import Derived.Test.YtajbomiaoncgiaaDoorQPLx11
namespace Go.Proofs.YtajbomiaoncgiaaDoor.QPL
open Go.RowKit Go.Proofs.YtajbomiaoncgiaaDoorQ Go.Proofs.YtajbomiaoncgiaaDoorW.PrintWords Go.Proofs.YtajbomiaoncgiaaDoorW.PrintLast Go.Proofs.YtajbomiaoncgiaaDoorW.PrintMore
attribute [local go_sem] max2_int min2_int max_two min_two max_three min_three max_four min_four   -- for this text's walks alone
set_option linter.unusedVariables false
set_option linter.unusedSimpArgs false

/-! ### spec_l27Next: function 82 -/
mutual
def spec_l27Next.j1 : Nat → ByteArray → Int → Option (Int × ByteArray × ByteArray × Int × Bool)
 | 0, _, _ => none
 | k + 1, x0, x5 => if 0 ≤ x5 then (if x5 ≤ (x0.size : Int) then ((spec_l01Number.f k (x0.extract 0 (x5 : Int).toNat)).bind fun bt280 => (if bt280.2 = true then (if bt280.1 < 1 then (spec_l27Next.j2 k x0 x5 bt280.1 true) else (spec_l27Next.j2 k x0 x5 bt280.1 (decide ((x0.size : Int) < (wrap64 ((wrap64 (x5 + 1)) + bt280.1)))))) else (spec_l27Next.j2 k x0 x5 bt280.1 true))) else (none)) else (none)
def spec_l27Next.j2 : Nat → ByteArray → Int → Int → Bool → Option (Int × ByteArray × ByteArray × Int × Bool)
 | 0, _, _, _, _ => none
 | k + 1, x0, x5, x6, x48 => if x48 = true then (some (0, (⟨#[]⟩ : ByteArray), (⟨#[]⟩ : ByteArray), 0, false)) else (if 0 ≤ (wrap64 (x5 + 1)) then (if (wrap64 (x5 + 1)) ≤ (wrap64 ((wrap64 (x5 + 1)) + x6)) then (if (wrap64 ((wrap64 (x5 + 1)) + x6)) ≤ (x0.size : Int) then ((spec_l27Body.f k (x0.extract ((wrap64 (x5 + 1)) : Int).toNat ((wrap64 ((wrap64 (x5 + 1)) + x6)) : Int).toNat)).bind fun bt282 => (if bt282.2.2.2 = true then ((spec_l27Frame.f k [(⟨bt282.1, bt282.2.1, bt282.2.2.1⟩ : S39)]).bind fun t287 => (if (x0.size : Int) < (t287.size : Int) then (some (0, (⟨#[]⟩ : ByteArray), (⟨#[]⟩ : ByteArray), 0, false)) else (if 0 ≤ (t287.size : Int) then (if (t287.size : Int) ≤ (x0.size : Int) then (if (x0.extract 0 t287.size).toList = t287.toList then (some (bt282.1, bt282.2.1, bt282.2.2.1, (t287.size : Int), true)) else (some (0, (⟨#[]⟩ : ByteArray), (⟨#[]⟩ : ByteArray), 0, false))) else (none)) else (none)))) else (some (0, (⟨#[]⟩ : ByteArray), (⟨#[]⟩ : ByteArray), 0, false)))) else (none)) else (none)) else (none))
def spec_l27Next.l0 : Nat → ByteArray → Int → Option (Int × ByteArray × ByteArray × Int × Bool)
 | 0, _, _ => none
 | k + 1, x0, x5 => if x5 < (x0.size : Int) then (if x5 < 4 then (if 0 ≤ x5 then (if (bt x0 x5) = 58 then (spec_l27Next.j1 k x0 x5) else (spec_l27Next.l0 k x0 (wrap64 (x5 + 1)))) else (none)) else (spec_l27Next.j1 k x0 x5)) else (spec_l27Next.j1 k x0 x5)
end
def spec_l27Next.f (k : Nat) (a0 : ByteArray) : Option (Int × ByteArray × ByteArray × Int × Bool) := spec_l27Next.l0 k a0 0
set_option maxHeartbeats 8000000 in
set_option maxRecDepth 100000 in
theorem spec_l27Next.calls (k : Nat) (a0 : ByteArray) (r1 : Int) (r2 : ByteArray) (r3 : ByteArray) (r4 : Int) (r5 : Bool) (w : World) (h : spec_l27Next.f k a0 = some (r1, r2, r3, r4, r5)) :
  Calls Tryd.prog 82 #[.string a0] w fun e w' => e = .returned (.tuple #[.agg #[.int .i64 r1, .string r2, .string r3], .int .i64 r4, .bool r5]) ∧ Below w.heap.size w w' := by
 have hu39 := Tryd.underlying39
 have HB := Aside0.mk (Below.refl w.heap.size w)
 have H : (spec_l27Next.l0 k a0 0) = some (r1, r2, r3, r4, r5) := h
 clear h
 have HC2 := Aside0.mk H
 clear H
 go_enter Tryd.func82, Tryd.ntmps82
 go_upto_block 0 with (first | ((with_reducible refine gate_dst (N := 2) rfl ?_); (try (refine gate_guard (by rfl) ?_; dsimp only)); refine box_event ?hg (N := 2) ?hd (cs := #[.int .i64 0, .string (⟨#[]⟩ : ByteArray), .string (⟨#[]⟩ : ByteArray)]) (t := 39) ?hr ?_; (case hd => rfl); (case hg => rfl); (case hr => exact zq1); intro gb279 hg w3 hbox hb; have BK279 := Aside0.mk (hbox); have GW279 := gsz hg; have GE279 := gsz hg; replace HB := bs hb; clear hb hbox hg))
 (try simp only [Act.put, List.setIfInBounds_toArray, List.set_cons_zero, List.set_cons_succ])
 go_cut [5] (fun v5 wc => ∃ (kq : Nat) (x5_1 : Int), v5 = .int .i64 x5_1 ∧ Aside0 (spec_l27Next.j1 kq a0 x5_1 = some (r1, r2, r3, r4, r5)) ∧ Aside0 (kq ≤ k) ∧ Aside0 (wc.heap[gb279]? = some (.cells #[.int .i64 0, .string (⟨#[]⟩ : ByteArray), .string (⟨#[]⟩ : ByteArray)] 39 (0, 0))) ∧ Aside0 (Below w.heap.size w wc))
 case first =>
  have H := HC2.out
  clear HC2
  have H' := Aside0.mk H
  clear H
  go_wp2
  go_loopg [5] k (fun kq v5 w' => ∃ (x5_1 : Int), v5 = .int .i64 x5_1 ∧ Aside0 (spec_l27Next.l0 kq a0 x5_1 = some (r1, r2, r3, r4, r5)) ∧ Aside0 (kq ≤ k) ∧ Aside0 (w'.heap[gb279]? = some (.cells #[.int .i64 0, .string (⟨#[]⟩ : ByteArray), .string (⟨#[]⟩ : ByteArray)] 39 (0, 0))) ∧ Aside0 (Below w.heap.size w w'))
  case atStart => exact ⟨(0), sd, H', ⟨Nat.le_refl _⟩, ⟨zq0⟩, ⟨bl⟩⟩
  case round =>
   clear H'
   try clear p2
   obtain ⟨x5_1, rfl, HA, HK1, BK279, HB⟩ := hrel
   cases gk with
   | zero => exact absurd HA.out (by simp [spec_l27Next.l0])
   | succ k1 =>
    have H := HA.out
    clear HA
    simp only [spec_l27Next.l0] at H
    by_cases c4 : x5_1 < (a0.size : Int)
    ·rw [if_pos c4] at H
     have c4b0 : decide (x5_1 < (a0.size : Int)) = true := decide_eq_true c4
     clear c4
     (first | rw [c4b0] | (simp only [i64_w, i32_w]; rw [c4b0]) | skip)
     by_cases c5 : x5_1 < 4
     ·rw [if_pos c5] at H
      have c5b0 : decide (x5_1 < 4) = true := decide_eq_true c5
      clear c5
      by_cases c6 : 0 ≤ x5_1
      ·rw [if_pos c6] at H
       have c6b0 : decide (0 ≤ x5_1) = true := decide_eq_true c6
       clear c6
       by_cases c8 : (bt a0 x5_1) = 58
       ·rw [if_pos c8] at H
        have c8b0 : ((bt a0 x5_1) == 58) = true := beq_iff_eq.mpr c8
        have c8b1 : ((bt a0 x5_1) != 58) = false := bne_eq_false_iff_eq.mpr c8
        clear c8
        have H' := Aside0.mk H
        clear H
        have p7 : 0 ≤ (x5_1 : Int) := dt
        have q7 : x5_1 < (a0.size : Int) := dt
        have hx7 := bt_at a0 x5_1
        replace p7 := eq_true p7
        replace q7 := eq_true q7
        go_wp2
        go_meet
        case rel => exact ⟨_, (x5_1), sd, H', ⟨zq22⟩, ⟨zq0⟩, ⟨bl⟩⟩
       ·rw [if_neg c8] at H
        have c8b0 : ((bt a0 x5_1) == 58) = false := beq_eq_false_iff_ne.mpr c8
        have c8b1 : ((bt a0 x5_1) != 58) = true := bne_iff_ne.mpr c8
        have H' := Aside0.mk H
        clear H
        have p7 : 0 ≤ (x5_1 : Int) := dt
        have q7 : x5_1 < (a0.size : Int) := dt
        have hx7 := bt_at a0 x5_1
        replace p7 := eq_true p7
        replace q7 := eq_true q7
        go_wp2
        go_roundg k1
        case measure => have := HK1.out; omega
        case rel => exact ⟨(wrap64 (x5_1 + 1)), sd, H', ⟨zq11⟩, ⟨zq0⟩, ⟨bl⟩⟩
      ·rw [if_neg c6] at H
       exact absurd H (by simp)
     ·rw [if_neg c5] at H
      have c5b0 : decide (x5_1 < 4) = false := decide_eq_false c5
      clear c5
      have H' := Aside0.mk H
      clear H
      go_wp2
      go_meet
      case rel => exact ⟨_, (x5_1), sd, H', ⟨zq22⟩, ⟨zq0⟩, ⟨bl⟩⟩
    ·rw [if_neg c4] at H
     have c4b0 : decide (x5_1 < (a0.size : Int)) = false := decide_eq_false c4
     clear c4
     (first | rw [c4b0] | (simp only [i64_w, i32_w]; rw [c4b0]) | skip)
     have H' := Aside0.mk H
     clear H
     go_wp2
     go_meet
     case rel => exact ⟨_, (x5_1), sd, H', ⟨zq22⟩, ⟨zq0⟩, ⟨bl⟩⟩
 case rest =>
  clear HC2
  try clear p2; try clear c4; try clear c4b0; try clear c5; try clear c5b0; try clear c6; try clear c6b0; try clear p6; try clear p7; try clear q7; try clear hx7; try clear c8; try clear c8b0; try clear c8b1
  obtain ⟨kq, x5_1, rfl, HA, HJ1, BK279, HB⟩ := hcut
  cases kq with
  | zero => exact absurd HA.out (by simp [spec_l27Next.j1])
  | succ kj1 =>
   have H := HA.out
   clear HA
   simp only [spec_l27Next.j1] at H
   by_cases c9 : 0 ≤ x5_1
   ·rw [if_pos c9] at H
    have c9b0 := eq_true c9
    have c9b1 : decide (0 ≤ x5_1) = true := decide_eq_true c9
    clear c9
    by_cases c10 : x5_1 ≤ (a0.size : Int)
    ·rw [if_pos c10] at H
     have c10b0 := eq_true c10
     have c10b1 : decide (x5_1 ≤ (a0.size : Int)) = true := decide_eq_true c10
     clear c10
     replace H := Option.bind_eq_some_iff.mp H
     obtain ⟨⟨t280, t281⟩, A110, H⟩ := H
     replace H : (if t281 = true then (if t280 < 1 then (spec_l27Next.j2 kj1 a0 x5_1 t280 true) else (spec_l27Next.j2 kj1 a0 x5_1 t280 (decide ((a0.size : Int) < (wrap64 ((wrap64 (x5_1 + 1)) + t280)))))) else (spec_l27Next.j2 kj1 a0 x5_1 t280 true)) = some (r1, r2, r3, r4, r5) := H
     have A11 := Aside0.mk A110
     clear A110
     have HC12 := Aside0.mk H
     clear H
     go_upto_region 5 with (first | ((with_reducible refine gate_callee (f := 109) rfl ?_); refine goq (some 31) Tryd.func109 #[.string (a0.extract 0 (x5_1 : Int).toNat)] ?_; (with_reducible refine (spec_l01Number.calls kj1 (a0.extract 0 (x5_1 : Int).toNat) t280 t281 _ A11.out).mono ?_); rintro e w13 ⟨rfl, hb⟩; refine ⟨_, rfl, ?_⟩; replace BK279 := kb BK279 hb; replace HB := bs hb; (try clear hb)))
     (try simp only [Act.put, List.setIfInBounds_toArray, List.set_cons_zero, List.set_cons_succ])
     go_cut [48] (fun v48 wc => ∃ (kq : Nat) (x48_11 : Bool), v48 = .bool x48_11 ∧ Aside0 (spec_l27Next.j2 kq a0 x5_1 t280 x48_11 = some (r1, r2, r3, r4, r5)) ∧ Aside0 (kq ≤ kj1) ∧ Aside0 (wc.heap[gb279]? = some (.cells #[.int .i64 0, .string (⟨#[]⟩ : ByteArray), .string (⟨#[]⟩ : ByteArray)] 39 (0, 0))) ∧ Aside0 (Below w.heap.size w wc))
     case first =>
      have H := HC12.out
      clear HC12
      by_cases c14 : t281 = true
      ·subst c14
       rw [if_pos rfl] at H
       by_cases c15 : t280 < 1
       ·rw [if_pos c15] at H
        have c15b0 : decide (t280 < 1) = true := decide_eq_true c15
        clear c15
        (first | rw [c15b0] | (simp only [i64_w, i32_w]; rw [c15b0]) | skip)
        have H' := Aside0.mk H
        clear H
        go_wp2
        go_meet
        case rel => exact ⟨_, (true), sd, H', ⟨zq23⟩, ⟨zq0⟩, ⟨bl⟩⟩
       ·rw [if_neg c15] at H
        have c15b0 : decide (t280 < 1) = false := decide_eq_false c15
        clear c15
        (first | rw [c15b0] | (simp only [i64_w, i32_w]; rw [c15b0]) | skip)
        have H' := Aside0.mk H
        clear H
        go_wp2
        go_meet
        case rel => exact ⟨_, (decide ((a0.size : Int) < (wrap64 ((wrap64 (x5_1 + 1)) + t280)))), sd, H', ⟨zq23⟩, ⟨zq0⟩, ⟨bl⟩⟩
      ·replace c14 := Bool.eq_false_iff.mpr c14
       subst c14
       rw [if_neg (show ¬ (false = true) by decide)] at H
       have H' := Aside0.mk H
       clear H
       go_wp2
       go_meet
       case rel => exact ⟨_, (true), sd, H', ⟨zq23⟩, ⟨zq0⟩, ⟨bl⟩⟩
     case rest =>
      clear HC12
      try clear c1; try clear p2; try clear c4; try clear c4b0; try clear c5; try clear c5b0; try clear c6; try clear c6b0; try clear p6; try clear p7; try clear q7; try clear hx7; try clear c8; try clear c8b0; try clear c8b1; try clear c9; try clear c9b0; try clear c9b1; try clear c10; try clear c10b0; try clear c10b1; try clear c14; try clear c15; try clear c15b0
      obtain ⟨kq, x48_11, rfl, HA, HJ11, BK279, HB⟩ := hcut
      cases kq with
      | zero => exact absurd HA.out (by simp [spec_l27Next.j2])
      | succ kj11 =>
       have H := HA.out
       clear HA
       simp only [spec_l27Next.j2] at H
       by_cases c16 : x48_11 = true
       ·subst c16
        rw [if_pos rfl] at H
        simp only [Option.some.injEq, Prod.mk.injEq] at H
        obtain ⟨rfl, rfl, rfl, rfl, rfl⟩ := H
        have hcz17_0 := cz BK279 0 rfl
        have hcz17_1 := cz BK279 1 rfl
        have hcz17_2 := cz BK279 2 rfl
        have hfz17_0 := blk_frozen BK279.out 0
        have hfz17_1 := blk_frozen BK279.out 1
        have hfz17_2 := blk_frozen BK279.out 2
        go_wp2
        refine bodyPost_ret (results_ctt rfl _ _ gb279 39 #[.int .i64 0, .string (⟨#[]⟩ : ByteArray), .string (⟨#[]⟩ : ByteArray)] (0, 0) _ rfl zq18 Tryd.underlying39 rfl (by kernel_rfl)) rfl ?_
        exact ⟨er, bl⟩
       ·replace c16 := Bool.eq_false_iff.mpr c16
        subst c16
        rw [if_neg (show ¬ (false = true) by decide)] at H
        obtain ⟨ji18, hji18⟩ : ∃ j_ : Int, (wrap64 (x5_1 + 1)) = j_ := ⟨_, rfl⟩
        replace H : (if 0 ≤ (ji18) then (if (ji18) ≤ (wrap64 ((ji18) + t280)) then (if (wrap64 ((ji18) + t280)) ≤ (a0.size : Int) then ((spec_l27Body.f kj11 (a0.extract ((ji18) : Int).toNat ((wrap64 ((ji18) + t280)) : Int).toNat)).bind fun bt282 => (if bt282.2.2.2 = true then ((spec_l27Frame.f kj11 [(⟨bt282.1, bt282.2.1, bt282.2.2.1⟩ : S39)]).bind fun t287 => (if (a0.size : Int) < (t287.size : Int) then (some (0, (⟨#[]⟩ : ByteArray), (⟨#[]⟩ : ByteArray), 0, false)) else (if 0 ≤ (t287.size : Int) then (if (t287.size : Int) ≤ (a0.size : Int) then (if (a0.extract 0 t287.size).toList = t287.toList then (some (bt282.1, bt282.2.1, bt282.2.2.1, (t287.size : Int), true)) else (some (0, (⟨#[]⟩ : ByteArray), (⟨#[]⟩ : ByteArray), 0, false))) else (none)) else (none)))) else (some (0, (⟨#[]⟩ : ByteArray), (⟨#[]⟩ : ByteArray), 0, false)))) else (none)) else (none)) else (none)) = some (r1, r2, r3, r4, r5) := by first | (rw [hji18] at H; exact H) | (simp only [hji18] at H ⊢; exact H)
        have hji18w : (IntKind.i64.wrap (x5_1 + 1)) = ji18 := (i64_w _).trans hji18
        by_cases c19 : 0 ≤ (ji18)
        ·rw [if_pos c19] at H
         have c19b0 := eq_true c19
         have c19b1 : decide (0 ≤ (ji18)) = true := decide_eq_true c19
         clear c19
         by_cases c20 : (ji18) ≤ (wrap64 ((ji18) + t280))
         ·rw [if_pos c20] at H
          have c20b0 := eq_true c20
          have c20b1 : decide ((ji18) ≤ (wrap64 ((ji18) + t280))) = true := decide_eq_true c20
          by_cases c21 : (wrap64 ((ji18) + t280)) ≤ (a0.size : Int)
          ·rw [if_pos c21] at H
           have c21b0 := eq_true c21
           have c21b1 : decide ((wrap64 ((ji18) + t280)) ≤ (a0.size : Int)) = true := decide_eq_true c21
           replace H := Option.bind_eq_some_iff.mp H
           obtain ⟨⟨t282, t283, t284, t285⟩, A220, H⟩ := H
           dsimp only at H
           have A22 := Aside0.mk A220
           clear A220
           by_cases c23 : t285 = true
           ·subst c23
            rw [if_pos rfl] at H
            replace H := Option.bind_eq_some_iff.mp H
            obtain ⟨t287, A240, H⟩ := H
            have A24 := Aside0.mk A240
            clear A240
            by_cases c25 : (a0.size : Int) < (t287.size : Int)
            ·rw [if_pos c25] at H
             have c25b0 : decide ((a0.size : Int) < (t287.size : Int)) = true := decide_eq_true c25
             have c25b1 : decide (a0.size < t287.size) = true := decide_eq_true (Int.ofNat_lt.mp c25)
             clear c25
             simp only [Option.some.injEq, Prod.mk.injEq] at H
             obtain ⟨rfl, rfl, rfl, rfl, rfl⟩ := H
             go_wp2_with (first | ((with_reducible refine gate_callee (f := 110) rfl ?_); refine goesL_ (some 59) rfl rfl Tryd.func110 (by kernel_rfl) rfl #[.string (a0.extract ((ji18) : Int).toNat ((wrap64 ((ji18) + t280)) : Int).toNat)] rfl zq27 ?_; (with_reducible refine (spec_l27Body.calls kj11 (a0.extract ((ji18) : Int).toNat ((wrap64 ((ji18) + t280)) : Int).toNat) t282 t283 t284 true _ A22.out).mono ?_); rintro e w26 ⟨rfl, hb⟩; refine ⟨_, rfl, ?_⟩; replace BK279 := kb BK279 hb; replace HB := bs hb; (try clear hb)) | ((with_reducible refine gate_dst (N := 8) rfl ?_); (try (refine gate_guard (by rfl) ?_; dsimp only)); refine box_event ?hg (N := 8) ?hd (cs := #[.int .i64 0, .string (⟨#[]⟩ : ByteArray), .string (⟨#[]⟩ : ByteArray)]) (t := 39) ?hr ?_; (case hd => rfl); (case hg => rfl); (case hr => exact zq1); intro gb286 hg w27 hbox hb; have BK286 := Aside0.mk (hbox); have GW286 := gsz hg; have GE286 := gsz hg; replace HB := bs hb; have NB279_286 := nlt BK279 hg; have NB286_279 := ngt BK279 hg; replace BK279 := kb BK279 hb; clear hb hbox hg; have hnb28 := NB286_279.out; have hnc28 := NB279_286.out; have hcz29_0 := cz BK286 0 rfl; have hcz29_1 := cz BK286 1 rfl; have hcz29_2 := cz BK286 2 rfl; have hfz29_0 := blk_frozen BK286.out 0; have hfz29_1 := blk_frozen BK286.out 1; have hfz29_2 := blk_frozen BK286.out 2) | ((with_reducible refine gate_callee (f := 62) rfl ?_); refine goq (some 65) Tryd.func62 #[.pointer (some ⟨gb286, 0, none⟩)] ?_; (with_reducible refine (spec_l27Frame.calls kj11 ⟨gb286, 0, none⟩ [(⟨t282, t283, t284⟩ : S39)] t287 _ ?side1 ?side2 A24.out).mono ?_); (case side1 => exact zq38); (case side2 => rfl); rintro e w30 ⟨rfl, hb⟩; refine ⟨_, rfl, ?_⟩; replace BK279 := Aside0.mk (blk_below (g := gb279) (o := .cells #[.int .i64 0, .string (⟨#[]⟩ : ByteArray), .string (⟨#[]⟩ : ByteArray)] 39 (0, 0)) zq24 hb); replace BK286 := Aside0.mk (blk_below (g := gb286) (o := .cells #[.int .i64 t282, .string t283, .string t284] 39 (0, 0)) zq28 hb); replace HB := bs hb; (try clear hb); have hcz31_0 := cz BK279 0 rfl; have hcz31_1 := cz BK279 1 rfl; have hcz31_2 := cz BK279 2 rfl; have hfz31_0 := blk_frozen BK279.out 0; have hfz31_1 := blk_frozen BK279.out 1; have hfz31_2 := blk_frozen BK279.out 2))
             refine bodyPost_ret (results_ctt rfl _ _ gb279 39 #[.int .i64 0, .string (⟨#[]⟩ : ByteArray), .string (⟨#[]⟩ : ByteArray)] (0, 0) _ rfl zq18 Tryd.underlying39 rfl (by kernel_rfl)) rfl ?_
             exact ⟨zq29, bl⟩
            ·rw [if_neg c25] at H
             have c25b0 : decide ((a0.size : Int) < (t287.size : Int)) = false := decide_eq_false c25
             have c25b1 : decide (a0.size < t287.size) = false := decide_eq_false (fun h => c25 (Int.ofNat_lt.mpr h))
             clear c25
             by_cases c32 : 0 ≤ (t287.size : Int)
             ·rw [if_pos c32] at H
              have c32b0 := eq_true c32
              have c32b1 : decide (0 ≤ (t287.size : Int)) = true := decide_eq_true c32
              clear c32
              by_cases c33 : (t287.size : Int) ≤ (a0.size : Int)
              ·rw [if_pos c33] at H
               have c33b0 := eq_true c33
               have c33b1 : decide ((t287.size : Int) ≤ (a0.size : Int)) = true := decide_eq_true c33
               clear c33
               by_cases c34 : (a0.extract 0 t287.size).toList = t287.toList
               ·rw [if_pos c34] at H
                have c34b0 : ((a0.extract 0 t287.size).toList == t287.toList) = true := beq_iff_eq.mpr c34
                have c34b1 : ((a0.extract 0 t287.size).toList != t287.toList) = false := bne_eq_false_iff_eq.mpr c34
                clear c34
                simp only [Option.some.injEq, Prod.mk.injEq] at H
                obtain ⟨rfl, rfl, rfl, rfl, rfl⟩ := H
                go_wp2_with (first | ((with_reducible refine gate_callee (f := 110) rfl ?_); refine goesL_ (some 59) rfl rfl Tryd.func110 (by kernel_rfl) rfl #[.string (a0.extract ((ji18) : Int).toNat ((wrap64 ((ji18) + t280)) : Int).toNat)] rfl zq27 ?_; (with_reducible refine (spec_l27Body.calls kj11 (a0.extract ((ji18) : Int).toNat ((wrap64 ((ji18) + t280)) : Int).toNat) t282 t283 t284 true _ A22.out).mono ?_); rintro e w35 ⟨rfl, hb⟩; refine ⟨_, rfl, ?_⟩; replace BK279 := kb BK279 hb; replace HB := bs hb; (try clear hb)) | ((with_reducible refine gate_dst (N := 8) rfl ?_); (try (refine gate_guard (by rfl) ?_; dsimp only)); refine box_event ?hg (N := 8) ?hd (cs := #[.int .i64 0, .string (⟨#[]⟩ : ByteArray), .string (⟨#[]⟩ : ByteArray)]) (t := 39) ?hr ?_; (case hd => rfl); (case hg => rfl); (case hr => exact zq1); intro gb286 hg w36 hbox hb; have BK286 := Aside0.mk (hbox); have GW286 := gsz hg; have GE286 := gsz hg; replace HB := bs hb; have NB279_286 := nlt BK279 hg; have NB286_279 := ngt BK279 hg; replace BK279 := kb BK279 hb; clear hb hbox hg; have hnb37 := NB286_279.out; have hnc37 := NB279_286.out; have hcz38_0 := cz BK286 0 rfl; have hcz38_1 := cz BK286 1 rfl; have hcz38_2 := cz BK286 2 rfl; have hfz38_0 := blk_frozen BK286.out 0; have hfz38_1 := blk_frozen BK286.out 1; have hfz38_2 := blk_frozen BK286.out 2) | ((with_reducible refine gate_callee (f := 62) rfl ?_); refine goq (some 65) Tryd.func62 #[.pointer (some ⟨gb286, 0, none⟩)] ?_; (with_reducible refine (spec_l27Frame.calls kj11 ⟨gb286, 0, none⟩ [(⟨t282, t283, t284⟩ : S39)] t287 _ ?side1 ?side2 A24.out).mono ?_); (case side1 => exact zq38); (case side2 => rfl); rintro e w39 ⟨rfl, hb⟩; refine ⟨_, rfl, ?_⟩; replace BK279 := Aside0.mk (blk_below (g := gb279) (o := .cells #[.int .i64 0, .string (⟨#[]⟩ : ByteArray), .string (⟨#[]⟩ : ByteArray)] 39 (0, 0)) zq24 hb); replace BK286 := Aside0.mk (blk_below (g := gb286) (o := .cells #[.int .i64 t282, .string t283, .string t284] 39 (0, 0)) zq28 hb); replace HB := bs hb; (try clear hb); have hcz40_0 := cz BK286 0 rfl; have hcz40_1 := cz BK286 1 rfl; have hcz40_2 := cz BK286 2 rfl; have hfz40_0 := blk_frozen BK286.out 0; have hfz40_1 := blk_frozen BK286.out 1; have hfz40_2 := blk_frozen BK286.out 2; have hcz41_0 := cz BK279 0 rfl; have hcz41_1 := cz BK279 1 rfl; have hcz41_2 := cz BK279 2 rfl; have hfz41_0 := blk_frozen BK279.out 0; have hfz41_1 := blk_frozen BK279.out 1; have hfz41_2 := blk_frozen BK279.out 2))
                refine bodyPost_ret (results_ctt rfl _ _ gb279 39 #[.int .i64 t282, .string t283, .string t284] (0, 0) _ rfl zq28 Tryd.underlying39 rfl (by kernel_rfl)) rfl ?_
                exact ⟨zq29, bl⟩
               ·rw [if_neg c34] at H
                have c34b0 : ((a0.extract 0 t287.size).toList == t287.toList) = false := beq_eq_false_iff_ne.mpr c34
                have c34b1 : ((a0.extract 0 t287.size).toList != t287.toList) = true := bne_iff_ne.mpr c34
                simp only [Option.some.injEq, Prod.mk.injEq] at H
                obtain ⟨rfl, rfl, rfl, rfl, rfl⟩ := H
                go_wp2_with (first | ((with_reducible refine gate_callee (f := 110) rfl ?_); refine goesL_ (some 59) rfl rfl Tryd.func110 (by kernel_rfl) rfl #[.string (a0.extract ((ji18) : Int).toNat ((wrap64 ((ji18) + t280)) : Int).toNat)] rfl zq27 ?_; (with_reducible refine (spec_l27Body.calls kj11 (a0.extract ((ji18) : Int).toNat ((wrap64 ((ji18) + t280)) : Int).toNat) t282 t283 t284 true _ A22.out).mono ?_); rintro e w42 ⟨rfl, hb⟩; refine ⟨_, rfl, ?_⟩; replace BK279 := kb BK279 hb; replace HB := bs hb; (try clear hb)) | ((with_reducible refine gate_dst (N := 8) rfl ?_); (try (refine gate_guard (by rfl) ?_; dsimp only)); refine box_event ?hg (N := 8) ?hd (cs := #[.int .i64 0, .string (⟨#[]⟩ : ByteArray), .string (⟨#[]⟩ : ByteArray)]) (t := 39) ?hr ?_; (case hd => rfl); (case hg => rfl); (case hr => exact zq1); intro gb286 hg w43 hbox hb; have BK286 := Aside0.mk (hbox); have GW286 := gsz hg; have GE286 := gsz hg; replace HB := bs hb; have NB279_286 := nlt BK279 hg; have NB286_279 := ngt BK279 hg; replace BK279 := kb BK279 hb; clear hb hbox hg; have hnb44 := NB286_279.out; have hnc44 := NB279_286.out; have hcz45_0 := cz BK286 0 rfl; have hcz45_1 := cz BK286 1 rfl; have hcz45_2 := cz BK286 2 rfl; have hfz45_0 := blk_frozen BK286.out 0; have hfz45_1 := blk_frozen BK286.out 1; have hfz45_2 := blk_frozen BK286.out 2) | ((with_reducible refine gate_callee (f := 62) rfl ?_); refine goq (some 65) Tryd.func62 #[.pointer (some ⟨gb286, 0, none⟩)] ?_; (with_reducible refine (spec_l27Frame.calls kj11 ⟨gb286, 0, none⟩ [(⟨t282, t283, t284⟩ : S39)] t287 _ ?side1 ?side2 A24.out).mono ?_); (case side1 => exact zq38); (case side2 => rfl); rintro e w46 ⟨rfl, hb⟩; refine ⟨_, rfl, ?_⟩; replace BK279 := Aside0.mk (blk_below (g := gb279) (o := .cells #[.int .i64 0, .string (⟨#[]⟩ : ByteArray), .string (⟨#[]⟩ : ByteArray)] 39 (0, 0)) zq24 hb); replace BK286 := Aside0.mk (blk_below (g := gb286) (o := .cells #[.int .i64 t282, .string t283, .string t284] 39 (0, 0)) zq28 hb); replace HB := bs hb; (try clear hb); have hcz47_0 := cz BK279 0 rfl; have hcz47_1 := cz BK279 1 rfl; have hcz47_2 := cz BK279 2 rfl; have hfz47_0 := blk_frozen BK279.out 0; have hfz47_1 := blk_frozen BK279.out 1; have hfz47_2 := blk_frozen BK279.out 2))
                refine bodyPost_ret (results_ctt rfl _ _ gb279 39 #[.int .i64 0, .string (⟨#[]⟩ : ByteArray), .string (⟨#[]⟩ : ByteArray)] (0, 0) _ rfl zq18 Tryd.underlying39 rfl (by kernel_rfl)) rfl ?_
                exact ⟨zq29, bl⟩
              ·rw [if_neg c33] at H
               exact absurd H (by simp)
             ·rw [if_neg c32] at H
              exact absurd H (by simp)
           ·replace c23 := Bool.eq_false_iff.mpr c23
            subst c23
            rw [if_neg (show ¬ (false = true) by decide)] at H
            simp only [Option.some.injEq, Prod.mk.injEq] at H
            obtain ⟨rfl, rfl, rfl, rfl, rfl⟩ := H
            go_wp2_with (first | ((with_reducible refine gate_callee (f := 110) rfl ?_); refine goesL_ (some 59) rfl rfl Tryd.func110 (by kernel_rfl) rfl #[.string (a0.extract ((ji18) : Int).toNat ((wrap64 ((ji18) + t280)) : Int).toNat)] rfl zq27 ?_; (with_reducible refine (spec_l27Body.calls kj11 (a0.extract ((ji18) : Int).toNat ((wrap64 ((ji18) + t280)) : Int).toNat) t282 t283 t284 false _ A22.out).mono ?_); rintro e w48 ⟨rfl, hb⟩; refine ⟨_, rfl, ?_⟩; replace BK279 := kb BK279 hb; replace HB := bs hb; (try clear hb)) | ((with_reducible refine gate_dst (N := 8) rfl ?_); (try (refine gate_guard (by rfl) ?_; dsimp only)); refine box_event ?hg (N := 8) ?hd (cs := #[.int .i64 0, .string (⟨#[]⟩ : ByteArray), .string (⟨#[]⟩ : ByteArray)]) (t := 39) ?hr ?_; (case hd => rfl); (case hg => rfl); (case hr => exact zq1); intro gb286 hg w49 hbox hb; have BK286 := Aside0.mk (hbox); have GW286 := gsz hg; have GE286 := gsz hg; replace HB := bs hb; have NB279_286 := nlt BK279 hg; have NB286_279 := ngt BK279 hg; replace BK279 := kb BK279 hb; clear hb hbox hg; have hnb50 := NB286_279.out; have hnc50 := NB279_286.out; have hcz51_0 := cz BK286 0 rfl; have hcz51_1 := cz BK286 1 rfl; have hcz51_2 := cz BK286 2 rfl; have hfz51_0 := blk_frozen BK286.out 0; have hfz51_1 := blk_frozen BK286.out 1; have hfz51_2 := blk_frozen BK286.out 2; have hcz52_0 := cz BK279 0 rfl; have hcz52_1 := cz BK279 1 rfl; have hcz52_2 := cz BK279 2 rfl; have hfz52_0 := blk_frozen BK279.out 0; have hfz52_1 := blk_frozen BK279.out 1; have hfz52_2 := blk_frozen BK279.out 2))
            refine bodyPost_ret (results_ctt rfl _ _ gb279 39 #[.int .i64 0, .string (⟨#[]⟩ : ByteArray), .string (⟨#[]⟩ : ByteArray)] (0, 0) _ rfl zq37 Tryd.underlying39 rfl (by kernel_rfl)) rfl ?_
            exact ⟨zq29, bl⟩
          ·rw [if_neg c21] at H
           exact absurd H (by simp)
         ·rw [if_neg c20] at H
          exact absurd H (by simp)
        ·rw [if_neg c19] at H
         exact absurd H (by simp)
    ·rw [if_neg c10] at H
     exact absurd H (by simp)
   ·rw [if_neg c9] at H
    exact absurd H (by simp)

/-! ### spec_l27Read: function 55 -/
def spec_l27Read.l0 : Nat → ByteArray → List (S39) → Int → Option ((List (S39)) × Int)
 | 0, _, _, _ => none
 | k + 1, x0, x4, x5 => if 0 ≤ x5 then (if x5 ≤ (x0.size : Int) then ((spec_l27Next.f k (x0.extract (x5 : Int).toNat x0.size)).bind fun bt291 => (if bt291.2.2.2.2 = true then (if x4.length < 3518437208883 then (spec_l27Read.l0 k x0 (x4 ++ [(⟨bt291.1, bt291.2.1, bt291.2.2.1⟩ : S39)]) (wrap64 (x5 + bt291.2.2.2.1))) else (none)) else (some (x4, x5)))) else (none)) else (none)
def spec_l27Read.f (k : Nat) (a0 : ByteArray) : Option ((List (S39)) × Int) := spec_l27Read.l0 k a0 (([] : List (S39))) 0
set_option maxHeartbeats 8000000 in
set_option maxRecDepth 100000 in
theorem spec_l27Read.calls (k : Nat) (a0 : ByteArray) (r1 : List (S39)) (r2 : Int) (w : World) (h : spec_l27Read.f k a0 = some (r1, r2)) :
  Calls Tryd.prog 55 #[.string a0] w fun e w' => ∃ v0_ : Value, e = .returned (.tuple #[v0_, .int .i64 r2]) ∧ Kd.R k39 39 w' w.heap.size (fun _ => True) v0_ r1 ∧ Below w.heap.size w w' := by
 have hu39 := Tryd.underlying39
 have HB := Aside0.mk (Below.refl w.heap.size w)
 have H : (spec_l27Read.l0 k a0 (([] : List (S39))) 0) = some (r1, r2) := h
 clear h
 obtain ⟨y288, hy288⟩ : ∃ y_ : List (S39), y_ = (([] : List (S39))) := ⟨_, rfl⟩
 replace H : (spec_l27Read.l0 k a0 y288 0) = some (r1, r2) := by first | (rw [hy288]; with_reducible exact H) | (have H2_ := (Option.bind_some _ _).symm.trans H; rw [hy288]; with_reducible exact H2_) | (have H2_ := (Option.bind_some _ _).symm.trans H; with_reducible exact H2_) | with_reducible exact H | (rw [hy288]; exact H) | exact H
 have Ny288 := Aside0.mk hy288
 clear hy288
 have H' := Aside0.mk H
 clear H
 go_enter Tryd.func55, Tryd.ntmps55
 go_wp2_with (first | ((with_reducible refine gate_dst (N := 9) rfl ?_); refine Kd.R_lit k39 _ 39 ?hg (N := 9) ?hd (xs := ([] : List (S39))) (inner := []) (ok := fun _ => True) (okp := fun _ => True) ?hr ?hp (fun _ hk => hk) trivial (Below.refl _ _) (Nat.le_refl _) (by simp) ?_; (case hd => rfl); (case hg => rfl); (case hr => exact zq1); (case hp => exact (Reps.none _ _)); intro v289 w2 ho3 hb hg_ hnew_; clear hg_ hnew_; (first | rw [← Ny288.out] at ho3 | (simp only [Int.reduceToNat] at ho3; rw [← Ny288.out] at ho3)); have HO290 := Aside0.mk (Kd.R_lower ho3 (below_size bl)); replace HB := bs hb; clear hb ho3))
 go_loopg [4, 5] k (fun kq v4 v5 w' => ∃ (x4_1 : List (S39)) (x5_1 : Int), v5 = .int .i64 x5_1 ∧ Aside0 (spec_l27Read.l0 kq a0 x4_1 x5_1 = some (r1, r2)) ∧ Aside0 (kq ≤ k) ∧ Aside0 (Kd.R k39 39 w' w.heap.size (fun _ => True) v4 x4_1) ∧ Aside0 (Below w.heap.size w w'))
 case atStart => exact ⟨(y288), (0), sd, H', ⟨Nat.le_refl _⟩, ⟨by (with_reducible repeat (first | apply Kd.R_alloc | apply Kd.R_drewN | apply Kd.R_drew)); exact HO290.out⟩, ⟨bl⟩⟩
 case round =>
  clear H'
  try clear p2
  obtain ⟨x4_1, x5_1, rfl, HA, HK1, HO_4, HB⟩ := hrel
  cases gk with
  | zero => exact absurd HA.out (by simp [spec_l27Read.l0])
  | succ k1 =>
   have H := HA.out
   clear HA
   simp only [spec_l27Read.l0] at H
   by_cases c4 : 0 ≤ x5_1
   ·rw [if_pos c4] at H
    have c4b0 := eq_true c4
    have c4b1 : decide (0 ≤ x5_1) = true := decide_eq_true c4
    clear c4
    by_cases c5 : x5_1 ≤ (a0.size : Int)
    ·rw [if_pos c5] at H
     have c5b0 := eq_true c5
     have c5b1 : decide (x5_1 ≤ (a0.size : Int)) = true := decide_eq_true c5
     clear c5
     replace H := Option.bind_eq_some_iff.mp H
     obtain ⟨⟨t291, t292, t293, t294, t295⟩, A60, H⟩ := H
     replace H : (if t295 = true then (if x4_1.length < 3518437208883 then (spec_l27Read.l0 k1 a0 (x4_1 ++ [(⟨t291, t292, t293⟩ : S39)]) (wrap64 (x5_1 + t294))) else (none)) else (some (x4_1, x5_1))) = some (r1, r2) := H
     have A6 := Aside0.mk A60
     clear A60
     by_cases c7 : t295 = true
     ·subst c7
      rw [if_pos rfl] at H
      by_cases c8 : x4_1.length < 3518437208883
      ·rw [if_pos c8] at H
       have LMc8 := Aside0.mk c8
       clear c8
       obtain ⟨y297, hy297⟩ : ∃ y_ : List (S39), y_ = (x4_1 ++ [(⟨t291, t292, t293⟩ : S39)]) := ⟨_, rfl⟩
       replace H : (spec_l27Read.l0 k1 a0 y297 (wrap64 (x5_1 + t294))) = some (r1, r2) := by first | (rw [hy297]; with_reducible exact H) | (have H2_ := (Option.bind_some _ _).symm.trans H; rw [hy297]; with_reducible exact H2_) | (have H2_ := (Option.bind_some _ _).symm.trans H; with_reducible exact H2_) | with_reducible exact H | (rw [hy297]; exact H) | exact H
       have Ny297 := Aside0.mk hy297
       clear hy297
       have H' := Aside0.mk H
       clear H
       go_wp2_with (first | ((with_reducible refine gate_callee (f := 82) rfl ?_); refine goq (some 14) Tryd.func82 #[.string (a0.extract (x5_1 : Int).toNat a0.size)] ?_; (with_reducible refine (spec_l27Next.calls k1 (a0.extract (x5_1 : Int).toNat a0.size) t291 t292 t293 t294 true _ A6.out).mono ?_); rintro e w9 ⟨rfl, hb⟩; refine ⟨_, rfl, ?_⟩; replace HO_4 := Aside0.mk (Kd.R_below zq15 hb); replace HB := bs hb; (try clear hb)) | ((with_reducible refine gate_dst (N := 6) rfl ?_); refine box_event ?hg (N := 6) ?hd (cs := #[.int .i64 0, .string (⟨#[]⟩ : ByteArray), .string (⟨#[]⟩ : ByteArray)]) (t := 39) ?hr ?_; (case hd => rfl); (case hg => rfl); (case hr => exact zq1); intro gb296 hg w10 hbox hb; replace HO_4 := Aside0.mk (Kd.R_below (Kd.R_elderB zq15 gb296 (Nat.le_of_eq hg.symm)) hb); have BK296 := Aside0.mk (hbox); have GW296 := gsz hg; have GE296 := gsz hg; replace HB := bs hb; clear hb hbox hg; have hcz11_0 := cz BK296 0 rfl; have hcz11_1 := cz BK296 1 rfl; have hcz11_2 := cz BK296 2 rfl; have hfz11_0 := blk_frozen BK296.out 0; have hfz11_1 := blk_frozen BK296.out 1; have hfz11_2 := blk_frozen BK296.out 2) | ((with_reducible refine gate_builtin (b := .append) (xs := #[.tmp 22, .tmp 24]) rfl ?_); at_builtin; refine Kd.R_append k39 (w0 := w) w.heap.size rfl (.tmp 22) (.tmp 24) 33 39 (.agg #[(.int .i64 0), (.string ⟨#[]⟩), (.string ⟨#[]⟩)]) 40 rfl Tryd.underlying33 info39 rfl (by decide) (by omega) u4 x4_1 (⟨t291, t292, t293⟩ : S39) [.int .i64 t291, .string t292, .string t293] (fun k_ => k_ ≠ gb296) (fun _ => False) rfl zq1 ?aP (fun _ hk => hk.elim) ?aF ?aO ?aB ?aS ?aL ?_; (case aP => exact k39_mkM _ _ _ (⟨t291, t292, t293⟩ : S39)); (case aB => exact bl); (case aF => exact (fun k_ hk => Kd.freshB (g := gb296) (o := .cells #[.int .i64 t291, .string t292, .string t293] 39 (0, 0)) zq44 k_ hk)); (case aO => exact (by (with_reducible repeat (first | apply Kd.R_alloc | apply Kd.R_drewN | apply Kd.R_drew)); exact Kd.R_mono (Kd.R_far (p := ⟨gb296, 2, none⟩) (Kd.R_far (p := ⟨gb296, 1, none⟩) (Kd.R_far (p := ⟨gb296, 0, none⟩) (Kd.R_mono HO_4.out (fun k_ hk => (⟨hk, hk.2⟩ : _ ∧ k_ ≠ gb296))) (fun _ hk => hk.2) (.int .i64 t291)) (fun _ hk => hk.2) (.string t292)) (fun _ hk => hk.2) (.string t293)) (fun _ hk => hk.1.2))); (case aS => exact (below_size bl)); (case aL => have := LMc8.out; omega); intro v298 w12 ho hb hg hat; rw [← Ny297.out] at ho; replace BK296 := Aside0.mk (blk_grown (g := gb296) (o := .cells #[.int .i64 t291, .string t292, .string t293] 39 (0, 0)) zq44 hg (Kd.R_away HO_4.out (fun _ hk => hk.2))); replace HB := Aside0.mk (hb); have HO299 := Aside0.mk (ho); clear HO_4; clear ho hb hg hat))
       go_roundg k1
       case measure => have := HK1.out; omega
       case rel => exact ⟨(y297), (wrap64 (x5_1 + t294)), sd, H', ⟨zq11⟩, ⟨by (with_reducible repeat (first | apply Kd.R_alloc | apply Kd.R_drewN | apply Kd.R_drew)); exact Kd.R_mono HO299.out (fun _ hk => trivial)⟩, ⟨bl⟩⟩
      ·rw [if_neg c8] at H
       exact absurd H (by simp)
     ·replace c7 := Bool.eq_false_iff.mpr c7
      subst c7
      rw [if_neg (show ¬ (false = true) by decide)] at H
      simp only [Option.some.injEq, Prod.mk.injEq] at H
      obtain ⟨rfl, rfl⟩ := H
      go_wp2_with (first | ((with_reducible refine gate_callee (f := 82) rfl ?_); refine goq (some 14) Tryd.func82 #[.string (a0.extract (x5_1 : Int).toNat a0.size)] ?_; (with_reducible refine (spec_l27Next.calls k1 (a0.extract (x5_1 : Int).toNat a0.size) t291 t292 t293 t294 false _ A6.out).mono ?_); rintro e w13 ⟨rfl, hb⟩; refine ⟨_, rfl, ?_⟩; replace HO_4 := Aside0.mk (Kd.R_below zq15 hb); replace HB := bs hb; (try clear hb)) | ((with_reducible refine gate_dst (N := 6) rfl ?_); refine box_event ?hg (N := 6) ?hd (cs := #[.int .i64 0, .string (⟨#[]⟩ : ByteArray), .string (⟨#[]⟩ : ByteArray)]) (t := 39) ?hr ?_; (case hd => rfl); (case hg => rfl); (case hr => exact zq1); intro gb296 hg w14 hbox hb; replace HO_4 := Aside0.mk (Kd.R_below (Kd.R_elderB zq15 gb296 (Nat.le_of_eq hg.symm)) hb); have BK296 := Aside0.mk (hbox); have GW296 := gsz hg; have GE296 := gsz hg; replace HB := bs hb; clear hb hbox hg; have hcz15_0 := cz BK296 0 rfl; have hcz15_1 := cz BK296 1 rfl; have hcz15_2 := cz BK296 2 rfl; have hfz15_0 := blk_frozen BK296.out 0; have hfz15_1 := blk_frozen BK296.out 1; have hfz15_2 := blk_frozen BK296.out 2))
      go_ret2
      exact ⟨_, er, by (with_reducible repeat (first | apply Kd.R_alloc | apply Kd.R_drewN | apply Kd.R_drew)); exact Kd.R_mono (Kd.R_far (p := ⟨gb296, 2, none⟩) (Kd.R_far (p := ⟨gb296, 1, none⟩) (Kd.R_far (p := ⟨gb296, 0, none⟩) (Kd.R_mono HO_4.out (fun k_ hk => (⟨hk, hk.2⟩ : _ ∧ k_ ≠ gb296))) (fun _ hk => hk.2) (.int .i64 t291)) (fun _ hk => hk.2) (.string t292)) (fun _ hk => hk.2) (.string t293)) (fun _ hk => trivial), bl⟩
    ·rw [if_neg c5] at H
     exact absurd H (by simp)
   ·rw [if_neg c4] at H
    exact absurd H (by simp)

/-! ### spec_l27Ok: function 53 -/
def spec_l27Ok.f (k : Nat) (l0 : List (S25)) : Option (Bool) := (spec_l27Read.f k ((rd_T25 l0 0).f1)).bind fun bt301 => (if bt301.2 = (((rd_T25 l0 0).f1).size : Int) then (some (decide ((wrap64 ((((rd_T25 l0 0).f0).size : Int) + (((rd_T25 l0 0).f1).size : Int))) ≤ 4000))) else (some false))
set_option maxHeartbeats 8000000 in
set_option maxRecDepth 100000 in
theorem spec_l27Ok.calls (k : Nat) (adr0 : Addr) (l0 : List (S25)) (r : Bool) (w : World) (hr0 : Kd.C k25 w (some adr0) l0.length l0) (hq0 : l0.length = 1) (h : spec_l27Ok.f k l0 = some r) :
  Calls Tryd.prog 53 #[.pointer (some adr0)] w fun e w' => e = .returned (.bool r) ∧ Below w.heap.size w w' := by
 have HR0 := Aside0.mk hr0
 have hqb0 : decide (0 < (l0.length : Int)) = true := by rw [hq0]; rfl
 have HQ0 := Aside0.mk hq0
 clear hr0 hq0
 have HB := Aside0.mk (Below.refl w.heap.size w)
 have H : ((spec_l27Read.f k ((rd_T25 l0 0).f1)).bind fun bt301 => (if bt301.2 = (((rd_T25 l0 0).f1).size : Int) then (some (decide ((wrap64 ((((rd_T25 l0 0).f0).size : Int) + (((rd_T25 l0 0).f1).size : Int))) ≤ 4000))) else (some false))) = some r := h
 clear h
 replace H := Option.bind_eq_some_iff.mp H
 obtain ⟨⟨t301, t302⟩, A20, H⟩ := H
 replace H : (if t302 = (((rd_T25 l0 0).f1).size : Int) then (some (decide ((wrap64 ((((rd_T25 l0 0).f0).size : Int) + (((rd_T25 l0 0).f1).size : Int))) ≤ 4000))) else (some false)) = some r := H
 have A2 := Aside0.mk A20
 clear A20
 by_cases c3 : t302 = (((rd_T25 l0 0).f1).size : Int)
 ·rw [if_pos c3] at H
  have c3b0 : (t302 == (((rd_T25 l0 0).f1).size : Int)) = true := beq_iff_eq.mpr c3
  have c3b1 : (t302 != (((rd_T25 l0 0).f1).size : Int)) = false := bne_eq_false_iff_eq.mpr c3
  clear c3
  obtain rfl := Option.some.inj H
  have p300 : 0 ≤ (0 : Int) := (by omega)
  have q300 : 0 < (l0.length : Int) := dt
  obtain ⟨ad300, e300, hx300_0, hx300_1⟩ := at_T25 HR0.out 0 p300 q300
  obtain rfl : adr0 = ad300 := (by injection e300)
  have qi300 : (0 < l0.length) = True := eq_true (by omega)
  (try rw [show ((0 : Int)).toNat = 0 from rfl] at hx300_0)
  (try rw [show 0 * 2 = 0 from rfl] at hx300_0)
  (try rw [Addr.add_zero'] at hx300_0)
  (try rw [show ((0 : Int)).toNat = 0 from rfl] at hx300_1)
  (try rw [show 0 * 2 = 0 from rfl] at hx300_1)
  (try rw [Addr.add_zero'] at hx300_1)
  replace p300 := eq_true p300
  replace q300 := eq_true q300
  go_enter Tryd.func53, Tryd.ntmps53
  go_wp2_with (first | (go_at_call 55; (with_reducible refine (spec_l27Read.calls k ((rd_T25 l0 0).f1) t301 t302 _ A2.out).mono ?_); rintro e w4 ⟨v303, rfl, ho0, hb⟩; have HO304 := Aside0.mk (Kd.R_lower ho0 (below_size bl)); replace HB := bs hb; (try clear hb); (try clear ho0); have p305 : 0 ≤ (0 : Int) := (by omega); have q305 : 0 < (l0.length : Int) := dt; obtain ⟨ad305, e305, hx305_0, hx305_1⟩ := at_T25 HR0.out 0 p305 q305; obtain rfl : adr0 = ad305 := (by injection e305); have qi305 : (0 < l0.length) = True := eq_true (by omega); (try rw [show ((0 : Int)).toNat = 0 from rfl] at hx305_0); (try rw [show 0 * 2 = 0 from rfl] at hx305_0); (try rw [Addr.add_zero'] at hx305_0); (try rw [show ((0 : Int)).toNat = 0 from rfl] at hx305_1); (try rw [show 0 * 2 = 0 from rfl] at hx305_1); (try rw [Addr.add_zero'] at hx305_1); replace hx305_0 := (HB.out.cell (World.block_lt_of_cell? w _ hx305_0)).trans hx305_0; replace hx305_1 := (HB.out.cell (World.block_lt_of_cell? w _ hx305_1)).trans hx305_1; replace p305 := eq_true p305; replace q305 := eq_true q305))
  repeat (go_quiet (first | (go_at_call 55; (with_reducible refine (spec_l27Read.calls k ((rd_T25 l0 0).f1) t301 t302 _ A2.out).mono ?_); rintro e w4 ⟨v303, rfl, ho0, hb⟩; have HO304 := Aside0.mk (Kd.R_lower ho0 (below_size bl)); replace HB := bs hb; (try clear hb); (try clear ho0); have p305 : 0 ≤ (0 : Int) := (by omega); have q305 : 0 < (l0.length : Int) := dt; obtain ⟨ad305, e305, hx305_0, hx305_1⟩ := at_T25 HR0.out 0 p305 q305; obtain rfl : adr0 = ad305 := (by injection e305); have qi305 : (0 < l0.length) = True := eq_true (by omega); (try rw [show ((0 : Int)).toNat = 0 from rfl] at hx305_0); (try rw [show 0 * 2 = 0 from rfl] at hx305_0); (try rw [Addr.add_zero'] at hx305_0); (try rw [show ((0 : Int)).toNat = 0 from rfl] at hx305_1); (try rw [show 0 * 2 = 0 from rfl] at hx305_1); (try rw [Addr.add_zero'] at hx305_1); replace hx305_0 := (HB.out.cell (World.block_lt_of_cell? w _ hx305_0)).trans hx305_0; replace hx305_1 := (HB.out.cell (World.block_lt_of_cell? w _ hx305_1)).trans hx305_1; replace p305 := eq_true p305; replace q305 := eq_true q305)); try go_wp2_with (first | (go_at_call 55; (with_reducible refine (spec_l27Read.calls k ((rd_T25 l0 0).f1) t301 t302 _ A2.out).mono ?_); rintro e w4 ⟨v303, rfl, ho0, hb⟩; have HO304 := Aside0.mk (Kd.R_lower ho0 (below_size bl)); replace HB := bs hb; (try clear hb); (try clear ho0); have p305 : 0 ≤ (0 : Int) := (by omega); have q305 : 0 < (l0.length : Int) := dt; obtain ⟨ad305, e305, hx305_0, hx305_1⟩ := at_T25 HR0.out 0 p305 q305; obtain rfl : adr0 = ad305 := (by injection e305); have qi305 : (0 < l0.length) = True := eq_true (by omega); (try rw [show ((0 : Int)).toNat = 0 from rfl] at hx305_0); (try rw [show 0 * 2 = 0 from rfl] at hx305_0); (try rw [Addr.add_zero'] at hx305_0); (try rw [show ((0 : Int)).toNat = 0 from rfl] at hx305_1); (try rw [show 0 * 2 = 0 from rfl] at hx305_1); (try rw [Addr.add_zero'] at hx305_1); replace hx305_0 := (HB.out.cell (World.block_lt_of_cell? w _ hx305_0)).trans hx305_0; replace hx305_1 := (HB.out.cell (World.block_lt_of_cell? w _ hx305_1)).trans hx305_1; replace p305 := eq_true p305; replace q305 := eq_true q305)))
  go_ret
  exact ⟨er, bl⟩
 ·rw [if_neg c3] at H
  have c3b0 : (t302 == (((rd_T25 l0 0).f1).size : Int)) = false := beq_eq_false_iff_ne.mpr c3
  have c3b1 : (t302 != (((rd_T25 l0 0).f1).size : Int)) = true := bne_iff_ne.mpr c3
  obtain rfl := Option.some.inj H
  have p300 : 0 ≤ (0 : Int) := (by omega)
  have q300 : 0 < (l0.length : Int) := dt
  obtain ⟨ad300, e300, hx300_0, hx300_1⟩ := at_T25 HR0.out 0 p300 q300
  obtain rfl : adr0 = ad300 := (by injection e300)
  have qi300 : (0 < l0.length) = True := eq_true (by omega)
  (try rw [show ((0 : Int)).toNat = 0 from rfl] at hx300_0)
  (try rw [show 0 * 2 = 0 from rfl] at hx300_0)
  (try rw [Addr.add_zero'] at hx300_0)
  (try rw [show ((0 : Int)).toNat = 0 from rfl] at hx300_1)
  (try rw [show 0 * 2 = 0 from rfl] at hx300_1)
  (try rw [Addr.add_zero'] at hx300_1)
  replace p300 := eq_true p300
  replace q300 := eq_true q300
  go_enter Tryd.func53, Tryd.ntmps53
  go_wp2_with (first | (go_at_call 55; (with_reducible refine (spec_l27Read.calls k ((rd_T25 l0 0).f1) t301 t302 _ A2.out).mono ?_); rintro e w5 ⟨v303, rfl, ho0, hb⟩; have HO304 := Aside0.mk (Kd.R_lower ho0 (below_size bl)); replace HB := bs hb; (try clear hb); (try clear ho0); have p305 : 0 ≤ (0 : Int) := (by omega); have q305 : 0 < (l0.length : Int) := dt; obtain ⟨ad305, e305, hx305_0, hx305_1⟩ := at_T25 HR0.out 0 p305 q305; obtain rfl : adr0 = ad305 := (by injection e305); have qi305 : (0 < l0.length) = True := eq_true (by omega); (try rw [show ((0 : Int)).toNat = 0 from rfl] at hx305_0); (try rw [show 0 * 2 = 0 from rfl] at hx305_0); (try rw [Addr.add_zero'] at hx305_0); (try rw [show ((0 : Int)).toNat = 0 from rfl] at hx305_1); (try rw [show 0 * 2 = 0 from rfl] at hx305_1); (try rw [Addr.add_zero'] at hx305_1); replace hx305_0 := (HB.out.cell (World.block_lt_of_cell? w _ hx305_0)).trans hx305_0; replace hx305_1 := (HB.out.cell (World.block_lt_of_cell? w _ hx305_1)).trans hx305_1; replace p305 := eq_true p305; replace q305 := eq_true q305))
  repeat (go_quiet (first | (go_at_call 55; (with_reducible refine (spec_l27Read.calls k ((rd_T25 l0 0).f1) t301 t302 _ A2.out).mono ?_); rintro e w5 ⟨v303, rfl, ho0, hb⟩; have HO304 := Aside0.mk (Kd.R_lower ho0 (below_size bl)); replace HB := bs hb; (try clear hb); (try clear ho0); have p305 : 0 ≤ (0 : Int) := (by omega); have q305 : 0 < (l0.length : Int) := dt; obtain ⟨ad305, e305, hx305_0, hx305_1⟩ := at_T25 HR0.out 0 p305 q305; obtain rfl : adr0 = ad305 := (by injection e305); have qi305 : (0 < l0.length) = True := eq_true (by omega); (try rw [show ((0 : Int)).toNat = 0 from rfl] at hx305_0); (try rw [show 0 * 2 = 0 from rfl] at hx305_0); (try rw [Addr.add_zero'] at hx305_0); (try rw [show ((0 : Int)).toNat = 0 from rfl] at hx305_1); (try rw [show 0 * 2 = 0 from rfl] at hx305_1); (try rw [Addr.add_zero'] at hx305_1); replace hx305_0 := (HB.out.cell (World.block_lt_of_cell? w _ hx305_0)).trans hx305_0; replace hx305_1 := (HB.out.cell (World.block_lt_of_cell? w _ hx305_1)).trans hx305_1; replace p305 := eq_true p305; replace q305 := eq_true q305)); try go_wp2_with (first | (go_at_call 55; (with_reducible refine (spec_l27Read.calls k ((rd_T25 l0 0).f1) t301 t302 _ A2.out).mono ?_); rintro e w5 ⟨v303, rfl, ho0, hb⟩; have HO304 := Aside0.mk (Kd.R_lower ho0 (below_size bl)); replace HB := bs hb; (try clear hb); (try clear ho0); have p305 : 0 ≤ (0 : Int) := (by omega); have q305 : 0 < (l0.length : Int) := dt; obtain ⟨ad305, e305, hx305_0, hx305_1⟩ := at_T25 HR0.out 0 p305 q305; obtain rfl : adr0 = ad305 := (by injection e305); have qi305 : (0 < l0.length) = True := eq_true (by omega); (try rw [show ((0 : Int)).toNat = 0 from rfl] at hx305_0); (try rw [show 0 * 2 = 0 from rfl] at hx305_0); (try rw [Addr.add_zero'] at hx305_0); (try rw [show ((0 : Int)).toNat = 0 from rfl] at hx305_1); (try rw [show 0 * 2 = 0 from rfl] at hx305_1); (try rw [Addr.add_zero'] at hx305_1); replace hx305_0 := (HB.out.cell (World.block_lt_of_cell? w _ hx305_0)).trans hx305_0; replace hx305_1 := (HB.out.cell (World.block_lt_of_cell? w _ hx305_1)).trans hx305_1; replace p305 := eq_true p305; replace q305 := eq_true q305)))
  go_ret
  exact ⟨er, bl⟩

/-! ### spec_LosePower: function 9 -/
def spec_LosePower.f (k : Nat) (a0_0 : ByteArray) (a0_1 : ByteArray) (a1 : Int) : Option (ByteArray × ByteArray × Int) := (spec_l27Ok.f k [(⟨a0_0, a0_1⟩ : S25)]).bind fun t308 => (if t308 = true then ((spec_l00In.f a1 0 (a0_1.size : Int)).bind fun t309 => (if t309 = true then (if 0 ≤ a1 then (if a1 ≤ (a0_1.size : Int) then (if a0_0.size + (a0_1.extract 0 (a1 : Int).toNat).size ≤ 9223372036854775807 then (some (a0_0 ++ (a0_1.extract 0 (a1 : Int).toNat), (⟨#[]⟩ : ByteArray), 0)) else (none)) else (none)) else (none)) else (some ((⟨#[]⟩ : ByteArray), (⟨#[]⟩ : ByteArray), 2)))) else (some ((⟨#[]⟩ : ByteArray), (⟨#[]⟩ : ByteArray), 1)))
def spec_LosePower.T5 : Bool × List (List Nat × List Nat) := (true, [([], []), ([0], [0]), ([], []), ([2], [2]), ([], []), ([3, 4], [3, 4]), ([1, 5], [1, 5]), ([6], [6]), ([7, 0, 1, 2, 3, 4, 5, 6, 7], [7]), ([8, 0, 1, 2, 3, 4, 5, 6, 7, 8], [])])
def spec_LosePower.B5 : List Nat := [0, 1, 0, 4, 0, 28, 63, 127, 255, 511]
theorem spec_LosePower.tab5 : rtab .any (opsOf Tryd.f9 5) = spec_LosePower.T5 := by kernel_rfl
theorem spec_LosePower.bits5 : waitsOk spec_LosePower.T5.2 spec_LosePower.B5 = true := by kernel_rfl
set_option maxHeartbeats 8000000 in
set_option maxRecDepth 100000 in
theorem spec_LosePower.calls (k : Nat) (a0_0 : ByteArray) (a0_1 : ByteArray) (a1 : Int) (r1 : ByteArray) (r2 : ByteArray) (r3 : Int) (w : World) (h : spec_LosePower.f k a0_0 a0_1 a1 = some (r1, r2, r3)) :
  Calls Tryd.prog 9 #[.agg #[.string a0_0, .string a0_1], .int .i64 a1] w fun e w' => e = .returned (.tuple #[.agg #[.string r1, .string r2], .int .i64 r3]) ∧ Below w.heap.size w w' := by
 have hu25 := Tryd.underlying25
 have HB := Aside0.mk (Below.refl w.heap.size w)
 have H : ((spec_l27Ok.f k [(⟨a0_0, a0_1⟩ : S25)]).bind fun t308 => (if t308 = true then ((spec_l00In.f a1 0 (a0_1.size : Int)).bind fun t309 => (if t309 = true then (if 0 ≤ a1 then (if a1 ≤ (a0_1.size : Int) then (if a0_0.size + (a0_1.extract 0 (a1 : Int).toNat).size ≤ 9223372036854775807 then (some (a0_0 ++ (a0_1.extract 0 (a1 : Int).toNat), (⟨#[]⟩ : ByteArray), 0)) else (none)) else (none)) else (none)) else (some ((⟨#[]⟩ : ByteArray), (⟨#[]⟩ : ByteArray), 2)))) else (some ((⟨#[]⟩ : ByteArray), (⟨#[]⟩ : ByteArray), 1)))) = some (r1, r2, r3) := h
 clear h
 replace H := Option.bind_eq_some_iff.mp H
 obtain ⟨t308, A30, H⟩ := H
 have A3 := Aside0.mk A30
 clear A30
 by_cases c4 : t308 = true
 ·subst c4
  rw [if_pos rfl] at H
  replace H := Option.bind_eq_some_iff.mp H
  obtain ⟨t309, A50, H⟩ := H
  have A5 := Aside0.mk A50
  clear A50
  by_cases c6 : t309 = true
  ·subst c6
   rw [if_pos rfl] at H
   by_cases c7 : 0 ≤ a1
   ·rw [if_pos c7] at H
    have c7b0 := eq_true c7
    have c7b1 : decide (0 ≤ a1) = true := decide_eq_true c7
    clear c7
    by_cases c8 : a1 ≤ (a0_1.size : Int)
    ·rw [if_pos c8] at H
     have c8b0 := eq_true c8
     have c8b1 : decide (a1 ≤ (a0_1.size : Int)) = true := decide_eq_true c8
     clear c8
     by_cases c9 : a0_0.size + (a0_1.extract 0 (a1 : Int).toNat).size ≤ 9223372036854775807
     ·rw [if_pos c9] at H
      have c9b0 := eq_true c9
      have c9b1 : decide (a0_0.size + (a0_1.extract 0 (a1 : Int).toNat).size ≤ 9223372036854775807) = true := decide_eq_true c9
      try have c9b3 : (9223372036854775807 < a0_0.size + a1.toNat) = False := by have h_ := c9; simp only [ByteArray.size_append, ByteArray.size_extract] at h_; have q0_ : a1 ≤ (a0_1.size : Int) := dt; exact eq_false (by omega)
      try have c9b2 : (9223372036854775807 < a0_0.size + (a0_1.extract 0 (a1 : Int).toNat).size) = False := eq_false (Nat.not_lt.2 c9)
      simp only [Option.some.injEq, Prod.mk.injEq] at H
      obtain ⟨rfl, rfl, rfl⟩ := H
      go_enter Tryd.func9, Tryd.ntmps9
      try go_wp2_with (first | ((with_reducible refine gate_dst (N := 2) rfl ?_); refine box_event ?hg (N := 2) ?hd (cs := #[.string a0_0, .string a0_1]) (t := 25) ?hr ?_; (case hd => rfl); (case hg => rfl); (case hr => exact zq1); intro gb306 hg w10 hbox hb; have BK306 := Aside0.mk (hbox); have GW306 := gsz hg; have GE306 := gsz hg; replace HB := bs hb; clear hb hbox hg) | ((with_reducible refine gate_dst (N := 4) rfl ?_); refine box_event ?hg (N := 4) ?hd (cs := #[.string (⟨#[]⟩ : ByteArray), .string (⟨#[]⟩ : ByteArray)]) (t := 25) ?hr ?_; (case hd => rfl); (case hg => rfl); (case hr => exact zq1); intro gb307 hg w11 hbox hb; have BK307 := Aside0.mk (hbox); have GW307 := gsz hg; have GE307 := gsz hg; replace HB := bs hb; have NB306_307 := nlt BK306 hg; have NB307_306 := ngt BK306 hg; replace BK306 := kb BK306 hb; clear hb hbox hg) | ((with_reducible refine gate_callee (f := 53) rfl ?_); refine goq (some 6) Tryd.func53 #[.pointer (some ⟨gb306, 0, none⟩)] ?_; (with_reducible refine (spec_l27Ok.calls k ⟨gb306, 0, none⟩ [(⟨a0_0, a0_1⟩ : S25)] true _ ?side1 ?side2 A3.out).mono ?_); (case side1 => exact zq12); (case side2 => rfl); rintro e w12 ⟨rfl, hb⟩; refine ⟨_, rfl, ?_⟩; replace BK306 := kb BK306 hb; replace BK307 := kb BK307 hb; replace HB := bs hb; (try clear hb); have hnb13 := NB306_307.out; have hnc13 := NB307_306.out; have hcz14_0 := cz BK306 0 rfl; have hcz14_1 := cz BK306 1 rfl; have hfz14_0 := blk_frozen BK306.out 0; have hfz14_1 := blk_frozen BK306.out 1) | ((with_reducible refine gate_callee (f := 54) rfl ?_); refine goq (some 13) Tryd.func54 #[.int .i64 a1, .int .i64 0, .int .i64 (a0_1.size : Int)] ?_; (with_reducible refine (spec_l00In.calls a1 0 (a0_1.size : Int) true _ A5.out).mono ?_); rintro e w' ⟨rfl, ⟨nd, rfl⟩⟩; refine ⟨_, rfl, ?_⟩; (try (rw [drewN_self w12]; generalize hq_ : World.drewN w12 _ = w12; have n0_ : Aside0 (w12.heap[gb306]? = some (.cells #[.string a0_0, .string a0_1] 25 (0, 0))) := ⟨zq16⟩; have n1_ : Aside0 (w12.heap[gb307]? = some (.cells #[.string (⟨#[]⟩ : ByteArray), .string (⟨#[]⟩ : ByteArray)] 25 (0, 0))) := ⟨zq16⟩; have n2_ : Aside0 (Below w.heap.size w w12) := ⟨by rw [← hq_]; exact bl⟩; clear BK306 BK307 HB hq_; have BK306 := n0_; have BK307 := n1_; have HB := n2_; clear n0_ n1_ n2_))))
      replace BK306 := Aside0.mk (blk_drew BK306.out)
      replace BK307 := Aside0.mk (blk_drew BK307.out)
      replace HB := Aside0.mk (below_drew1 HB.out)
      refine start_ (n := 10) (S := fun w' => w'.cell? ⟨gb306, 0, none⟩ = some (.string a0_0) ∧ w'.cell? ⟨gb306, 1, none⟩ = some (.string a0_1)) (ds := []) #[false, false, false, false, false, false, false, false, false, false] (by kernel_rfl) rfl rfl ⟨(blk_cell BK306.out 0).trans rfl, (blk_cell BK306.out 1).trans rfl⟩ (fun hHeld => ?_); refine with_tabW spec_LosePower.tab5 spec_LosePower.bits5 (fun HT_ HW_ => ?_)
      generalize w12.drew = w15 at BK306 BK307 HB hHeld ⊢
      refine pu (i := 0) (N := some 16) (l' := #[true, false, false, false, false, false, false, false, false, false]) HT_ ?_
      refine pu (i := 2) (N := some 18) (l' := #[true, false, true, false, false, false, false, false, false, false]) HT_ ?_
      refine pu (i := 4) (N := some 20) (l' := #[true, false, true, false, true, false, false, false, false, false]) HT_ ?_
      refine take_ (i := 1) (N := some 17) (v := ?_) (a' := ?_) #[true, true, true, false, true, false, false, false, false, false] rfl rfl (take_ofW HT_.out HW_.out (by kernel_rfl)) (fun _ _ _ h => h) (Or.inl ⟨by rfl, ?_⟩) hHeld ?_ ?_
      rotate_left
      ·rintro w' ⟨s0, s1⟩
       go_simp
       with_reducible rfl
      rotate_left
      ·simp only [Act.put, List.setIfInBounds_toArray, List.set_cons_zero, List.set_cons_succ, i64_w, i32_w]
       rfl
      refine take_ (i := 3) (N := some 19) (v := ?_) (a' := ?_) #[true, true, true, true, true, false, false, false, false, false] rfl rfl (take_ofW HT_.out HW_.out (by kernel_rfl)) (fun _ _ _ h => h) (Or.inl ⟨by rfl, ?_⟩) hHeld ?_ ?_
      rotate_left
      ·rintro w' ⟨s0, s1⟩
       go_simp
       with_reducible rfl
      rotate_left
      ·simp only [Act.put, List.setIfInBounds_toArray, List.set_cons_zero, List.set_cons_succ, i64_w, i32_w]
       rfl
      refine pu (i := 5) (N := some 21) (l' := #[true, true, true, true, true, true, false, false, false, false]) HT_ ?_
      refine pu (i := 6) (N := some 22) (l' := #[true, true, true, true, true, true, true, false, false, false]) HT_ ?_
      refine pu (i := 7) (N := some 23) (l' := #[true, true, true, true, true, true, true, true, false, false]) HT_ ?_
      refine one_ (i := 8) (N := none) #[true, true, true, true, true, true, true, true, true, false] rfl rfl (one_of HT_.out (by kernel_rfl)) (by decide) (fun K hK => ?_)
      have hs16 := cz BK307 0 rfl
      have hfs16 := blk_frozen BK307.out 0
      have hns16_0 := NB306_307.out
      have hms16_0 := NB307_306.out
      have hs17 := cz BK307 1 rfl
      have hfs17 := blk_frozen BK307.out 1
      have hns17_0 := NB306_307.out
      have hms17_0 := NB307_306.out
      refine skip_ (w1 := ?_) (by rfl) rfl ?_ ?_
      rotate_left
      ·go_simp
       rfl
      refine hK.out _ _ ⟨((cell_far (p := ⟨gb307, _, none⟩) NB306_307.out _).trans (((cell_far (p := ⟨gb307, _, none⟩) NB306_307.out _).trans (hHeld.1)))), ((cell_far (p := ⟨gb307, _, none⟩) NB306_307.out _).trans (((cell_far (p := ⟨gb307, _, none⟩) NB306_307.out _).trans (hHeld.2))))⟩ (fun hHeld => ?_)
      clear hK K
      refine pu (i := 9) (N := some 5) (l' := #[true, true, true, true, true, true, true, true, true, true]) HT_ ?_
      refine done_ (done_of HT_.out (by kernel_rfl)) ?_
      try go_wp2
      refine bodyPost_ret (results_ct rfl _ _ gb307 25 #[.string (a0_0 ++ (a0_1.extract 0 (a1 : Int).toNat)), .string (⟨#[]⟩ : ByteArray)] (0, 0) _ rfl zq45 Tryd.underlying25 rfl (by kernel_rfl)) rfl ?_
      exact ⟨er, bl⟩
     ·rw [if_neg c9] at H
      exact absurd H (by simp)
    ·rw [if_neg c8] at H
     exact absurd H (by simp)
   ·rw [if_neg c7] at H
    exact absurd H (by simp)
  ·replace c6 := Bool.eq_false_iff.mpr c6
   subst c6
   rw [if_neg (show ¬ (false = true) by decide)] at H
   simp only [Option.some.injEq, Prod.mk.injEq] at H
   obtain ⟨rfl, rfl, rfl⟩ := H
   go_enter Tryd.func9, Tryd.ntmps9
   go_wp2_with (first | ((with_reducible refine gate_dst (N := 2) rfl ?_); refine box_event ?hg (N := 2) ?hd (cs := #[.string a0_0, .string a0_1]) (t := 25) ?hr ?_; (case hd => rfl); (case hg => rfl); (case hr => exact zq1); intro gb306 hg w18 hbox hb; have BK306 := Aside0.mk (hbox); have GW306 := gsz hg; have GE306 := gsz hg; replace HB := bs hb; clear hb hbox hg) | ((with_reducible refine gate_dst (N := 4) rfl ?_); refine box_event ?hg (N := 4) ?hd (cs := #[.string (⟨#[]⟩ : ByteArray), .string (⟨#[]⟩ : ByteArray)]) (t := 25) ?hr ?_; (case hd => rfl); (case hg => rfl); (case hr => exact zq1); intro gb307 hg w19 hbox hb; have BK307 := Aside0.mk (hbox); have GW307 := gsz hg; have GE307 := gsz hg; replace HB := bs hb; have NB306_307 := nlt BK306 hg; have NB307_306 := ngt BK306 hg; replace BK306 := kb BK306 hb; clear hb hbox hg) | ((with_reducible refine gate_callee (f := 53) rfl ?_); refine goq (some 6) Tryd.func53 #[.pointer (some ⟨gb306, 0, none⟩)] ?_; (with_reducible refine (spec_l27Ok.calls k ⟨gb306, 0, none⟩ [(⟨a0_0, a0_1⟩ : S25)] true _ ?side1 ?side2 A3.out).mono ?_); (case side1 => exact zq12); (case side2 => rfl); rintro e w20 ⟨rfl, hb⟩; refine ⟨_, rfl, ?_⟩; replace BK306 := kb BK306 hb; replace BK307 := kb BK307 hb; replace HB := bs hb; (try clear hb); have hnb21 := NB306_307.out; have hnc21 := NB307_306.out; have hcz22_0 := cz BK306 0 rfl; have hcz22_1 := cz BK306 1 rfl; have hfz22_0 := blk_frozen BK306.out 0; have hfz22_1 := blk_frozen BK306.out 1) | ((with_reducible refine gate_callee (f := 54) rfl ?_); refine goq (some 13) Tryd.func54 #[.int .i64 a1, .int .i64 0, .int .i64 (a0_1.size : Int)] ?_; (with_reducible refine (spec_l00In.calls a1 0 (a0_1.size : Int) false _ A5.out).mono ?_); rintro e w' ⟨rfl, ⟨nd, rfl⟩⟩; refine ⟨_, rfl, ?_⟩; (try (rw [drewN_self w20]; generalize hq_ : World.drewN w20 _ = w20; have n0_ : Aside0 (w20.heap[gb306]? = some (.cells #[.string a0_0, .string a0_1] 25 (0, 0))) := ⟨zq16⟩; have n1_ : Aside0 (w20.heap[gb307]? = some (.cells #[.string (⟨#[]⟩ : ByteArray), .string (⟨#[]⟩ : ByteArray)] 25 (0, 0))) := ⟨zq16⟩; have n2_ : Aside0 (Below w.heap.size w w20) := ⟨by rw [← hq_]; exact bl⟩; clear BK306 BK307 HB hq_; have BK306 := n0_; have BK307 := n1_; have HB := n2_; clear n0_ n1_ n2_)); have hcz23_0 := cz BK307 0 rfl; have hcz23_1 := cz BK307 1 rfl; have hfz23_0 := blk_frozen BK307.out 0; have hfz23_1 := blk_frozen BK307.out 1))
   refine bodyPost_ret (results_ct rfl _ _ gb307 25 #[.string (⟨#[]⟩ : ByteArray), .string (⟨#[]⟩ : ByteArray)] (0, 0) _ rfl zq13 Tryd.underlying25 rfl (by kernel_rfl)) rfl ?_
   exact ⟨er, bl⟩
 ·replace c4 := Bool.eq_false_iff.mpr c4
  subst c4
  rw [if_neg (show ¬ (false = true) by decide)] at H
  simp only [Option.some.injEq, Prod.mk.injEq] at H
  obtain ⟨rfl, rfl, rfl⟩ := H
  go_enter Tryd.func9, Tryd.ntmps9
  go_wp2_with (first | ((with_reducible refine gate_dst (N := 2) rfl ?_); refine box_event ?hg (N := 2) ?hd (cs := #[.string a0_0, .string a0_1]) (t := 25) ?hr ?_; (case hd => rfl); (case hg => rfl); (case hr => exact zq1); intro gb306 hg w24 hbox hb; have BK306 := Aside0.mk (hbox); have GW306 := gsz hg; have GE306 := gsz hg; replace HB := bs hb; clear hb hbox hg) | ((with_reducible refine gate_dst (N := 4) rfl ?_); refine box_event ?hg (N := 4) ?hd (cs := #[.string (⟨#[]⟩ : ByteArray), .string (⟨#[]⟩ : ByteArray)]) (t := 25) ?hr ?_; (case hd => rfl); (case hg => rfl); (case hr => exact zq1); intro gb307 hg w25 hbox hb; have BK307 := Aside0.mk (hbox); have GW307 := gsz hg; have GE307 := gsz hg; replace HB := bs hb; have NB306_307 := nlt BK306 hg; have NB307_306 := ngt BK306 hg; replace BK306 := kb BK306 hb; clear hb hbox hg) | ((with_reducible refine gate_callee (f := 53) rfl ?_); refine goq (some 6) Tryd.func53 #[.pointer (some ⟨gb306, 0, none⟩)] ?_; (with_reducible refine (spec_l27Ok.calls k ⟨gb306, 0, none⟩ [(⟨a0_0, a0_1⟩ : S25)] false _ ?side1 ?side2 A3.out).mono ?_); (case side1 => exact zq12); (case side2 => rfl); rintro e w26 ⟨rfl, hb⟩; refine ⟨_, rfl, ?_⟩; replace BK306 := kb BK306 hb; replace BK307 := kb BK307 hb; replace HB := bs hb; (try clear hb); have hnb27 := NB307_306.out; have hnc27 := NB306_307.out; have hcz28_0 := cz BK307 0 rfl; have hcz28_1 := cz BK307 1 rfl; have hfz28_0 := blk_frozen BK307.out 0; have hfz28_1 := blk_frozen BK307.out 1))
  refine bodyPost_ret (results_ct rfl _ _ gb307 25 #[.string (⟨#[]⟩ : ByteArray), .string (⟨#[]⟩ : ByteArray)] (0, 0) _ rfl zq13 Tryd.underlying25 rfl (by kernel_rfl)) rfl ?_
  exact ⟨er, bl⟩

/-! ### spec_DrawFlushLog: function 10 -/
def spec_DrawFlushLog.f (k : Nat) (l0 : List Int) : Option (ByteArray × ByteArray) := (spec_l00From.f l0).bind fun bt311 => ((spec_l27Draw.f k bt311.1 bt311.2.1 bt311.2.2).bind fun bt315 => (some (bt315.1, bt315.2.1)))
set_option maxHeartbeats 8000000 in
set_option maxRecDepth 100000 in
theorem spec_DrawFlushLog.calls (k : Nat) (A0 : Option Addr) (c0 : Nat) (l0 : List Int) (r1 : ByteArray) (r2 : ByteArray) (w : World) (hr0 : Kd.C (Kd.int .u8) w A0 l0.length l0) (hc0 : l0.length ≤ c0) (h : spec_DrawFlushLog.f k l0 = some (r1, r2)) :
  Calls Tryd.prog 10 #[.slice A0 l0.length c0] w fun e w' => e = .returned (.agg #[.string r1, .string r2]) ∧ Below w.heap.size w w' := by
 have hu25 := Tryd.underlying25
 have HR0 := Aside0.mk hr0
 have HC0 := Aside0.mk hc0
 clear hr0 hc0
 have HB := Aside0.mk (Below.refl w.heap.size w)
 have H : ((spec_l00From.f l0).bind fun bt311 => ((spec_l27Draw.f k bt311.1 bt311.2.1 bt311.2.2).bind fun bt315 => (some (bt315.1, bt315.2.1)))) = some (r1, r2) := h
 clear h
 replace H := Option.bind_eq_some_iff.mp H
 obtain ⟨⟨t311, t312, t313⟩, A20, H⟩ := H
 replace H : ((spec_l27Draw.f k t311 t312 t313).bind fun bt315 => (some (bt315.1, bt315.2.1))) = some (r1, r2) := H
 have A2 := Aside0.mk A20
 clear A20
 replace H := Option.bind_eq_some_iff.mp H
 obtain ⟨⟨t315, t316, t317, t318⟩, A30, H⟩ := H
 replace H : (some (t315, t316)) = some (r1, r2) := H
 have A3 := Aside0.mk A30
 clear A30
 simp only [Option.some.injEq, Prod.mk.injEq] at H
 obtain ⟨rfl, rfl⟩ := H
 go_enter Tryd.func10, Tryd.ntmps10
 go_wp2_with (first | ((with_reducible refine gate_dst (N := 2) rfl ?_); refine box_event ?hg (N := 2) ?hd (cs := #[.string (⟨#[]⟩ : ByteArray), .string (⟨#[]⟩ : ByteArray)]) (t := 25) ?hr ?_; (case hd => rfl); (case hg => rfl); (case hr => exact zq1); intro gb310 hg w4 hbox hb; have BK310 := Aside0.mk (hbox); have GW310 := gsz hg; have GE310 := gsz hg; replace HB := bs hb; clear hb hbox hg) | ((with_reducible refine gate_callee (f := 46) rfl ?_); refine goq (some 4) Tryd.func46 #[.slice A0 l0.length c0] ?_; (with_reducible refine (spec_l00From.calls _ _ l0 t311 t312 t313 w _ ?side1 ?side2 ?side3 A2.out).mono ?_); (case side1 => exact zq39); (case side2 => exact HR0.out); (case side3 => exact HC0.out); rintro e w5 ⟨g314, rfl, hi, hb, hb2⟩; refine ⟨_, rfl, ?_⟩; replace HB := Aside0.mk (hb); have HI314 := Aside0.mk (hi); have NB314_310 := Aside0.mk (IsS104.ne_blk hi (blk_below (g := gb310) (o := .cells #[.string (⟨#[]⟩ : ByteArray), .string (⟨#[]⟩ : ByteArray)] 25 (0, 0)) zq0 hb2) (by decide)); have NB310_314 := Aside0.mk (Ne.symm (IsS104.ne_blk hi (blk_below (g := gb310) (o := .cells #[.string (⟨#[]⟩ : ByteArray), .string (⟨#[]⟩ : ByteArray)] 25 (0, 0)) zq0 hb2) (by decide))); replace BK310 := Aside0.mk (blk_below (g := gb310) (o := .cells #[.string (⟨#[]⟩ : ByteArray), .string (⟨#[]⟩ : ByteArray)] 25 (0, 0)) zq0 hb2); (try clear hb)) | ((with_reducible refine gate_callee (f := 47) rfl ?_); refine goq (some 5) Tryd.func47 #[.pointer (some ⟨g314, 0, none⟩)] ?_; (with_reducible refine (spec_l27Draw.calls k g314 t311 t312 t313 t315 t316 t317 t318 w _ ?side1 ?side2 A3.out).mono ?_); (case side1 => repeat (first | (with_reducible first | exact HI314.out | apply IsS104.alloc | apply IsS104.drewN | apply IsS104.drew | apply IsS104.set_1 | apply IsS104.set_2 | refine IsS104.far ?_ NB314_310.out _) | exact HI314.out)); (case side2 => exact zq46); rintro e w6 ⟨rfl, hi, hb, hk⟩; refine ⟨_, rfl, ?_⟩; replace BK310 := Aside0.mk (KeepBut.blk hk (g' := gb310) (o := .cells #[.string (⟨#[]⟩ : ByteArray), .string (⟨#[]⟩ : ByteArray)] 25 (0, 0)) zq0 NB310_314.out (by simp)); replace HB := Aside0.mk (hb); replace HI314 := Aside0.mk (hi); (try clear hb); have hnb7 := NB310_314.out; have hnc7 := NB314_310.out; have hcz8_0 := cz BK310 0 rfl; have hcz8_1 := cz BK310 1 rfl; have hfz8_0 := blk_frozen BK310.out 0; have hfz8_1 := blk_frozen BK310.out 1))
 refine bodyPost_ret (results_cell_row rfl _ _ gb310 25 #[.string t315, .string t316] (0, 0) _ rfl (by (with_reducible repeat (first | refine blk_drewN ?_ _ | refine blk_drew ?_ | refine blk_alloc ?_ _)); refine blk_put (cs := #[.string t315, .string (⟨#[]⟩ : ByteArray)]) ?_ 1 _ rfl; (with_reducible repeat (first | refine blk_drewN ?_ _ | refine blk_drew ?_ | refine blk_alloc ?_ _)); refine blk_put (cs := #[.string (⟨#[]⟩ : ByteArray), .string (⟨#[]⟩ : ByteArray)]) ?_ 0 _ rfl; (with_reducible repeat (first | refine blk_drewN ?_ _ | refine blk_drew ?_ | refine blk_alloc ?_ _)); exact BK310.out) Tryd.underlying25 rfl (by kernel_rfl)) rfl ?_
 exact ⟨er, zq46⟩

/-! ### impl_FlushLog: function 11 -/
def impl_FlushLog.f (k : Nat) (a0_0 : ByteArray) (a0_1 : ByteArray) : Option (ByteArray × ByteArray × Int) := (impl_validLog.f k a0_0 a0_1).bind fun t321 => (if t321 = true then (if a0_0.size + a0_1.size ≤ 9223372036854775807 then (some (a0_0 ++ a0_1, (⟨#[]⟩ : ByteArray), 0)) else (none)) else (some ((⟨#[]⟩ : ByteArray), (⟨#[]⟩ : ByteArray), 1)))
set_option maxHeartbeats 8000000 in
set_option maxRecDepth 100000 in
theorem impl_FlushLog.calls (k : Nat) (a0_0 : ByteArray) (a0_1 : ByteArray) (r1 : ByteArray) (r2 : ByteArray) (r3 : Int) (w : World) (hG : GF w) (h : impl_FlushLog.f k a0_0 a0_1 = some (r1, r2, r3)) :
  Calls Tryd.prog 11 #[.agg #[.string a0_0, .string a0_1]] w fun e w' => e = .returned (.tuple #[.agg #[.string r1, .string r2], .int .i64 r3]) ∧ Below w.heap.size w w' := by
 have hu25 := Tryd.underlying25
 have HB := Aside0.mk (Below.refl w.heap.size w)
 have HG := Aside0.mk hG
 clear hG
 have H : ((impl_validLog.f k a0_0 a0_1).bind fun t321 => (if t321 = true then (if a0_0.size + a0_1.size ≤ 9223372036854775807 then (some (a0_0 ++ a0_1, (⟨#[]⟩ : ByteArray), 0)) else (none)) else (some ((⟨#[]⟩ : ByteArray), (⟨#[]⟩ : ByteArray), 1)))) = some (r1, r2, r3) := h
 clear h
 replace H := Option.bind_eq_some_iff.mp H
 obtain ⟨t321, A20, H⟩ := H
 have A2 := Aside0.mk A20
 clear A20
 by_cases c3 : t321 = true
 ·subst c3
  rw [if_pos rfl] at H
  by_cases c4 : a0_0.size + a0_1.size ≤ 9223372036854775807
  ·rw [if_pos c4] at H
   have c4b0 := eq_true c4
   have c4b1 : decide (a0_0.size + a0_1.size ≤ 9223372036854775807) = true := decide_eq_true c4
   try have c4b2 : (9223372036854775807 < a0_0.size + a0_1.size) = False := eq_false (Nat.not_lt.2 c4)
   simp only [Option.some.injEq, Prod.mk.injEq] at H
   obtain ⟨rfl, rfl, rfl⟩ := H
   go_enter Tryd.func11, Tryd.ntmps11
   go_wp2_with (first | ((with_reducible refine gate_dst (N := 1) rfl ?_); refine box_event ?hg (N := 1) ?hd (cs := #[.string a0_0, .string a0_1]) (t := 25) ?hr ?_; (case hd => rfl); (case hg => rfl); (case hr => exact zq1); intro gb319 hg w5 hbox hb; have BK319 := Aside0.mk (hbox); have GW319 := gsz hg; have GE319 := gsz hg; replace HB := bs hb; clear hb hbox hg) | ((with_reducible refine gate_dst (N := 2) rfl ?_); refine box_event ?hg (N := 2) ?hd (cs := #[.string (⟨#[]⟩ : ByteArray), .string (⟨#[]⟩ : ByteArray)]) (t := 25) ?hr ?_; (case hd => rfl); (case hg => rfl); (case hr => exact zq1); intro gb320 hg w6 hbox hb; have BK320 := Aside0.mk (hbox); have GW320 := gsz hg; have GE320 := gsz hg; replace HB := bs hb; have NB319_320 := nlt BK319 hg; have NB320_319 := ngt BK319 hg; replace BK319 := kb BK319 hb; clear hb hbox hg; have hnb7 := NB319_320.out; have hnc7 := NB320_319.out; have hcz8_0 := cz BK319 0 rfl; have hcz8_1 := cz BK319 1 rfl; have hfz8_0 := blk_frozen BK319.out 0; have hfz8_1 := blk_frozen BK319.out 1) | ((with_reducible refine gate_callee (f := 51) rfl ?_); refine goq (some 5) Tryd.func51 #[.agg #[.string a0_0, .string a0_1]] ?_; (with_reducible refine (impl_validLog.calls k a0_0 a0_1 true _ ?side1 A2.out).mono ?_); (case side1 => exact (GF.below HG.out bl)); rintro e w9 ⟨rfl, hb⟩; refine ⟨_, rfl, ?_⟩; replace BK319 := kb BK319 hb; replace BK320 := kb BK320 hb; replace HB := bs hb; (try clear hb); have hcz10_0 := cz BK319 0 rfl; have hcz10_1 := cz BK319 1 rfl; have hfz10_0 := blk_frozen BK319.out 0; have hfz10_1 := blk_frozen BK319.out 1; have hcz11_0 := cz BK320 0 rfl; have hcz11_1 := cz BK320 1 rfl; have hfz11_0 := blk_frozen BK320.out 0; have hfz11_1 := blk_frozen BK320.out 1))
   refine bodyPost_ret (results_ct rfl _ _ gb320 25 #[.string (a0_0 ++ a0_1), .string (⟨#[]⟩ : ByteArray)] (0, 0) _ rfl zq47 Tryd.underlying25 rfl (by kernel_rfl)) rfl ?_
   exact ⟨er, bl⟩
  ·rw [if_neg c4] at H
   exact absurd H (by simp)
 ·replace c3 := Bool.eq_false_iff.mpr c3
  subst c3
  rw [if_neg (show ¬ (false = true) by decide)] at H
  simp only [Option.some.injEq, Prod.mk.injEq] at H
  obtain ⟨rfl, rfl, rfl⟩ := H
  go_enter Tryd.func11, Tryd.ntmps11
  go_wp2_with (first | ((with_reducible refine gate_dst (N := 1) rfl ?_); refine box_event ?hg (N := 1) ?hd (cs := #[.string a0_0, .string a0_1]) (t := 25) ?hr ?_; (case hd => rfl); (case hg => rfl); (case hr => exact zq1); intro gb319 hg w12 hbox hb; have BK319 := Aside0.mk (hbox); have GW319 := gsz hg; have GE319 := gsz hg; replace HB := bs hb; clear hb hbox hg) | ((with_reducible refine gate_dst (N := 2) rfl ?_); refine box_event ?hg (N := 2) ?hd (cs := #[.string (⟨#[]⟩ : ByteArray), .string (⟨#[]⟩ : ByteArray)]) (t := 25) ?hr ?_; (case hd => rfl); (case hg => rfl); (case hr => exact zq1); intro gb320 hg w13 hbox hb; have BK320 := Aside0.mk (hbox); have GW320 := gsz hg; have GE320 := gsz hg; replace HB := bs hb; have NB319_320 := nlt BK319 hg; have NB320_319 := ngt BK319 hg; replace BK319 := kb BK319 hb; clear hb hbox hg; have hnb14 := NB319_320.out; have hnc14 := NB320_319.out; have hcz15_0 := cz BK319 0 rfl; have hcz15_1 := cz BK319 1 rfl; have hfz15_0 := blk_frozen BK319.out 0; have hfz15_1 := blk_frozen BK319.out 1) | ((with_reducible refine gate_callee (f := 51) rfl ?_); refine goq (some 5) Tryd.func51 #[.agg #[.string a0_0, .string a0_1]] ?_; (with_reducible refine (impl_validLog.calls k a0_0 a0_1 false _ ?side1 A2.out).mono ?_); (case side1 => exact (GF.below HG.out bl)); rintro e w16 ⟨rfl, hb⟩; refine ⟨_, rfl, ?_⟩; replace BK319 := kb BK319 hb; replace BK320 := kb BK320 hb; replace HB := bs hb; (try clear hb); have hcz17_0 := cz BK320 0 rfl; have hcz17_1 := cz BK320 1 rfl; have hfz17_0 := blk_frozen BK320.out 0; have hfz17_1 := blk_frozen BK320.out 1))
  refine bodyPost_ret (results_ct rfl _ _ gb320 25 #[.string (⟨#[]⟩ : ByteArray), .string (⟨#[]⟩ : ByteArray)] (0, 0) _ rfl zq13 Tryd.underlying25 rfl (by kernel_rfl)) rfl ?_
  exact ⟨er, bl⟩

end Go.Proofs.YtajbomiaoncgiaaDoor.QPL
