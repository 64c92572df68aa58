-- Written by a program of this place (wip/tools/prn.py) out of the translation, for this claim. Lean checks it.
import Derived.Test.YtjmjmpbphhbmpaaDoorQCBx0
import Derived.Test.YtjmjmpbphhbmpaaDoorQCBx1
import Derived.Test.YtjmjmpbphhbmpaaDoorQCBx3
import Derived.Test.YtjmjmpbphhbmpaaDoorQCBx4
namespace Go.Proofs.YtjmjmpbphhbmpaaDoor.QCB
open Go.RowKit Go.Proofs.YtjmjmpbphhbmpaaDoorQ Go.Proofs.YtjmjmpbphhbmpaaDoorW.PrintWords Go.Proofs.YtjmjmpbphhbmpaaDoorW.PrintLast Go.Proofs.YtjmjmpbphhbmpaaDoorW.PrintMore
attribute [local go_sem] max2_int min2_int max_two min_two max_three min_three max_four min_four   -- for this text's walks alone
set_option linter.unusedVariables false
set_option linter.unusedSimpArgs false

/-! ### laws_a2Cost: function 12 -/
def laws_a2Cost.l0 : Nat → List (S33) → List Int → Int → Int → Int → Option (Int × Int)
  | 0, _, _, _, _, _ => none
  | k + 1, x0, x1, x6, x7, x8 => if x8 < (x1.length : Int) then (if 0 ≤ x8 then (if 0 ≤ (rd x1 x8) then (if (rd x1 x8) < (x0.length : Int) then ((laws_a2Sum.f k ((rd_T33 x0 (rd x1 x8)).f1)).bind fun t197 => ((laws_a2Sum.f k ((rd_T33 x0 (rd x1 x8)).f1)).bind fun t198 => (laws_a2Cost.l0 k x0 x1 (wrap64 (x6 + t197)) (wrap64 (x7 + (wrap64 (Int.tdiv (wrap64 (((rd_T33 x0 (rd x1 x8)).f2) * t198)) 60)))) (wrap64 (x8 + 1))))) else (none)) else (none)) else (none)) else (some (x6, x7))
def laws_a2Cost.f (k : Nat) (l0 : List (S33)) (l1 : List Int) : Option (Int × Int) := laws_a2Cost.l0 k l0 l1 0 0 0
theorem laws_a2Cost.mono_l : ∀ k, (∀ y0 y1 y2 y3 y4, LeO (laws_a2Cost.l0 k y0 y1 y2 y3 y4) (laws_a2Cost.l0 (k + 1) y0 y1 y2 y3 y4))
  | 0 => fun _ _ _ _ _ r h => by simp [laws_a2Cost.l0] at h
  | k + 1 => by
    have ih0 := laws_a2Cost.mono_l k
    · intro y0 y1 y2 y3 y4
      unfold laws_a2Cost.l0
      repeat' first
      | (with_reducible exact ih0 _ _ _ _ _)
      | (with_reducible exact laws_a2Sum.mono _ _)
      | (with_reducible exact LeO.refl _)
      | (with_reducible exact LeO.none _)
      | (with_reducible refine LeO.ite ?_ ?_)
      | (with_reducible refine LeO.bind ?_ (fun _ => ?_))
      | exact ih0 _ _ _ _ _
      | exact laws_a2Sum.mono _ _
      | exact LeO.none _
      | refine LeO.ite ?_ ?_
      | refine LeO.bind ?_ (fun _ => ?_)
theorem laws_a2Cost.mono : ∀ a0 a1 k, LeO (laws_a2Cost.f k a0 a1) (laws_a2Cost.f (k + 1) a0 a1) := by
  intro a0 a1 k
  have ih0 := laws_a2Cost.mono_l k
  unfold laws_a2Cost.f
  repeat' first
      | (with_reducible exact ih0 _ _ _ _ _)
      | (with_reducible exact laws_a2Sum.mono _ _)
      | (with_reducible exact LeO.refl _)
      | (with_reducible exact LeO.none _)
      | (with_reducible refine LeO.ite ?_ ?_)
      | (with_reducible refine LeO.bind ?_ (fun _ => ?_))
      | exact ih0 _ _ _ _ _
      | exact laws_a2Sum.mono _ _
      | exact LeO.none _
      | refine LeO.ite ?_ ?_
      | refine LeO.bind ?_ (fun _ => ?_)
set_option maxHeartbeats 8000000 in
set_option maxRecDepth 100000 in
theorem laws_a2Cost.calls (k : Nat) (A0 : Option Addr) (c0 : Nat) (l0 : List (S33)) (A1 : Option Addr) (c1 : Nat) (l1 : List Int) (r1 : Int) (r2 : Int) (w : World) (hr0 : Kd.C k33 w A0 l0.length l0) (hc0 : l0.length ≤ c0) (hr1 : Kd.C (Kd.int .i64) w A1 l1.length l1) (hc1 : l1.length ≤ c1) (h : laws_a2Cost.f k l0 l1 = some (r1, r2)) :
    Calls Tryd.prog 12 #[.slice A0 l0.length c0, .slice A1 l1.length c1] w fun e w' => e = .returned (.tuple #[.int .i64 r1, .int .i64 r2]) ∧ Below w.heap.size w w' := by
  have hu33 := Tryd.underlying33
  have HR0 := Aside0.mk hr0
  have HC0 := Aside0.mk hc0
  clear hr0 hc0
  have HR1 := Aside0.mk hr1
  have HC1 := Aside0.mk hc1
  clear hr1 hc1
  have HB := Aside0.mk (Below.refl w.heap.size w)
  have H : (laws_a2Cost.l0 k l0 l1 0 0 0) = some (r1, r2) := h
  clear h
  have H' := Aside0.mk H
  clear H
  go_enter Tryd.func12, Tryd.ntmps12
  go_wp2
  repeat (go_quiet (fail); try go_wp2)
  go_loopg [6, 7, 8] k (fun kq v6 v7 v8 w' => ∃ (x6_1 : Int) (x7_1 : Int) (x8_1 : Int), v6 = .int .i64 x6_1 ∧ v7 = .int .i64 x7_1 ∧ v8 = .int .i64 x8_1 ∧ Aside0 (laws_a2Cost.l0 kq l0 l1 x6_1 x7_1 x8_1 = some (r1, r2)) ∧ Aside0 (kq ≤ k) ∧ Aside0 (Below w.heap.size w w'))
  case atStart => exact ⟨(0), (0), (0), (by first | rfl | (simp; done) | (simp [*]; done) | (rw [Option.some.inj (A7.out.symm.trans A8.out)])), (by first | rfl | (simp; done) | (simp [*]; done) | (rw [Option.some.inj (A7.out.symm.trans A8.out)])), (by first | rfl | (simp; done) | (simp [*]; done) | (rw [Option.some.inj (A7.out.symm.trans A8.out)])), H', ⟨Nat.le_refl _⟩, ⟨by repeat (first | (with_reducible first | exact HB.out | apply below_alloc | apply pw_below_drewN | apply below_drew1) | exact HB.out)⟩⟩
  case round =>
    clear H'
    try clear c1
    try clear p2
    obtain ⟨x6_1, x7_1, x8_1, rfl, rfl, rfl, HA, HK1, HB⟩ := hrel
    cases gk with
    | zero => exact absurd HA.out (by simp [laws_a2Cost.l0])
    | succ k1 =>
      have H := HA.out
      clear HA
      simp only [laws_a2Cost.l0] at H
      by_cases c3 : x8_1 < (l1.length : Int)
      · rw [if_pos c3] at H
        have c3b0 : decide (x8_1 < (l1.length : Int)) = true := decide_eq_true c3
        clear c3
        by_cases c4 : 0 ≤ x8_1
        · rw [if_pos c4] at H
          have c4b0 : decide (0 ≤ x8_1) = true := decide_eq_true c4
          clear c4
          by_cases c5 : 0 ≤ (rd l1 x8_1)
          · rw [if_pos c5] at H
            have c5b0 : decide (0 ≤ (rd l1 x8_1)) = true := decide_eq_true c5
            clear c5
            by_cases c6 : (rd l1 x8_1) < (l0.length : Int)
            · rw [if_pos c6] at H
              have c6b0 : decide ((rd l1 x8_1) < (l0.length : Int)) = true := decide_eq_true c6
              clear c6
              replace H := Option.bind_eq_some_iff.mp H
              obtain ⟨t197, A70, H⟩ := H
              have A7 := Aside0.mk A70
              clear A70
              replace H := Option.bind_eq_some_iff.mp H
              obtain ⟨t198, A80, H⟩ := H
              have A8 := Aside0.mk A80
              clear A80
              have H' := Aside0.mk H
              clear H
              have p194 : 0 ≤ (x8_1 : Int) := of_decide_eq_true (by first | (with_reducible assumption) | assumption)
              have q194 : x8_1 < (l1.length : Int) := of_decide_eq_true (by first | (with_reducible assumption) | assumption)
              obtain ⟨ad194, e194, hx194_0⟩ := Kd.at_int HR1.out x8_1 p194 q194
              cases e194
              replace hx194_0 := (HB.out.cell (World.block_lt_of_cell? w _ hx194_0)).trans hx194_0
              replace p194 := eq_true p194
              replace q194 := eq_true q194
              have p195 : 0 ≤ ((rd l1 x8_1) : Int) := of_decide_eq_true (by first | (with_reducible assumption) | assumption)
              have q195 : (rd l1 x8_1) < (l0.length : Int) := of_decide_eq_true (by first | (with_reducible assumption) | assumption)
              obtain ⟨ad195, A195_1, c195_1, e195, hx195_0, hx195_1, hx195_2, hl195_1, hi195_1⟩ := at_T33 HR0.out (rd l1 x8_1) p195 q195
              cases e195
              replace hx195_0 := (HB.out.cell (World.block_lt_of_cell? w _ hx195_0)).trans hx195_0
              replace hx195_1 := (HB.out.cell (World.block_lt_of_cell? w _ hx195_1)).trans hx195_1
              replace hx195_2 := (HB.out.cell (World.block_lt_of_cell? w _ hx195_2)).trans hx195_2
              have HR195_1 := Aside0.mk hi195_1
              have HC195_1 := Aside0.mk hl195_1
              clear hi195_1 hl195_1
              replace p195 := eq_true p195
              replace q195 := eq_true q195
              go_wp2_with (first | ((with_reducible refine gate_dst (N := 9) rfl ?_); refine box_event ?hg (N := 9) ?hd (cs := #[.string (⟨#[]⟩ : ByteArray), .slice none 0 0, .int .i64 0]) (t := 33) ?hr ?_; (case hd => rfl); (case hg => rfl); (case hr => first | (go_simp; done) | (go_simp; rfl)); intro gb196 hg w9 hbox hb; have n0_ := Aside0.mk (below_step (by repeat (first | (with_reducible first | exact HB.out | apply below_alloc | apply pw_below_drewN | apply below_drew1) | exact HB.out)) hb); have n1_ := Aside0.mk (hbox); have n2_ := Aside0.mk ((by rw [hg]; exact (below_size (by repeat (first | (with_reducible first | exact HB.out | apply below_alloc | apply pw_below_drewN | apply below_drew1) | exact HB.out))) : w.heap.size ≤ gb196)); have n3_ := Aside0.mk ((by rw [hg]; exact (below_size (by repeat (first | (with_reducible first | exact HB.out | apply below_alloc | apply pw_below_drewN | apply below_drew1) | exact HB.out))) : w.heap.size ≤ gb196)); clear HB; have HB := n0_; have BK196 := n1_; have GW196 := n2_; have GE196 := n3_; clear n0_ n1_ n2_ n3_; clear hb hbox hg; have hcz10_0 : w9.cell? ⟨gb196, 0, none⟩ = some (.string (⟨#[]⟩ : ByteArray)) := (blk_cell BK196.out 0).trans rfl; have hcz10_1 : w9.cell? ⟨gb196, 1, none⟩ = some (.slice none 0 0) := (blk_cell BK196.out 1).trans rfl; have hcz10_2 : w9.cell? ⟨gb196, 2, none⟩ = some (.int .i64 0) := (blk_cell BK196.out 2).trans rfl; have hfz10_0 := blk_frozen BK196.out 0; have hfz10_1 := blk_frozen BK196.out 1; have hfz10_2 := blk_frozen BK196.out 2) | (go_at_call 10; (with_reducible refine (laws_a2Sum.calls k1 _ _ ((rd_T33 l0 (rd l1 x8_1)).f1) t197 _ ?side1 ?side2 A7.out).mono ?_); (case side1 => exact Kd.C_below HR195_1.out (by repeat (first | (with_reducible first | exact HB.out | apply below_alloc | apply pw_below_drewN | apply below_drew1 | refine below_set ?_ GE196.out) | exact HB.out))); (case side2 => exact HC195_1.out); rintro e w' ⟨rfl, ⟨nd, rfl⟩⟩; (try first | exact ⟨rfl, _, World.drewN_drewN _ _ _⟩ | exact ⟨rfl, _, Eq.trans (World.drewN_drewN _ _ _) (congrArg (World.drewN _) (Nat.add_assoc _ _ _))⟩)) | (go_at_call 10; (with_reducible refine (laws_a2Sum.calls k1 _ _ ((rd_T33 l0 (rd l1 x8_1)).f1) t198 _ ?side1 ?side2 A8.out).mono ?_); (case side1 => exact Kd.C_below HR195_1.out (by repeat (first | (with_reducible first | exact HB.out | apply below_alloc | apply pw_below_drewN | apply below_drew1 | refine below_set ?_ GE196.out) | exact HB.out))); (case side2 => exact HC195_1.out); rintro e w' ⟨rfl, ⟨nd, rfl⟩⟩; (try first | exact ⟨rfl, _, World.drewN_drewN _ _ _⟩ | exact ⟨rfl, _, Eq.trans (World.drewN_drewN _ _ _) (congrArg (World.drewN _) (Nat.add_assoc _ _ _))⟩)))
              repeat (go_quiet (first | ((with_reducible refine gate_dst (N := 9) rfl ?_); refine box_event ?hg (N := 9) ?hd (cs := #[.string (⟨#[]⟩ : ByteArray), .slice none 0 0, .int .i64 0]) (t := 33) ?hr ?_; (case hd => rfl); (case hg => rfl); (case hr => first | (go_simp; done) | (go_simp; rfl)); intro gb196 hg w9 hbox hb; have n0_ := Aside0.mk (below_step (by repeat (first | (with_reducible first | exact HB.out | apply below_alloc | apply pw_below_drewN | apply below_drew1) | exact HB.out)) hb); have n1_ := Aside0.mk (hbox); have n2_ := Aside0.mk ((by rw [hg]; exact (below_size (by repeat (first | (with_reducible first | exact HB.out | apply below_alloc | apply pw_below_drewN | apply below_drew1) | exact HB.out))) : w.heap.size ≤ gb196)); have n3_ := Aside0.mk ((by rw [hg]; exact (below_size (by repeat (first | (with_reducible first | exact HB.out | apply below_alloc | apply pw_below_drewN | apply below_drew1) | exact HB.out))) : w.heap.size ≤ gb196)); clear HB; have HB := n0_; have BK196 := n1_; have GW196 := n2_; have GE196 := n3_; clear n0_ n1_ n2_ n3_; clear hb hbox hg; have hcz10_0 : w9.cell? ⟨gb196, 0, none⟩ = some (.string (⟨#[]⟩ : ByteArray)) := (blk_cell BK196.out 0).trans rfl; have hcz10_1 : w9.cell? ⟨gb196, 1, none⟩ = some (.slice none 0 0) := (blk_cell BK196.out 1).trans rfl; have hcz10_2 : w9.cell? ⟨gb196, 2, none⟩ = some (.int .i64 0) := (blk_cell BK196.out 2).trans rfl; have hfz10_0 := blk_frozen BK196.out 0; have hfz10_1 := blk_frozen BK196.out 1; have hfz10_2 := blk_frozen BK196.out 2) | (go_at_call 10; (with_reducible refine (laws_a2Sum.calls k1 _ _ ((rd_T33 l0 (rd l1 x8_1)).f1) t197 _ ?side1 ?side2 A7.out).mono ?_); (case side1 => exact Kd.C_below HR195_1.out (by repeat (first | (with_reducible first | exact HB.out | apply below_alloc | apply pw_below_drewN | apply below_drew1 | refine below_set ?_ GE196.out) | exact HB.out))); (case side2 => exact HC195_1.out); rintro e w' ⟨rfl, ⟨nd, rfl⟩⟩; (try first | exact ⟨rfl, _, World.drewN_drewN _ _ _⟩ | exact ⟨rfl, _, Eq.trans (World.drewN_drewN _ _ _) (congrArg (World.drewN _) (Nat.add_assoc _ _ _))⟩)) | (go_at_call 10; (with_reducible refine (laws_a2Sum.calls k1 _ _ ((rd_T33 l0 (rd l1 x8_1)).f1) t198 _ ?side1 ?side2 A8.out).mono ?_); (case side1 => exact Kd.C_below HR195_1.out (by repeat (first | (with_reducible first | exact HB.out | apply below_alloc | apply pw_below_drewN | apply below_drew1 | refine below_set ?_ GE196.out) | exact HB.out))); (case side2 => exact HC195_1.out); rintro e w' ⟨rfl, ⟨nd, rfl⟩⟩; (try first | exact ⟨rfl, _, World.drewN_drewN _ _ _⟩ | exact ⟨rfl, _, Eq.trans (World.drewN_drewN _ _ _) (congrArg (World.drewN _) (Nat.add_assoc _ _ _))⟩))); try go_wp2_with (first | ((with_reducible refine gate_dst (N := 9) rfl ?_); refine box_event ?hg (N := 9) ?hd (cs := #[.string (⟨#[]⟩ : ByteArray), .slice none 0 0, .int .i64 0]) (t := 33) ?hr ?_; (case hd => rfl); (case hg => rfl); (case hr => first | (go_simp; done) | (go_simp; rfl)); intro gb196 hg w9 hbox hb; have n0_ := Aside0.mk (below_step (by repeat (first | (with_reducible first | exact HB.out | apply below_alloc | apply pw_below_drewN | apply below_drew1) | exact HB.out)) hb); have n1_ := Aside0.mk (hbox); have n2_ := Aside0.mk ((by rw [hg]; exact (below_size (by repeat (first | (with_reducible first | exact HB.out | apply below_alloc | apply pw_below_drewN | apply below_drew1) | exact HB.out))) : w.heap.size ≤ gb196)); have n3_ := Aside0.mk ((by rw [hg]; exact (below_size (by repeat (first | (with_reducible first | exact HB.out | apply below_alloc | apply pw_below_drewN | apply below_drew1) | exact HB.out))) : w.heap.size ≤ gb196)); clear HB; have HB := n0_; have BK196 := n1_; have GW196 := n2_; have GE196 := n3_; clear n0_ n1_ n2_ n3_; clear hb hbox hg; have hcz10_0 : w9.cell? ⟨gb196, 0, none⟩ = some (.string (⟨#[]⟩ : ByteArray)) := (blk_cell BK196.out 0).trans rfl; have hcz10_1 : w9.cell? ⟨gb196, 1, none⟩ = some (.slice none 0 0) := (blk_cell BK196.out 1).trans rfl; have hcz10_2 : w9.cell? ⟨gb196, 2, none⟩ = some (.int .i64 0) := (blk_cell BK196.out 2).trans rfl; have hfz10_0 := blk_frozen BK196.out 0; have hfz10_1 := blk_frozen BK196.out 1; have hfz10_2 := blk_frozen BK196.out 2) | (go_at_call 10; (with_reducible refine (laws_a2Sum.calls k1 _ _ ((rd_T33 l0 (rd l1 x8_1)).f1) t197 _ ?side1 ?side2 A7.out).mono ?_); (case side1 => exact Kd.C_below HR195_1.out (by repeat (first | (with_reducible first | exact HB.out | apply below_alloc | apply pw_below_drewN | apply below_drew1 | refine below_set ?_ GE196.out) | exact HB.out))); (case side2 => exact HC195_1.out); rintro e w' ⟨rfl, ⟨nd, rfl⟩⟩; (try first | exact ⟨rfl, _, World.drewN_drewN _ _ _⟩ | exact ⟨rfl, _, Eq.trans (World.drewN_drewN _ _ _) (congrArg (World.drewN _) (Nat.add_assoc _ _ _))⟩)) | (go_at_call 10; (with_reducible refine (laws_a2Sum.calls k1 _ _ ((rd_T33 l0 (rd l1 x8_1)).f1) t198 _ ?side1 ?side2 A8.out).mono ?_); (case side1 => exact Kd.C_below HR195_1.out (by repeat (first | (with_reducible first | exact HB.out | apply below_alloc | apply pw_below_drewN | apply below_drew1 | refine below_set ?_ GE196.out) | exact HB.out))); (case side2 => exact HC195_1.out); rintro e w' ⟨rfl, ⟨nd, rfl⟩⟩; (try first | exact ⟨rfl, _, World.drewN_drewN _ _ _⟩ | exact ⟨rfl, _, Eq.trans (World.drewN_drewN _ _ _) (congrArg (World.drewN _) (Nat.add_assoc _ _ _))⟩))))
              go_roundg k1
              case measure => have := HK1.out; omega
              case rel => exact ⟨(wrap64 (x6_1 + t197)), (wrap64 (x7_1 + (wrap64 (Int.tdiv (wrap64 (((rd_T33 l0 (rd l1 x8_1)).f2) * t198)) 60)))), (wrap64 (x8_1 + 1)), (by first | rfl | (simp; done) | (simp [*]; done) | (rw [Option.some.inj (A7.out.symm.trans A8.out)])), (by first | rfl | (simp; done) | (simp [*]; done) | (rw [Option.some.inj (A7.out.symm.trans A8.out)])), (by first | rfl | (simp; done) | (simp [*]; done) | (rw [Option.some.inj (A7.out.symm.trans A8.out)])), H', ⟨by have := HK1.out; omega⟩, ⟨by repeat (first | (with_reducible first | exact HB.out | apply below_alloc | apply pw_below_drewN | apply below_drew1 | refine below_set ?_ GE196.out) | exact HB.out)⟩⟩
            · rw [if_neg c6] at H
              exact absurd H (by simp)
          · rw [if_neg c5] at H
            exact absurd H (by simp)
        · rw [if_neg c4] at H
          exact absurd H (by simp)
      · rw [if_neg c3] at H
        have c3b0 : decide (x8_1 < (l1.length : Int)) = false := decide_eq_false c3
        clear c3
        simp only [Option.some.injEq, Prod.mk.injEq] at H
        obtain ⟨rfl, rfl⟩ := H
        go_wp2
        repeat (go_quiet (fail); try go_wp2)
        go_ret2
        exact ⟨by first | rfl | (simp [errW_none, errW_some] <;> rfl) | (simp [*, errW_none, errW_some] <;> rfl), by repeat (first | (with_reducible first | exact HB.out | apply below_alloc | apply pw_below_drewN | apply below_drew1) | exact HB.out)⟩

/-! ### impl_BusiestDay: function 13 -/
def bdg (S : List Int) (i : Nat) : Int := S.getD i 0
def bdAdd : List Int → List Int → Nat → List Int
  | S, [], _ => S
  | S, m :: ms, j => bdAdd (S.set j (wrap64 (bdg S j + m))) ms (j + 1)
def bdAll : List S33 → List Int → List Int
  | [], S => S
  | x :: xs, S => bdAll xs (bdAdd S x.f1 0)
def bdBest (S : List Int) : Nat → Nat → Nat → Nat
  | 0, _, b => b
  | n + 1, d, b => bdBest S n (d + 1) (if bdg S d > bdg S b then d else b)
def bdRes (S : List Int) : Int × Int × Int := if bdg S (bdBest S 14 0 0) = 0 then (0, 0, 3) else ((bdBest S 14 0 0 : Int), bdg S (bdBest S 14 0 0), 0)
def bdEnc (S : List Int) : Array Value := (S.map (Value.int .i64)).toArray
theorem bd_cell {w : World} {g : Nat} {S : List Int} (h : w.heap[g]? = some (.cells (bdEnc S) 66 (0, 0))) (hS : S.length = 14) (i : Int) (h0 : 0 ≤ i) (h1 : i < 14) : w.cell? ⟨g, i.toNat, none⟩ = some (.int .i64 (bdg S i.toNat)) := by
  rw [blk_cell h]
  simp [bdEnc, bdg, List.getD_eq_getElem?_getD, List.getElem?_eq_getElem (show i.toNat < S.length by omega)]
theorem bd_set {w : World} {g : Nat} {S : List Int} (h : w.heap[g]? = some (.cells (bdEnc S) 66 (0, 0))) (i : Nat) (v : Int) : (w.setCell ⟨g, i, none⟩ (.int .i64 v)).heap[g]? = some (.cells (bdEnc (S.set i v)) 66 (0, 0)) := by
  refine blk_put h i _ ?_
  simp [bdEnc]
structure BdW (w0 : World) (g : Nat) (w : World) (S : List Int) : Prop where
  below : Below w0.heap.size w0 w
  low : w0.heap.size ≤ g
  blk : w.heap[g]? = some (.cells (bdEnc S) 66 (0, 0))
  len : S.length = 14
theorem BdW.step {w0 : World} {g : Nat} {w w1 : World} {S : List Int} (h : BdW w0 g w S) (hb : Below w.heap.size w w1) : BdW w0 g w1 S := ⟨below_step h.below hb, h.low, blk_below h.blk hb, h.len⟩
theorem BdW.put {w0 : World} {g : Nat} {w : World} {S : List Int} (h : BdW w0 g w S) (i : Nat) (v : Int) : BdW w0 g (w.setCell ⟨g, i, none⟩ (.int .i64 v)) (S.set i v) := ⟨below_set h.below h.low, h.low, bd_set h.blk i v, by rw [List.length_set]; exact h.len⟩
theorem BdW.drew {w0 : World} {g : Nat} {w : World} {S : List Int} (h : BdW w0 g w S) (n : Nat) : BdW w0 g (w.drewN n) S := h.step (pw_below_drewN (Below.refl _ _) n)
theorem bdBest_lt (S : List Int) : ∀ n d b, d + n = 14 → b < 14 → bdBest S n d b < 14 := by
  intro n
  induction n with
  | zero => intro d b _ h; exact h
  | succ n ih =>
    intro d b hd hb
    rw [bdBest]
    refine ih _ _ (by omega) ?_
    split
    · omega
    · exact hb

set_option maxHeartbeats 8000000 in
set_option maxRecDepth 100000 in
theorem busyDay (k : Nat) (v : Bool) (A : Option Addr) (c : Nat) (l : List S33) (w : World) (r1 r2 r3 : Int) (hr : Kd.C k33 w A l.length l) (hl : l.length ≤ c) (hv : impl_ValidHands.f k l = some v)
    (hm : v = true → ∀ x ∈ l, x.f1.length ≤ 14) (hres : (if v = true then bdRes (bdAll l (List.replicate 14 0)) else (0, 0, 1)) = (r1, r2, r3)) :
    Calls Tryd.prog 13 #[.slice A l.length c] w fun e w' => e = .returned (.tuple #[.int .i64 r1, .int .i64 r2, .int .i64 r3]) ∧ Below w.heap.size w w' := by
  have huH := Tryd.underlying33
  have HR := Aside0.mk hr
  have HMX := Aside0.mk (Kd.C_max hr)
  have HM := Aside0.mk hm
  have HRES := Aside0.mk hres
  have HC := Aside0.mk hl
  clear hm hres
  go_enter Tryd.func13, Tryd.ntmps13
  go_wp2_with (fail)
  refine (impl_ValidHands.calls k A c l v _ HR.out HC.out hv).mono ?_
  rintro e w2 ⟨rfl, hb⟩
  have HB2 := Aside0.mk hb
  clear hb hr hl
  cases v
  · have hq : ((0 : Int), (0 : Int), (1 : Int)) = (r1, r2, r3) := by rw [← HRES.out]; rfl
    cases hq
    clear HRES
    go_wp2
    go_ret3
    exact ⟨rfl, HB2.out⟩
  · replace HRES := Aside0.mk ((if_pos rfl).symm.trans HRES.out)
    replace HM := Aside0.mk (HM.out rfl)
    clear hv
    go_wp2_with (fail)
    have HW0 : Aside0 (BdW w w2.heap.size (w2.alloc (Obj.cells #[Value.int IntKind.i64 0, Value.int IntKind.i64 0, Value.int IntKind.i64 0, Value.int IntKind.i64 0, Value.int IntKind.i64 0, Value.int IntKind.i64 0, Value.int IntKind.i64 0, Value.int IntKind.i64 0, Value.int IntKind.i64 0, Value.int IntKind.i64 0, Value.int IntKind.i64 0, Value.int IntKind.i64 0, Value.int IntKind.i64 0, Value.int IntKind.i64 0] 66)) (List.replicate 14 0)) :=
      ⟨⟨below_alloc HB2.out _, HB2.out.size, by show (w2.heap.push _)[w2.heap.size]? = _; rw [Array.getElem?_push_size]; rfl, rfl⟩⟩
    generalize w2.heap.size = g at HW0 ⊢
    go_loopg [18] (l.length + 1) (fun kq v18 w' => ∃ (i : Int) (S : List Int), v18 = .int .i64 i ∧ 0 ≤ i ∧ i ≤ l.length ∧ kq = l.length + 1 - i.toNat ∧ Aside0 (bdAll (l.drop i.toNat) S = bdAll l (List.replicate 14 0)) ∧ Aside0 (BdW w g w' S))
    case atStart => exact ⟨0, List.replicate 14 0, rfl, by omega, by omega, by simp, ⟨rfl⟩, HW0⟩
    case round =>
      clear HW0 HB2
      obtain ⟨i, S, rfl, hi0, hi, hk, HI, HW⟩ := hrel
      have hmx := HMX.out
      refine (Decidable.em (i < (l.length : Int))).elim (fun c1 => ?in_) (fun c1 => ?out_)
      case in_ =>
        have c1' : decide (i < (l.length : Int)) = true := decide_eq_true c1
        have hw1 : wrap64 (i + 1) = i + 1 := by unfold wrap64; omega
        have hlt : i.toNat < l.length := by omega
        have hrd : rd_T33 l i = l[i.toNat] := by simp [rd_T33, List.getD_eq_getElem?_getD, List.getElem?_eq_getElem hlt]
        have hd : l.drop i.toNat = rd_T33 l i :: l.drop (i.toNat + 1) := by
          rw [List.drop_eq_getElem_cons hlt, hrd]
        have hI := HI.out
        rw [hd, bdAll] at hI
        have HI2 := Aside0.mk hI
        have H14 := Aside0.mk (HM.out (rd_T33 l i) (by rw [hrd]; exact List.getElem_mem hlt))
        clear hI hd HI hrd hlt
        have HF := Aside0.mk (And.intro hi0 (And.intro c1 hk))
        obtain ⟨ad, A1, c2, rfl, hx0, hx1, hx2, hl1, hi1⟩ := at_T33 HR.out i hi0 c1
        have HI1 := Aside0.mk hi1
        have HL1 := Aside0.mk hl1
        have HM1 := Aside0.mk (Kd.C_max hi1)
        replace hx0 := (HW.out.below.cell (World.block_lt_of_cell? w _ hx0)).trans hx0
        replace hx1 := (HW.out.below.cell (World.block_lt_of_cell? w _ hx1)).trans hx1
        replace hx2 := (HW.out.below.cell (World.block_lt_of_cell? w _ hx2)).trans hx2
        clear hi1 hl1
        replace hi0 := eq_true hi0
        replace c1 := eq_true c1
        clear hi hk hmx
        go_wp2_with (fail)
        have HW1 := Aside0.mk (HW.out.step (below_alloc (Below.refl _ _) (Obj.cells #[Value.string (rd_T33 l i).f0, Value.slice A1 (rd_T33 l i).f1.length c2, Value.int IntKind.i64 (rd_T33 l i).f2] 33)))
        clear HW hx0 hx1 hx2
        go_loopg [25] ((rd_T33 l i).f1.length + 1) (fun kq v25 w' => ∃ (j : Int) (S1 : List Int), v25 = .int .i64 j ∧ 0 ≤ j ∧ j ≤ (rd_T33 l i).f1.length ∧ kq = (rd_T33 l i).f1.length + 1 - j.toNat ∧ Aside0 (bdAdd S1 ((rd_T33 l i).f1.drop j.toNat) j.toNat = bdAdd S (rd_T33 l i).f1 0) ∧ Aside0 (BdW w g w' S1))
        case atStart => exact ⟨0, S, rfl, by omega, by omega, by simp, ⟨rfl⟩, HW1⟩
        case round =>
          clear HW1
          obtain ⟨j, S1, rfl, hj0, hj, hkj, HJ, HW⟩ := hrel
          have hmx := HM1.out
          have h14 := H14.out
          refine (Decidable.em (j < ((rd_T33 l i).f1.length : Int))).elim (fun d1 => ?inj_) (fun d1 => ?outj_)
          case inj_ =>
            have d1' : decide (j < ((rd_T33 l i).f1.length : Int)) = true := decide_eq_true d1
            have hw2 : wrap64 (j + 1) = j + 1 := by unfold wrap64; omega
            have hlt : j.toNat < (rd_T33 l i).f1.length := by omega
            have hd : (rd_T33 l i).f1.drop j.toNat = rd (rd_T33 l i).f1 j :: (rd_T33 l i).f1.drop (j.toNat + 1) := by
              rw [List.drop_eq_getElem_cons hlt]
              congr 1
              simp [rd, List.getD_eq_getElem?_getD, List.getElem?_eq_getElem hlt]
            have hJ := HJ.out
            rw [hd, bdAdd] at hJ
            have HJ2 := Aside0.mk hJ
            clear hJ hd HJ hlt
            have j14 : j < 14 := by omega
            have hxs := bd_cell HW.out.blk HW.out.len j hj0 j14
            have hfz := blk_frozen HW.out.blk j.toNat
            have HFJ := Aside0.mk (And.intro hj0 (And.intro d1 hkj))
            obtain ⟨adj, ej, hxj⟩ := Kd.at_int HI1.out j hj0 d1
            cases ej
            replace hxj := (HW.out.below.cell (World.block_lt_of_cell? w _ hxj)).trans hxj
            have HW2 := Aside0.mk (HW.out.put j.toNat (wrap64 (bdg S1 j.toNat + rd (rd_T33 l i).f1 j)))
            replace hj0 := eq_true hj0
            replace d1 := eq_true d1
            replace j14 := eq_true j14
            clear hj hkj hmx h14
            go_wp2_with (fail)
            obtain ⟨f0, f1, fk⟩ := HFJ.out
            go_roundg ((rd_T33 l i).f1.length - j.toNat)
            case measure => omega
            case rel => exact ⟨j + 1, _, by rw [hw2], by omega, by omega, by omega, ⟨by rw [show (j + 1).toNat = j.toNat + 1 by omega]; exact HJ2.out⟩, HW2⟩
          case outj_ =>
            have d1' : decide (j < ((rd_T33 l i).f1.length : Int)) = false := decide_eq_false d1
            have hJ := HJ.out
            rw [List.drop_eq_nil_of_le (by omega), bdAdd] at hJ
            subst hJ
            clear HJ hj hkj hmx h14 d1 hj0
            go_wp2
            obtain ⟨f0, f1, fk⟩ := HF.out
            go_roundg (l.length - i.toNat)
            case measure => omega
            case rel => exact ⟨i + 1, _, by rw [hw1], by omega, by omega, by omega, ⟨by rw [show (i + 1).toNat = i.toNat + 1 by omega]; exact HI2.out⟩, HW⟩
      case out_ =>
        have c1' : decide (i < (l.length : Int)) = false := decide_eq_false c1
        go_wp2
        have hI := HI.out
        rw [List.drop_eq_nil_of_le (by omega), bdAll] at hI
        have hres := HRES.out
        rw [← hI] at hres
        have HRES2 := Aside0.mk hres
        clear hI HI HRES hres c1 hi0 hi hk hmx
        go_loopg [38, 10] 15 (fun kq v38 v10 w' => ∃ (d b : Nat), v38 = .int .i64 (d : Int) ∧ v10 = .int .i64 (b : Int) ∧ kq = 15 - d ∧ d ≤ 14 ∧ b < 14 ∧ Aside0 (bdBest S (14 - d) d b = bdBest S 14 0 0) ∧ Aside0 (BdW w g w' S))
        case atStart => exact ⟨0, 0, rfl, rfl, rfl, by omega, by omega, ⟨rfl⟩, HW⟩
        case round =>
          clear HW
          obtain ⟨d, b, rfl, rfl, hkd, hd, hb, HD, HW⟩ := hrel
          refine (Decidable.em (d < 14)).elim (fun d1 => ?ind_) (fun d1 => ?outd_)
          case ind_ =>
            have d1' : decide ((d : Int) < 14) = true := decide_eq_true (by omega)
            have hw2 : wrap64 ((d : Int) + 1) = ((d + 1 : Nat) : Int) := by unfold wrap64; omega
            have hxd := bd_cell HW.out.blk HW.out.len d (by omega) (by omega)
            have hxb := bd_cell HW.out.blk HW.out.len b (by omega) (by omega)
            have p1 : ((d : Int) < 14) = True := eq_true (by omega)
            have p2 : ((b : Int) < 14) = True := eq_true (by omega)
            have p3 : (0 ≤ (d : Int)) = True := eq_true (by omega)
            have p4 : (0 ≤ (b : Int)) = True := eq_true (by omega)
            have hD := HD.out
            rw [show 14 - d = (14 - (d + 1)) + 1 by omega, bdBest] at hD
            simp only [Int.toNat_natCast] at hxd hxb
            have HN := Aside0.mk (And.intro d1 (And.intro hb hkd))
            clear d1 hkd hd HD
            refine (Decidable.em (bdg S d > bdg S b)).elim (fun e1 => ?more_) (fun e1 => ?less_)
            case more_ =>
              have e1' : decide (bdg S d > bdg S b) = true := decide_eq_true e1
              rw [if_pos e1] at hD
              have HD := Aside0.mk hD
              clear hD e1 hb
              go_wp2_with (fail)
              go_quiet (fail)
              go_wp2
              obtain ⟨f0, f1, fk⟩ := HN.out
              go_roundg (14 - d)
              case measure => omega
              case rel => exact ⟨d + 1, d, by rw [hw2], rfl, by omega, by omega, by omega, HD, ⟨HW.out.drew _⟩⟩
            case less_ =>
              have e1' : decide (bdg S d > bdg S b) = false := decide_eq_false e1
              rw [if_neg e1] at hD
              have HD := Aside0.mk hD
              clear hD e1 hb
              go_wp2_with (fail)
              go_quiet (fail)
              go_wp2
              obtain ⟨f0, f1, fk⟩ := HN.out
              go_roundg (14 - d)
              case measure => omega
              case rel => exact ⟨d + 1, b, by rw [hw2], rfl, by omega, by omega, by omega, HD, ⟨HW.out.drew _⟩⟩
          case outd_ =>
            have d1' : decide ((d : Int) < 14) = false := decide_eq_false (by omega)
            have hD := HD.out
            rw [show 14 - d = 0 by omega, bdBest] at hD
            have HD := Aside0.mk hD
            have hxb := bd_cell HW.out.blk HW.out.len b (by omega) (by omega)
            have p2 : ((b : Int) < 14) = True := eq_true (by omega)
            have p4 : (0 ≤ (b : Int)) = True := eq_true (by omega)
            simp only [Int.toNat_natCast] at hxb
            have hres := HRES2.out
            unfold bdRes at hres
            rw [← hD] at hres
            clear hD d1 hkd hd hb
            refine (Decidable.em (bdg S b = 0)).elim (fun e1 => ?zero_) (fun e1 => ?pos_)
            case zero_ =>
              rw [if_pos e1] at hres
              have e1' : (bdg S b == 0) = true := by rw [e1]; rfl
              cases hres
              clear e1
              go_wp2
              go_ret3
              exact ⟨rfl, HW.out.below⟩
            case pos_ =>
              rw [if_neg e1] at hres
              have e1' : (bdg S b == 0) = false := beq_false_of_ne e1
              cases hres
              clear e1
              go_wp2
              go_quiet (fail)
              go_wp2
              go_ret3
              exact ⟨rfl, pw_below_drewN HW.out.below _⟩
def impl_BusiestDay.f (k : Nat) (l0 : List S33) : Option (Int × Int × Int) :=
  (impl_ValidHands.f k l0).bind fun v => if v = true then (if (l0.all fun x => decide (x.f1.length ≤ 14)) = true then some (bdRes (bdAll l0 (List.replicate 14 0))) else none) else some (0, 0, 1)
theorem impl_BusiestDay.mono : ∀ a0 k, LeO (impl_BusiestDay.f k a0) (impl_BusiestDay.f (k + 1) a0) := by
  intro l k r h
  unfold impl_BusiestDay.f at h ⊢
  obtain ⟨v, hv, h⟩ := Option.bind_eq_some_iff.1 h
  rw [impl_ValidHands.mono l k v hv]
  exact h
theorem impl_BusiestDay.calls (k : Nat) (A0 : Option Addr) (c0 : Nat) (l0 : List (S33)) (r1 : Int) (r2 : Int) (r3 : Int) (w : World) (hr0 : Kd.C k33 w A0 l0.length l0) (hc0 : l0.length ≤ c0) (h : impl_BusiestDay.f k l0 = some (r1, r2, r3)) :
    Calls Tryd.prog 13 #[.slice A0 l0.length c0] w fun e w' => e = .returned (.tuple #[.int .i64 r1, .int .i64 r2, .int .i64 r3]) ∧ Below w.heap.size w w' := by
  unfold impl_BusiestDay.f at h
  obtain ⟨v, hv, h⟩ := Option.bind_eq_some_iff.1 h
  cases v
  · rw [if_neg (by decide)] at h
    exact busyDay k false A0 c0 l0 w r1 r2 r3 hr0 hc0 hv (fun q => by cases q) (by rw [if_neg (by decide)]; exact Option.some.inj h)
  · rw [if_pos rfl] at h
    split at h
    · rename_i q
      exact busyDay k true A0 c0 l0 w r1 r2 r3 hr0 hc0 hv (fun _ x hx => of_decide_eq_true (List.all_eq_true.1 q x hx)) (by rw [if_pos rfl]; exact Option.some.inj h)
    · cases h


/-! ### impl_Decimal: function 36 -/
def impl_Decimal.f (a0 : Int) : Option (ByteArray) := if -9223372036854775808 ≤ a0 ∧ a0 ≤ 9223372036854775807 then some ⟨(Lib.itoa a0).toArray⟩ else none
set_option maxRecDepth 100000 in
theorem impl_Decimal.calls (a0 : Int) (r : ByteArray) (w : World) (hG : GF w) (h : impl_Decimal.f a0 = some r) :
    Calls Tryd.prog 36 #[.int .i64 a0] w fun e w' => e = .returned (.string r) ∧ Below w.heap.size w w' := by
  unfold impl_Decimal.f at h
  by_cases c : -9223372036854775808 ≤ a0 ∧ a0 ≤ 9223372036854775807
  · rw [if_pos c] at h
    obtain rfl := Option.some.inj h
    obtain ⟨h0, h1⟩ := c
    have HT := Aside0.mk hG.1
    have HI := Aside0.mk h0
    have HJ := Aside0.mk h1
    clear hG h h0 h1
    go_enter Tryd.func36, Tryd.ntmps36
    go_wp2_with (go_at_call 57; refine (Tryd.strconv_FormatInt_10 a0 HI.out HJ.out _ HT.out).mono ?_; rintro e w' ⟨rfl, k, os, rfl⟩)
    go_ret
    exact ⟨rfl, grow_below _ _ _⟩
  · rw [if_neg c] at h
    cases h


/-! ### impl_twoDigits: function 37 -/
def impl_twoDigits.f (a0 : Int) : Option (ByteArray) := (impl_Decimal.f (wrap64 (Int.tdiv a0 10))).bind fun t199 => ((impl_Decimal.f (Int.tmod a0 10)).bind fun t200 => (if t199.size + t200.size ≤ 9223372036854775807 then (some (t199 ++ t200)) else (none)))
set_option maxHeartbeats 8000000 in
set_option maxRecDepth 100000 in
theorem impl_twoDigits.calls (a0 : Int) (r : ByteArray) (w : World) (hG : GF w) (h : impl_twoDigits.f a0 = some r) :
    Calls Tryd.prog 37 #[.int .i64 a0] w fun e w' => e = .returned (.string r) ∧ Below w.heap.size w w' := by
  have HB := Aside0.mk (Below.refl w.heap.size w)
  have HG := Aside0.mk hG
  clear hG
  have H : ((impl_Decimal.f (wrap64 (Int.tdiv a0 10))).bind fun t199 => ((impl_Decimal.f (Int.tmod a0 10)).bind fun t200 => (if t199.size + t200.size ≤ 9223372036854775807 then (some (t199 ++ t200)) else (none)))) = some r := h
  clear h
  replace H := Option.bind_eq_some_iff.mp H
  obtain ⟨t199, A20, H⟩ := H
  have A2 := Aside0.mk A20
  clear A20
  replace H := Option.bind_eq_some_iff.mp H
  obtain ⟨t200, A30, H⟩ := H
  have A3 := Aside0.mk A30
  clear A30
  by_cases c4 : t199.size + t200.size ≤ 9223372036854775807
  · rw [if_pos c4] at H
    have c4b0 := eq_true c4
    have c4b1 : decide (t199.size + t200.size ≤ 9223372036854775807) = true := decide_eq_true c4
    try have c4b2 : (9223372036854775807 < t199.size + t200.size) = False := eq_false (Nat.not_lt.2 c4)
    obtain rfl := Option.some.inj H
    go_enter Tryd.func37, Tryd.ntmps37
    go_wp2_with (first | ((with_reducible refine gate_callee (f := 36) rfl ?_); refine goesL_ (some 5) rfl rfl Tryd.func36 (by kernel_rfl) rfl #[.int .i64 (wrap64 (Int.tdiv a0 10))] rfl (by (try simp only [List.map_toArray, List.map_cons, List.map_nil]); first | done | rfl | (simp only [List.length_drop, List.length_take]; rfl)) ?_; (with_reducible refine (impl_Decimal.calls (wrap64 (Int.tdiv a0 10)) t199 _ ?side1 A2.out).mono ?_); (case side1 => exact (GF.below HG.out (by repeat (first | (with_reducible first | exact HB.out | apply below_alloc | apply pw_below_drewN | apply below_drew1) | exact HB.out)))); rintro e w5 ⟨rfl, hb⟩; refine ⟨_, rfl, ?_⟩; have n0_ := Aside0.mk (below_step (by repeat (first | (with_reducible first | exact HB.out | apply below_alloc | apply pw_below_drewN | apply below_drew1) | exact HB.out)) hb); clear HB; have HB := n0_; clear n0_; (try clear hb); (try clear hb2); (try clear hk); (try clear hi)) | ((with_reducible refine gate_callee (f := 36) rfl ?_); refine goesL_ (some 8) rfl rfl Tryd.func36 (by kernel_rfl) rfl #[.int .i64 (Int.tmod a0 10)] rfl (by (try simp only [List.map_toArray, List.map_cons, List.map_nil]); first | done | rfl | (simp only [List.length_drop, List.length_take]; rfl)) ?_; (with_reducible refine (impl_Decimal.calls (Int.tmod a0 10) t200 _ ?side1 A3.out).mono ?_); (case side1 => exact (GF.below HG.out (by repeat (first | (with_reducible first | exact HB.out | apply below_alloc | apply pw_below_drewN | apply below_drew1) | exact HB.out)))); rintro e w6 ⟨rfl, hb⟩; refine ⟨_, rfl, ?_⟩; have n0_ := Aside0.mk (below_step (by repeat (first | (with_reducible first | exact HB.out | apply below_alloc | apply pw_below_drewN | apply below_drew1) | exact HB.out)) hb); clear HB; have HB := n0_; clear n0_; (try clear hb); (try clear hb2); (try clear hk); (try clear hi)))
    go_ret
    exact ⟨by first | rfl | (simp [errW_none, errW_some] <;> rfl) | (simp [*, errW_none, errW_some] <;> rfl), by repeat (first | (with_reducible first | exact HB.out | apply below_alloc | apply pw_below_drewN | apply below_drew1) | exact HB.out)⟩
  · rw [if_neg c4] at H
    exact absurd H (by simp)

/-! ### impl_ClockText: function 15 -/
def impl_ClockText.f (a0 : Int) : Option (ByteArray) := (impl_within.f a0 0 20000).bind fun t201 => (if t201 = true then ((impl_Decimal.f (wrap64 (Int.tdiv a0 60))).bind fun t202 => (if t202.size + 1 ≤ 9223372036854775807 then ((impl_twoDigits.f (Int.tmod a0 60)).bind fun t203 => (if (t202 ++ (⟨#[58]⟩ : ByteArray)).size + t203.size ≤ 9223372036854775807 then (some ((t202 ++ (⟨#[58]⟩ : ByteArray)) ++ t203)) else (none))) else (none))) else (some (⟨#[]⟩ : ByteArray)))
set_option maxHeartbeats 8000000 in
set_option maxRecDepth 100000 in
theorem impl_ClockText.calls (a0 : Int) (r : ByteArray) (w : World) (hG : GF w) (h : impl_ClockText.f a0 = some r) :
    Calls Tryd.prog 15 #[.int .i64 a0] w fun e w' => e = .returned (.string r) ∧ Below w.heap.size w w' := by
  have HB := Aside0.mk (Below.refl w.heap.size w)
  have HG := Aside0.mk hG
  clear hG
  have H : ((impl_within.f a0 0 20000).bind fun t201 => (if t201 = true then ((impl_Decimal.f (wrap64 (Int.tdiv a0 60))).bind fun t202 => (if t202.size + 1 ≤ 9223372036854775807 then ((impl_twoDigits.f (Int.tmod a0 60)).bind fun t203 => (if (t202 ++ (⟨#[58]⟩ : ByteArray)).size + t203.size ≤ 9223372036854775807 then (some ((t202 ++ (⟨#[58]⟩ : ByteArray)) ++ t203)) else (none))) else (none))) else (some (⟨#[]⟩ : ByteArray)))) = some r := h
  clear h
  replace H := Option.bind_eq_some_iff.mp H
  obtain ⟨t201, A20, H⟩ := H
  have A2 := Aside0.mk A20
  clear A20
  by_cases c3 : t201 = true
  · subst c3
    rw [if_pos rfl] at H
    replace H := Option.bind_eq_some_iff.mp H
    obtain ⟨t202, A40, H⟩ := H
    have A4 := Aside0.mk A40
    clear A40
    by_cases c5 : t202.size + 1 ≤ 9223372036854775807
    · rw [if_pos c5] at H
      have c5b0 := eq_true c5
      have c5b1 : decide (t202.size + 1 ≤ 9223372036854775807) = true := decide_eq_true c5
      try have c5b2 : (9223372036854775807 < t202.size + 1) = False := eq_false (Nat.not_lt.2 c5)
      replace H := Option.bind_eq_some_iff.mp H
      obtain ⟨t203, A60, H⟩ := H
      have A6 := Aside0.mk A60
      clear A60
      by_cases c7 : (t202 ++ (⟨#[58]⟩ : ByteArray)).size + t203.size ≤ 9223372036854775807
      · rw [if_pos c7] at H
        have c7b0 := eq_true c7
        have c7b1 : decide ((t202 ++ (⟨#[58]⟩ : ByteArray)).size + t203.size ≤ 9223372036854775807) = true := decide_eq_true c7
        try have c7b3 : (9223372036854775807 < t202.size + 1 + t203.size) = False := by have h_ := c7; simp only [ByteArray.size_append] at h_; exact eq_false (Nat.not_lt.2 h_)
        try have c7b2 : (9223372036854775807 < (t202 ++ (⟨#[58]⟩ : ByteArray)).size + t203.size) = False := eq_false (Nat.not_lt.2 c7)
        obtain rfl := Option.some.inj H
        go_enter Tryd.func15, Tryd.ntmps15
        go_wp2_with (first | ((with_reducible refine gate_callee (f := 29) rfl ?_); refine goesL_ (some 4) rfl rfl Tryd.func29 (by kernel_rfl) rfl #[.int .i64 a0, .int .i64 0, .int .i64 20000] rfl (by (try simp only [List.map_toArray, List.map_cons, List.map_nil]); first | done | rfl | (simp only [List.length_drop, List.length_take]; rfl)) ?_; (with_reducible refine (impl_within.calls a0 0 20000 true _ A2.out).mono ?_); rintro e w' ⟨rfl, ⟨nd, rfl⟩⟩; refine ⟨_, rfl, ?_⟩) | ((with_reducible refine gate_callee (f := 36) rfl ?_); refine goesL_ (some 8) rfl rfl Tryd.func36 (by kernel_rfl) rfl #[.int .i64 (wrap64 (Int.tdiv a0 60))] rfl (by (try simp only [List.map_toArray, List.map_cons, List.map_nil]); first | done | rfl | (simp only [List.length_drop, List.length_take]; rfl)) ?_; (with_reducible refine (impl_Decimal.calls (wrap64 (Int.tdiv a0 60)) t202 _ ?side1 A4.out).mono ?_); (case side1 => exact (GF.below HG.out (by repeat (first | (with_reducible first | exact HB.out | apply below_alloc | apply pw_below_drewN | apply below_drew1) | exact HB.out)))); rintro e w8 ⟨rfl, hb⟩; refine ⟨_, rfl, ?_⟩; have n0_ := Aside0.mk (below_step (by repeat (first | (with_reducible first | exact HB.out | apply below_alloc | apply pw_below_drewN | apply below_drew1) | exact HB.out)) hb); clear HB; have HB := n0_; clear n0_; (try clear hb); (try clear hb2); (try clear hk); (try clear hi)) | ((with_reducible refine gate_callee (f := 37) rfl ?_); refine goesL_ (some 12) rfl rfl Tryd.func37 (by kernel_rfl) rfl #[.int .i64 (Int.tmod a0 60)] rfl (by (try simp only [List.map_toArray, List.map_cons, List.map_nil]); first | done | rfl | (simp only [List.length_drop, List.length_take]; rfl)) ?_; (with_reducible refine (impl_twoDigits.calls (Int.tmod a0 60) t203 _ ?side1 A6.out).mono ?_); (case side1 => exact (GF.below HG.out (by repeat (first | (with_reducible first | exact HB.out | apply below_alloc | apply pw_below_drewN | apply below_drew1) | exact HB.out)))); rintro e w9 ⟨rfl, hb⟩; refine ⟨_, rfl, ?_⟩; have n0_ := Aside0.mk (below_step (by repeat (first | (with_reducible first | exact HB.out | apply below_alloc | apply pw_below_drewN | apply below_drew1) | exact HB.out)) hb); clear HB; have HB := n0_; clear n0_; (try clear hb); (try clear hb2); (try clear hk); (try clear hi)))
        go_ret
        exact ⟨by first | rfl | (simp [errW_none, errW_some] <;> rfl) | (simp [*, errW_none, errW_some] <;> rfl), by repeat (first | (with_reducible first | exact HB.out | apply below_alloc | apply pw_below_drewN | apply below_drew1) | exact HB.out)⟩
      · rw [if_neg c7] at H
        exact absurd H (by simp)
    · rw [if_neg c5] at H
      exact absurd H (by simp)
  · replace c3 := Bool.eq_false_iff.mpr c3
    subst c3
    rw [if_neg (show ¬ (false = true) by decide)] at H
    obtain rfl := Option.some.inj H
    go_enter Tryd.func15, Tryd.ntmps15
    go_wp2_with (first | ((with_reducible refine gate_callee (f := 29) rfl ?_); refine goesL_ (some 4) rfl rfl Tryd.func29 (by kernel_rfl) rfl #[.int .i64 a0, .int .i64 0, .int .i64 20000] rfl (by (try simp only [List.map_toArray, List.map_cons, List.map_nil]); first | done | rfl | (simp only [List.length_drop, List.length_take]; rfl)) ?_; (with_reducible refine (impl_within.calls a0 0 20000 false _ A2.out).mono ?_); rintro e w' ⟨rfl, ⟨nd, rfl⟩⟩; refine ⟨_, rfl, ?_⟩))
    go_ret
    exact ⟨by first | rfl | (simp [errW_none, errW_some] <;> rfl) | (simp [*, errW_none, errW_some] <;> rfl), by repeat (first | (with_reducible first | exact HB.out | apply below_alloc | apply pw_below_drewN | apply below_drew1) | exact HB.out)⟩

/-! ### strings_Cut: function 34 -/
def strings_Cut.f (a0 : ByteArray) (a1 : ByteArray) : Option (ByteArray × ByteArray × Bool) := if a0.size < 4294967281 then some (⟨(Lib.cut a0.data.toList a1.data.toList).1.toArray⟩, ⟨(Lib.cut a0.data.toList a1.data.toList).2.1.toArray⟩, (Lib.cut a0.data.toList a1.data.toList).2.2) else none
theorem strings_Cut.calls (a0 : ByteArray) (a1 : ByteArray) (r1 : ByteArray) (r2 : ByteArray) (r3 : Bool) (w : World) (hG : GF w) (h : strings_Cut.f a0 a1 = some (r1, r2, r3)) :
    Calls Tryd.prog 34 #[.string a0, .string a1] w fun e w' => e = .returned (.tuple #[.string r1, .string r2, .bool r3]) ∧ Below w.heap.size w w' := by
  unfold strings_Cut.f at h
  by_cases c : a0.size < 4294967281
  · rw [if_pos c] at h
    have h := Option.some.inj h
    simp only [Prod.mk.injEq] at h
    obtain ⟨rfl, rfl, rfl⟩ := h
    obtain ⟨m, hm⟩ := hG.2
    exact (Tryd.strings_Cut a0 a1 m w c hm).mono fun e w' ⟨he, n, hw⟩ => ⟨he, by rw [hw]; exact pw_below_drewN (Below.refl _ _) n⟩
  · rw [if_neg c] at h
    cases h


/-! ### stringslite_HasPrefix: function 88 -/
def stringslite_HasPrefix.f (a0 : ByteArray) (a1 : ByteArray) : Option (Bool) := if (a0.size : Int) ≥ (a1.size : Int) then (if 0 ≤ (a1.size : Int) then (if (a1.size : Int) ≤ (a0.size : Int) then (some ((a0.extract 0 a1.size).toList == a1.toList)) else (none)) else (none)) else (some false)
set_option maxHeartbeats 8000000 in
set_option maxRecDepth 100000 in
theorem stringslite_HasPrefix.calls (a0 : ByteArray) (a1 : ByteArray) (r : Bool) (w : World) (h : stringslite_HasPrefix.f a0 a1 = some r) :
    Calls Tryd.prog 88 #[.string a0, .string a1] w fun e w' => e = .returned (.bool r) ∧ Drawn0 w w' := by
  have H : (if (a0.size : Int) ≥ (a1.size : Int) then (if 0 ≤ (a1.size : Int) then (if (a1.size : Int) ≤ (a0.size : Int) then (some ((a0.extract 0 a1.size).toList == a1.toList)) else (none)) else (none)) else (some false)) = some r := h
  clear h
  by_cases c3 : (a0.size : Int) ≥ (a1.size : Int)
  · rw [if_pos c3] at H
    have c3b0 : decide ((a1.size : Int) ≤ (a0.size : Int)) = true := decide_eq_true c3
    have c3b1 : decide (a1.size ≤ a0.size) = true := decide_eq_true (Int.ofNat_le.mp c3)
    clear c3
    by_cases c4 : 0 ≤ (a1.size : Int)
    · rw [if_pos c4] at H
      have c4b0 := eq_true c4
      have c4b1 : decide (0 ≤ (a1.size : Int)) = true := decide_eq_true c4
      clear c4
      by_cases c5 : (a1.size : Int) ≤ (a0.size : Int)
      · rw [if_pos c5] at H
        have c5b0 := eq_true c5
        have c5b1 : decide ((a1.size : Int) ≤ (a0.size : Int)) = true := decide_eq_true c5
        clear c5
        obtain rfl := Option.some.inj H
        go_enter Tryd.func88, Tryd.ntmps88
        go_wp2
        go_ret
        exact ⟨by first | rfl | (simp; done) | (simp [*]; done), by repeat (first | exact Drawn0.refl _ | apply Drawn0.step)⟩
      · rw [if_neg c5] at H
        exact absurd H (by simp)
    · rw [if_neg c4] at H
      exact absurd H (by simp)
  · rw [if_neg c3] at H
    have c3b0 : decide ((a1.size : Int) ≤ (a0.size : Int)) = false := decide_eq_false c3
    have c3b1 : decide (a1.size ≤ a0.size) = false := decide_eq_false (fun h => c3 (Int.ofNat_le.mpr h))
    clear c3
    obtain rfl := Option.some.inj H
    go_enter Tryd.func88, Tryd.ntmps88
    go_wp2
    go_ret
    exact ⟨by first | rfl | (simp; done) | (simp [*]; done), by repeat (first | exact Drawn0.refl _ | apply Drawn0.step)⟩

/-! ### stringslite_TrimPrefix: function 72 -/
def stringslite_TrimPrefix.f (a0 : ByteArray) (a1 : ByteArray) : Option (ByteArray) := (stringslite_HasPrefix.f a0 a1).bind fun t204 => (if t204 = true then (if 0 ≤ (a1.size : Int) then (if (a1.size : Int) ≤ (a0.size : Int) then (some (a0.extract a1.size a0.size)) else (none)) else (none)) else (some a0))
set_option maxHeartbeats 8000000 in
set_option maxRecDepth 100000 in
theorem stringslite_TrimPrefix.calls (a0 : ByteArray) (a1 : ByteArray) (r : ByteArray) (w : World) (h : stringslite_TrimPrefix.f a0 a1 = some r) :
    Calls Tryd.prog 72 #[.string a0, .string a1] w fun e w' => e = .returned (.string r) ∧ Drawn0 w w' := by
  have H : ((stringslite_HasPrefix.f a0 a1).bind fun t204 => (if t204 = true then (if 0 ≤ (a1.size : Int) then (if (a1.size : Int) ≤ (a0.size : Int) then (some (a0.extract a1.size a0.size)) else (none)) else (none)) else (some a0))) = some r := h
  clear h
  replace H := Option.bind_eq_some_iff.mp H
  obtain ⟨t204, A30, H⟩ := H
  have A3 := Aside0.mk A30
  clear A30
  by_cases c4 : t204 = true
  · subst c4
    rw [if_pos rfl] at H
    by_cases c5 : 0 ≤ (a1.size : Int)
    · rw [if_pos c5] at H
      have c5b0 := eq_true c5
      have c5b1 : decide (0 ≤ (a1.size : Int)) = true := decide_eq_true c5
      clear c5
      by_cases c6 : (a1.size : Int) ≤ (a0.size : Int)
      · rw [if_pos c6] at H
        have c6b0 := eq_true c6
        have c6b1 : decide ((a1.size : Int) ≤ (a0.size : Int)) = true := decide_eq_true c6
        clear c6
        obtain rfl := Option.some.inj H
        go_enter Tryd.func72, Tryd.ntmps72
        go_wp2_with (first | ((with_reducible refine gate_callee (f := 88) rfl ?_); refine goesL_ (some 7) rfl rfl Tryd.func88 (by kernel_rfl) rfl #[.string a0, .string a1] rfl (by (try simp only [List.map_toArray, List.map_cons, List.map_nil]); first | done | rfl | (simp only [List.length_drop, List.length_take]; rfl)) ?_; (with_reducible refine (stringslite_HasPrefix.calls a0 a1 true _ A3.out).mono ?_); rintro e w' ⟨rfl, ⟨nd, rfl⟩⟩; refine ⟨_, rfl, ?_⟩))
        go_ret
        exact ⟨by first | rfl | (simp; done) | (simp [*]; done), by repeat (first | exact Drawn0.refl _ | apply Drawn0.step)⟩
      · rw [if_neg c6] at H
        exact absurd H (by simp)
    · rw [if_neg c5] at H
      exact absurd H (by simp)
  · replace c4 := Bool.eq_false_iff.mpr c4
    subst c4
    rw [if_neg (show ¬ (false = true) by decide)] at H
    obtain rfl := Option.some.inj H
    go_enter Tryd.func72, Tryd.ntmps72
    go_wp2_with (first | ((with_reducible refine gate_callee (f := 88) rfl ?_); refine goesL_ (some 7) rfl rfl Tryd.func88 (by kernel_rfl) rfl #[.string a0, .string a1] rfl (by (try simp only [List.map_toArray, List.map_cons, List.map_nil]); first | done | rfl | (simp only [List.length_drop, List.length_take]; rfl)) ?_; (with_reducible refine (stringslite_HasPrefix.calls a0 a1 false _ A3.out).mono ?_); rintro e w' ⟨rfl, ⟨nd, rfl⟩⟩; refine ⟨_, rfl, ?_⟩))
    go_ret
    exact ⟨by first | rfl | (simp; done) | (simp [*]; done), by repeat (first | exact Drawn0.refl _ | apply Drawn0.step)⟩

/-! ### strings_TrimPrefix: function 56 -/
def strings_TrimPrefix.f (a0 : ByteArray) (a1 : ByteArray) : Option (ByteArray) := (stringslite_TrimPrefix.f a0 a1).bind fun t205 => (some t205)
set_option maxHeartbeats 8000000 in
set_option maxRecDepth 100000 in
theorem strings_TrimPrefix.calls (a0 : ByteArray) (a1 : ByteArray) (r : ByteArray) (w : World) (h : strings_TrimPrefix.f a0 a1 = some r) :
    Calls Tryd.prog 56 #[.string a0, .string a1] w fun e w' => e = .returned (.string r) ∧ Drawn0 w w' := by
  have H : ((stringslite_TrimPrefix.f a0 a1).bind fun t205 => (some t205)) = some r := h
  clear h
  replace H := Option.bind_eq_some_iff.mp H
  obtain ⟨t205, A30, H⟩ := H
  have A3 := Aside0.mk A30
  clear A30
  obtain rfl := Option.some.inj H
  go_enter Tryd.func56, Tryd.ntmps56
  go_wp2_with (first | ((with_reducible refine gate_callee (f := 72) rfl ?_); refine goesL_ (some 7) rfl rfl Tryd.func72 (by kernel_rfl) rfl #[.string a0, .string a1] rfl (by (try simp only [List.map_toArray, List.map_cons, List.map_nil]); first | done | rfl | (simp only [List.length_drop, List.length_take]; rfl)) ?_; (with_reducible refine (stringslite_TrimPrefix.calls a0 a1 t205 _ A3.out).mono ?_); rintro e w' ⟨rfl, ⟨nd, rfl⟩⟩; refine ⟨_, rfl, ?_⟩))
  go_ret
  exact ⟨by first | rfl | (simp; done) | (simp [*]; done), by repeat (first | exact Drawn0.refl _ | apply Drawn0.step)⟩

/-! ### impl_ReadDecimal: function 35 -/
mutual
def impl_ReadDecimal.j0 : Nat → ByteArray → ByteArray → Bool → Option (Int × Bool)
  | 0, _, _, _ => none
  | k + 1, x0, x4, x16 => if x16 = true then (some (0, false)) else (impl_ReadDecimal.l0 k x0 x4 0 0)
def impl_ReadDecimal.l0 : Nat → ByteArray → ByteArray → Int → Int → Option (Int × Bool)
  | 0, _, _, _, _ => none
  | k + 1, x0, x4, x5, x6 => if x6 < (x4.size : Int) then (if 0 ≤ x6 then (if (bt x4 x6) < 48 then (some (0, false)) else (if (bt x4 x6) > 57 then (some (0, false)) else (impl_ReadDecimal.l0 k x0 x4 (wrap64 ((wrap64 (10 * x5)) + (((bt x4 x6) - 48) % 256))) (wrap64 (x6 + 1))))) else (none)) else (if (x4.size : Int) < (x0.size : Int) then ((impl_Decimal.f (wrap64 (-x5))).bind fun t207 => (if t207.toList = x0.toList then (some (wrap64 (-x5), true)) else (some (0, false)))) else ((impl_Decimal.f x5).bind fun t208 => (if t208.toList = x0.toList then (some (x5, true)) else (some (0, false)))))
end
def impl_ReadDecimal.f (k : Nat) (a0 : ByteArray) : Option (Int × Bool) := (strings_TrimPrefix.f a0 (⟨#[45]⟩ : ByteArray)).bind fun t206 => (if (t206.size : Int) < 1 then (impl_ReadDecimal.j0 k a0 t206 true) else (impl_ReadDecimal.j0 k a0 t206 (decide ((t206.size : Int) > 18))))
theorem impl_ReadDecimal.mono_l : ∀ k, (∀ y0 y1 y2, LeO (impl_ReadDecimal.j0 k y0 y1 y2) (impl_ReadDecimal.j0 (k + 1) y0 y1 y2)) ∧ (∀ y0 y1 y2 y3, LeO (impl_ReadDecimal.l0 k y0 y1 y2 y3) (impl_ReadDecimal.l0 (k + 1) y0 y1 y2 y3))
  | 0 => ⟨fun _ _ _ r h => by simp [impl_ReadDecimal.j0] at h, fun _ _ _ _ r h => by simp [impl_ReadDecimal.l0] at h⟩
  | k + 1 => by
    obtain ⟨ih0, ih1⟩ := impl_ReadDecimal.mono_l k
    refine ⟨?_, ?_⟩
    · intro y0 y1 y2
      unfold impl_ReadDecimal.j0
      repeat' first
      | (with_reducible exact ih0 _ _ _)
      | (with_reducible exact ih1 _ _ _ _)
      | (with_reducible exact LeO.refl _)
      | (with_reducible exact LeO.none _)
      | (with_reducible refine LeO.ite ?_ ?_)
      | (with_reducible refine LeO.bind ?_ (fun _ => ?_))
      | exact ih0 _ _ _
      | exact ih1 _ _ _ _
      | exact LeO.none _
      | refine LeO.ite ?_ ?_
      | refine LeO.bind ?_ (fun _ => ?_)
    · intro y0 y1 y2 y3
      unfold impl_ReadDecimal.l0
      repeat' first
      | (with_reducible exact ih0 _ _ _)
      | (with_reducible exact ih1 _ _ _ _)
      | (with_reducible exact LeO.refl _)
      | (with_reducible exact LeO.none _)
      | (with_reducible refine LeO.ite ?_ ?_)
      | (with_reducible refine LeO.bind ?_ (fun _ => ?_))
      | exact ih0 _ _ _
      | exact ih1 _ _ _ _
      | exact LeO.none _
      | refine LeO.ite ?_ ?_
      | refine LeO.bind ?_ (fun _ => ?_)
theorem impl_ReadDecimal.mono : ∀ a0 k, LeO (impl_ReadDecimal.f k a0) (impl_ReadDecimal.f (k + 1) a0) := by
  intro a0 k
  obtain ⟨ih0, ih1⟩ := impl_ReadDecimal.mono_l k
  unfold impl_ReadDecimal.f
  repeat' first
      | (with_reducible exact ih0 _ _ _)
      | (with_reducible exact ih1 _ _ _ _)
      | (with_reducible exact LeO.refl _)
      | (with_reducible exact LeO.none _)
      | (with_reducible refine LeO.ite ?_ ?_)
      | (with_reducible refine LeO.bind ?_ (fun _ => ?_))
      | exact ih0 _ _ _
      | exact ih1 _ _ _ _
      | exact LeO.none _
      | refine LeO.ite ?_ ?_
      | refine LeO.bind ?_ (fun _ => ?_)
set_option maxHeartbeats 8000000 in
set_option maxRecDepth 100000 in
theorem impl_ReadDecimal.calls (k : Nat) (a0 : ByteArray) (r1 : Int) (r2 : Bool) (w : World) (hG : GF w) (h : impl_ReadDecimal.f k a0 = some (r1, r2)) :
    Calls Tryd.prog 35 #[.string a0] w fun e w' => e = .returned (.tuple #[.int .i64 r1, .bool r2]) ∧ Below w.heap.size w w' := by
  have HB := Aside0.mk (Below.refl w.heap.size w)
  have HG := Aside0.mk hG
  clear hG
  have H : ((strings_TrimPrefix.f a0 (⟨#[45]⟩ : ByteArray)).bind fun t206 => (if (t206.size : Int) < 1 then (impl_ReadDecimal.j0 k a0 t206 true) else (impl_ReadDecimal.j0 k a0 t206 (decide ((t206.size : Int) > 18))))) = some (r1, r2) := h
  clear h
  replace H := Option.bind_eq_some_iff.mp H
  obtain ⟨t206, A20, H⟩ := H
  have A2 := Aside0.mk A20
  clear A20
  have HC3 := Aside0.mk H
  clear H
  go_enter Tryd.func35, Tryd.ntmps35
  go_upto_region 2 with (first | ((with_reducible refine gate_callee (f := 56) rfl ?_); refine goesL_ (some 8) rfl rfl Tryd.func56 (by kernel_rfl) rfl #[.string a0, .string (⟨#[45]⟩ : ByteArray)] rfl (by (try simp only [List.map_toArray, List.map_cons, List.map_nil]); first | done | rfl | (simp only [List.length_drop, List.length_take]; rfl)) ?_; (with_reducible refine (strings_TrimPrefix.calls a0 (⟨#[45]⟩ : ByteArray) t206 _ A2.out).mono ?_); rintro e w' ⟨rfl, ⟨nd, rfl⟩⟩; refine ⟨_, rfl, ?_⟩))
  (try simp only [Act.put, List.setIfInBounds_toArray, List.set_cons_zero, List.set_cons_succ])
  go_cut [16] (fun v16 wc => ∃ (kq : Nat) (x16_2 : Bool), v16 = .bool x16_2 ∧ Aside0 (impl_ReadDecimal.j0 kq a0 t206 x16_2 = some (r1, r2)) ∧ Aside0 (kq ≤ k) ∧ Aside0 (Below w.heap.size w wc))
  case first =>
    have H := HC3.out
    clear HC3
    by_cases c4 : (t206.size : Int) < 1
    · rw [if_pos c4] at H
      have c4b0 : decide ((t206.size : Int) < 1) = true := decide_eq_true c4
      have c4b1 : decide (t206.size < 1) = true := decide_eq_true (by omega)
      clear c4
      (first | rw [c4b0] | (simp only [i64_w, i32_w]; rw [c4b0]) | skip)
      have H' := Aside0.mk H
      clear H
      go_wp2
      go_meet
      case rel => exact ⟨_, (true), (by first | rfl | (simp; done) | (simp [*]; done)), H', ⟨by first | omega | exact Nat.le_refl _⟩, ⟨by repeat (first | (with_reducible first | exact HB.out | apply below_alloc | apply pw_below_drewN | apply below_drew1) | exact HB.out)⟩⟩
    · rw [if_neg c4] at H
      have c4b0 : decide ((t206.size : Int) < 1) = false := decide_eq_false c4
      have c4b1 : decide (t206.size < 1) = false := decide_eq_false (by omega)
      clear c4
      (first | rw [c4b0] | (simp only [i64_w, i32_w]; rw [c4b0]) | skip)
      have H' := Aside0.mk H
      clear H
      go_wp2
      go_meet
      case rel => exact ⟨_, (decide ((t206.size : Int) > 18)), (by first | rfl | (simp; done) | (simp [*]; done)), H', ⟨by first | omega | exact Nat.le_refl _⟩, ⟨by repeat (first | (with_reducible first | exact HB.out | apply below_alloc | apply pw_below_drewN | apply below_drew1) | exact HB.out)⟩⟩
  case rest =>
    clear HC3
    try clear p2
    try clear c3
    try clear c4
    try clear c4b0
    try clear c4b1
    obtain ⟨kq, x16_2, rfl, HA, HJ2, HB⟩ := hcut
    cases kq with
    | zero => exact absurd HA.out (by simp [impl_ReadDecimal.j0])
    | succ kj2 =>
      have H := HA.out
      clear HA
      simp only [impl_ReadDecimal.j0] at H
      by_cases c5 : x16_2 = true
      · subst c5
        rw [if_pos rfl] at H
        simp only [Option.some.injEq, Prod.mk.injEq] at H
        obtain ⟨rfl, rfl⟩ := H
        go_wp2
        go_ret2
        exact ⟨by first | rfl | (simp [errW_none, errW_some] <;> rfl) | (simp [*, errW_none, errW_some] <;> rfl), by repeat (first | (with_reducible first | exact HB.out | apply below_alloc | apply pw_below_drewN | apply below_drew1) | exact HB.out)⟩
      · replace c5 := Bool.eq_false_iff.mpr c5
        subst c5
        rw [if_neg (show ¬ (false = true) by decide)] at H
        have H' := Aside0.mk H
        clear H
        go_wp2
        go_loopg [5, 6] kj2 (fun kq v5 v6 w' => ∃ (x5_2 : Int) (x6_2 : Int), v5 = .int .i64 x5_2 ∧ v6 = .int .i64 x6_2 ∧ Aside0 (impl_ReadDecimal.l0 kq a0 t206 x5_2 x6_2 = some (r1, r2)) ∧ Aside0 (kq ≤ kj2) ∧ Aside0 (Below w.heap.size w w'))
        case atStart => exact ⟨(0), (0), (by first | rfl | (simp; done) | (simp [*]; done)), (by first | rfl | (simp; done) | (simp [*]; done)), H', ⟨Nat.le_refl _⟩, ⟨by repeat (first | (with_reducible first | exact HB.out | apply below_alloc | apply pw_below_drewN | apply below_drew1) | exact HB.out)⟩⟩
        case round =>
          clear H'
          try clear p2
          try clear c3
          try clear c4
          try clear c4b0
          try clear c4b1
          try clear c5
          try clear p2
          obtain ⟨x5_2, x6_2, rfl, rfl, HA, HK2, HB⟩ := hrel
          cases gk with
          | zero => exact absurd HA.out (by simp [impl_ReadDecimal.l0])
          | succ k2 =>
            have H := HA.out
            clear HA
            simp only [impl_ReadDecimal.l0] at H
            by_cases c6 : x6_2 < (t206.size : Int)
            · rw [if_pos c6] at H
              have c6b0 : decide (x6_2 < (t206.size : Int)) = true := decide_eq_true c6
              clear c6
              by_cases c7 : 0 ≤ x6_2
              · rw [if_pos c7] at H
                have c7b0 : decide (0 ≤ x6_2) = true := decide_eq_true c7
                clear c7
                by_cases c9 : (bt t206 x6_2) < 48
                · rw [if_pos c9] at H
                  have c9b0 : decide ((bt t206 x6_2) < 48) = true := decide_eq_true c9
                  clear c9
                  simp only [Option.some.injEq, Prod.mk.injEq] at H
                  obtain ⟨rfl, rfl⟩ := H
                  have p8 : 0 ≤ (x6_2 : Int) := of_decide_eq_true (by first | (with_reducible assumption) | assumption)
                  have q8 : x6_2 < (t206.size : Int) := of_decide_eq_true (by first | (with_reducible assumption) | assumption)
                  have hx8 := bt_at t206 x6_2
                  replace p8 := eq_true p8
                  replace q8 := eq_true q8
                  go_wp2
                  go_ret2
                  exact ⟨by first | rfl | (simp [errW_none, errW_some] <;> rfl) | (simp [*, errW_none, errW_some] <;> rfl), by repeat (first | (with_reducible first | exact HB.out | apply below_alloc | apply pw_below_drewN | apply below_drew1) | exact HB.out)⟩
                · rw [if_neg c9] at H
                  have c9b0 : decide ((bt t206 x6_2) < 48) = false := decide_eq_false c9
                  clear c9
                  by_cases c11 : (bt t206 x6_2) > 57
                  · rw [if_pos c11] at H
                    have c11b0 : decide (57 < (bt t206 x6_2)) = true := decide_eq_true c11
                    clear c11
                    simp only [Option.some.injEq, Prod.mk.injEq] at H
                    obtain ⟨rfl, rfl⟩ := H
                    have p8 : 0 ≤ (x6_2 : Int) := of_decide_eq_true (by first | (with_reducible assumption) | assumption)
                    have q8 : x6_2 < (t206.size : Int) := of_decide_eq_true (by first | (with_reducible assumption) | assumption)
                    have hx8 := bt_at t206 x6_2
                    replace p8 := eq_true p8
                    replace q8 := eq_true q8
                    have p10 : 0 ≤ (x6_2 : Int) := of_decide_eq_true (by first | (with_reducible assumption) | assumption)
                    have q10 : x6_2 < (t206.size : Int) := of_decide_eq_true (by first | (with_reducible assumption) | assumption)
                    have hx10 := bt_at t206 x6_2
                    replace p10 := eq_true p10
                    replace q10 := eq_true q10
                    go_wp2
                    go_ret2
                    exact ⟨by first | rfl | (simp [errW_none, errW_some] <;> rfl) | (simp [*, errW_none, errW_some] <;> rfl), by repeat (first | (with_reducible first | exact HB.out | apply below_alloc | apply pw_below_drewN | apply below_drew1) | exact HB.out)⟩
                  · rw [if_neg c11] at H
                    have c11b0 : decide (57 < (bt t206 x6_2)) = false := decide_eq_false c11
                    clear c11
                    have H' := Aside0.mk H
                    clear H
                    have p8 : 0 ≤ (x6_2 : Int) := of_decide_eq_true (by first | (with_reducible assumption) | assumption)
                    have q8 : x6_2 < (t206.size : Int) := of_decide_eq_true (by first | (with_reducible assumption) | assumption)
                    have hx8 := bt_at t206 x6_2
                    replace p8 := eq_true p8
                    replace q8 := eq_true q8
                    have p10 : 0 ≤ (x6_2 : Int) := of_decide_eq_true (by first | (with_reducible assumption) | assumption)
                    have q10 : x6_2 < (t206.size : Int) := of_decide_eq_true (by first | (with_reducible assumption) | assumption)
                    have hx10 := bt_at t206 x6_2
                    replace p10 := eq_true p10
                    replace q10 := eq_true q10
                    have p12 : 0 ≤ (x6_2 : Int) := of_decide_eq_true (by first | (with_reducible assumption) | assumption)
                    have q12 : x6_2 < (t206.size : Int) := of_decide_eq_true (by first | (with_reducible assumption) | assumption)
                    have hx12 := bt_at t206 x6_2
                    replace p12 := eq_true p12
                    replace q12 := eq_true q12
                    go_wp2
                    go_roundg k2
                    case measure => have := HJ2.out; have := HK2.out; omega
                    case rel => exact ⟨(wrap64 ((wrap64 (10 * x5_2)) + (((bt t206 x6_2) - 48) % 256))), (wrap64 (x6_2 + 1)), (by first | rfl | (simp; done) | (simp [*]; done)), (by first | rfl | (simp; done) | (simp [*]; done)), H', ⟨by have := HJ2.out; have := HK2.out; omega⟩, ⟨by repeat (first | (with_reducible first | exact HB.out | apply below_alloc | apply pw_below_drewN | apply below_drew1) | exact HB.out)⟩⟩
              · rw [if_neg c7] at H
                exact absurd H (by simp)
            · rw [if_neg c6] at H
              have c6b0 : decide (x6_2 < (t206.size : Int)) = false := decide_eq_false c6
              clear c6
              by_cases c13 : (t206.size : Int) < (a0.size : Int)
              · rw [if_pos c13] at H
                have c13b0 : decide ((t206.size : Int) < (a0.size : Int)) = true := decide_eq_true c13
                have c13b1 : decide (t206.size < a0.size) = true := decide_eq_true (Int.ofNat_lt.mp c13)
                clear c13
                replace H := Option.bind_eq_some_iff.mp H
                obtain ⟨t207, A140, H⟩ := H
                have A14 := Aside0.mk A140
                clear A140
                by_cases c15 : t207.toList = a0.toList
                · rw [if_pos c15] at H
                  have c15b0 : (t207.toList == a0.toList) = true := beq_iff_eq.mpr c15
                  have c15b1 : (t207.toList != a0.toList) = false := bne_eq_false_iff_eq.mpr c15
                  clear c15
                  simp only [Option.some.injEq, Prod.mk.injEq] at H
                  obtain ⟨rfl, rfl⟩ := H
                  go_wp2_with (first | ((with_reducible refine gate_callee (f := 36) rfl ?_); refine goesL_ (some 49) rfl rfl Tryd.func36 (by kernel_rfl) rfl #[.int .i64 (wrap64 (-x5_2))] rfl (by (try simp only [List.map_toArray, List.map_cons, List.map_nil]); first | done | rfl | (simp only [List.length_drop, List.length_take]; rfl)) ?_; (with_reducible refine (impl_Decimal.calls (wrap64 (-x5_2)) t207 _ ?side1 A14.out).mono ?_); (case side1 => exact (GF.below HG.out (by repeat (first | (with_reducible first | exact HB.out | apply below_alloc | apply pw_below_drewN | apply below_drew1) | exact HB.out)))); rintro e w16 ⟨rfl, hb⟩; refine ⟨_, rfl, ?_⟩; have n0_ := Aside0.mk (below_step (by repeat (first | (with_reducible first | exact HB.out | apply below_alloc | apply pw_below_drewN | apply below_drew1) | exact HB.out)) hb); clear HB; have HB := n0_; clear n0_; (try clear hb); (try clear hb2); (try clear hk); (try clear hi)))
                  go_ret2
                  exact ⟨by first | rfl | (simp [errW_none, errW_some] <;> rfl) | (simp [*, errW_none, errW_some] <;> rfl), by repeat (first | (with_reducible first | exact HB.out | apply below_alloc | apply pw_below_drewN | apply below_drew1) | exact HB.out)⟩
                · rw [if_neg c15] at H
                  have c15b0 : (t207.toList == a0.toList) = false := beq_eq_false_iff_ne.mpr c15
                  have c15b1 : (t207.toList != a0.toList) = true := bne_iff_ne.mpr c15
                  simp only [Option.some.injEq, Prod.mk.injEq] at H
                  obtain ⟨rfl, rfl⟩ := H
                  go_wp2_with (first | ((with_reducible refine gate_callee (f := 36) rfl ?_); refine goesL_ (some 49) rfl rfl Tryd.func36 (by kernel_rfl) rfl #[.int .i64 (wrap64 (-x5_2))] rfl (by (try simp only [List.map_toArray, List.map_cons, List.map_nil]); first | done | rfl | (simp only [List.length_drop, List.length_take]; rfl)) ?_; (with_reducible refine (impl_Decimal.calls (wrap64 (-x5_2)) t207 _ ?side1 A14.out).mono ?_); (case side1 => exact (GF.below HG.out (by repeat (first | (with_reducible first | exact HB.out | apply below_alloc | apply pw_below_drewN | apply below_drew1) | exact HB.out)))); rintro e w17 ⟨rfl, hb⟩; refine ⟨_, rfl, ?_⟩; have n0_ := Aside0.mk (below_step (by repeat (first | (with_reducible first | exact HB.out | apply below_alloc | apply pw_below_drewN | apply below_drew1) | exact HB.out)) hb); clear HB; have HB := n0_; clear n0_; (try clear hb); (try clear hb2); (try clear hk); (try clear hi)))
                  go_ret2
                  exact ⟨by first | rfl | (simp [errW_none, errW_some] <;> rfl) | (simp [*, errW_none, errW_some] <;> rfl), by repeat (first | (with_reducible first | exact HB.out | apply below_alloc | apply pw_below_drewN | apply below_drew1) | exact HB.out)⟩
              · rw [if_neg c13] at H
                have c13b0 : decide ((t206.size : Int) < (a0.size : Int)) = false := decide_eq_false c13
                have c13b1 : decide (t206.size < a0.size) = false := decide_eq_false (fun h => c13 (Int.ofNat_lt.mpr h))
                clear c13
                replace H := Option.bind_eq_some_iff.mp H
                obtain ⟨t208, A180, H⟩ := H
                have A18 := Aside0.mk A180
                clear A180
                by_cases c19 : t208.toList = a0.toList
                · rw [if_pos c19] at H
                  have c19b0 : (t208.toList == a0.toList) = true := beq_iff_eq.mpr c19
                  have c19b1 : (t208.toList != a0.toList) = false := bne_eq_false_iff_eq.mpr c19
                  clear c19
                  simp only [Option.some.injEq, Prod.mk.injEq] at H
                  obtain ⟨rfl, rfl⟩ := H
                  go_wp2_with (first | ((with_reducible refine gate_callee (f := 36) rfl ?_); refine goesL_ (some 49) rfl rfl Tryd.func36 (by kernel_rfl) rfl #[.int .i64 x5_2] rfl (by (try simp only [List.map_toArray, List.map_cons, List.map_nil]); first | done | rfl | (simp only [List.length_drop, List.length_take]; rfl)) ?_; (with_reducible refine (impl_Decimal.calls x5_2 t208 _ ?side1 A18.out).mono ?_); (case side1 => exact (GF.below HG.out (by repeat (first | (with_reducible first | exact HB.out | apply below_alloc | apply pw_below_drewN | apply below_drew1) | exact HB.out)))); rintro e w20 ⟨rfl, hb⟩; refine ⟨_, rfl, ?_⟩; have n0_ := Aside0.mk (below_step (by repeat (first | (with_reducible first | exact HB.out | apply below_alloc | apply pw_below_drewN | apply below_drew1) | exact HB.out)) hb); clear HB; have HB := n0_; clear n0_; (try clear hb); (try clear hb2); (try clear hk); (try clear hi)))
                  go_ret2
                  exact ⟨by first | rfl | (simp [errW_none, errW_some] <;> rfl) | (simp [*, errW_none, errW_some] <;> rfl), by repeat (first | (with_reducible first | exact HB.out | apply below_alloc | apply pw_below_drewN | apply below_drew1) | exact HB.out)⟩
                · rw [if_neg c19] at H
                  have c19b0 : (t208.toList == a0.toList) = false := beq_eq_false_iff_ne.mpr c19
                  have c19b1 : (t208.toList != a0.toList) = true := bne_iff_ne.mpr c19
                  simp only [Option.some.injEq, Prod.mk.injEq] at H
                  obtain ⟨rfl, rfl⟩ := H
                  go_wp2_with (first | ((with_reducible refine gate_callee (f := 36) rfl ?_); refine goesL_ (some 49) rfl rfl Tryd.func36 (by kernel_rfl) rfl #[.int .i64 x5_2] rfl (by (try simp only [List.map_toArray, List.map_cons, List.map_nil]); first | done | rfl | (simp only [List.length_drop, List.length_take]; rfl)) ?_; (with_reducible refine (impl_Decimal.calls x5_2 t208 _ ?side1 A18.out).mono ?_); (case side1 => exact (GF.below HG.out (by repeat (first | (with_reducible first | exact HB.out | apply below_alloc | apply pw_below_drewN | apply below_drew1) | exact HB.out)))); rintro e w21 ⟨rfl, hb⟩; refine ⟨_, rfl, ?_⟩; have n0_ := Aside0.mk (below_step (by repeat (first | (with_reducible first | exact HB.out | apply below_alloc | apply pw_below_drewN | apply below_drew1) | exact HB.out)) hb); clear HB; have HB := n0_; clear n0_; (try clear hb); (try clear hb2); (try clear hk); (try clear hi)))
                  go_ret2
                  exact ⟨by first | rfl | (simp [errW_none, errW_some] <;> rfl) | (simp [*, errW_none, errW_some] <;> rfl), by repeat (first | (with_reducible first | exact HB.out | apply below_alloc | apply pw_below_drewN | apply below_drew1) | exact HB.out)⟩

end Go.Proofs.YtjmjmpbphhbmpaaDoor.QCB
