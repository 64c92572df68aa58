/- What spec's walk over all sets does. -/
import Derived.Test.YtjmjmpbphhbmpaaQCHx
namespace Go.Proofs.Ytjmjmpbphhbmpaa.QCH
open Go.RowKit Go.Proofs.YtjmjmpbphhbmpaaQ Go.Proofs.YtjmjmpbphhbmpaaW.PrintWords Go.Proofs.YtjmjmpbphhbmpaaW.PrintLast Go.Proofs.YtjmjmpbphhbmpaaW.PrintMore
set_option linter.unusedVariables false
set_option linter.unusedSimpArgs false

/-- All sets that begin with this one, in order; none behind one that is dear or enough. -/
def spAll (mn pa : S43 → Int) (need : Int) : List S43 → Int → List Int → Int → Int → List Int × Int → List Int × Int
  | [], _, _, _, _, st => st
  | x :: xs, i, set, wk, py, st =>
    spAll mn pa need xs (i + 1) set wk py
      (if st.2 ≥ 0 ∧ wrap64 (py + pa x) ≥ st.2 then st else if wrap64 (wk + mn x) ≥ need then (set ++ [i], wrap64 (py + pa x))
        else spAll mn pa need xs (i + 1) (set ++ [i]) (wrap64 (wk + mn x)) (wrap64 (py + pa x)) st)
def spSee (mn pa : S43 → Int) (need : Int) (l : List S43) (i : Int) (set : List Int) (wk py : Int) (st : List Int × Int) : List Int × Int :=
  if st.2 ≥ 0 ∧ py ≥ st.2 then st else if wk ≥ need then (set, py) else spAll mn pa need l i set wk py st

/-- The walk's variable. -/
structure SpW (w0 : World) (A : Option Addr) (c : Nat) (l : List S43) (need : Int) (g : Nat) (w : World) (st : List Int × Int) : Prop where
  below : Below w0.heap.size w0 w
  hb : ∃ v, w.heap[g]? = some (.cells #[.slice A l.length c, .int .i64 need, v, .int .i64 st.2] 41 (0, 0)) ∧ Kd.R (Kd.int .i64) 2 w w0.heap.size (fun k => k ≠ g) v st.1

theorem spw_take {w0 : World} {A : Option Addr} {c : Nat} {l : List S43} {need : Int} {g : Nat} {w : World} {st : List Int × Int} (hW : SpW w0 A c l need g w st) {v : Value} {set : List Int}
    (hR : Kd.R (Kd.int .i64) 2 w w0.heap.size (fun k => k ≠ g) v set) (hg0 : w0.heap.size ≤ g) (py : Int) :
    Kept w ((w.setCell ⟨g, 2, none⟩ v).setCell ⟨g, 3, none⟩ (.int .i64 py)) (fun k => k = g) ∧ SpW w0 A c l need g ((w.setCell ⟨g, 2, none⟩ v).setCell ⟨g, 3, none⟩ (.int .i64 py)) (set, py) := by
  obtain ⟨HX, vb, HV, _⟩ := hW
  have h1 : (w.setCell ⟨g, 2, none⟩ v).heap[g]? = some (.cells #[.slice A l.length c, .int .i64 need, v, .int .i64 st.2] 41 (0, 0)) := blk_put HV 2 v rfl
  have h2 : ((w.setCell ⟨g, 2, none⟩ v).setCell ⟨g, 3, none⟩ (.int .i64 py)).heap[g]? = some (.cells #[.slice A l.length c, .int .i64 need, v, .int .i64 py] 41 (0, 0)) := blk_put h1 3 (.int .i64 py) rfl
  have h3 : Kept w ((w.setCell ⟨g, 2, none⟩ v).setCell ⟨g, 3, none⟩ (.int .i64 py)) (fun k => k = g) := Kept.setCell (S := fun k => k = g) (Kept.setCell (S := fun k => k = g) (Kept.refl w _) (p := ⟨g, 2, none⟩) (.inl rfl) _) (p := ⟨g, 3, none⟩) (.inl rfl) _
  have h4 : Below w0.heap.size w0 ((w.setCell ⟨g, 2, none⟩ v).setCell ⟨g, 3, none⟩ (.int .i64 py)) := below_set (below_set HX hg0) hg0
  have h5 : Kd.R (Kd.int .i64) 2 (w.setCell ⟨g, 2, none⟩ v) w0.heap.size (fun k => k ≠ g) v set := Kd.R_far (p := ⟨g, 2, none⟩) hR (fun _ h => h) _
  have h6 : Kd.R (Kd.int .i64) 2 ((w.setCell ⟨g, 2, none⟩ v).setCell ⟨g, 3, none⟩ (.int .i64 py)) w0.heap.size (fun k => k ≠ g) v set := Kd.R_far (p := ⟨g, 3, none⟩) h5 (fun _ h => h) _
  exact ⟨h3, h4, v, h2, h6⟩

theorem spw_below {w0 : World} {A : Option Addr} {c : Nat} {l : List S43} {need : Int} {g : Nat} {w w5 : World} {st : List Int × Int} (hW : SpW w0 A c l need g w st) (hB : Below w.heap.size w w5) : SpW w0 A c l need g w5 st := by
  obtain ⟨HX, vb, HV, hR⟩ := hW
  exact ⟨below_step HX hB, vb, blk_below HV hB, Kd.R_below hR hB⟩

set_option maxHeartbeats 8000000 in
set_option maxRecDepth 100000 in
theorem hand16 (mn pa : S43 → Int) (k : Nat) (w0 : World) (A : Option Addr) (c : Nat) (l : List S43) (need : Int) (g : Nat)
    (hr : Kd.C k43 w0 A l.length l) (hlc : l.length ≤ c) (hl10 : l.length ≤ 10)
    (hmn : ∀ x ∈ l, spec_l00Sum.f k x.f1 = some (mn x)) (hpa : ∀ x ∈ l, spec_l26Pay.f k [x] 1440 0 = some (pa x)) (hg0 : w0.heap.size ≤ g) :
    ∀ (n : Nat) (i : Int), 0 ≤ i → i.toNat + n = l.length →
    ∀ (w : World) (v : Value) (set : List Int) (wk py : Int) (st : List Int × Int),
      Kd.R (Kd.int .i64) 2 w w0.heap.size (fun k => k ≠ g) v set → set.length + n ≤ 10 →
      (set = [] ∧ i = 0 ∨ ∃ s, set = s ++ [i - 1] ∧ 0 < i) →
      SpW w0 A c l need g w st →
      Calls Try.prog 16 #[.pointer (some ⟨g, 0, none⟩), v, .int .i64 wk, .int .i64 py] w
        fun e w' => e = .returned (.tuple #[]) ∧ Kept w w' (fun k => k = g) ∧ SpW w0 A c l need g w' (spSee mn pa need (l.drop i.toNat) i set wk py st) := by
  intro n
  induction n using Nat.strongRecOn with
  | ind n ih =>
  intro i hi0 hir w v set wk py st hR hsl hset hW
  have HW := Aside0.mk hW
  obtain ⟨HB, vb, HV, HRB⟩ := hW
  obtain ⟨B, cs, rfl⟩ := Kd.R_slice hR
  have hx0 := (blk_cell HV 0).trans rfl
  have hx1 := (blk_cell HV 1).trans rfl
  have hx2 := (blk_cell HV 2).trans rfl
  have hx3 := (blk_cell HV 3).trans rfl
  have hf2 := blk_frozen HV 2
  have hf3 := blk_frozen HV 3
  simp only [List.getElem?_toArray, List.getElem?_cons_zero, List.getElem?_cons_succ] at hx0 hx1 hx2 hx3
  have HX := Aside0.mk HB
  have IH := Aside0.mk ih
  have HSET := Aside0.mk hset
  have HR := Aside0.mk hR
  have HV := Aside0.mk HV
  clear HB ih hset hR HRB
  -- ways
  have h4 : (st.2 ≥ 0 ∧ py ≥ st.2) ∨ ((¬ st.2 ≥ 0) ∧ wk ≥ need) ∨ (st.2 ≥ 0 ∧ ¬ py ≥ st.2 ∧ wk ≥ need) ∨ ((¬ st.2 ≥ 0) ∧ ¬ wk ≥ need) ∨ (st.2 ≥ 0 ∧ ¬ py ≥ st.2 ∧ ¬ wk ≥ need) := by omega
  refine h4.elim (fun q => ?a) (fun q => q.elim (fun q => ?b) (fun q => q.elim (fun q => ?c) (fun q => q.elim (fun q => ?d) (fun q => ?e))))
  case a =>
    have d1 : decide (st.2 ≥ 0) = true := decide_eq_true q.1
    have d2 : decide (py ≥ st.2) = true := decide_eq_true q.2
    have E := Aside0.mk (show spSee mn pa need (l.drop i.toNat) i set wk py st = st from if_pos q)
    clear q h4
    go_enter Try.func16, Try.ntmps16
    go_wp2
    (try simp only [Exit.inBlock, Exit.then])
    refine bodyPost_ret (results_none rfl _ _ _) rfl ?_
    exact ⟨rfl, Kept.refl _ _, by rw [E.out]; exact HW.out⟩
  case b =>
    have d1 : decide (st.2 ≥ 0) = false := decide_eq_false q.1
    have d3 : decide (wk ≥ need) = true := decide_eq_true q.2
    have E := Aside0.mk (show spSee mn pa need (l.drop i.toNat) i set wk py st = (set, py) by unfold spSee; rw [if_neg (fun h => q.1 h.1), if_pos q.2])
    clear q h4
    have hp := spw_take HW.out HR.out hg0 py
    go_enter Try.func16, Try.ntmps16
    go_wp2
    (try simp only [Exit.inBlock, Exit.then])
    refine bodyPost_ret (results_none rfl _ _ _) rfl ?_
    rw [E.out]
    exact ⟨rfl, hp⟩
  case c =>
    have d1 : decide (st.2 ≥ 0) = true := decide_eq_true q.1
    have d2 : decide (py ≥ st.2) = false := decide_eq_false q.2.1
    have d3 : decide (wk ≥ need) = true := decide_eq_true q.2.2
    have E := Aside0.mk (show spSee mn pa need (l.drop i.toNat) i set wk py st = (set, py) by unfold spSee; rw [if_neg (fun h => q.2.1 h.2), if_pos q.2.2])
    clear q h4
    have hp := spw_take HW.out HR.out hg0 py
    go_enter Try.func16, Try.ntmps16
    go_wp2
    (try simp only [Exit.inBlock, Exit.then])
    refine bodyPost_ret (results_none rfl _ _ _) rfl ?_
    rw [E.out]
    exact ⟨rfl, hp⟩
  case' d =>
    have d1 : decide (st.2 ≥ 0) = false := decide_eq_false q.1
    have d3 : decide (wk ≥ need) = false := decide_eq_false q.2
    have E := Aside0.mk (show spSee mn pa need (l.drop i.toNat) i set wk py st = spAll mn pa need (l.drop i.toNat) i set wk py st by unfold spSee; rw [if_neg (fun h => q.1 h.1), if_neg q.2])
    clear q h4
  case' e =>
    have d1 : decide (st.2 ≥ 0) = true := decide_eq_true q.1
    have d2 : decide (py ≥ st.2) = false := decide_eq_false q.2.1
    have d3 : decide (wk ≥ need) = false := decide_eq_false q.2.2
    have E := Aside0.mk (show spSee mn pa need (l.drop i.toNat) i set wk py st = spAll mn pa need (l.drop i.toNat) i set wk py st by unfold spSee; rw [if_neg (fun h => q.2.1 h.2), if_neg q.2.2])
    clear q h4
  case' d => refine HSET.out.elim (fun h => ?dn) (fun h => ?dl)
  case' e => refine HSET.out.elim (fun h => ?en) (fun h => ?el)
  case' dn | en =>
    obtain ⟨h1, h2⟩ := h
    have hL : (0 < set.length) = False := eq_false (by rw [h1]; simp)
    have hI := Aside0.mk h2.symm
    clear h1 h2
    go_enter Try.func16, Try.ntmps16
    go_wp2
  case' dl | el =>
    obtain ⟨s, h1, h2⟩ := h
    have hlen : set.length = s.length + 1 := by rw [h1]; simp
    have hL : (0 < set.length) = True := eq_true (by omega)
    obtain ⟨gq, cq, eq, gbq, glq, clq, hgq⟩ := Kd.R_form HR.out (by omega)
    (first | cases eq | (injection eq with ea_ en_ ec_; subst ea_; clear en_))
    clear hgq gbq glq
    have hwl : wrap64 ((set.length : Int) - 1) = (set.length : Int) - 1 := by unfold wrap64; omega
    have p : 0 ≤ (set.length : Int) - 1 := by omega
    have q : (set.length : Int) - 1 < (set.length : Int) := by omega
    obtain ⟨hy, hyf⟩ := Kd.R_celln 0 HR.out _ p q
    have hrd : rdOf 0 set ((set.length : Int) - 1) = i - 1 := by
      rw [h1]
      simp [rdOf]
    rw [hrd, show ((set.length : Int) - 1).toNat = set.length - 1 by omega] at hy
    obtain ⟨z, hz⟩ : ∃ z, z = i - 1 := ⟨_, rfl⟩
    rw [← hz] at hy
    have hI := Aside0.mk (show wrap64 (z + 1) = i by rw [hz]; unfold wrap64; omega)
    replace p := eq_true p
    replace q := eq_true q
    have q2 : (set.length - 1 < set.length) = True := eq_true (by omega)
    have p2 : (1 ≤ (set.length : Int)) = True := eq_true (by omega)
    have p3 : (1 ≤ set.length) = True := eq_true (by omega)
    clear h1 h2 hlen hwl hrd hz
    go_enter Try.func16, Try.ntmps16
    go_wp2
  all_goals
    go_loopg [9] (l.length + 1 - i.toNat) (fun kq v9 w' => ∃ (j : Int) (sj : List Int × Int), v9 = .int .i64 j ∧ i ≤ j ∧ j ≤ l.length ∧ kq = l.length + 1 - j.toNat ∧ Aside0 (spAll mn pa need (l.drop j.toNat) j set wk py sj = spSee mn pa need (l.drop i.toNat) i set wk py st) ∧ Aside0 (Kept w w' (fun k => k = g)) ∧ Aside0 (SpW w0 A c l need g w' sj))
    case atStart => exact ⟨i, st, congrArg (Value.int .i64) hI.out, Int.le_refl _, by omega, rfl, ⟨E.out.symm⟩, ⟨Kept.refl _ _⟩, HW⟩
    case round =>
      clear HW HV hx0 hx1 hx2 hx3 hf2 hf3 HX E
      obtain ⟨j, sj, rfl, hj0, hj, hk, HI, HK, HW⟩ := hrel
      obtain ⟨HB, vb2, HV, HRB⟩ := HW.out
      have hx0 : wr.cell? ⟨g, 0, none⟩ = some (.slice A l.length c) := (blk_cell HV 0).trans rfl
      have HX := Aside0.mk HB
      have HV := Aside0.mk HV
      have HRr := Aside0.mk (Kd.R_kept HR.out HK.out (fun k hk => hk))
      have HN := Aside0.mk (And.intro hj0 (And.intro hj hk))
      clear HB HRB hj0 hj hk
      by_cases q : j < (l.length : Int)
      · have d5 : decide (j < (l.length : Int)) = true := decide_eq_true q
        have Q := Aside0.mk q
        have p1 : 0 ≤ j := by have := HN.out; omega
        have hlt : j.toNat < l.length := by omega
        have hmem : rd_T43 l j ∈ l := by
          rw [show rd_T43 l j = l[j.toNat] by simp [rd_T43, List.getD_eq_getElem?_getD, List.getElem?_eq_getElem hlt]]
          exact List.getElem_mem hlt
        have HMN := Aside0.mk (hmn _ hmem)
        have HPA := Aside0.mk (hpa _ hmem)
        obtain ⟨ad, A1, c2, eA, hz0, hz1, hz2, hl1, hi1⟩ := at_T43 hr j p1 Q.out
        subst eA
        have HEL := Aside0.mk (C_el z43 hr p1 q)
        have hq1 := eq_true p1
        have hq2 := eq_true q
        have HZ := Aside0.mk (And.intro hz0 (And.intro hz1 hz2))
        have HI1 := Aside0.mk hi1
        have HL1 := Aside0.mk hl1
        replace hz1 := (HX.out.cell (World.block_lt_of_cell? w0 _ hz1)).trans hz1
        clear hz0 hz2 hi1 hl1 hmem hlt p1 q
        have HS0 := Aside0.mk hz1
        have WJ := Aside0.mk (show wrap64 (j + 1) = j + 1 by have := HN.out; have := Q.out; unfold wrap64; omega)
        have HOWN := Aside0.mk (show spec_l00Own.f set = some set by unfold spec_l00Own.f; simp only [Option.bind_some, List.length_nil, List.nil_append]; rw [if_pos (by omega)])
        have IHJ : Aside0 (∀ w9 v7, Below wr.heap.size wr w9 → Kd.R (Kd.int .i64) 2 w9 wr.heap.size (fun _ => True) v7 (set ++ [j]) → Calls Try.prog 16 #[.pointer (some ⟨g, 0, none⟩), v7, .int .i64 (wrap64 (wk + mn (rd_T43 l j))), .int .i64 (wrap64 (py + pa (rd_T43 l j)))] w9
            fun e w' => e = .returned (.tuple #[]) ∧ Kept w9 w' (fun k => k = g) ∧ SpW w0 (some ad) c l need g w' (spSee mn pa need (l.drop (j + 1).toNat) (j + 1) (set ++ [j]) (wrap64 (wk + mn (rd_T43 l j))) (wrap64 (py + pa (rd_T43 l j))) sj)) := ⟨by
          intro w9 v7 h1 h2
          have hn := HN.out
          have hq := Q.out
          exact IH.out (l.length - j.toNat - 1) (by omega) (j + 1) (by omega) (by omega) w9 v7 (set ++ [j]) (wrap64 (wk + mn (rd_T43 l j))) (wrap64 (py + pa (rd_T43 l j))) sj
            (Kd.R_mono (Kd.R_lower (Kd.R_bound h2) HX.out.size) (fun k hk => by have := hk.2.1; have := blk_lt HV.out; omega)) (by rw [List.length_append, List.length_singleton]; omega)
            (.inr ⟨set, by rw [show j + 1 - 1 = j by omega], by omega⟩) (spw_below HW.out h1)⟩
        go_wp2
        go_region_held3 (fun w' => w'.cell? ⟨(ad.add (j.toNat * 3)).block, (ad.add (j.toNat * 3)).off + 1, none⟩ = some (.slice A1 (rd_T43 l j).f1.length c2)) (first | assumption | go_keep)
          (first
            | (go_at_call 27; refine (spec_l00Own.calls _ _ set set _ (Kd.R_reads' (show Kd.R (Kd.int .i64) 2 _ w0.heap.size (fun k => k ≠ g) _ set by repeat (first | exact HRr.out | apply Kd.R_alloc | apply Kd.R_drew))).2.2 (Kd.R_reads' HRr.out).2.1 HOWN.out).mono ?_; rintro e w4 ⟨v4, rfl, ho4, hb4⟩; (first | (have HJ := Aside0.mk (blk_below (blk_new wr.drew (.cells #[.int .i64 j] 2)) hb4)) | skip); have HB4 := Aside0.mk (below_step (show Below wr.heap.size wr _ by repeat (first | exact Below.refl _ _ | apply below_alloc | apply below_drew1)) hb4); have HO4 := Aside0.mk (Kd.R_lower ho4 (below_size (show Below wr.heap.size wr _ by repeat (first | exact Below.refl _ _ | apply below_alloc | apply below_drew1)))); have hS4 := (HB4.out.cell (World.block_lt_of_cell? wr _ HS0.out)).trans HS0.out; clear hb4 ho4)
            | (refine Kd.R_append_rows_step (Kd.int .i64) (w0 := wr) wr.heap.size (by rfl) (.tmp 66) (.tmp 68) 24 2 (.int .i64 0) 8 rfl Try.underlying24 info2 rfl (by decide) (by omega) v4 set [j] _ _ _ (fun _ => True) (fun _ => False) rfl rfl ?aO ?aR (fun _ _ h => h) (fun _ h => h.elim) ?aF ?aB ?aS ?aL ?_; (case aR => first | exact C_blk (blk_new _ _) rfl | exact C_blk HJ.out rfl); (case aB => repeat (first | exact HB4.out | apply below_alloc)); (case aF => exact (fun _ _ => trivial)); (case aO => repeat (first | exact HO4.out | apply Kd.R_alloc)); (case aS => exact below_size (show Below wr.heap.size wr _ by repeat (first | exact HB4.out | apply below_alloc))); (case aL => omega); intro v7 w7 ho7 hb7 hg7 hat7; clear hat7 hg7; have HB7 := Aside0.mk hb7; have HO7 := Aside0.mk ho7; have hS7 := (hb7.cell (World.block_lt_of_cell? wr _ HS0.out)).trans HS0.out; clear hb7 ho7)
            | (go_at_call 28; refine (spec_l00Sum.calls k _ _ _ (mn (rd_T43 l j)) _ (Kd.C_below HI1.out (below_step HX.out HB7.out)) HL1.out HMN.out).mono ?_; rintro e w8 ⟨rfl, nd8, rfl⟩; have hS8 : (w7.drewN nd8).cell? ⟨(ad.add (j.toNat * 3)).block, (ad.add (j.toNat * 3)).off + 1, none⟩ = some (.slice A1 (rd_T43 l j).f1.length c2) := hS7)
            | (go_at_call 29; refine (spec_l26Pay.calls k _ [rd_T43 l j] 1440 0 (pa (rd_T43 l j)) _ (Kd.C_drewN (Kd.C_below HEL.out (below_step HX.out HB7.out)) _) rfl HPA.out).mono ?_; rintro e w9 ⟨rfl, nd9, rfl⟩; have hS9 : ((w7.drewN nd8).drewN nd9).cell? ⟨(ad.add (j.toNat * 3)).block, (ad.add (j.toNat * 3)).off + 1, none⟩ = some (.slice A1 (rd_T43 l j).f1.length c2) := hS7)
            | (go_at_call 16; simp only [i64_w]; refine (IHJ.out _ v7 (by repeat (first | exact HB7.out | apply pw_below_drewN)) (by repeat (first | exact HO7.out | apply Kd.R_drewN))).mono ?_; rintro e w10 ⟨rfl, hk10, hw10⟩; have HK10 := Aside0.mk hk10; have HW10 := Aside0.mk hw10; have hS10 := (hw10.below.cell (World.block_lt_of_cell? w0 _ HZ.out.2.1)).trans HZ.out.2.1; clear hk10 hw10))
        all_goals
          clear hz1 hx0 hq1 hq2 hS4 hS7 hS8 hS9 hS10
          go_wp2
          go_roundg (l.length - j.toNat)
          case measure => have := HN.out; have := Q.out; omega
          case rel =>
            have hn := HN.out
            have hq := Q.out
            have hd2 : l.drop j.toNat = rd_T43 l j :: l.drop (j + 1).toNat := by
              have hlt : j.toNat < l.length := by omega
              rw [List.drop_eq_getElem_cons hlt, show (j + 1).toNat = j.toNat + 1 by omega]
              congr 1
              simp [rd_T43, List.getD_eq_getElem?_getD, List.getElem?_eq_getElem hlt]
            have hI2 := HI.out
            rw [hd2, spAll] at hI2
            exact ⟨j + 1, _, by rw [WJ.out], by omega, by omega, by omega, ⟨hI2⟩, ⟨((HK.out.below HB7.out).drewN _).then_ HK10.out (fun k hk => .inl hk)⟩, HW10⟩
      · have d5 : decide (j < (l.length : Int)) = false := decide_eq_false q
        have Q := Aside0.mk q
        clear q
        go_wp2
        go_end0
        have h := HI.out
        rw [List.drop_eq_nil_of_le (by have := Q.out; have := HN.out; omega)] at h
        refine ⟨rfl, HK.out, ?_⟩
        rw [← h]
        exact HW.out
end Go.Proofs.Ytjmjmpbphhbmpaa.QCH
