-- Written by a program of this place (wip/tools/prn.py) out of the translation, for this claim. Lean checks it.
import Derived.Test.YtjmjmpbphhbmpaaDoorQCBx0
import Derived.Test.YtjmjmpbphhbmpaaDoorQCBx1
import Derived.Test.YtjmjmpbphhbmpaaDoorQCBx3
namespace Go.Proofs.YtjmjmpbphhbmpaaDoor.QCB
open Go.RowKit Go.Proofs.YtjmjmpbphhbmpaaDoorQ Go.Proofs.YtjmjmpbphhbmpaaDoorW.PrintWords Go.Proofs.YtjmjmpbphhbmpaaDoorW.PrintLast Go.Proofs.YtjmjmpbphhbmpaaDoorW.PrintMore
attribute [local go_sem] max2_int min2_int max_two min_two max_three min_three max_four min_four   -- for this text's walks alone
set_option linter.unusedVariables false
set_option linter.unusedSimpArgs false

/-! ### impl_CheapestHands: function 8 -/
/-- A set is looked at: is it cheaper than the best so far? -/
def chUpd (need : Int) (set : List Int) (wk py : Int) (st : List Int × Int) : List Int × Int :=
  if wk ≥ need then (if st.2 < 0 then (set, py) else if py < st.2 then (set, py) else st) else st
/-- All sets that begin with this one, in order. -/
def chAll (mn pa : S33 → Int) (need : Int) : List S33 → Int → List Int → Int → Int → List Int × Int → List Int × Int
  | [], _, _, _, _, st => st
  | x :: xs, i, set, wk, py, st =>
    chAll mn pa need xs (i + 1) set wk py
      (chAll mn pa need xs (i + 1) (set ++ [i]) (wrap64 (wk + mn x)) (wrap64 (py + pa x))
        (chUpd need (set ++ [i]) (wrap64 (wk + mn x)) (wrap64 (py + pa x)) st))

/-- The closure's variables, and what they hold. -/
structure ChW (w0 : World) (A : Option Addr) (c : Nat) (l : List S33) (need : Int) (gl gm gb gs ge : Nat) (w : World) (st : List Int × Int) : Prop where
  below : Below w0.heap.size w0 w
  hl : w.heap[gl]? = some (.cells #[.slice A l.length c] 24 (0, 0))
  hm : w.heap[gm]? = some (.cells #[.int .i64 need] 2 (0, 0))
  he : w.heap[ge]? = some (.cells #[.func (.func 30) #[] #[.pointer (some ⟨gm, 0, none⟩), .pointer (some ⟨gs, 0, none⟩), .pointer (some ⟨gb, 0, none⟩), .pointer (some ⟨gl, 0, none⟩), .pointer (some ⟨ge, 0, none⟩)]] 62 (0, 0))
  hs : w.heap[gs]? = some (.cells #[.int .i64 st.2] 2 (0, 0))
  hb : ∃ v, w.heap[gb]? = some (.cells #[v] 27 (0, 0)) ∧ Kd.R (Kd.int .i64) 2 w w0.heap.size (fun k => k ≠ gb ∧ k ≠ gs) v st.1

theorem chw_store {w0 : World} {A : Option Addr} {c : Nat} {l : List S33} {need : Int} {gl gm gb gs ge : Nat} {w w5 : World} {st : List Int × Int} (hW : ChW w0 A c l need gl gm gb gs ge w st)
    (hd : gs ≠ gb ∧ gl ≠ gs ∧ gl ≠ gb ∧ gm ≠ gs ∧ gm ≠ gb ∧ ge ≠ gs ∧ ge ≠ gb) (hg0 : w0.heap.size ≤ gs) (hg1 : w0.heap.size ≤ gb) {Av : Option Addr} {cv : Nat} {set : List Int}
    (hB : Below w.heap.size w w5) (hO : Kd.R (Kd.int .i64) 2 w5 w.heap.size (fun _ => True) (.slice Av set.length cv) set) (py : Int) :
    Kept w ((w5.setCell ⟨gb, 0, none⟩ (.slice Av set.length cv)).setCell ⟨gs, 0, none⟩ (.int .i64 py)) (fun k => k = gb ∨ k = gs) ∧
    ChW w0 A c l need gl gm gb gs ge ((w5.setCell ⟨gb, 0, none⟩ (.slice Av set.length cv)).setCell ⟨gs, 0, none⟩ (.int .i64 py)) (set, py) := by
  obtain ⟨HX, HL, HM, HE, HS, v, HV, HR⟩ := hW
  have hb := blk_lt HV
  have hs := blk_lt HS
  obtain ⟨d1, d2, d3, d4, d5, d6, d7⟩ := hd
  refine ⟨((Kept.of_below hB _).setCell (.inl (.inl rfl)) _).setCell (.inl (.inr rfl)) _, ⟨below_set (below_set (below_step HX hB) hg1) hg0, ?_, ?_, ?_, ?_, .slice Av set.length cv, ?_, ?_⟩⟩
  · exact blk_far (p := ⟨gs, 0, none⟩) (blk_far (p := ⟨gb, 0, none⟩) (blk_below HL hB) d3 _) d2 _
  · exact blk_far (p := ⟨gs, 0, none⟩) (blk_far (p := ⟨gb, 0, none⟩) (blk_below HM hB) d5 _) d4 _
  · exact blk_far (p := ⟨gs, 0, none⟩) (blk_far (p := ⟨gb, 0, none⟩) (blk_below HE hB) d7 _) d6 _
  · exact blk_put (blk_far (p := ⟨gb, 0, none⟩) (blk_below HS hB) d1 _) 0 _ rfl
  · exact blk_far (p := ⟨gs, 0, none⟩) (blk_put (blk_below HV hB) 0 _ rfl) (Ne.symm d1) _
  · have h1 : Kd.R (Kd.int .i64) 2 w5 w0.heap.size (fun k => k ≠ gb ∧ k ≠ gs) (.slice Av set.length cv) set :=
      Kd.R_mono (Kd.R_lower (Kd.R_bound hO) HX.size) (fun k hk => ⟨by have := hk.2.1; omega, by have := hk.2.1; omega⟩)
    exact Kd.R_far (p := ⟨gs, 0, none⟩) (Kd.R_far (p := ⟨gb, 0, none⟩) h1 (fun k hk => hk.1) _) (fun k hk => hk.2) _

theorem chw_below {w0 : World} {A : Option Addr} {c : Nat} {l : List S33} {need : Int} {gl gm gb gs ge : Nat} {w w5 : World} {st : List Int × Int} (hW : ChW w0 A c l need gl gm gb gs ge w st)
    (hB : Below w.heap.size w w5) : ChW w0 A c l need gl gm gb gs ge w5 st := by
  obtain ⟨HX, HL, HM, HE, HS, v, HV, HR⟩ := hW
  exact ⟨below_step HX hB, blk_below HL hB, blk_below HM hB, blk_below HE hB, blk_below HS hB, v, blk_below HV hB, Kd.R_below HR hB⟩
theorem chw_set {w0 : World} {A : Option Addr} {c : Nat} {l : List S33} {need : Int} {gl gm gb gs ge : Nat} {w w7 w9 : World} {st : List Int × Int} (hW : ChW w0 A c l need gl gm gb gs ge w st)
    {B : Option Addr} {n cv : Nat} {set : List Int} (hO : Kd.R (Kd.int .i64) 2 w7 w.heap.size (fun _ => True) (.slice B n cv) set) (h7 : Below w.heap.size w w7) (h79 : Below w7.heap.size w7 w9) :
    ∀ W', Kept w9 W' (fun k => k = gb ∨ k = gs) → Kd.C (Kd.int .i64) W' B n set := by
  obtain ⟨HX, HL, HM, HE, HS, v, HV, HR⟩ := hW
  have hb := blk_lt HV
  have hs := blk_lt HS
  exact Kd.C_kept_own (Kd.R_below (Kd.R_bound hO) h79) (fun k hk => by have := hk.2.1; omega)
theorem chw_cells {w0 wr W : World} {l : List S33} {c gl gm gb gs ge : Nat} {ad : Addr} {j : Int} {A1 : Option Addr} {c2 : Nat} (h0 : Below w0.heap.size w0 W)
    (hz : w0.cell? (ad.add (j.toNat * 3)) = some (.string (rd_T33 l j).f0) ∧ w0.cell? ⟨(ad.add (j.toNat * 3)).block, (ad.add (j.toNat * 3)).off + 1, none⟩ = some (.slice A1 (rd_T33 l j).f1.length c2) ∧ w0.cell? ⟨(ad.add (j.toNat * 3)).block, (ad.add (j.toNat * 3)).off + 2, none⟩ = some (.int .i64 (rd_T33 l j).f2))
    (hsv : wr.heap[gl]? = some (.cells #[.slice (some ad) l.length c] 24 (0, 0)) ∧ wr.heap[ge]? = some (.cells #[.func (.func 30) #[] #[.pointer (some ⟨gm, 0, none⟩), .pointer (some ⟨gs, 0, none⟩), .pointer (some ⟨gb, 0, none⟩), .pointer (some ⟨gl, 0, none⟩), .pointer (some ⟨ge, 0, none⟩)]] 62 (0, 0)))
    (hr : Below wr.heap.size wr W) :
    W.cell? ⟨gl, 0, none⟩ = some (.slice (some ad) l.length c) ∧ W.cell? ⟨ge, 0, none⟩ = some (.func (.func 30) #[] #[.pointer (some ⟨gm, 0, none⟩), .pointer (some ⟨gs, 0, none⟩), .pointer (some ⟨gb, 0, none⟩), .pointer (some ⟨gl, 0, none⟩), .pointer (some ⟨ge, 0, none⟩)]) ∧ W.cell? (ad.add (j.toNat * 3)) = some (.string (rd_T33 l j).f0) ∧ W.cell? ⟨(ad.add (j.toNat * 3)).block, (ad.add (j.toNat * 3)).off + 1, none⟩ = some (.slice A1 (rd_T33 l j).f1.length c2) ∧ W.cell? ⟨(ad.add (j.toNat * 3)).block, (ad.add (j.toNat * 3)).off + 2, none⟩ = some (.int .i64 (rd_T33 l j).f2) := by
  obtain ⟨z0, z1, z2⟩ := hz
  exact ⟨(blk_cell (blk_below hsv.1 hr) 0).trans rfl, (blk_cell (blk_below hsv.2 hr) 0).trans rfl, (h0.cell (World.block_lt_of_cell? w0 _ z0)).trans z0, (h0.cell (World.block_lt_of_cell? w0 _ z1)).trans z1, (h0.cell (World.block_lt_of_cell? w0 _ z2)).trans z2⟩
theorem chw_cells2 {w0 W : World} {l : List S33} {c gl gm gb gs ge : Nat} {ad : Addr} {j : Int} {A1 : Option Addr} {c2 : Nat} {need : Int} {st : List Int × Int}
    (hz : w0.cell? (ad.add (j.toNat * 3)) = some (.string (rd_T33 l j).f0) ∧ w0.cell? ⟨(ad.add (j.toNat * 3)).block, (ad.add (j.toNat * 3)).off + 1, none⟩ = some (.slice A1 (rd_T33 l j).f1.length c2) ∧ w0.cell? ⟨(ad.add (j.toNat * 3)).block, (ad.add (j.toNat * 3)).off + 2, none⟩ = some (.int .i64 (rd_T33 l j).f2))
    (hW : ChW w0 (some ad) c l need gl gm gb gs ge W st) :
    W.cell? ⟨gl, 0, none⟩ = some (.slice (some ad) l.length c) ∧ W.cell? ⟨ge, 0, none⟩ = some (.func (.func 30) #[] #[.pointer (some ⟨gm, 0, none⟩), .pointer (some ⟨gs, 0, none⟩), .pointer (some ⟨gb, 0, none⟩), .pointer (some ⟨gl, 0, none⟩), .pointer (some ⟨ge, 0, none⟩)]) ∧ W.cell? (ad.add (j.toNat * 3)) = some (.string (rd_T33 l j).f0) ∧ W.cell? ⟨(ad.add (j.toNat * 3)).block, (ad.add (j.toNat * 3)).off + 1, none⟩ = some (.slice A1 (rd_T33 l j).f1.length c2) ∧ W.cell? ⟨(ad.add (j.toNat * 3)).block, (ad.add (j.toNat * 3)).off + 2, none⟩ = some (.int .i64 (rd_T33 l j).f2) :=
  chw_cells hW.below hz ⟨hW.hl, hW.he⟩ (Below.refl _ _)

set_option maxHeartbeats 8000000 in
set_option maxRecDepth 100000 in
theorem hand20 (mn pa : S33 → Int) (k : Nat) (w0 : World) (A : Option Addr) (c : Nat) (l : List S33) (need : Int) (gl gm gb gs ge : Nat)
    (hr : Kd.C k33 w0 A l.length l) (hlc : l.length ≤ c) (hl10 : l.length ≤ 10)
    (hmn : ∀ x ∈ l, impl_extraMinutes.f k x.f0 x.f1 x.f2 0 = some (mn x)) (hpa : ∀ x ∈ l, impl_payOf.f k x.f0 x.f1 x.f2 1440 0 = some (pa x))
    (hg0 : w0.heap.size ≤ gs) (hg1 : w0.heap.size ≤ gb)
    (hd : gs ≠ gb ∧ gl ≠ gs ∧ gl ≠ gb ∧ gm ≠ gs ∧ gm ≠ gb ∧ ge ≠ gs ∧ ge ≠ gb) :
    ∀ (n : Nat) (i : Int), 0 ≤ i → i.toNat + n = l.length →
    ∀ (w : World) (B : Option Addr) (cs : Nat) (set : List Int) (wk py : Int) (st : List Int × Int),
      (∀ W', Kept w W' (fun k => k = gb ∨ k = gs) → Kd.C (Kd.int .i64) W' B set.length set) → set.length + n ≤ 10 → set.length ≤ cs →
      ChW w0 A c l need gl gm gb gs ge w st →
      Calls Tryd.prog 30 #[.slice B set.length cs, .int .i64 i, .int .i64 wk, .int .i64 py, .pointer (some ⟨gm, 0, none⟩), .pointer (some ⟨gs, 0, none⟩), .pointer (some ⟨gb, 0, none⟩), .pointer (some ⟨gl, 0, none⟩), .pointer (some ⟨ge, 0, none⟩)] w
        fun e w' => e = .returned (.tuple #[]) ∧ Kept w w' (fun k => k = gb ∨ k = gs) ∧ ChW w0 A c l need gl gm gb gs ge w' (chAll mn pa need (l.drop i.toNat) i set wk py (chUpd need set wk py st)) := by
  intro n
  induction n using Nat.strongRecOn with
  | ind n ih =>
  intro i hi0 hir w B cs set wk py st hset hsl hsc hW
  have HW := Aside0.mk hW
  obtain ⟨HB, HL, HM, HE, HS, v, HV, HR⟩ := hW
  have hx1 := blk_cell HL 0
  have hx2 := blk_cell HM 0
  have hx3 := blk_cell HE 0
  have hx4 := blk_cell HS 0
  have hx5 := blk_cell HV 0
  have hf4 := blk_frozen HS 0
  have hf5 := blk_frozen HV 0
  simp only [List.getElem?_toArray, List.getElem?_cons_zero] at hx1 hx2 hx3 hx4 hx5
  have HX := Aside0.mk HB
  clear HB
  have IH := Aside0.mk ih
  clear ih
  have HSET := Aside0.mk hset
  clear hset
  have h4 : (¬ wk ≥ need) ∨ (wk ≥ need ∧ st.2 < 0) ∨ (wk ≥ need ∧ ¬ st.2 < 0 ∧ py < st.2) ∨ (wk ≥ need ∧ ¬ st.2 < 0 ∧ ¬ py < st.2) := by omega
  refine h4.elim (fun q => ?a) (fun q => q.elim (fun q => ?b) (fun q => q.elim (fun q => ?c) (fun q => ?d)))
  case' a =>
    have d1 : decide (wk ≥ need) = false := decide_eq_false q
    have E := Aside0.mk (show chUpd need set wk py st = st by unfold chUpd; rw [if_neg q])
    clear q h4
    go_enter Tryd.func30, Tryd.ntmps30
    go_upto_if 26 with (fail)
    go_cut [26] (fun v26 wc => Aside0 (Kept w wc (fun k => k = gb ∨ k = gs)) ∧ Aside0 (ChW w0 A c l need gl gm gb gs ge wc (chUpd need set wk py st)))
    case first =>
      go_wp2
      go_meet
      case rel => exact ⟨⟨Kept.refl _ _⟩, ⟨by rw [E.out]; exact ⟨HX.out, HL, HM, HE, HS, v, HV, HR⟩⟩⟩
  case' d =>
    have d1 : decide (wk ≥ need) = true := decide_eq_true q.1
    have d2 : decide (st.2 < 0) = false := decide_eq_false q.2.1
    have d3 : decide (py < st.2) = false := decide_eq_false q.2.2
    have E := Aside0.mk (show chUpd need set wk py st = st by unfold chUpd; rw [if_pos q.1, if_neg q.2.1, if_neg q.2.2])
    clear q h4
    go_enter Tryd.func30, Tryd.ntmps30
    go_upto_if 26 with (fail)
    go_cut [26] (fun v26 wc => Aside0 (Kept w wc (fun k => k = gb ∨ k = gs)) ∧ Aside0 (ChW w0 A c l need gl gm gb gs ge wc (chUpd need set wk py st)))
    case first =>
      go_wp2
      go_meet
      case rel => exact ⟨⟨Kept.refl _ _⟩, ⟨by rw [E.out]; exact ⟨HX.out, HL, HM, HE, HS, v, HV, HR⟩⟩⟩
  case' b =>
    have d1 : decide (wk ≥ need) = true := decide_eq_true q.1
    have d2 : decide (st.2 < 0) = true := decide_eq_true q.2
    have E := Aside0.mk (show chUpd need set wk py st = (set, py) by unfold chUpd; rw [if_pos q.1, if_pos q.2])
    clear q h4
    go_enter Tryd.func30, Tryd.ntmps30
    go_upto_if 26 with (fail)
    go_cut [26] (fun v26 wc => Aside0 (Kept w wc (fun k => k = gb ∨ k = gs)) ∧ Aside0 (ChW w0 A c l need gl gm gb gs ge wc (chUpd need set wk py st)))
    case first =>
      go_wp2_with (first | ((with_reducible refine gate_dst (N := 27) rfl ?_); refine Kd.R_lit (Kd.int .i64) _ 2 ?hg (N := 27) ?hd (xs := ([] : List Int)) (inner := []) (ok := fun _ => True) (okp := fun _ => True) ?hr ?hp (fun _ hk => hk) trivial (Below.refl _ _) (Nat.le_refl _) (by simp) ?_; (case hd => rfl); (case hg => rfl); (case hr => first | (go_simp; done) | (go_simp; rfl)); (case hp => exact (Reps.none _ _)); intro v3 w3 ho3 hb_ hg_ hnew_; clear hg_ hnew_; have HB3 := Aside0.mk hb_; have HO3 := Aside0.mk ho3; clear hb_ ho3) | ((with_reducible refine gate_builtin (b := .append) (xs := #[.tmp 27, .tmp 28]) rfl ?_); at_builtin; refine Kd.R_append_rows (Kd.int .i64) (w0 := w) w.heap.size rfl (.tmp 27) (.tmp 28) 27 2 (.int .i64 0) 8 rfl Tryd.underlying27 info2 rfl (by decide) (by omega) v3 ([] : List Int) set _ _ _ (fun _ => True) (fun _ => False) rfl rfl ?aO ?aR (fun _ _ h => h) (fun _ h => h.elim) ?aF ?aB ?aS ?aL ?_; (case aR => exact HSET.out _ (Kept.of_below HB3.out _)); (case aB => exact HB3.out); (case aF => exact (fun _ _ => trivial)); (case aO => exact HO3.out); (case aS => exact (below_size HB3.out)); (case aL => simp only [List.length_nil]; omega); intro v5 w5 ho5 hb5 hg5 hat5; clear hat5 hg5; have HB5 := Aside0.mk hb5; rw [List.nil_append] at ho5; obtain ⟨Av, cv, rfl⟩ := Kd.R_slice ho5; have HO5 := Aside0.mk ho5; have hs5 := blk_below HS hb5; have hv5 := blk_below HV hb5; have hv6 := blk_set hv5 0 (.slice Av set.length cv); have hs6 := blk_far hs5 (p := ⟨gb, 0, none⟩) (by exact hd.1) (.slice Av set.length cv); have hx6 := blk_cell hv5 0; have hx7 := blk_cell hs6 0; have hf6 := blk_frozen hv5 0; have hf7 := blk_frozen hs6 0; simp only [List.getElem?_toArray, List.getElem?_cons_zero] at hx6 hx7; have HS5 := Aside0.mk hs5; have HV5 := Aside0.mk hv5; clear hb5 ho5 hs5 hv5 hv6 hs6))
      go_meet
      case rel =>
        have hw := chw_store HW.out hd hg0 hg1 HB5.out HO5.out py
        exact ⟨⟨hw.1⟩, ⟨by rw [E.out]; exact hw.2⟩⟩
  case' c =>
    have d1 : decide (wk ≥ need) = true := decide_eq_true q.1
    have d2 : decide (st.2 < 0) = false := decide_eq_false q.2.1
    have d3 : decide (py < st.2) = true := decide_eq_true q.2.2
    have E := Aside0.mk (show chUpd need set wk py st = (set, py) by unfold chUpd; rw [if_pos q.1, if_neg q.2.1, if_pos q.2.2])
    clear q h4
    go_enter Tryd.func30, Tryd.ntmps30
    go_upto_if 26 with (fail)
    go_cut [26] (fun v26 wc => Aside0 (Kept w wc (fun k => k = gb ∨ k = gs)) ∧ Aside0 (ChW w0 A c l need gl gm gb gs ge wc (chUpd need set wk py st)))
    case first =>
      go_wp2_with (first | ((with_reducible refine gate_dst (N := 27) rfl ?_); refine Kd.R_lit (Kd.int .i64) _ 2 ?hg (N := 27) ?hd (xs := ([] : List Int)) (inner := []) (ok := fun _ => True) (okp := fun _ => True) ?hr ?hp (fun _ hk => hk) trivial (Below.refl _ _) (Nat.le_refl _) (by simp) ?_; (case hd => rfl); (case hg => rfl); (case hr => first | (go_simp; done) | (go_simp; rfl)); (case hp => exact (Reps.none _ _)); intro v3 w3 ho3 hb_ hg_ hnew_; clear hg_ hnew_; have HB3 := Aside0.mk hb_; have HO3 := Aside0.mk ho3; clear hb_ ho3) | ((with_reducible refine gate_builtin (b := .append) (xs := #[.tmp 27, .tmp 28]) rfl ?_); at_builtin; refine Kd.R_append_rows (Kd.int .i64) (w0 := w) w.heap.size rfl (.tmp 27) (.tmp 28) 27 2 (.int .i64 0) 8 rfl Tryd.underlying27 info2 rfl (by decide) (by omega) v3 ([] : List Int) set _ _ _ (fun _ => True) (fun _ => False) rfl rfl ?aO ?aR (fun _ _ h => h) (fun _ h => h.elim) ?aF ?aB ?aS ?aL ?_; (case aR => exact HSET.out _ (Kept.of_below HB3.out _)); (case aB => exact HB3.out); (case aF => exact (fun _ _ => trivial)); (case aO => exact HO3.out); (case aS => exact (below_size HB3.out)); (case aL => simp only [List.length_nil]; omega); intro v5 w5 ho5 hb5 hg5 hat5; clear hat5 hg5; have HB5 := Aside0.mk hb5; rw [List.nil_append] at ho5; obtain ⟨Av, cv, rfl⟩ := Kd.R_slice ho5; have HO5 := Aside0.mk ho5; have hs5 := blk_below HS hb5; have hv5 := blk_below HV hb5; have hv6 := blk_set hv5 0 (.slice Av set.length cv); have hs6 := blk_far hs5 (p := ⟨gb, 0, none⟩) (by exact hd.1) (.slice Av set.length cv); have hx6 := blk_cell hv5 0; have hx7 := blk_cell hs6 0; have hf6 := blk_frozen hv5 0; have hf7 := blk_frozen hs6 0; simp only [List.getElem?_toArray, List.getElem?_cons_zero] at hx6 hx7; have HS5 := Aside0.mk hs5; have HV5 := Aside0.mk hv5; clear hb5 ho5 hs5 hv5 hv6 hs6))
      go_meet
      case rel =>
        have hw := chw_store HW.out hd hg0 hg1 HB5.out HO5.out py
        exact ⟨⟨hw.1⟩, ⟨by rw [E.out]; exact hw.2⟩⟩
  all_goals
    obtain ⟨HK0, HW0⟩ := hcut
    go_wp2
    go_loopg [13] (l.length + 1 - i.toNat) (fun kq v13 w' => ∃ (j : Int) (sj : List Int × Int), v13 = .int .i64 j ∧ i ≤ j ∧ j ≤ l.length ∧ kq = l.length + 1 - j.toNat ∧ Aside0 (chAll mn pa need (l.drop j.toNat) j set wk py sj = chAll mn pa need (l.drop i.toNat) i set wk py (chUpd need set wk py st)) ∧ Aside0 (Kept w w' (fun k => k = gb ∨ k = gs)) ∧ Aside0 (ChW w0 A c l need gl gm gb gs ge w' sj))
    case atStart => exact ⟨i, chUpd need set wk py st, rfl, Int.le_refl _, by omega, rfl, ⟨rfl⟩, HK0, HW0⟩
    case round =>
      clear HK0 HW0 HW HL HM HE HS HV HR hx1 hx2 hx3 hx4 hx5 hf4 hf5 HX E
      obtain ⟨j, sj, rfl, hj0, hj, hk, HI, HK, HW⟩ := hrel
      obtain ⟨HB, HL, HM, HE, HS, v, HV, HR⟩ := HW.out
      have hx1 := blk_cell HL 0
      have hx3 := blk_cell HE 0
      simp only [List.getElem?_toArray, List.getElem?_cons_zero] at hx1 hx3
      have HN := Aside0.mk (And.intro hj0 (And.intro hj hk))
      have HX := Aside0.mk HB
      have HSV := Aside0.mk (And.intro HL HE)
      clear HB HL HM HE HS HV HR hj0 hj hk
      refine (Decidable.em (j < (l.length : Int))).elim (fun q => ?in_) (fun q => ?out_)
      case out_ =>
        have d1 : decide (j < (l.length : Int)) = false := decide_eq_false q
        have Q := Aside0.mk q
        clear q
        go_wp2
        go_end0
        have h := HI.out
        rw [List.drop_eq_nil_of_le (by have := Q.out; have := HN.out; omega)] at h
        refine ⟨rfl, HK.out, ?_⟩
        rw [← h]
        exact HW.out
      case in_ =>
        have d1 : decide (j < (l.length : Int)) = true := decide_eq_true q
        have Q := Aside0.mk q
        clear q
        go_wp2_with (first | ((with_reducible refine gate_dst (N := 38) rfl ?_); refine Kd.R_lit (Kd.int .i64) _ 2 ?hg (N := 38) ?hd (xs := ([] : List Int)) (inner := []) (ok := fun _ => True) (okp := fun _ => True) ?hr ?hp (fun _ hk => hk) trivial (Below.refl _ _) (Nat.le_refl _) (by simp) ?_; (case hd => rfl); (case hg => rfl); (case hr => first | (go_simp; done) | (go_simp; rfl)); (case hp => exact (Reps.none _ _)); intro v3 w3 ho3 hb_ hg_ hnew_; clear hg_ hnew_; have HB3 := Aside0.mk hb_; have HO3 := Aside0.mk ho3; clear hb_ ho3) | ((with_reducible refine gate_builtin (b := .append) (xs := #[.tmp 38, .tmp 39]) rfl ?_); at_builtin; refine Kd.R_append_rows (Kd.int .i64) (w0 := wr) wr.heap.size rfl (.tmp 38) (.tmp 39) 27 2 (.int .i64 0) 8 rfl Tryd.underlying27 info2 rfl (by decide) (by omega) v3 ([] : List Int) set _ _ _ (fun _ => True) (fun _ => False) rfl rfl ?aO ?aR (fun _ _ h => h) (fun _ h => h.elim) ?aF ?aB ?aS ?aL ?_; (case aR => exact HSET.out _ (HK.out.below HB3.out)); (case aB => exact HB3.out); (case aF => exact (fun _ _ => trivial)); (case aO => exact HO3.out); (case aS => exact (below_size HB3.out)); (case aL => simp only [List.length_nil]; omega); intro v5 w5 ho5 hb5 hg5 hat5; clear hat5 hg5; rw [List.nil_append] at ho5; have HB5 := Aside0.mk hb5; have HO5 := Aside0.mk ho5; clear hb5 ho5) | ((with_reducible refine gate_builtin (b := .append) (xs := #[.tmp 40, .tmp 42]) rfl ?_); at_builtin; refine Kd.R_append (Kd.int .i64) (w0 := wr) wr.heap.size rfl (.tmp 40) (.tmp 42) 27 2 (.int .i64 0) 8 rfl Tryd.underlying27 info2 rfl (by decide) (by omega) v5 set j [.int .i64 j] (fun _ => True) (fun _ => False) rfl (by first | (go_simp; done) | (go_simp; rfl)) ?aP (fun _ hk => hk.elim) ?aF ?aO ?aB ?aS ?aL ?_; (case aP => exact rfl); (case aB => exact HB5.out); (case aF => exact (fun _ _ => trivial)); (case aO => exact HO5.out); (case aS => exact (below_size HB5.out)); (case aL => omega); intro v7 w7 ho7 hb7 hg7 hat7; clear hat7 hg7; obtain ⟨Av, cv, rfl⟩ := Kd.R_slice ho7; have HB7 := Aside0.mk hb7; have HO7 := Aside0.mk ho7; have hl7 := blk_below HSV.out.1 hb7; have he7 := blk_below HSV.out.2 hb7; have hy1 := blk_cell hl7 0; have hy3 := blk_cell he7 0; simp only [List.getElem?_toArray, List.getElem?_cons_zero] at hy1 hy3; clear hb7 ho7 hl7 he7))
        have hB7 := below_step HX.out HB7.out
        have p1 : 0 ≤ j := by have := HN.out; omega
        have hlt : j.toNat < l.length := by have := Q.out; omega
        have hmem : rd_T33 l j ∈ l := by
          rw [show rd_T33 l j = l[j.toNat] by simp [rd_T33, List.getD_eq_getElem?_getD, List.getElem?_eq_getElem hlt]]
          exact List.getElem_mem hlt
        have HMN := Aside0.mk (hmn _ hmem)
        have HPA := Aside0.mk (hpa _ hmem)
        clear hlt hmem
        obtain ⟨ad, A1, c2, eA, hz0, hz1, hz2, hl1, hi1⟩ := at_T33 hr j p1 Q.out
        subst eA
        have hq1 := eq_true p1
        have hq2 := eq_true Q.out
        have HZ := Aside0.mk (And.intro hz0 (And.intro hz1 hz2))
        have HI1 := Aside0.mk hi1
        have HL1 := Aside0.mk hl1
        replace hz0 := (hB7.cell (World.block_lt_of_cell? w0 _ hz0)).trans hz0
        replace hz1 := (hB7.cell (World.block_lt_of_cell? w0 _ hz1)).trans hz1
        replace hz2 := (hB7.cell (World.block_lt_of_cell? w0 _ hz2)).trans hz2
        have HB8 := Aside0.mk hB7
        have WJ := Aside0.mk (show wrap64 (j + 1) = j + 1 by have := HN.out; have := Q.out; unfold wrap64; omega)
        have HB8d := Aside0.mk (below_drew1 hB7)
        have HB7d := Aside0.mk (below_drew1 HB7.out)
        have HO7d := Aside0.mk (Kd.R_drew HO7.out)
        have IHJ : Aside0 (∀ w9, Below wr.heap.size wr w9 → Below w7.drew.heap.size w7.drew w9 → Calls Tryd.prog 30 #[.slice Av (set.length + 1) cv, .int .i64 (wrap64 (j + 1)), .int .i64 (wrap64 (wk + mn (rd_T33 l j))), .int .i64 (wrap64 (py + pa (rd_T33 l j))), .pointer (some ⟨gm, 0, none⟩), .pointer (some ⟨gs, 0, none⟩), .pointer (some ⟨gb, 0, none⟩), .pointer (some ⟨gl, 0, none⟩), .pointer (some ⟨ge, 0, none⟩)] w9
            fun e w' => e = .returned (.tuple #[]) ∧ Kept w9 w' (fun k => k = gb ∨ k = gs) ∧ ChW w0 (some ad) c l need gl gm gb gs ge w' (chAll mn pa need (l.drop (j + 1).toNat) (j + 1) (set ++ [j]) (wrap64 (wk + mn (rd_T33 l j))) (wrap64 (py + pa (rd_T33 l j))) (chUpd need (set ++ [j]) (wrap64 (wk + mn (rd_T33 l j))) (wrap64 (py + pa (rd_T33 l j))) sj))) := ⟨by
          intro w9 h1 h2
          have hn := HN.out
          have hq := Q.out
          have ih := IH.out (l.length - j.toNat - 1) (by omega) (j + 1) (by omega) (by omega) w9 Av cv (set ++ [j]) (wrap64 (wk + mn (rd_T33 l j))) (wrap64 (py + pa (rd_T33 l j))) sj (chw_set HW.out HO7d.out HB7d.out h2) (by rw [List.length_append, List.length_singleton]; omega) (Kd.R_reads' HO7.out).2.1 (chw_below HW.out h1)
          rw [List.length_append, List.length_singleton] at ih
          rw [WJ.out]
          exact ih⟩
        clear hB7 p1 hl1 hi1
        go_region_held3 (fun w' => w'.cell? ⟨gl, 0, none⟩ = some (.slice (some ad) l.length c) ∧ w'.cell? ⟨ge, 0, none⟩ = some (.func (.func 30) #[] #[.pointer (some ⟨gm, 0, none⟩), .pointer (some ⟨gs, 0, none⟩), .pointer (some ⟨gb, 0, none⟩), .pointer (some ⟨gl, 0, none⟩), .pointer (some ⟨ge, 0, none⟩)]) ∧ w'.cell? (ad.add (j.toNat * 3)) = some (.string (rd_T33 l j).f0) ∧ w'.cell? ⟨(ad.add (j.toNat * 3)).block, (ad.add (j.toNat * 3)).off + 1, none⟩ = some (.slice A1 (rd_T33 l j).f1.length c2) ∧ w'.cell? ⟨(ad.add (j.toNat * 3)).block, (ad.add (j.toNat * 3)).off + 2, none⟩ = some (.int .i64 (rd_T33 l j).f2)) (first | assumption | go_keep)
          (first
            | (go_at_call 31; refine (impl_extraMinutes.calls k _ _ _ _ _ 0 (mn (rd_T33 l j)) _ (Kd.C_below HI1.out HB8d.out) HL1.out HMN.out).mono ?_; rintro e w8 ⟨rfl, hb8⟩; have HB7b := Aside0.mk (below_step HB7d.out hb8); have HB7f := Aside0.mk hb8; have HB9 := Aside0.mk (below_step HB8d.out hb8); have hS8 := chw_cells HB9.out HZ.out HSV.out HB7b.out; clear hb8)
            | (go_at_call 32; refine (impl_payOf.calls k _ _ _ _ _ 1440 0 (pa (rd_T33 l j)) _ (Kd.C_below HI1.out HB9.out) HL1.out HPA.out).mono ?_; rintro e w9 ⟨rfl, hb9⟩; have HB7c := Aside0.mk (below_step HB7b.out hb9); have HB7e := Aside0.mk (below_step HB7f.out hb9); have HB10 := Aside0.mk (below_step HB9.out hb9); have hS9 := chw_cells HB10.out HZ.out HSV.out HB7c.out; clear hb9)
            | (go_at_call 30; simp only [i64_w]; refine (IHJ.out _ HB7c.out HB7e.out).mono ?_; rintro e w10 ⟨rfl, hk10, hw10⟩; have HK10 := Aside0.mk hk10; have HW10 := Aside0.mk hw10; have hS10 := chw_cells2 HZ.out hw10; clear hk10 hw10))
        clear hz0 hz1 hz2 hS8 hS9 hS10 hx1 hx3 hy1 hy3 hq1 hq2
        go_wp2
        go_roundg (l.length - j.toNat)
        case measure => have := HN.out; have := Q.out; omega
        case rel =>
          have hn := HN.out
          have hq := Q.out
          have hd2 : l.drop j.toNat = rd_T33 l j :: l.drop (j + 1).toNat := by
            have hlt : j.toNat < l.length := by omega
            rw [List.drop_eq_getElem_cons hlt, show (j + 1).toNat = j.toNat + 1 by omega]
            congr 1
            simp [rd_T33, List.getD_eq_getElem?_getD, List.getElem?_eq_getElem hlt]
          have hI := HI.out
          rw [hd2, chAll] at hI
          exact ⟨j + 1, _, by rw [WJ.out], by omega, by omega, by omega, ⟨hI⟩, ⟨(HK.out.below HB7c.out).then_ HK10.out (fun k hk => .inl hk)⟩, HW10⟩

/-- The result of the search over all sets. -/
def chRes (mn pa : S33 → Int) (need : Int) (l : List S33) : List Int × Int × Int :=
  if (chAll mn pa need l 0 [] 0 0 (chUpd need [] 0 0 ([], -1))).2 < 0 then ([], 0, 3)
  else ((chAll mn pa need l 0 [] 0 0 (chUpd need [] 0 0 ([], -1))).1, (chAll mn pa need l 0 [] 0 0 (chUpd need [] 0 0 ([], -1))).2, 0)

theorem chw_start {w w2 w3 : World} {A : Option Addr} {c : Nat} {l : List S33} {need : Int} {Av : Option Addr} {cv : Nat} (HB : Below w.heap.size w w3)
    (HL : w3.heap[w.heap.size]? = some (.cells #[.slice A l.length c] 24 (0, 0))) (HM : w3.heap[w.heap.size + 1]? = some (.cells #[.int .i64 need] 2 (0, 0)))
    (HO : Kd.R (Kd.int .i64) 2 w3 w2.heap.size (fun _ => True) (.slice Av 0 cv) []) (hle : w.heap.size ≤ w2.heap.size) :
    ChW w A c l need w.heap.size (w.heap.size + 1) w3.heap.size (w3.heap.size + 1) (w3.heap.size + 1 + 1) (((w3.alloc (.cells #[.slice Av 0 cv] 27)).alloc (.cells #[.int .i64 (-1)] 2)).alloc
      (.cells #[.func (.func 30) #[] #[.pointer (some ⟨w.heap.size + 1, 0, none⟩), .pointer (some ⟨w3.heap.size + 1, 0, none⟩), .pointer (some ⟨w3.heap.size, 0, none⟩), .pointer (some ⟨w.heap.size, 0, none⟩), .pointer (some ⟨w3.heap.size + 1 + 1, 0, none⟩)]] 62)) ([], -1) := by
  have e1 : (w3.alloc (.cells #[.slice Av 0 cv] 27)).heap.size = w3.heap.size + 1 := by simp
  have e2 : ((w3.alloc (.cells #[.slice Av 0 cv] 27)).alloc (.cells #[.int .i64 (-1)] 2)).heap.size = w3.heap.size + 1 + 1 := by simp
  refine ⟨below_alloc (below_alloc (below_alloc HB _) _) _, blk_alloc (blk_alloc (blk_alloc HL _) _) _, blk_alloc (blk_alloc (blk_alloc HM _) _) _, ?_, ?_, .slice Av 0 cv, blk_alloc (blk_alloc (blk_new _ _) _) _, ?_⟩
  · have h := blk_new ((w3.alloc (.cells #[.slice Av 0 cv] 27)).alloc (.cells #[.int .i64 (-1)] 2)) (.cells #[.func (.func 30) #[] #[.pointer (some ⟨w.heap.size + 1, 0, none⟩), .pointer (some ⟨w3.heap.size + 1, 0, none⟩), .pointer (some ⟨w3.heap.size, 0, none⟩), .pointer (some ⟨w.heap.size, 0, none⟩), .pointer (some ⟨w3.heap.size + 1 + 1, 0, none⟩)]] 62)
    rw [e2] at h
    exact h
  · have h := blk_new (w3.alloc (.cells #[.slice Av 0 cv] 27)) (.cells #[.int .i64 (-1)] 2)
    rw [e1] at h
    exact blk_alloc h _
  · exact Kd.R_alloc (Kd.R_alloc (Kd.R_alloc (Kd.R_mono (Kd.R_lower (Kd.R_bound HO) hle) (fun k hk => ⟨by have := hk.2.2.1; omega, by have := hk.2.2.1; omega⟩)) _) _) _

set_option maxHeartbeats 8000000 in
set_option maxRecDepth 100000 in
theorem hand7 (mn pa : S33 → Int) (k : Nat) (A : Option Addr) (c : Nat) (l : List S33) (need : Int) (v t : Bool) (w : World)
    (hr : Kd.C k33 w A l.length l) (hlc : l.length ≤ c) (hv : impl_ValidHands.f k l = some v) (ht : impl_within.f need 0 20000 = some t)
    (h10 : v = true → t = true → l.length ≤ 10)
    (hmn : v = true → t = true → ∀ x ∈ l, impl_extraMinutes.f k x.f0 x.f1 x.f2 0 = some (mn x)) (hpa : v = true → t = true → ∀ x ∈ l, impl_payOf.f k x.f0 x.f1 x.f2 1440 0 = some (pa x))
    (r1 : List Int) (r2 r3 : Int) (hres : (if v = true then if t = true then chRes mn pa need l else ([], 0, 2) else ([], 0, 1)) = (r1, r2, r3)) :
    Calls Tryd.prog 8 #[.slice A l.length c, .int .i64 need] w fun e w' => ∃ v0_ : Value, e = .returned (.tuple #[v0_, .int .i64 r2, .int .i64 r3]) ∧ Kd.R (Kd.int .i64) 2 w' w.heap.size (fun _ => True) v0_ r1 ∧ Below w.heap.size w w' := by
  have HRES := Aside0.mk hres
  clear hres
  have HR := Aside0.mk hr
  have HV := Aside0.mk hv
  have HT := Aside0.mk ht
  have H10 := Aside0.mk h10
  have HMN := Aside0.mk hmn
  have HPA := Aside0.mk hpa
  clear hr hv ht h10 hmn hpa
  go_enter Tryd.func8, Tryd.ntmps8
  go_wp2_with (fail)
  refine (impl_ValidHands.calls k A c l v _ (Kd.C_alloc (Kd.C_alloc HR.out _) _) hlc HV.out).mono ?_
  rintro e w1 ⟨rfl, hb1⟩
  have hb := below_step (below_alloc (below_alloc (Below.refl w.heap.size w) (.cells #[.slice A l.length c] 24)) (.cells #[.int .i64 need] 2)) hb1
  have hL := blk_below (blk_alloc (blk_new w (.cells #[.slice A l.length c] 24)) (.cells #[.int .i64 need] 2)) hb1
  have hM : w1.heap[w.heap.size + 1]? = some (.cells #[.int .i64 need] 2 (0, 0)) := by
    have h := blk_below (blk_new (w.alloc (.cells #[.slice A l.length c] 24)) (.cells #[.int .i64 need] 2)) hb1
    simpa using h
  have hx1 : w1.cell? ⟨w.heap.size, 0, none⟩ = some (.slice A l.length c) := (blk_cell hL 0).trans rfl
  have hx2 : w1.cell? ⟨w.heap.size + 1, 0, none⟩ = some (.int .i64 need) := (blk_cell hM 0).trans rfl
  have HB := Aside0.mk hb
  have HL := Aside0.mk hL
  have HM := Aside0.mk hM
  clear hb1 hb hL hM
  cases v
  · have hq : ([], (0 : Int), (1 : Int)) = (r1, r2, r3) := HRES.out
    cases hq
    go_wp2
    go_ret3
    exact ⟨_, rfl, Kd.R_nil _ _ _ _ _, HB.out⟩
  go_wp2_with (fail)
  refine (impl_within.calls need 0 20000 t _ HT.out).mono ?_
  rintro e w2 ⟨rfl, nd, rfl⟩
  cases t
  · have hq : ([], (0 : Int), (2 : Int)) = (r1, r2, r3) := HRES.out
    cases hq
    go_wp2
    go_ret3
    exact ⟨_, rfl, Kd.R_nil _ _ _ _ _, pw_below_drewN HB.out _⟩
  have hy1 : (w1.drewN nd).cell? ⟨w.heap.size, 0, none⟩ = some (.slice A l.length c) := hx1
  have hy2 : (w1.drewN nd).cell? ⟨w.heap.size + 1, 0, none⟩ = some (.int .i64 need) := hx2
  have HB2 := Aside0.mk (pw_below_drewN HB.out nd)
  have HL2 : Aside0 ((w1.drewN nd).heap[w.heap.size]? = some (.cells #[.slice A l.length c] 24 (0, 0))) := HL
  have HM2 : Aside0 ((w1.drewN nd).heap[w.heap.size + 1]? = some (.cells #[.int .i64 need] 2 (0, 0))) := HM
  clear hx1 hx2 HB HL HM
  revert hy1 hy2 HB2 HL2 HM2
  generalize w1.drewN nd = w2
  intro hy1 hy2 HB2 HL2 HM2
  have hsf := fun (a : Addr) (c : Array Value) (w : World) => run_store Tryd.prog w a (.func (.func 30) #[] c) .plain rfl
  go_wp2_with (first | ((with_reducible refine gate_dst (N := 16) rfl ?_); refine Kd.R_lit (Kd.int .i64) _ 2 ?hg (N := 16) ?hd (xs := ([] : List Int)) (inner := []) (ok := fun _ => True) (okp := fun _ => True) ?hr ?hp (fun _ hk => hk) trivial (Below.refl _ _) (Nat.le_refl _) (by simp) ?_; (case hd => rfl); (case hg => rfl); (case hr => first | (go_simp; done) | (go_simp; rfl)); (case hp => exact (Reps.none _ _)); intro v3 w3 ho3 hb_ hg_ hnew_; clear hg_ hnew_; obtain ⟨Av, cv, rfl⟩ := Kd.R_slice ho3; have HB3 := Aside0.mk hb_; have HO3 := Aside0.mk ho3; clear hb_ ho3))
  have hst := chw_start (need := need) (l := l) (c := c) (A := A) (below_step HB2.out HB3.out) (blk_below HL2.out HB3.out) (blk_below HM2.out HB3.out) HO3.out HB2.out.size
  have hsz := Nat.le_trans HB2.out.size HB3.out.size
  refine (hand20 mn pa k w A c l need w.heap.size (w.heap.size + 1) w3.heap.size (w3.heap.size + 1) (w3.heap.size + 1 + 1) HR.out hlc (H10.out trivial trivial) (HMN.out trivial trivial) (HPA.out trivial trivial)
    (by omega) hsz (by have := blk_lt HM2.out; have := HB3.out.size; omega) l.length 0 (Int.le_refl _) (by simp) _ none 0 [] 0 0 ([], -1) (fun W' _ => Kd.C_nil _ _) (by have := H10.out trivial trivial; simpa using this) (Nat.le_refl _) hst).mono ?_
  rintro e w4 ⟨rfl, hk4, hw4⟩
  have HE : chAll mn pa need (l.drop (0 : Int).toNat) 0 [] 0 0 (chUpd need [] 0 0 ([], -1)) = chAll mn pa need l 0 [] 0 0 (chUpd need [] 0 0 ([], -1)) := rfl
  rw [HE] at hw4
  have hq : (if (chAll mn pa need l 0 [] 0 0 (chUpd need [] 0 0 ([], -1))).2 < 0 then ([], 0, 3) else ((chAll mn pa need l 0 [] 0 0 (chUpd need [] 0 0 ([], -1))).1, (chAll mn pa need l 0 [] 0 0 (chUpd need [] 0 0 ([], -1))).2, (0 : Int))) = (r1, r2, r3) := HRES.out
  have HQ := Aside0.mk hq
  clear hq HE HRES
  revert hw4 HQ
  generalize chAll mn pa need l 0 [] 0 0 (chUpd need [] 0 0 ([], -1)) = st
  intro hw4 HQ
  have hs1 := (blk_cell hw4.hs 0).trans rfl
  have HW4 := Aside0.mk hw4
  obtain ⟨vb, hvb, hRb⟩ := hw4.hb
  have hs2 := (blk_cell hvb 0).trans rfl
  obtain ⟨Ab, cb, rfl⟩ := Kd.R_slice hRb
  have HRB := Aside0.mk hRb
  simp only [List.getElem?_toArray, List.getElem?_cons_zero] at hs1 hs2
  clear hw4 hvb hRb hst hk4
  refine (Decidable.em (st.2 < 0)).elim (fun q => ?neg_) (fun q => ?fnd_)
  case neg_ =>
    have hq : ([], (0 : Int), (3 : Int)) = (r1, r2, r3) := by rw [← HQ.out, if_pos q]
    have d1 : decide (st.2 < 0) = true := decide_eq_true q
    clear q HQ
    cases hq
    go_wp2
    go_ret3
    exact ⟨_, rfl, Kd.R_nil _ _ _ _ _, HW4.out.below⟩
  case fnd_ =>
    have hq : (st.1, st.2, (0 : Int)) = (r1, r2, r3) := by rw [← HQ.out, if_neg q]
    have d1 : decide (st.2 < 0) = false := decide_eq_false q
    clear q HQ
    cases hq
    go_wp2
    go_quiet (fail)
    go_wp2
    go_ret3
    exact ⟨_, rfl, Kd.R_drewN (Kd.R_mono HRB.out (fun _ _ => trivial)) _, pw_below_drewN HW4.out.below _⟩
def impl_CheapestHands.f (k : Nat) (l0 : List S33) (a1 : Int) : Option (List Int × Int × Int) :=
  (impl_ValidHands.f k l0).bind fun v => (impl_within.f a1 0 20000).bind fun t =>
    if v = true then if t = true then
      if l0.length ≤ 10 ∧ (l0.all fun x => (impl_extraMinutes.f k x.f0 x.f1 x.f2 0).isSome && (impl_payOf.f k x.f0 x.f1 x.f2 1440 0).isSome) = true then
        some (chRes (fun x => (impl_extraMinutes.f k x.f0 x.f1 x.f2 0).getD 0) (fun x => (impl_payOf.f k x.f0 x.f1 x.f2 1440 0).getD 0) a1 l0) else none
      else some ([], 0, 2) else some ([], 0, 1)
theorem some_getD {α : Type} {o : Option α} {z : α} (h : o.isSome = true) : o = some (o.getD z) := by
  cases o
  · cases h
  · rfl
theorem chAll_congr {mn mn' pa pa' : S33 → Int} {need : Int} : ∀ (l : List S33) (i : Int) (set : List Int) (wk py : Int) (st : List Int × Int), (∀ x ∈ l, mn x = mn' x ∧ pa x = pa' x) → chAll mn pa need l i set wk py st = chAll mn' pa' need l i set wk py st
  | [], _, _, _, _, _, _ => rfl
  | x :: xs, i, set, wk, py, st, h => by
    have hx := h x List.mem_cons_self
    have hs : ∀ y ∈ xs, mn y = mn' y ∧ pa y = pa' y := fun y hy => h y (List.mem_cons_of_mem _ hy)
    rw [chAll, chAll, hx.1, hx.2, chAll_congr xs (i + 1) (set ++ [i]) _ _ _ hs, chAll_congr xs (i + 1) set wk py _ hs]
theorem impl_CheapestHands.mono : ∀ a0 a1 k, LeO (impl_CheapestHands.f k a0 a1) (impl_CheapestHands.f (k + 1) a0 a1) := by
  intro l a k r h
  unfold impl_CheapestHands.f at h ⊢
  obtain ⟨v, hv, h⟩ := Option.bind_eq_some_iff.1 h
  obtain ⟨t, ht, h⟩ := Option.bind_eq_some_iff.1 h
  rw [impl_ValidHands.mono l k v hv, ht]
  simp only [Option.bind_some]
  cases v
  · exact h
  cases t
  · exact h
  simp only [if_true] at h ⊢
  split at h
  · rename_i c
    obtain ⟨c1, c2⟩ := c
    have hs : ∀ x ∈ l, impl_extraMinutes.f (k + 1) x.f0 x.f1 x.f2 0 = impl_extraMinutes.f k x.f0 x.f1 x.f2 0 ∧ impl_payOf.f (k + 1) x.f0 x.f1 x.f2 1440 0 = impl_payOf.f k x.f0 x.f1 x.f2 1440 0 := by
      intro x hx
      have hb := List.all_eq_true.1 c2 x hx
      rw [Bool.and_eq_true] at hb
      obtain ⟨b, hb1⟩ := Option.isSome_iff_exists.1 hb.1
      obtain ⟨b', hb2⟩ := Option.isSome_iff_exists.1 hb.2
      rw [hb1, hb2]
      exact ⟨impl_extraMinutes.mono _ _ _ _ k b hb1, impl_payOf.mono _ _ _ _ _ k b' hb2⟩
    rw [if_pos ⟨c1, List.all_eq_true.2 fun x hx => by rw [(hs x hx).1, (hs x hx).2]; exact List.all_eq_true.1 c2 x hx⟩]
    rw [← h]
    unfold chRes
    rw [chAll_congr l 0 [] 0 0 _ (fun x hx => ⟨by rw [(hs x hx).1], by rw [(hs x hx).2]⟩)]
  · cases h
theorem impl_CheapestHands.calls (k : Nat) (A0 : Option Addr) (c0 : Nat) (l0 : List (S33)) (a1 : Int) (r1 : List Int) (r2 : Int) (r3 : Int) (w : World) (hr0 : Kd.C k33 w A0 l0.length l0) (hc0 : l0.length ≤ c0) (h : impl_CheapestHands.f k l0 a1 = some (r1, r2, r3)) :
    Calls Tryd.prog 8 #[.slice A0 l0.length c0, .int .i64 a1] w fun e w' => ∃ v0_ : Value, e = .returned (.tuple #[v0_, .int .i64 r2, .int .i64 r3]) ∧ Kd.R (Kd.int .i64) 2 w' w.heap.size (fun _ => True) v0_ r1 ∧ Below w.heap.size w w' := by
  unfold impl_CheapestHands.f at h
  obtain ⟨v, hv, h⟩ := Option.bind_eq_some_iff.1 h
  obtain ⟨t, ht, h⟩ := Option.bind_eq_some_iff.1 h
  by_cases c : v = true ∧ t = true
  · obtain ⟨rfl, rfl⟩ := c
    simp only [if_true] at h
    split at h
    · rename_i c
      obtain ⟨c1, c2⟩ := c
      have hs : ∀ x ∈ l0, (impl_extraMinutes.f k x.f0 x.f1 x.f2 0).isSome = true ∧ (impl_payOf.f k x.f0 x.f1 x.f2 1440 0).isSome = true := fun x hx => by
        have hb := List.all_eq_true.1 c2 x hx
        rwa [Bool.and_eq_true] at hb
      exact hand7 _ _ k A0 c0 l0 a1 true true w hr0 hc0 hv ht (fun _ _ => c1) (fun _ _ x hx => some_getD (hs x hx).1) (fun _ _ x hx => some_getD (hs x hx).2) r1 r2 r3 (by simp only [if_true]; exact Option.some.inj h)
    · cases h
  · refine hand7 (fun _ => 0) (fun _ => 0) k A0 c0 l0 a1 v t w hr0 hc0 hv ht (fun h1 h2 => absurd ⟨h1, h2⟩ c) (fun h1 h2 => absurd ⟨h1, h2⟩ c) (fun h1 h2 => absurd ⟨h1, h2⟩ c) r1 r2 r3 ?_
    cases v
    · exact Option.some.inj h
    · cases t
      · exact Option.some.inj h
      · exact absurd ⟨rfl, rfl⟩ c


/-! ### spec_A2Some: function 9 -/
def spec_A2Some.l0 : Nat → Int → List Int → Int → List Int → Int → Int → Option (List Int)
  | 0, _, _, _, _, _, _ => none
  | k + 1, x1, x6, x7, x180000, x180001, x180002 => if x7 < x1 then ((spec_l00Src_one.f x180000 x180001 x180002 2).bind fun bt183 => (if bt183.1 = true then (if x6.length < 17592186044416 then (spec_A2Some.l0 k x1 (x6 ++ [x7]) (wrap64 (x7 + 1)) x180000 bt183.2.1 bt183.2.2) else (none)) else (spec_A2Some.l0 k x1 x6 (wrap64 (x7 + 1)) x180000 bt183.2.1 bt183.2.2))) else (some x6)
def spec_A2Some.f (k : Nat) (l0 : List Int) (a1 : Int) : Option (List Int) := (spec_l00From.f l0).bind fun bt176 => (spec_A2Some.l0 k a1 (([] : List Int)) 0 bt176.1 bt176.2.1 bt176.2.2)
theorem spec_A2Some.mono_l : ∀ k, (∀ y0 y1 y2 y3 y4 y5, LeO (spec_A2Some.l0 k y0 y1 y2 y3 y4 y5) (spec_A2Some.l0 (k + 1) y0 y1 y2 y3 y4 y5))
  | 0 => fun _ _ _ _ _ _ r h => by simp [spec_A2Some.l0] at h
  | k + 1 => by
    have ih0 := spec_A2Some.mono_l k
    · intro y0 y1 y2 y3 y4 y5
      unfold spec_A2Some.l0
      repeat' first
      | (with_reducible exact ih0 _ _ _ _ _ _)
      | (with_reducible exact LeO.refl _)
      | (with_reducible exact LeO.none _)
      | (with_reducible refine LeO.ite ?_ ?_)
      | (with_reducible refine LeO.bind ?_ (fun _ => ?_))
      | exact ih0 _ _ _ _ _ _
      | exact LeO.none _
      | refine LeO.ite ?_ ?_
      | refine LeO.bind ?_ (fun _ => ?_)
theorem spec_A2Some.mono : ∀ a0 a1 k, LeO (spec_A2Some.f k a0 a1) (spec_A2Some.f (k + 1) a0 a1) := by
  intro a0 a1 k
  have ih0 := spec_A2Some.mono_l k
  unfold spec_A2Some.f
  repeat' first
      | (with_reducible exact ih0 _ _ _ _ _ _)
      | (with_reducible exact LeO.refl _)
      | (with_reducible exact LeO.none _)
      | (with_reducible refine LeO.ite ?_ ?_)
      | (with_reducible refine LeO.bind ?_ (fun _ => ?_))
      | exact ih0 _ _ _ _ _ _
      | exact LeO.none _
      | refine LeO.ite ?_ ?_
      | refine LeO.bind ?_ (fun _ => ?_)
set_option maxHeartbeats 8000000 in
set_option maxRecDepth 100000 in
theorem spec_A2Some.calls (k : Nat) (A0 : Option Addr) (c0 : Nat) (l0 : List Int) (a1 : Int) (r : List Int) (w : World) (hr0 : Kd.C (Kd.int .u8) w A0 l0.length l0) (hc0 : l0.length ≤ c0) (h : spec_A2Some.f k l0 a1 = some r) :
    Calls Tryd.prog 9 #[.slice A0 l0.length c0, .int .i64 a1] w fun e w' => ∃ v0_ : Value, e = .returned (v0_) ∧ Kd.R (Kd.int .i64) 2 w' w.heap.size (fun _ => True) v0_ r ∧ Below w.heap.size w w' := by
  have HR0 := Aside0.mk hr0
  have HC0 := Aside0.mk hc0
  clear hr0 hc0
  have HB := Aside0.mk (Below.refl w.heap.size w)
  have H : ((spec_l00From.f l0).bind fun bt176 => (spec_A2Some.l0 k a1 (([] : List Int)) 0 bt176.1 bt176.2.1 bt176.2.2)) = some r := h
  clear h
  replace H := Option.bind_eq_some_iff.mp H
  obtain ⟨⟨t176, t177, t178⟩, A30, H⟩ := H
  replace H : (spec_A2Some.l0 k a1 (([] : List Int)) 0 t176 t177 t178) = some r := H
  have A3 := Aside0.mk A30
  clear A30
  obtain ⟨y180, hy180⟩ : ∃ y_ : List Int, y_ = (([] : List Int)) := ⟨_, rfl⟩
  replace H : (spec_A2Some.l0 k a1 y180 0 t176 t177 t178) = some r := by first | (rw [hy180]; with_reducible exact H) | (have H2_ := (Option.bind_some _ _).symm.trans H; rw [hy180]; with_reducible exact H2_) | (have H2_ := (Option.bind_some _ _).symm.trans H; with_reducible exact H2_) | with_reducible exact H | (rw [hy180]; exact H) | exact H
  have Ny180 := Aside0.mk hy180
  clear hy180
  have H' := Aside0.mk H
  clear H
  go_enter Tryd.func9, Tryd.ntmps9
  go_wp2_with (first | ((with_reducible refine gate_callee (f := 27) rfl ?_); refine goesL_ (some 9) rfl rfl Tryd.func27 (by kernel_rfl) rfl #[.slice A0 l0.length c0] rfl (by (try simp only [List.map_toArray, List.map_cons, List.map_nil]); first | done | rfl | (simp only [List.length_drop, List.length_take]; rfl)) ?_; (with_reducible refine (spec_l00From.calls _ _ l0 t176 t177 t178 w _ ?side1 ?side2 ?side3 A3.out).mono ?_); (case side1 => repeat (first | (with_reducible first | exact HB.out | apply below_alloc | apply pw_below_drewN | apply below_drew1) | exact HB.out)); (case side2 => exact HR0.out); (case side3 => exact HC0.out); rintro e w4 ⟨g179, rfl, hi, hb, hb2⟩; refine ⟨_, rfl, ?_⟩; have n0_ := Aside0.mk (hb); have n1_ := Aside0.mk (hi); clear HB; have HB := n0_; have HI179 := n1_; clear n0_ n1_; (try clear hb); (try clear hb2); (try clear hk); (try clear hi)) | ((with_reducible refine gate_dst (N := 10) rfl ?_); refine Kd.R_lit (Kd.int .i64) _ 2 ?hg (N := 10) ?hd (xs := ([] : List Int)) (inner := []) (ok := fun _ => True) (okp := fun _ => True) ?hr ?hp (fun _ hk => hk) trivial (Below.refl _ _) (Nat.le_refl _) (by simp) ?_; (case hd => rfl); (case hg => rfl); (case hr => first | (go_simp; done) | (go_simp; rfl)); (case hp => exact (Reps.none _ _)); intro v181 w5 ho6 hb hg_ hnew_; clear hg_ hnew_; (first | rw [← Ny180.out] at ho6 | (simp only [Int.reduceToNat] at ho6; rw [← Ny180.out] at ho6)); have n0_ := Aside0.mk (Kd.R_lower ho6 (below_size (by repeat (first | (with_reducible first | exact HB.out | apply below_alloc | apply pw_below_drewN | apply below_drew1 | refine below_set ?_ (IsS84.ge HI179.out)) | exact HB.out)))); have n1_ := Aside0.mk (IsS84.below (by repeat (first | (with_reducible first | exact HI179.out | apply IsS84.alloc | apply IsS84.drewN | apply IsS84.drew | apply IsS84.set_1 | apply IsS84.set_2) | exact HI179.out)) hb); have n2_ := Aside0.mk (below_step (by repeat (first | (with_reducible first | exact HB.out | apply below_alloc | apply pw_below_drewN | apply below_drew1 | refine below_set ?_ (IsS84.ge HI179.out)) | exact HB.out)) hb); clear HI179; clear HB; have HO182 := n0_; have HI179 := n1_; have HB := n2_; clear n0_ n1_ n2_; clear hb ho6))
  go_loopg [6, 7] k (fun kq v6 v7 w' => ∃ (x6_1 : List Int) (x7_1 : Int) (x180001_1 : Int) (x180002_1 : Int), v7 = .int .i64 x7_1 ∧ Aside0 (spec_A2Some.l0 kq a1 x6_1 x7_1 t176 x180001_1 x180002_1 = some r) ∧ Aside0 (kq ≤ k) ∧ Aside0 (Kd.R (Kd.int .i64) 2 w' w.heap.size (fun _ => True) v6 x6_1) ∧ Aside0 (IsS84 w w' g179 t176 x180001_1 x180002_1) ∧ Aside0 (Below w.heap.size w w'))
  case atStart => exact ⟨(y180), (0), (t177), (t178), (by first | rfl | (simp; done) | (simp [*]; done)), H', ⟨Nat.le_refl _⟩, ⟨by (with_reducible repeat (first | apply Kd.R_alloc | apply Kd.R_drewN | apply Kd.R_drew)); exact HO182.out⟩, ⟨by repeat (first | (with_reducible first | exact HI179.out | apply IsS84.alloc | apply IsS84.drewN | apply IsS84.drew | apply IsS84.set_1 | apply IsS84.set_2) | exact HI179.out)⟩, ⟨by repeat (first | (with_reducible first | exact HB.out | apply below_alloc | apply pw_below_drewN | apply below_drew1 | refine below_set ?_ (IsS84.ge HI179.out)) | exact HB.out)⟩⟩
  case round =>
    clear H'
    try clear c2
    try clear p2
    obtain ⟨x6_1, x7_1, x180001_1, x180002_1, rfl, HA, HK1, HO_6, HI179, HB⟩ := hrel
    cases gk with
    | zero => exact absurd HA.out (by simp [spec_A2Some.l0])
    | succ k1 =>
      have H := HA.out
      clear HA
      simp only [spec_A2Some.l0] at H
      by_cases c7 : x7_1 < a1
      · rw [if_pos c7] at H
        have c7b0 : decide (x7_1 < a1) = true := decide_eq_true c7
        clear c7
        replace H := Option.bind_eq_some_iff.mp H
        obtain ⟨⟨t183, t184, t185⟩, A80, H⟩ := H
        replace H : (if t183 = true then (if x6_1.length < 17592186044416 then (spec_A2Some.l0 k1 a1 (x6_1 ++ [x7_1]) (wrap64 (x7_1 + 1)) t176 t184 t185) else (none)) else (spec_A2Some.l0 k1 a1 x6_1 (wrap64 (x7_1 + 1)) t176 t184 t185)) = some r := H
        have A8 := Aside0.mk A80
        clear A80
        by_cases c9 : t183 = true
        · subst c9
          rw [if_pos rfl] at H
          by_cases c10 : x6_1.length < 17592186044416
          · rw [if_pos c10] at H
            have LMc10 := Aside0.mk c10
            clear c10
            obtain ⟨y186, hy186⟩ : ∃ y_ : List Int, y_ = (x6_1 ++ [x7_1]) := ⟨_, rfl⟩
            replace H : (spec_A2Some.l0 k1 a1 y186 (wrap64 (x7_1 + 1)) t176 t184 t185) = some r := by first | (rw [hy186]; with_reducible exact H) | (have H2_ := (Option.bind_some _ _).symm.trans H; rw [hy186]; with_reducible exact H2_) | (have H2_ := (Option.bind_some _ _).symm.trans H; with_reducible exact H2_) | with_reducible exact H | (rw [hy186]; exact H) | exact H
            have Ny186 := Aside0.mk hy186
            clear hy186
            have H' := Aside0.mk H
            clear H
            go_wp2_with (first | ((with_reducible refine gate_callee (f := 33) rfl ?_); refine goesL_ (some 17) rfl rfl Tryd.func33 (by kernel_rfl) rfl #[.pointer (some ⟨g179, 0, none⟩), .int .i64 2] rfl (by (try simp only [List.map_toArray, List.map_cons, List.map_nil]); first | done | rfl | (simp only [List.length_drop, List.length_take]; rfl)) ?_; (with_reducible refine (spec_l00Src_one.calls g179 t176 x180001_1 x180002_1 2 true t184 t185 w _ ?side1 ?side2 A8.out).mono ?_); (case side1 => repeat (first | (with_reducible first | exact HI179.out | apply IsS84.alloc | apply IsS84.drewN | apply IsS84.drew | apply IsS84.set_1 | apply IsS84.set_2) | exact HI179.out)); (case side2 => repeat (first | (with_reducible first | exact HB.out | apply below_alloc | apply pw_below_drewN | apply below_drew1 | refine below_set ?_ (IsS84.ge HI179.out)) | exact HB.out)); rintro e w11 ⟨rfl, hi, hb, hk⟩; refine ⟨_, rfl, ?_⟩; have n0_ := Aside0.mk (Kd.R_mono (Kd.R_keep (IsS84.apart (show IsS84 w _ g179 t176 x180001_1 x180002_1 from by repeat (first | (with_reducible first | exact HI179.out | apply IsS84.alloc | apply IsS84.drewN | apply IsS84.drew | apply IsS84.set_1 | apply IsS84.set_2) | exact HI179.out)) (by (with_reducible repeat (first | apply Kd.R_alloc | apply Kd.R_drewN | apply Kd.R_drew)); exact HO_6.out) (by decide)) hk (fun _ h => h.2)) (fun _ h => h.1)); have n1_ := Aside0.mk (hb); have n2_ := Aside0.mk (hi); clear HO_6; clear HB; clear HI179; have HO_6 := n0_; have HB := n1_; have HI179 := n2_; clear n0_ n1_ n2_; (try clear hb); (try clear hb2); (try clear hk); (try clear hi)) | ((with_reducible refine gate_builtin (b := .append) (xs := #[.tmp 18, .tmp 20]) rfl ?_); at_builtin; refine Kd.R_append (Kd.int .i64) (w0 := w) w.heap.size rfl (.tmp 18) (.tmp 20) 27 2 (.int .i64 0) 8 rfl Tryd.underlying27 info2 rfl (by decide) (by omega) u6 x6_1 x7_1 [.int .i64 x7_1] (fun _ => True) (fun _ => False) rfl rfl ?aP (fun _ hk => hk.elim) ?aF ?aO ?aB ?aS ?aL ?_; (case aP => exact rfl); (case aB => exact (by repeat (first | (with_reducible first | exact HB.out | apply below_alloc | apply pw_below_drewN | apply below_drew1 | refine below_set ?_ (IsS84.ge HI179.out)) | exact HB.out))); (case aF => exact (fun _ _ => trivial)); (case aO => exact (by (with_reducible repeat (first | apply Kd.R_alloc | apply Kd.R_drewN | apply Kd.R_drew)); exact HO_6.out)); (case aS => exact (below_size (by repeat (first | (with_reducible first | exact HB.out | apply below_alloc | apply pw_below_drewN | apply below_drew1 | refine below_set ?_ (IsS84.ge HI179.out)) | exact HB.out)))); (case aL => have := LMc10.out; omega); intro v187 w12 ho hb hg hat; rw [← Ny186.out] at ho; have n0_ := Aside0.mk (IsS84.grown (by repeat (first | (with_reducible first | exact HI179.out | apply IsS84.alloc | apply IsS84.drewN | apply IsS84.drew | apply IsS84.set_1 | apply IsS84.set_2) | exact HI179.out)) hg (IsS84.own_ne HI179.out HO_6.out (by decide))); have n1_ := Aside0.mk (hb); have n2_ := Aside0.mk (ho); clear HI179; clear HB; clear HO_6; have HI179 := n0_; have HB := n1_; have HO188 := n2_; clear n0_ n1_ n2_; clear ho hb hg hat))
            go_roundg k1
            case measure => have := HK1.out; omega
            case rel => exact ⟨(y186), (wrap64 (x7_1 + 1)), (t184), (t185), (by first | rfl | (simp; done) | (simp [*]; done)), H', ⟨by have := HK1.out; omega⟩, ⟨by (with_reducible repeat (first | apply Kd.R_alloc | apply Kd.R_drewN | apply Kd.R_drew)); exact HO188.out⟩, ⟨by repeat (first | (with_reducible first | exact HI179.out | apply IsS84.alloc | apply IsS84.drewN | apply IsS84.drew | apply IsS84.set_1 | apply IsS84.set_2) | exact HI179.out)⟩, ⟨by repeat (first | (with_reducible first | exact HB.out | apply below_alloc | apply pw_below_drewN | apply below_drew1 | refine below_set ?_ (IsS84.ge HI179.out)) | exact HB.out)⟩⟩
          · rw [if_neg c10] at H
            exact absurd H (by simp)
        · replace c9 := Bool.eq_false_iff.mpr c9
          subst c9
          rw [if_neg (show ¬ (false = true) by decide)] at H
          have H' := Aside0.mk H
          clear H
          go_wp2_with (first | ((with_reducible refine gate_callee (f := 33) rfl ?_); refine goesL_ (some 17) rfl rfl Tryd.func33 (by kernel_rfl) rfl #[.pointer (some ⟨g179, 0, none⟩), .int .i64 2] rfl (by (try simp only [List.map_toArray, List.map_cons, List.map_nil]); first | done | rfl | (simp only [List.length_drop, List.length_take]; rfl)) ?_; (with_reducible refine (spec_l00Src_one.calls g179 t176 x180001_1 x180002_1 2 false t184 t185 w _ ?side1 ?side2 A8.out).mono ?_); (case side1 => repeat (first | (with_reducible first | exact HI179.out | apply IsS84.alloc | apply IsS84.drewN | apply IsS84.drew | apply IsS84.set_1 | apply IsS84.set_2) | exact HI179.out)); (case side2 => repeat (first | (with_reducible first | exact HB.out | apply below_alloc | apply pw_below_drewN | apply below_drew1 | refine below_set ?_ (IsS84.ge HI179.out)) | exact HB.out)); rintro e w13 ⟨rfl, hi, hb, hk⟩; refine ⟨_, rfl, ?_⟩; have n0_ := Aside0.mk (Kd.R_mono (Kd.R_keep (IsS84.apart (show IsS84 w _ g179 t176 x180001_1 x180002_1 from by repeat (first | (with_reducible first | exact HI179.out | apply IsS84.alloc | apply IsS84.drewN | apply IsS84.drew | apply IsS84.set_1 | apply IsS84.set_2) | exact HI179.out)) (by (with_reducible repeat (first | apply Kd.R_alloc | apply Kd.R_drewN | apply Kd.R_drew)); exact HO_6.out) (by decide)) hk (fun _ h => h.2)) (fun _ h => h.1)); have n1_ := Aside0.mk (hb); have n2_ := Aside0.mk (hi); clear HO_6; clear HB; clear HI179; have HO_6 := n0_; have HB := n1_; have HI179 := n2_; clear n0_ n1_ n2_; (try clear hb); (try clear hb2); (try clear hk); (try clear hi)))
          go_roundg k1
          case measure => have := HK1.out; omega
          case rel => exact ⟨(x6_1), (wrap64 (x7_1 + 1)), (t184), (t185), (by first | rfl | (simp; done) | (simp [*]; done)), H', ⟨by have := HK1.out; omega⟩, ⟨by (with_reducible repeat (first | apply Kd.R_alloc | apply Kd.R_drewN | apply Kd.R_drew)); exact HO_6.out⟩, ⟨by repeat (first | (with_reducible first | exact HI179.out | apply IsS84.alloc | apply IsS84.drewN | apply IsS84.drew | apply IsS84.set_1 | apply IsS84.set_2) | exact HI179.out)⟩, ⟨by repeat (first | (with_reducible first | exact HB.out | apply below_alloc | apply pw_below_drewN | apply below_drew1 | refine below_set ?_ (IsS84.ge HI179.out)) | exact HB.out)⟩⟩
      · rw [if_neg c7] at H
        have c7b0 : decide (x7_1 < a1) = false := decide_eq_false c7
        clear c7
        obtain rfl := Option.some.inj H
        go_wp2
        go_ret
        exact ⟨_, by first | rfl | (simp [errW_none, errW_some] <;> rfl) | (simp [*, errW_none, errW_some] <;> rfl), by (with_reducible repeat (first | apply Kd.R_alloc | apply Kd.R_drewN | apply Kd.R_drew)); exact HO_6.out, by repeat (first | (with_reducible first | exact HB.out | apply below_alloc | apply pw_below_drewN | apply below_drew1 | refine below_set ?_ (IsS84.ge HI179.out)) | exact HB.out)⟩

/-! ### laws_a2Sum: function 10 -/
def laws_a2Sum.l0 : Nat → List Int → Int → Int → Option (Int)
  | 0, _, _, _ => none
  | k + 1, x0, x3, x4 => if x4 < (x0.length : Int) then (if 0 ≤ x4 then (laws_a2Sum.l0 k x0 (wrap64 (x3 + (rd x0 x4))) (wrap64 (x4 + 1))) else (none)) else (some x3)
def laws_a2Sum.f (k : Nat) (l0 : List Int) : Option (Int) := laws_a2Sum.l0 k l0 0 0
theorem laws_a2Sum.mono_l : ∀ k, (∀ y0 y1 y2, LeO (laws_a2Sum.l0 k y0 y1 y2) (laws_a2Sum.l0 (k + 1) y0 y1 y2))
  | 0 => fun _ _ _ r h => by simp [laws_a2Sum.l0] at h
  | k + 1 => by
    have ih0 := laws_a2Sum.mono_l k
    · intro y0 y1 y2
      unfold laws_a2Sum.l0
      repeat' first
      | (with_reducible exact ih0 _ _ _)
      | (with_reducible exact LeO.refl _)
      | (with_reducible exact LeO.none _)
      | (with_reducible refine LeO.ite ?_ ?_)
      | (with_reducible refine LeO.bind ?_ (fun _ => ?_))
      | exact ih0 _ _ _
      | exact LeO.none _
      | refine LeO.ite ?_ ?_
      | refine LeO.bind ?_ (fun _ => ?_)
theorem laws_a2Sum.mono : ∀ a0 k, LeO (laws_a2Sum.f k a0) (laws_a2Sum.f (k + 1) a0) := by
  intro a0 k
  have ih0 := laws_a2Sum.mono_l k
  unfold laws_a2Sum.f
  repeat' first
      | (with_reducible exact ih0 _ _ _)
      | (with_reducible exact LeO.refl _)
      | (with_reducible exact LeO.none _)
      | (with_reducible refine LeO.ite ?_ ?_)
      | (with_reducible refine LeO.bind ?_ (fun _ => ?_))
      | exact ih0 _ _ _
      | exact LeO.none _
      | refine LeO.ite ?_ ?_
      | refine LeO.bind ?_ (fun _ => ?_)
set_option maxHeartbeats 8000000 in
set_option maxRecDepth 100000 in
theorem laws_a2Sum.calls (k : Nat) (A0 : Option Addr) (c0 : Nat) (l0 : List Int) (r : Int) (w : World) (hr0 : Kd.C (Kd.int .i64) w A0 l0.length l0) (hc0 : l0.length ≤ c0) (h : laws_a2Sum.f k l0 = some r) :
    Calls Tryd.prog 10 #[.slice A0 l0.length c0] w fun e w' => e = .returned (.int .i64 r) ∧ Drawn0 w w' := by
  have HR0 := Aside0.mk hr0
  have HC0 := Aside0.mk hc0
  clear hr0 hc0
  have H : (laws_a2Sum.l0 k l0 0 0) = some r := h
  clear h
  have H' := Aside0.mk H
  clear H
  go_enter Tryd.func10, Tryd.ntmps10
  go_wp2
  go_loopg [3, 4] k (fun kq v3 v4 w' => ∃ (x3_1 : Int) (x4_1 : Int), v3 = .int .i64 x3_1 ∧ v4 = .int .i64 x4_1 ∧ Aside0 (laws_a2Sum.l0 kq l0 x3_1 x4_1 = some r) ∧ Aside0 (kq ≤ k) ∧ Drawn0 w w')
  case atStart => exact ⟨(0), (0), (by first | rfl | (simp; done) | (simp [*]; done)), (by first | rfl | (simp; done) | (simp [*]; done)), H', ⟨Nat.le_refl _⟩, by repeat (first | exact Drawn0.refl _ | apply Drawn0.step)⟩
  case round =>
    clear H'
    try clear c1
    obtain ⟨x3_1, x4_1, rfl, rfl, HA, HK1, ⟨m1, rfl⟩⟩ := hrel
    cases gk with
    | zero => exact absurd HA.out (by simp [laws_a2Sum.l0])
    | succ k1 =>
      have H := HA.out
      clear HA
      simp only [laws_a2Sum.l0] at H
      by_cases c2 : x4_1 < (l0.length : Int)
      · rw [if_pos c2] at H
        have c2b0 : decide (x4_1 < (l0.length : Int)) = true := decide_eq_true c2
        clear c2
        by_cases c3 : 0 ≤ x4_1
        · rw [if_pos c3] at H
          have c3b0 : decide (0 ≤ x4_1) = true := decide_eq_true c3
          clear c3
          have H' := Aside0.mk H
          clear H
          have p189 : 0 ≤ (x4_1 : Int) := of_decide_eq_true (by first | (with_reducible assumption) | assumption)
          have q189 : x4_1 < (l0.length : Int) := of_decide_eq_true (by first | (with_reducible assumption) | assumption)
          obtain ⟨ad189, e189, hx189_0⟩ := Kd.at_int HR0.out x4_1 p189 q189
          cases e189
          replace p189 := eq_true p189
          replace q189 := eq_true q189
          go_wp2
          go_roundg k1
          case measure => have := HK1.out; omega
          case rel => exact ⟨(wrap64 (x3_1 + (rd l0 x4_1))), (wrap64 (x4_1 + 1)), (by first | rfl | (simp; done) | (simp [*]; done)), (by first | rfl | (simp; done) | (simp [*]; done)), H', ⟨by have := HK1.out; omega⟩, by repeat (first | exact Drawn0.refl _ | apply Drawn0.step)⟩
        · rw [if_neg c3] at H
          exact absurd H (by simp)
      · rw [if_neg c2] at H
        have c2b0 : decide (x4_1 < (l0.length : Int)) = false := decide_eq_false c2
        clear c2
        obtain rfl := Option.some.inj H
        go_wp2
        go_ret
        exact ⟨by first | rfl | (simp; done) | (simp [*]; done), by repeat (first | exact Drawn0.refl _ | apply Drawn0.step)⟩

/-! ### laws_a2Rises: function 11 -/
def laws_a2Rises.l0 : Nat → List Int → Int → Int → Option (Bool)
  | 0, _, _, _ => none
  | k + 1, x0, x1, x5 => if x5 < (x0.length : Int) then (if 0 ≤ x5 then (if (rd x0 x5) < 0 then (some false) else (if (rd x0 x5) ≥ x1 then (some false) else (if x5 > 0 then (if 0 ≤ (wrap64 (x5 - 1)) then (if (wrap64 (x5 - 1)) < (x0.length : Int) then (if (rd x0 (wrap64 (x5 - 1))) ≥ (rd x0 x5) then (some false) else (laws_a2Rises.l0 k x0 x1 (wrap64 (x5 + 1)))) else (none)) else (none)) else (laws_a2Rises.l0 k x0 x1 (wrap64 (x5 + 1)))))) else (none)) else (some true)
def laws_a2Rises.f (k : Nat) (l0 : List Int) (a1 : Int) : Option (Bool) := laws_a2Rises.l0 k l0 a1 0
theorem laws_a2Rises.mono_l : ∀ k, (∀ y0 y1 y2, LeO (laws_a2Rises.l0 k y0 y1 y2) (laws_a2Rises.l0 (k + 1) y0 y1 y2))
  | 0 => fun _ _ _ r h => by simp [laws_a2Rises.l0] at h
  | k + 1 => by
    have ih0 := laws_a2Rises.mono_l k
    · intro y0 y1 y2
      unfold laws_a2Rises.l0
      repeat' first
      | (with_reducible exact ih0 _ _ _)
      | (with_reducible exact LeO.refl _)
      | (with_reducible exact LeO.none _)
      | (with_reducible refine LeO.ite ?_ ?_)
      | (with_reducible refine LeO.bind ?_ (fun _ => ?_))
      | exact ih0 _ _ _
      | exact LeO.none _
      | refine LeO.ite ?_ ?_
      | refine LeO.bind ?_ (fun _ => ?_)
theorem laws_a2Rises.mono : ∀ a0 a1 k, LeO (laws_a2Rises.f k a0 a1) (laws_a2Rises.f (k + 1) a0 a1) := by
  intro a0 a1 k
  have ih0 := laws_a2Rises.mono_l k
  unfold laws_a2Rises.f
  repeat' first
      | (with_reducible exact ih0 _ _ _)
      | (with_reducible exact LeO.refl _)
      | (with_reducible exact LeO.none _)
      | (with_reducible refine LeO.ite ?_ ?_)
      | (with_reducible refine LeO.bind ?_ (fun _ => ?_))
      | exact ih0 _ _ _
      | exact LeO.none _
      | refine LeO.ite ?_ ?_
      | refine LeO.bind ?_ (fun _ => ?_)
set_option maxHeartbeats 8000000 in
set_option maxRecDepth 100000 in
theorem laws_a2Rises.calls (k : Nat) (A0 : Option Addr) (c0 : Nat) (l0 : List Int) (a1 : Int) (r : Bool) (w : World) (hr0 : Kd.C (Kd.int .i64) w A0 l0.length l0) (hc0 : l0.length ≤ c0) (h : laws_a2Rises.f k l0 a1 = some r) :
    Calls Tryd.prog 11 #[.slice A0 l0.length c0, .int .i64 a1] w fun e w' => e = .returned (.bool r) ∧ Drawn0 w w' := by
  have HR0 := Aside0.mk hr0
  have HC0 := Aside0.mk hc0
  clear hr0 hc0
  have H : (laws_a2Rises.l0 k l0 a1 0) = some r := h
  clear h
  have H' := Aside0.mk H
  clear H
  go_enter Tryd.func11, Tryd.ntmps11
  go_wp2
  repeat (go_quiet (fail); try go_wp2)
  go_loopg [5] k (fun kq v5 w' => ∃ (x5_1 : Int), v5 = .int .i64 x5_1 ∧ Aside0 (laws_a2Rises.l0 kq l0 a1 x5_1 = some r) ∧ Aside0 (kq ≤ k) ∧ Drawn0 w w')
  case atStart => exact ⟨(0), (by first | rfl | (simp; done) | (simp [*]; done)), H', ⟨Nat.le_refl _⟩, by repeat (first | exact Drawn0.refl _ | apply Drawn0.step)⟩
  case round =>
    clear H'
    try clear c1
    try clear p2
    obtain ⟨x5_1, rfl, HA, HK1, ⟨m1, rfl⟩⟩ := hrel
    cases gk with
    | zero => exact absurd HA.out (by simp [laws_a2Rises.l0])
    | succ k1 =>
      have H := HA.out
      clear HA
      simp only [laws_a2Rises.l0] at H
      by_cases c3 : x5_1 < (l0.length : Int)
      · rw [if_pos c3] at H
        have c3b0 : decide (x5_1 < (l0.length : Int)) = true := decide_eq_true c3
        clear c3
        by_cases c4 : 0 ≤ x5_1
        · rw [if_pos c4] at H
          have c4b0 : decide (0 ≤ x5_1) = true := decide_eq_true c4
          clear c4
          by_cases c5 : (rd l0 x5_1) < 0
          · rw [if_pos c5] at H
            have c5b0 : decide ((rd l0 x5_1) < 0) = true := decide_eq_true c5
            clear c5
            obtain rfl := Option.some.inj H
            have p190 : 0 ≤ (x5_1 : Int) := of_decide_eq_true (by first | (with_reducible assumption) | assumption)
            have q190 : x5_1 < (l0.length : Int) := of_decide_eq_true (by first | (with_reducible assumption) | assumption)
            obtain ⟨ad190, e190, hx190_0⟩ := Kd.at_int HR0.out x5_1 p190 q190
            cases e190
            replace p190 := eq_true p190
            replace q190 := eq_true q190
            go_wp2
            repeat (go_quiet (fail); try go_wp2)
            go_ret
            exact ⟨by first | rfl | (simp; done) | (simp [*]; done), by repeat (first | exact Drawn0.refl _ | apply Drawn0.step)⟩
          · rw [if_neg c5] at H
            have c5b0 : decide ((rd l0 x5_1) < 0) = false := decide_eq_false c5
            clear c5
            by_cases c6 : (rd l0 x5_1) ≥ a1
            · rw [if_pos c6] at H
              have c6b0 : decide (a1 ≤ (rd l0 x5_1)) = true := decide_eq_true c6
              clear c6
              obtain rfl := Option.some.inj H
              have p190 : 0 ≤ (x5_1 : Int) := of_decide_eq_true (by first | (with_reducible assumption) | assumption)
              have q190 : x5_1 < (l0.length : Int) := of_decide_eq_true (by first | (with_reducible assumption) | assumption)
              obtain ⟨ad190, e190, hx190_0⟩ := Kd.at_int HR0.out x5_1 p190 q190
              cases e190
              replace p190 := eq_true p190
              replace q190 := eq_true q190
              have p191 : 0 ≤ (x5_1 : Int) := of_decide_eq_true (by first | (with_reducible assumption) | assumption)
              have q191 : x5_1 < (l0.length : Int) := of_decide_eq_true (by first | (with_reducible assumption) | assumption)
              obtain ⟨ad191, e191, hx191_0⟩ := Kd.at_int HR0.out x5_1 p191 q191
              obtain rfl : ad190 = ad191 := (by injection e191)
              replace p191 := eq_true p191
              replace q191 := eq_true q191
              go_wp2
              repeat (go_quiet (fail); try go_wp2)
              go_ret
              exact ⟨by first | rfl | (simp; done) | (simp [*]; done), by repeat (first | exact Drawn0.refl _ | apply Drawn0.step)⟩
            · rw [if_neg c6] at H
              have c6b0 : decide (a1 ≤ (rd l0 x5_1)) = false := decide_eq_false c6
              clear c6
              by_cases c7 : x5_1 > 0
              · rw [if_pos c7] at H
                have c7b0 : decide (0 < x5_1) = true := decide_eq_true c7
                clear c7
                obtain ⟨ji8, hji8⟩ : ∃ j_ : Int, (wrap64 (x5_1 - 1)) = j_ := ⟨_, rfl⟩
                replace H : (if 0 ≤ (ji8) then (if (ji8) < (l0.length : Int) then (if (rd l0 (ji8)) ≥ (rd l0 x5_1) then (some false) else (laws_a2Rises.l0 k1 l0 a1 (wrap64 (x5_1 + 1)))) else (none)) else (none)) = some r := by first | (rw [hji8] at H; exact H) | (simp only [hji8] at H ⊢; exact H)
                have hji8w : (IntKind.i64.wrap (x5_1 - 1)) = ji8 := (i64_w _).trans hji8
                by_cases c9 : 0 ≤ (ji8)
                · rw [if_pos c9] at H
                  have c9b0 : decide (0 ≤ (ji8)) = true := decide_eq_true c9
                  clear c9
                  by_cases c10 : (ji8) < (l0.length : Int)
                  · rw [if_pos c10] at H
                    have c10b0 : decide ((ji8) < (l0.length : Int)) = true := decide_eq_true c10
                    clear c10
                    by_cases c11 : (rd l0 (ji8)) ≥ (rd l0 x5_1)
                    · rw [if_pos c11] at H
                      have c11b0 : decide ((rd l0 x5_1) ≤ (rd l0 (ji8))) = true := decide_eq_true c11
                      clear c11
                      obtain rfl := Option.some.inj H
                      have p190 : 0 ≤ (x5_1 : Int) := of_decide_eq_true (by first | (with_reducible assumption) | assumption)
                      have q190 : x5_1 < (l0.length : Int) := of_decide_eq_true (by first | (with_reducible assumption) | assumption)
                      obtain ⟨ad190, e190, hx190_0⟩ := Kd.at_int HR0.out x5_1 p190 q190
                      cases e190
                      replace p190 := eq_true p190
                      replace q190 := eq_true q190
                      have p191 : 0 ≤ (x5_1 : Int) := of_decide_eq_true (by first | (with_reducible assumption) | assumption)
                      have q191 : x5_1 < (l0.length : Int) := of_decide_eq_true (by first | (with_reducible assumption) | assumption)
                      obtain ⟨ad191, e191, hx191_0⟩ := Kd.at_int HR0.out x5_1 p191 q191
                      obtain rfl : ad190 = ad191 := (by injection e191)
                      replace p191 := eq_true p191
                      replace q191 := eq_true q191
                      have p192 : 0 ≤ ((ji8) : Int) := of_decide_eq_true (by first | (with_reducible assumption) | assumption)
                      have q192 : (ji8) < (l0.length : Int) := of_decide_eq_true (by first | (with_reducible assumption) | assumption)
                      obtain ⟨ad192, e192, hx192_0⟩ := Kd.at_int HR0.out (ji8) p192 q192
                      obtain rfl : ad190 = ad192 := (by injection e192)
                      replace p192 := eq_true p192
                      replace q192 := eq_true q192
                      have p193 : 0 ≤ (x5_1 : Int) := of_decide_eq_true (by first | (with_reducible assumption) | assumption)
                      have q193 : x5_1 < (l0.length : Int) := of_decide_eq_true (by first | (with_reducible assumption) | assumption)
                      obtain ⟨ad193, e193, hx193_0⟩ := Kd.at_int HR0.out x5_1 p193 q193
                      obtain rfl : ad190 = ad193 := (by injection e193)
                      replace p193 := eq_true p193
                      replace q193 := eq_true q193
                      go_wp2
                      repeat (go_quiet (fail); try go_wp2)
                      go_ret
                      exact ⟨by first | rfl | (simp; done) | (simp only [← hji8] <;> (first | rfl | simp)) | (simp [*]; done), by repeat (first | exact Drawn0.refl _ | apply Drawn0.step)⟩
                    · rw [if_neg c11] at H
                      have c11b0 : decide ((rd l0 x5_1) ≤ (rd l0 (ji8))) = false := decide_eq_false c11
                      clear c11
                      have H' := Aside0.mk H
                      clear H
                      have p190 : 0 ≤ (x5_1 : Int) := of_decide_eq_true (by first | (with_reducible assumption) | assumption)
                      have q190 : x5_1 < (l0.length : Int) := of_decide_eq_true (by first | (with_reducible assumption) | assumption)
                      obtain ⟨ad190, e190, hx190_0⟩ := Kd.at_int HR0.out x5_1 p190 q190
                      cases e190
                      replace p190 := eq_true p190
                      replace q190 := eq_true q190
                      have p191 : 0 ≤ (x5_1 : Int) := of_decide_eq_true (by first | (with_reducible assumption) | assumption)
                      have q191 : x5_1 < (l0.length : Int) := of_decide_eq_true (by first | (with_reducible assumption) | assumption)
                      obtain ⟨ad191, e191, hx191_0⟩ := Kd.at_int HR0.out x5_1 p191 q191
                      obtain rfl : ad190 = ad191 := (by injection e191)
                      replace p191 := eq_true p191
                      replace q191 := eq_true q191
                      have p192 : 0 ≤ ((ji8) : Int) := of_decide_eq_true (by first | (with_reducible assumption) | assumption)
                      have q192 : (ji8) < (l0.length : Int) := of_decide_eq_true (by first | (with_reducible assumption) | assumption)
                      obtain ⟨ad192, e192, hx192_0⟩ := Kd.at_int HR0.out (ji8) p192 q192
                      obtain rfl : ad190 = ad192 := (by injection e192)
                      replace p192 := eq_true p192
                      replace q192 := eq_true q192
                      have p193 : 0 ≤ (x5_1 : Int) := of_decide_eq_true (by first | (with_reducible assumption) | assumption)
                      have q193 : x5_1 < (l0.length : Int) := of_decide_eq_true (by first | (with_reducible assumption) | assumption)
                      obtain ⟨ad193, e193, hx193_0⟩ := Kd.at_int HR0.out x5_1 p193 q193
                      obtain rfl : ad190 = ad193 := (by injection e193)
                      replace p193 := eq_true p193
                      replace q193 := eq_true q193
                      go_wp2
                      repeat (go_quiet (fail); try go_wp2)
                      go_roundg k1
                      case measure => have := HK1.out; omega
                      case rel => exact ⟨(wrap64 (x5_1 + 1)), (by first | rfl | (simp; done) | (simp [*]; done)), H', ⟨by have := HK1.out; omega⟩, by repeat (first | exact Drawn0.refl _ | apply Drawn0.step)⟩
                  · rw [if_neg c10] at H
                    exact absurd H (by simp)
                · rw [if_neg c9] at H
                  exact absurd H (by simp)
              · rw [if_neg c7] at H
                have c7b0 : decide (0 < x5_1) = false := decide_eq_false c7
                clear c7
                have H' := Aside0.mk H
                clear H
                have p190 : 0 ≤ (x5_1 : Int) := of_decide_eq_true (by first | (with_reducible assumption) | assumption)
                have q190 : x5_1 < (l0.length : Int) := of_decide_eq_true (by first | (with_reducible assumption) | assumption)
                obtain ⟨ad190, e190, hx190_0⟩ := Kd.at_int HR0.out x5_1 p190 q190
                cases e190
                replace p190 := eq_true p190
                replace q190 := eq_true q190
                have p191 : 0 ≤ (x5_1 : Int) := of_decide_eq_true (by first | (with_reducible assumption) | assumption)
                have q191 : x5_1 < (l0.length : Int) := of_decide_eq_true (by first | (with_reducible assumption) | assumption)
                obtain ⟨ad191, e191, hx191_0⟩ := Kd.at_int HR0.out x5_1 p191 q191
                obtain rfl : ad190 = ad191 := (by injection e191)
                replace p191 := eq_true p191
                replace q191 := eq_true q191
                go_wp2
                repeat (go_quiet (fail); try go_wp2)
                go_roundg k1
                case measure => have := HK1.out; omega
                case rel => exact ⟨(wrap64 (x5_1 + 1)), (by first | rfl | (simp; done) | (simp [*]; done)), H', ⟨by have := HK1.out; omega⟩, by repeat (first | exact Drawn0.refl _ | apply Drawn0.step)⟩
        · rw [if_neg c4] at H
          exact absurd H (by simp)
      · rw [if_neg c3] at H
        have c3b0 : decide (x5_1 < (l0.length : Int)) = false := decide_eq_false c3
        clear c3
        obtain rfl := Option.some.inj H
        go_wp2
        repeat (go_quiet (fail); try go_wp2)
        go_ret
        exact ⟨by first | rfl | (simp; done) | (simp [*]; done), by repeat (first | exact Drawn0.refl _ | apply Drawn0.step)⟩

end Go.Proofs.YtjmjmpbphhbmpaaDoor.QCB
