/- What spec.CheapestHands answers. -/
import Derived.Test.YtjmjmpbphhbmpaaCh4
namespace Go.Proofs.Ytjmjmpbphhbmpaa.QCH
open Go.RowKit Go.Proofs.YtjmjmpbphhbmpaaQ Go.Proofs.YtjmjmpbphhbmpaaW.PrintWords Go.Proofs.YtjmjmpbphhbmpaaW.PrintLast Go.Proofs.YtjmjmpbphhbmpaaW.PrintMore
set_option linter.unusedVariables false
set_option linter.unusedSimpArgs false

/-- The result of the reference's search. -/
def spRes (mn pa : S43 → Int) (need : Int) (l : List S43) : List Int × Int × Int :=
  if (spSee mn pa need l 0 [] 0 0 ([], -1)).2 < 0 then ([], 0, 3) else ((spSee mn pa need l 0 [] 0 0 ([], -1)).1, (spSee mn pa need l 0 [] 0 0 ([], -1)).2, 0)

set_option maxHeartbeats 8000000 in
set_option maxRecDepth 100000 in
theorem hand5 (mn pa : S43 → Int) (k : Nat) (A : Option Addr) (c : Nat) (l : List S43) (need : Int) (v t : Bool) (w : World)
    (hr : Kd.C k43 w A l.length l) (hlc : l.length ≤ c) (hv : spec_l26Ok.f k l = some v) (ht : spec_l00In.f need 0 20000 = some t)
    (h10 : v = true → t = true → l.length ≤ 10)
    (hmn : v = true → t = true → ∀ x ∈ l, spec_l00Sum.f k x.f1 = some (mn x)) (hpa : v = true → t = true → ∀ x ∈ l, spec_l26Pay.f k [x] 1440 0 = some (pa x))
    (r1 : List Int) (r2 r3 : Int) (hres : (if v = true then if t = true then spRes mn pa need l else ([], 0, 2) else ([], 0, 1)) = (r1, r2, r3)) :
    Calls Try.prog 5 #[.slice A l.length c, .int .i64 need] w fun e w' => ∃ v0_ : Value, e = .returned (.tuple #[v0_, .int .i64 r2, .int .i64 r3]) ∧ Kd.R (Kd.int .i64) 2 w' w.heap.size (fun _ => True) v0_ r1 ∧ Below w.heap.size w w' := by
  have HRES := Aside0.mk hres
  have HR := Aside0.mk hr
  have HV := Aside0.mk hv
  have HT := Aside0.mk ht
  have H10 := Aside0.mk h10
  have HMN := Aside0.mk hmn
  have HPA := Aside0.mk hpa
  clear hres hr hv ht h10 hmn hpa
  go_enter Try.func5, Try.ntmps5
  go_wp2_with (fail)
  refine (spec_l26Ok.calls k A c l v _ HR.out hlc HV.out).mono ?_
  rintro e w1 ⟨rfl, nd, rfl⟩
  have HB := Aside0.mk (pw_below_drewN (Below.refl w.heap.size w) nd)
  cases v
  · have hq : ([], (0 : Int), (1 : Int)) = (r1, r2, r3) := HRES.out
    cases hq
    go_wp2
    go_ret3
    exact ⟨_, rfl, Kd.R_nil _ _ _ _ _, HB.out⟩
  go_wp2_with (fail)
  refine (spec_l00In.calls need 0 20000 t _ HT.out).mono ?_
  rintro e w2 ⟨rfl, nd2, rfl⟩
  have HB2 := Aside0.mk (pw_below_drewN HB.out nd2)
  cases t
  · have hq : ([], (0 : Int), (2 : Int)) = (r1, r2, r3) := HRES.out
    cases hq
    go_wp2
    go_ret3
    exact ⟨_, rfl, Kd.R_nil _ _ _ _ _, by first | exact HB2.out | exact pw_below_drewN (Below.refl w.heap.size w) _⟩
  revert HB2
  generalize (w.drewN nd).drewN nd2 = w2
  intro HB2
  clear HB
  go_wp2_with (first | ((with_reducible refine gate_dst (N := 19) rfl ?_); refine Kd.R_lit (Kd.int .i64) _ 2 ?hg (N := 19) ?hd (xs := ([] : List Int)) (inner := []) (ok := fun _ => True) (okp := fun _ => True) ?hr ?hp (fun _ hk => hk) trivial (Below.refl _ _) (Nat.le_refl _) (by simp) ?_; (case hd => rfl); (case hg => rfl); (case hr => first | (go_simp; done) | (go_simp; rfl)); (case hp => exact (Reps.none _ _)); intro v3 w3 ho3 hb_ hg_ hnew_; clear hg_ hnew_; have HB3 := Aside0.mk hb_; have HO3 := Aside0.mk ho3; clear hb_ ho3))
  have hnew := blk_below (blk_new w2 (.cells #[.slice A l.length c, .int .i64 need, .slice none 0 0, .int .i64 (-1)] 41)) HB3.out
  have hsz : (w2.alloc (.cells #[.slice A l.length c, .int .i64 need, .slice none 0 0, .int .i64 (-1)] 41)).heap.size = w2.heap.size + 1 := by simp
  have hsp : SpW w A c l need w2.heap.size w3 ([], -1) := ⟨below_step (below_alloc HB2.out _) HB3.out, .slice none 0 0, hnew, Kd.R_nil _ _ _ _ _⟩
  have hRv : Kd.R (Kd.int .i64) 2 w3 w.heap.size (fun k => k ≠ w2.heap.size) v3 [] := Kd.R_mono (Kd.R_lower (Kd.R_bound HO3.out) (below_size (below_alloc HB2.out _))) (fun k hk => by have := hk.2.1; rw [hsz] at this; omega)
  refine (hand16 mn pa k w A c l need w2.heap.size HR.out hlc (H10.out trivial trivial) (HMN.out trivial trivial) (HPA.out trivial trivial) HB2.out.size l.length 0 (Int.le_refl _) (by simp) w3 v3 [] 0 0 ([], -1) hRv (by have := H10.out trivial trivial; simpa using this) (.inl ⟨rfl, rfl⟩) hsp).mono ?_
  rintro e w4 ⟨rfl, hk4, hw4⟩
  have hq : (if (spSee mn pa need l 0 [] 0 0 ([], -1)).2 < 0 then ([], 0, 3) else ((spSee mn pa need l 0 [] 0 0 ([], -1)).1, (spSee mn pa need l 0 [] 0 0 ([], -1)).2, (0 : Int))) = (r1, r2, r3) := HRES.out
  have HQ := Aside0.mk hq
  have hw4 : SpW w A c l need w2.heap.size w4 (spSee mn pa need l 0 [] 0 0 ([], -1)) := hw4
  clear hq HRES hnew hsp hRv hk4
  revert hw4 HQ
  generalize spSee mn pa need l 0 [] 0 0 ([], -1) = st
  intro HQ hw4
  have HW4 := Aside0.mk hw4
  obtain ⟨hb4, vb, hvb, hRb⟩ := hw4
  obtain ⟨Ab, cb, rfl⟩ := Kd.R_slice hRb
  have hs2 : w4.cell? ⟨w2.heap.size, 2, none⟩ = some (.slice Ab st.1.length cb) := (blk_cell hvb 2).trans rfl
  have hs3 : w4.cell? ⟨w2.heap.size, 3, none⟩ = some (.int .i64 st.2) := (blk_cell hvb 3).trans rfl
  have HRB := Aside0.mk hRb
  clear hb4 hvb hRb
  refine (Decidable.em (st.2 < 0)).elim (fun q => ?neg_) (fun q => ?fnd_)
  case neg_ =>
    have hq : ([], (0 : Int), (3 : Int)) = (r1, r2, r3) := by rw [← HQ.out, if_pos q]
    have d1 : decide (st.2 < 0) = true := decide_eq_true q
    clear q HQ
    cases hq
    go_wp2
    go_ret3
    exact ⟨_, rfl, Kd.R_nil _ _ _ _ _, HW4.out.below⟩
  case fnd_ =>
    have hq : (st.1, st.2, (0 : Int)) = (r1, r2, r3) := by rw [← HQ.out, if_neg q]
    have d1 : decide (st.2 < 0) = false := decide_eq_false q
    clear q HQ
    cases hq
    go_wp2
    go_quiet (fail)
    go_wp2
    go_ret3
    exact ⟨_, rfl, Kd.R_drewN (Kd.R_mono HRB.out (fun _ _ => trivial)) _, pw_below_drewN HW4.out.below _⟩
end Go.Proofs.Ytjmjmpbphhbmpaa.QCH
