/- The law FnExactCheapestHands, proved: for every list of hands and every number of minutes the call returns true, and the arguments read as before. No condition beside the row's own. -/
import Derived.Test.YtjmjmpbphhbmpaaCh12
namespace Go.Proofs.Ytjmjmpbphhbmpaa.ExactCh
open Go.ChangeShapes Go.WideShapes Go.ChangeAt Go.RowKit
open Go.Proofs.YtjmjmpbphhbmpaaQ Go.Proofs.YtjmjmpbphhbmpaaW.PrintWords Go.Proofs.YtjmjmpbphhbmpaaW.PrintLast
open Go.Proofs.Ytjmjmpbphhbmpaa.QCH
set_option linter.unusedVariables false

theorem walk (A : Option Addr) (c : Nat) (l : List S36) (need : Int) (w : World) (hr : Kd.C k36 w A l.length l) (hlc : l.length ≤ c) (hl : (l.length : Int) < 9223372036853727232) (hb : ∀ x ∈ l, x.f0.size ≤ 9223372036853727232 ∧ x.f1.length ≤ 9223372036853727232) :
    Calls Try.prog 3 #[.slice A l.length c, .int .i64 need] w fun e w' => e = .returned (.bool true) ∧ Below w.heap.size w w' := by
  obtain ⟨k, sz, hsz, hs | ⟨hs, mn, pa, m, v, t, r1, r1', r2, r3, K, M, h1, h2, h3, h4, h5, h6, h7, h8, h9, h10, h11, h12, h13, h14, h15⟩⟩ := law l need hl hb
  · exact hand3a k A c l need w sz hr hlc hsz hs
  · exact hand3b mn pa k A c l need w sz m v t r1 r1' r2 r3 K M hr hlc hsz hs h1 h2 h3 h4 h5 h6 h7 h8 h9 h10 h11 h12 h13 h14 h15
theorem own : ownKnob Try.prog.godebug = none := by kernel_rfl
theorem laidOut : laidOutB Try.prog = true := by kernel_rfl
set_option maxRecDepth 100000 in
theorem lifted (os : Os) (started : os.Started) (H : Type) (enc : TypeId × Value → H) :
    ReturnsInHanded {} Try.checked os 3 .any (Rows.fnExactCheapestHandsSpec.pre6 enc Try.prog Try.f3 Rows.fnExactCheapestHandsRow.domain false) (Rows.fnExactCheapestHandsSpec.post enc Try.prog Try.f3 false true false false) := by
  refine returnsInHanded_of_change_sized (C := Try.checked) own started (by kernel_rfl) Try.func3
    (ChangeSpec.witness6 (enc := enc) (C := Try.checked) false ⟨#[], #[.slice none 0 0, .int .i64 0], []⟩ 8 (by kernel_rfl) (by kernel_rfl) (by kernel_rfl) (by kernel_rfl)) ?_
  intro W base args ds gs before hval0 hW hcnd hsz0 _
  have hsz : (DataW.weightsEach Try.prog (Try.f3.params.toList ++ Rows.fnExactCheapestHandsSpec.plain.varTypes Try.prog) (ds ++ gs)).all (· ≤ reachBytes) = true := hsz0
  have hval : ∀ (j : Nat) t v, Try.f3.params[j]? = some t → args[j]? = some v → Value.okWide Try.prog W .any base t v := hval0
  have hW' := hW
  obtain ⟨p, q, hA0, hV, rfl, hfz, hnd⟩ := hW
  have hA : DataW.TrodAll enc Try.prog W 0 (fun _ => true) true Try.f3.params.toList args.toList ds p := hA0
  rw [Try.params3] at hA hval hsz
  obtain ⟨v0, vs0, d0, ds0, p0, q0, hargs, rfl, rfl, h0, r0⟩ := trodAll_cons hA
  obtain ⟨v1, vs1, d1, ds1, p1, q1, rfl, rfl, rfl, h1, r1⟩ := trodAll_cons r0
  obtain ⟨rfl, rfl, rfl⟩ := trodAll_nil r1
  obtain rfl : args = #[v0, v1] := by cases args; simp_all
  obtain ⟨rfl, rfl⟩ := trodVars_none hV
  obtain ⟨a0, len0, cap0, rfl⟩ := okWide_slice Try.underlying22 (hval 0 22 v0 rfl rfl)
  have k0 := h0
  have lt0 : ∀ x ∈ p0, x.block < W.heap.size := by obtain ⟨m, hm⟩ := k0; exact DataW.trod_lt m _ _ _ hm
  obtain ⟨a1, rfl, rfl, rfl, w1⟩ := open_int Try.underlying2 (hval 1 2 v1 rfl rfl) h1
  have hw0 : (d0.weights Try.prog 22).all (· ≤ reachBytes) = true := by
    refine List.all_eq_true.2 fun n hn => ?_
    exact List.all_eq_true.1 hsz n (DataW.weights_mem_each (j := 0) (t := 22) (d := d0) rfl rfl n hn)
  obtain ⟨l, rfl, hc, hr, hl, hb⟩ : ∃ l : List S36, l.length = len0 ∧ len0 ≤ cap0 ∧ Kd.C k36 W a0 l.length l ∧ (l.length : Int) < 9223372036853727232 ∧ ∀ x ∈ l, x.f0.size ≤ 9223372036853727232 ∧ x.f1.length ≤ 9223372036853727232 := by
    obtain ⟨fuel, hf⟩ := h0
    exact open_hands hf hw0
  clear hA0 hval0 hsz0 hsz
  refine (walk a0 cap0 l a1 W hr hc hl hb).mono fun e W' ⟨he, bel⟩ => ?_
  subst he
  exact ⟨_, rfl, _, _, _, [], _, [], hW', trodAll_mk1 (shut_bool Try.underlying4 _), (trodAll_cons_mk (Below.trod laidOut (by kernel_rfl) (of_decide_eq_true (by kernel_rfl)) k0 bel lt0) (trodAll_cons_mk (shut_int Try.underlying2 w1) trodAll_mk0)), rfl, bel.frame _, fun h => by cases h⟩
theorem over : Rows.fnExactCheapestHandsRow.holds Try.pinned (OpenSpec.ofChange Rows.fnExactCheapestHandsSpec) :=
  OpenClaim.holds_of_wide 3 Try.f3 rfl rfl rfl rfl rfl rfl rfl ⟨rfl, rfl, rfl, rfl, rfl⟩ rfl rfl rfl rfl rfl (by kernel_rfl) Try.func3 (by kernel_rfl)
    (of_decide_eq_true (by kernel_rfl)) (by unfold Func.isWrapper; first | (rw [if_pos (by decide +kernel)]; kernel_rfl) | (rw [if_neg (by decide +kernel)]; exact ⟨rfl, rfl⟩))
    (fun os started H enc _ => lifted os started H enc)
theorem proved : Rows.FnExactCheapestHandsSaid := over
#print axioms proved
end Go.Proofs.Ytjmjmpbphhbmpaa.ExactCh
namespace Go.Proofs.Ytjmjmpbphhbmpaa
/-- The row, under a short name, for the claim. -/
theorem fnExactCheapestHands_holds : Rows.FnExactCheapestHandsSaid := ExactCh.proved
end Go.Proofs.Ytjmjmpbphhbmpaa
