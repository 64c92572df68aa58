/- An argument that is a row of hands, opened: what it reads as, and that no part of it is too long. -/
import Derived.Test.YtjmjmpbphhbmpaaCh11
import Derived.Test.YtjmjmpbphhbmpaaRows
import Derived.WalkKit
import Derived.ProofKit
import Derived.OpenShut
import Derived.ShutString
import Derived.ChangeOld
import Derived.SizedLaws
import Derived.Deep.Slices
import Derived.Deep.Fields
import Derived.ChangeSame
namespace Go.Proofs.Ytjmjmpbphhbmpaa.QCH
open Go.ChangeShapes Go.WideShapes Go.ChangeAt Go.RowKit Go.Deep
open Go.Proofs.YtjmjmpbphhbmpaaQ Go.Proofs.YtjmjmpbphhbmpaaW.PrintWords Go.Proofs.YtjmjmpbphhbmpaaW.PrintLast
set_option linter.unusedVariables false

theorem list_of {α : Type} {P : Nat → α → Prop} : ∀ (n : Nat), (∀ i, i < n → ∃ x, P i x) → ∃ l : List α, l.length = n ∧ ∀ i x, l[i]? = some x → P i x
  | 0, _ => ⟨[], rfl, fun i x h => by simp at h⟩
  | n + 1, h => by
    obtain ⟨l, hl, hP⟩ := list_of n (fun i hi => h i (by omega))
    obtain ⟨x, hx⟩ := h n (by omega)
    refine ⟨l ++ [x], by simp [hl], fun i y hy => ?_⟩
    rcases Nat.lt_or_ge i l.length with hi | hi
    · rw [List.getElem?_append_left hi] at hy
      exact hP i y hy
    · rw [List.getElem?_append_right hi] at hy
      have : i = n := by
        have := (List.getElem?_eq_some_iff.1 hy).1
        simp at this
        omega
      subst this
      rw [hl, Nat.sub_self] at hy
      simp at hy
      subst hy
      exact hx

section
variable {H : Type} {enc : TypeId × Value → H} {w : World} {base : Nat} {held : Bool}
theorem open_slice_fields {P : Program} {spare : Nat → Bool} {t e : TypeId} {fs : Array Field} {fuel : Nat} {cs : List Value} {x : DataW H × List MemPlace} (ht : P.underlying t = some (.slice e)) (he : P.underlying e = some (.struct fs))
    (hone : oneCellFields P fs = true) (hC : P.cellsOf e = fs.size) (h : DataW.trod enc P w base spare held fuel t cs = some x) :
    (cs = [.slice none 0 0] ∧ x = (.nil, [])) ∨
    ∃ (a : Addr) (len cap m : Nat) (D : Nat → DataW H) (Pl : Nat → List MemPlace), cs = [.slice (some a) len cap] ∧ base ≤ a.block ∧ len ≤ cap ∧ cap ≤ maxLen ∧ m = (if spare a.block then cap else len) ∧
      x = (.slice ((List.range len).map D) ((List.range (m - len)).map fun j => D (len + j)), MemPlace.row a (m * fs.size) ++ (List.range m).flatMap Pl) ∧
      ∀ i, i < m → ∃ (ys : List (DataW H × List MemPlace)) (n : Nat), D i = .agg (ys.map (·.1)) ∧ Pl i = ys.flatMap (·.2) ∧ ys.length = fs.size ∧
        ∀ (j : Nat) (f : Field), fs[j]? = some f → ∃ (v : Value) (y : DataW H × List MemPlace), w.cell? (a.add (i * fs.size + j)) = some v ∧ ys[j]? = some y ∧ DataW.trod enc P w base spare held n f.type [v] = some y := by
  rcases open_slice ht h with h0 | ⟨a, len, cap, m, n, D, Pl, hcs, hb, hl, hm, hmm, hx, hi⟩
  · exact .inl h0
  · refine .inr ⟨a, len, cap, m, D, Pl, hcs, hb, hl, hm, hmm, by rw [hC] at hx; exact hx, fun i him => ?_⟩
    obtain ⟨cs', hc, ht'⟩ := hi i him
    rw [hC] at hc
    obtain ⟨ys, n', hn', hy, hlen, hyl, hf⟩ := DataW.trod_struct he ht'
    obtain ⟨_, hcl, hat⟩ := World.cells?_some hc
    simp only [Prod.mk.injEq] at hy
    refine ⟨ys, n', hy.1, hy.2, hyl, fun j f hj => ?_⟩
    obtain ⟨ho, hk⟩ := hone_of hone j f hj
    have hjl : j < fs.size := (Array.getElem?_eq_some_iff.1 hj).1
    have hcell := hat j hjl
    have hv : cs'[j]? = some (cs'[j]'(by omega)) := List.getElem?_eq_getElem (by omega)
    have h1 := hf j f hj
    rw [ho, hk] at h1
    have hone' : (cs'.drop j).take 1 = [cs'[j]'(by omega)] := by
      rw [List.drop_eq_getElem_cons (by omega)]
      rfl
    rw [hone'] at h1
    have hys : ys[j]? = some (ys[j]'(by omega)) := List.getElem?_eq_getElem (by omega)
    refine ⟨_, _, ?_, hys, h1.trans hys⟩
    rw [← Go.Deep.add_add, hcell, hv]

/-- A row of numbers within. -/
theorem open_row {n : Nat} {v : Value} {y : DataW H × List MemPlace} (h : DataW.trod enc Try.prog w base (fun _ => true) held n 24 [v] = some y) :
    ∃ (A : Option Addr) (c : Nat) (l : List Int), v = .slice A l.length c ∧ l.length ≤ c ∧ (Kd.int .i64).C w A l.length l ∧ ((y.1.weights Try.prog 24).all (· ≤ reachBytes) = true → l.length * 8 ≤ reachBytes) := by
  have h8 : Try.prog.bytesOf 2 = 8 := by kernel_rfl
  rcases open_ints Try.underlying24 Try.underlying2 (by kernel_rfl) h with ⟨hcs, _⟩ | ⟨x, l, c, zs, hcs, _, hl, hm, hz, hx, hcell, hwz⟩
  · obtain rfl := (List.cons.inj hcs).1
    exact ⟨none, 0, [], rfl, Nat.le_refl _, Kd.C_nil _ _, fun _ => by simp⟩
  · obtain rfl := (List.cons.inj hcs).1
    have hz : zs.length = c := by simpa using hz
    obtain ⟨q, e, hr, _, _, hc⟩ := ReadsInt.ofRowC (k := .i64) (w := w) (a := some x) (len := l) (cap := c) (zs := zs) (.inr ⟨x, rfl, hl, hm, hz, hcell, hwz⟩)
    subst e
    refine ⟨some x, c, q, rfl, hc, Kd.C_of_reads (d := (0 : Int)) (h1 := fun _ => rfl) hr, fun hs => ?_⟩
    rw [hx] at hs
    have := List.all_eq_true.1 hs (((lits (H := H) .i64 (zs.take q.length)).length + (lits (H := H) .i64 (zs.drop q.length)).length) * Try.prog.bytesOf 2) (by simp [DataW.weights, Try.underlying24])
    rw [h8] at this
    have h1 : (lits (H := H) .i64 (zs.take q.length)).length + (lits (H := H) .i64 (zs.drop q.length)).length = zs.length := by
      simp [lits]
      omega
    rw [h1] at this
    have := of_decide_eq_true this
    omega

theorem weights_all {P : Program} {e : TypeId} : ∀ {l : List (DataW H)} {d : DataW H}, d ∈ l → ∀ n ∈ d.weights P e, n ∈ DataW.weightsAll P e l
  | x :: xs, d, h, n, hn => by
    simp only [DataW.weightsAll, List.mem_append]
    rcases List.mem_cons.1 h with rfl | h
    · exact .inl hn
    · exact .inr (weights_all h n hn)

theorem open_hands {fuel : Nat} {a : Option Addr} {len cap : Nat} {x : DataW H × List MemPlace} (h : DataW.trod enc Try.prog w base (fun _ => true) held fuel 22 [.slice a len cap] = some x)
    (hs : (x.1.weights Try.prog 22).all (· ≤ reachBytes) = true) :
    ∃ l : List S36, l.length = len ∧ len ≤ cap ∧ Kd.C k36 w a l.length l ∧ (l.length : Int) < 9223372036853727232 ∧ ∀ x ∈ l, x.f0.size ≤ 9223372036853727232 ∧ x.f1.length ≤ 9223372036853727232 := by
  have h48 : Try.prog.bytesOf 36 = 48 := by kernel_rfl
  rcases open_slice_fields Try.underlying22 Try.underlying36 (by kernel_rfl) (by kernel_rfl) h with ⟨hcs, _⟩ | ⟨ad, l, c, m, D, Pl, hcs, _, hl, hm, hmm, hx, hi⟩
  · obtain ⟨rfl, rfl, rfl⟩ : a = none ∧ len = 0 ∧ cap = 0 := by simpa using hcs
    exact ⟨[], rfl, Nat.le_refl _, Kd.C_nil _ _, by simp, fun x hx => by cases hx⟩
  · obtain ⟨rfl, rfl, rfl⟩ : a = some ad ∧ len = l ∧ cap = c := by simpa using hcs
    have hmm : m = cap := by simpa using hmm
    subst hmm
    rw [hx] at hs
    have hs := List.all_eq_true.1 hs
    have hlen : len * 48 ≤ reachBytes := by
      have := of_decide_eq_true (hs ((((List.range len).map D).length + ((List.range (m - len)).map fun j => D (len + j)).length) * Try.prog.bytesOf 36) (by simp [DataW.weights, Try.underlying22]))
      rw [h48] at this
      simp at this
      omega
    obtain ⟨q, hq, hP⟩ := list_of (P := fun i (x : S36) => x.f0.size ≤ reachBytes ∧ x.f1.length * 8 ≤ reachBytes ∧ ∃ (A : Option Addr) (c1 : Nat), x.f1.length ≤ c1 ∧ (Kd.int .i64).C w A x.f1.length x.f1 ∧ w.cell? (ad.add (i * 3)) = some (.string x.f0) ∧ w.cell? (ad.add (i * 3 + 1)) = some (.slice A x.f1.length c1) ∧ w.cell? (ad.add (i * 3 + 2)) = some (.int .i64 x.f2)) len (fun i hil => by
      obtain ⟨ys, n, hD, _, hyl, hf⟩ := hi i (by omega)
      obtain ⟨v0, y0, hc0, hy0, ht0⟩ := hf 0 _ rfl
      obtain ⟨v1, y1, hc1, hy1, ht1⟩ := hf 1 _ rfl
      obtain ⟨v2, y2, hc2, hy2, ht2⟩ := hf 2 _ rfl
      obtain ⟨s, e0, ex0, _⟩ := DataW.trod_string Try.underlying9 ht0
      obtain ⟨k, e2, ex2, _⟩ := DataW.trod_int Try.underlying2 ht2
      obtain ⟨A, c1, r, e1, hr1, hr2, hr3⟩ := open_row ht1
      obtain rfl := (List.cons.inj e0).1
      obtain rfl := (List.cons.inj e2).1
      have hys : ys = [y0, y1, y2] := by
        match ys, hyl, hy0, hy1, hy2 with
        | [z0, z1, z2], _, hy0, hy1, hy2 =>
          simp only [List.getElem?_cons_zero, List.getElem?_cons_succ, Option.some.injEq] at hy0 hy1 hy2
          rw [hy0, hy1, hy2]
      have hwt : ∀ n ∈ (D i).weights Try.prog 36, n ≤ reachBytes := fun n hn => of_decide_eq_true (hs n (by
        simp only [DataW.weights, Try.underlying22, List.mem_cons, List.mem_append]
        exact .inr (.inl (weights_all (List.mem_map.2 ⟨i, by simpa using hil, rfl⟩) n hn))))
      rw [hD, hys] at hwt
      simp only [List.map_cons, List.map_nil, DataW.weights, Try.underlying36, DataW.weightsEach, List.mem_append] at hwt
      refine ⟨⟨s, r, k⟩, ?_, hr3 (List.all_eq_true.2 fun n hn => decide_eq_true (hwt n (.inr (.inl hn)))), A, c1, hr1, hr2, hc0, ?_, hc2⟩
      · have := hwt s.data.toList.length (.inl (by rw [ex0]; simp [DataW.weights]))
        simpa using this
      · rw [e1] at hc1
        exact hc1)
    refine ⟨q, hq, hl, ⟨rfl, by unfold reachBytes at hlen; omega, fun _ => ⟨ad, rfl, fun j p hj => ?_⟩⟩, by unfold reachBytes at hlen; omega, fun p hp => ?_⟩
    · obtain ⟨_, _, A, c1, hr1, hr2, h0, h1, h2⟩ := hP j p hj
      refine ⟨_, rfl, k36_mk w p hr1 hr2, fun i u hu => ?_⟩
      have e3 : k36.sz = 3 := rfl
      rw [e3]
      match i, hu with
      | 0, hu => cases hu; exact h0
      | 1, hu => cases hu; exact h1
      | 2, hu => cases hu; exact h2
      | i + 3, hu => simp at hu
    · obtain ⟨i, hi2⟩ := List.getElem?_of_mem hp
      obtain ⟨h1, h2, _⟩ := hP i p hi2
      unfold reachBytes at h1 h2
      omega
end
end Go.Proofs.Ytjmjmpbphhbmpaa.QCH
