/- What this program's world holds of the library's variables: the table of powers of ten, and the bound of a search. It stays while memory only grows. -/
import Derived.Test.YtjmjmpbphhbmpaaDoorQPre
import Derived.Test.YtjmjmpbphhbmpaaDoorQShelf
import Derived.WalkSmall
import Derived.Lib.AppendIntMem
import Derived.Lib.SplitLaws
namespace Go.Proofs.YtjmjmpbphhbmpaaDoorQ
open Go.RowKit Go.Sort Go.Proofs.YtjmjmpbphhbmpaaDoorW.PrintWords Go.Proofs.YtjmjmpbphhbmpaaDoorW.PrintLast

def GF (w : World) : Prop := Lib.TabIs Tryd.prog w "internal/strconv.uint64pow10" .u64 Lib.pow10Tab ∧ ∃ m, w.cell? ⟨0, 0, none⟩ = some (.int .i64 m)
theorem tab_below {P : Program} {w w1 : World} {n : String} {k : IntKind} {zs : List Int} (h : Lib.TabIs P w n k zs) (hb : Below w.heap.size w w1) : Lib.TabIs P w1 n k zs := by
  unfold Lib.TabIs at h ⊢
  cases hg : P.globalNamed n with
  | none => simp [World.var?, hg] at h
  | some g =>
    refine var?_below hb hg ?_ h
    simp only [World.var?, hg, Option.bind_some] at h
    rcases Nat.lt_or_ge g w.heap.size with h' | h'
    · exact h'
    · simp [Array.getElem?_eq_none h'] at h
theorem GF.below {w w1 : World} (h : GF w) (hb : Below w.heap.size w w1) : GF w1 := by
  obtain ⟨h1, m, h2⟩ := h
  exact ⟨tab_below h1 hb, m, pw_cell_below hb h2⟩
theorem GF.grown {w w1 : World} (h : GF w) (hb : Below w.heap.size w w1) : GF w1 := h.below hb
/-- A new block of strings is a row of one's own; it may have room behind. -/
theorem R_strsN (w : World) (e : Nat) (xs : List ByteArray) (cs : Array Value) (N : Nat) (hN : xs.length ≤ N) (hm : N ≤ 9223372036854775807) (hs : cs.size = N) (ht : cs.toList.take xs.length = xs.map Value.string) :
    Kd.R Kd.string e (w.alloc (.cells cs e)) w.heap.size (fun _ => True) (.slice (some ⟨w.heap.size, 0, none⟩) xs.length N) xs := by
  refine Kd.R_of_own ⟨by simp [encs], .inr ⟨w.heap.size, N, cs, rfl, Nat.le_refl _, heap_alloc_new w _, hN, hm, by simp [hs], ?_⟩⟩ (fun _ _ => trivial)
  rw [Nat.mul_one]; exact ht
theorem R_strs (w : World) (e : Nat) (xs : List ByteArray) (N : Nat) (hN : xs.length = N) (hm : N ≤ 9223372036854775807) :
    Kd.R Kd.string e (w.alloc (.cells (xs.map Value.string).toArray e)) w.heap.size (fun _ => True) (.slice (some ⟨w.heap.size, 0, none⟩) N N) xs := by
  subst hN
  exact R_strsN w e xs _ _ (Nat.le_refl _) hm (by simp) (by simp [List.take_of_length_le])
theorem grow_below (w : World) (k : Nat) (os : Array Obj) : Below w.heap.size w (grow (w.drewN k) os) := Lib.below_grow _ w (Nat.le_refl _) k os
end Go.Proofs.YtjmjmpbphhbmpaaDoorQ
