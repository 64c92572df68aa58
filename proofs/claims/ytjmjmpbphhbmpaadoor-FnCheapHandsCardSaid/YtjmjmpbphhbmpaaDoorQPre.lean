/- Words of this place beside the print's: a pointer that is only read through, told as a slice of one element. -/
import Derived.Test.YtjmjmpbphhbmpaaDoorWWords
import Derived.Test.YtjmjmpbphhbmpaaDoorWLast
import Derived.Test.YtjmjmpbphhbmpaaDoorWMore
namespace Go.Proofs.YtjmjmpbphhbmpaaDoorQ
open Go.RowKit Go.Proofs.YtjmjmpbphhbmpaaDoorW.PrintWords Go.Proofs.YtjmjmpbphhbmpaaDoorW.PrintLast

section
variable {α : Type} {k : Kd α} {w : World}
/-- An element of a row that is read, as a row of one element. -/
theorem C_el {ad : Addr} {n : Nat} {xs : List α} (z : α) (h : Kd.C k w (some ad) n xs) {i : Int} (h0 : 0 ≤ i) (h1 : i < n) : Kd.C k w (some (ad.add (i.toNat * k.sz))) 1 [xs.getD i.toNat z] := by
  obtain ⟨ad', c, e, hl, hK, hc⟩ := Kd.C_get h z i h0 h1
  cases e
  refine ⟨rfl, by omega, fun _ => ⟨_, rfl, fun j p hj => ?_⟩⟩
  match j with
  | 0 =>
    have : xs.getD i.toNat z = p := by simpa using hj
    subst this
    refine ⟨c, hl, hK, fun q u hu => ?_⟩
    rw [add_add, show i.toNat * k.sz + (0 * k.sz + q) = i.toNat * k.sz + q by omega]
    exact hc q u hu
  | j + 1 => simp at hj
/-- A variable in memory, as a row of one element. -/
theorem C_blk {g : Nat} {t : TypeId} {cs : List Value} {x : α} (h : w.heap[g]? = some (.cells cs.toArray t (0, 0))) (hK : k.K w x cs) : Kd.C k w (some ⟨g, 0, none⟩) 1 [x] := by
  refine ⟨rfl, by omega, fun _ => ⟨_, rfl, fun j p hj => ?_⟩⟩
  match j with
  | 0 =>
    have : x = p := by simpa using hj
    subst this
    refine ⟨cs, k.K_len hK, hK, fun q u hu => ?_⟩
    rw [add_plain, blk_cell h]
    simpa using hu
  | j + 1 => simp at hj
end
end Go.Proofs.YtjmjmpbphhbmpaaDoorQ
