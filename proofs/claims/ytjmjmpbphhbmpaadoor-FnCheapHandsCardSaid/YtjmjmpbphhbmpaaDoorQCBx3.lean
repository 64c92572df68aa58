-- Written by a program of this place (wip/tools/prn.py) out of the translation, for this claim. Lean checks it.
import Derived.Test.YtjmjmpbphhbmpaaDoorQCBx0
import Derived.Test.YtjmjmpbphhbmpaaDoorQCBx2
namespace Go.Proofs.YtjmjmpbphhbmpaaDoor.QCB
open Go.RowKit Go.Proofs.YtjmjmpbphhbmpaaDoorQ Go.Proofs.YtjmjmpbphhbmpaaDoorW.PrintWords Go.Proofs.YtjmjmpbphhbmpaaDoorW.PrintLast Go.Proofs.YtjmjmpbphhbmpaaDoorW.PrintMore
attribute [local go_sem] max2_int min2_int max_two min_two max_three min_three max_four min_four   -- for this text's walks alone
set_option linter.unusedVariables false
set_option linter.unusedSimpArgs false

/-! ### impl_ValidHands: function 28 -/
/-- The closure: is it this name? -/
theorem handName (s t : ByteArray) (A : Option Addr) (n c : Nat) (m : Int) (g : Nat) (w : World) (hc : w.cell? ⟨g, 0, none⟩ = some (.string t)) :
    Calls Tryd.prog 54 #[.agg #[.string s, .slice A n c, .int .i64 m], .pointer (some ⟨g, 0, none⟩)] w fun e w' => e = .returned (.bool (s.toList == t.toList)) ∧ Below w.heap.size w w' := by
  have huH := Tryd.underlying33
  have hc' : ∀ o, (w.alloc o).cell? ⟨g, 0, none⟩ = some (.string t) := fun o => by
    rw [← hc]; exact (below_alloc (Below.refl _ w) o).cell (World.block_lt_of_cell? w _ hc)
  go_enter Tryd.func54, Tryd.ntmps54
  go_wp2
  go_ret
  refine ⟨by simp [*], ?_⟩
  repeat (first | exact Below.refl _ _ | apply below_alloc | apply pw_below_drewN | apply below_drew1)

theorem handNameA (s t : ByteArray) (A : Option Addr) (n c : Nat) (m : Int) (g : Nat) (w : World) (hc : w.cell? ⟨g, 0, none⟩ = some (.string t)) :
    Calls Tryd.prog 54 (#[.agg #[.string s, .slice A n c, .int .i64 m]] ++ #[.pointer (some ⟨g, 0, none⟩)]) w fun e w' => e = .returned (.bool (s.toList == t.toList)) ∧ Below w.heap.size w w' := handName s t A n c m g w hc

def idxFrom (t : ByteArray) : List S33 → Nat → Int
  | [], _ => -1
  | x :: xs, i => if (x.f0.toList == t.toList) = true then (i : Int) else idxFrom t xs (i + 1)

set_option maxHeartbeats 8000000 in
set_option maxRecDepth 100000 in
theorem handIndex (t : ByteArray) (A : Option Addr) (c : Nat) (l : List S33) (g : Nat) (w : World) (hr : Kd.C k33 w A l.length l) (hl : l.length ≤ c) (hc : w.cell? ⟨g, 0, none⟩ = some (.string t)) :
    Calls Tryd.prog 70 #[.slice A l.length c, .func (.func 54) #[] #[.pointer (some ⟨g, 0, none⟩)]] w fun e w' => e = .returned (.int .i64 (idxFrom t l 0)) ∧ Below w.heap.size w w' := by
  have huH := Tryd.underlying33
  have HR := Aside0.mk hr
  have HC := Aside0.mk hc
  have HM := Aside0.mk (Kd.C_max hr)
  clear hr hc
  have HB := Aside0.mk (Below.refl w.heap.size w)
  go_enter Tryd.func70, Tryd.ntmps70
  go_wp2
  go_loopg [8] (l.length + 1) (fun kq v8 w' => ∃ (i : Int), v8 = .int .i64 i ∧ 0 ≤ i ∧ i ≤ l.length ∧ kq = l.length + 1 - i.toNat ∧ Aside0 (idxFrom t (l.drop i.toNat) i.toNat = idxFrom t l 0) ∧ Aside0 (Below w.heap.size w w'))
  case atStart => exact ⟨0, rfl, by omega, by omega, by simp, ⟨rfl⟩, HB⟩
  case round =>
    clear HB
    obtain ⟨i, rfl, hi0, hi, hk, HI, HB⟩ := hrel
    have hm := HM.out
    by_cases c1 : i < (l.length : Int)
    · have c1' : decide (i < (l.length : Int)) = true := decide_eq_true c1
      have hw1 : wrap64 (i + 1) = i + 1 := by unfold wrap64; omega
      have hd : l.drop i.toNat = rd_T33 l i :: l.drop (i.toNat + 1) := by
        rw [List.drop_eq_getElem_cons (show i.toNat < l.length by omega)]
        congr 1
        simp [rd_T33, List.getD_eq_getElem?_getD, List.getElem?_eq_getElem (show i.toNat < l.length by omega)]
      have hI := HI.out
      rw [hd, idxFrom] at hI
      have HI2 := Aside0.mk hI
      clear hI hd HI
      have HF := Aside0.mk (And.intro hi0 (And.intro c1 hk))
      obtain ⟨ad, A1, c2, rfl, hx0, hx1, hx2, hl1, hi1⟩ := at_T33 HR.out i hi0 c1
      replace hx0 := (HB.out.cell (World.block_lt_of_cell? w _ hx0)).trans hx0
      replace hx1 := (HB.out.cell (World.block_lt_of_cell? w _ hx1)).trans hx1
      replace hx2 := (HB.out.cell (World.block_lt_of_cell? w _ hx2)).trans hx2
      replace hi0 := eq_true hi0
      replace c1 := eq_true c1
      clear hi hk hm
      go_wp2_with (fail)
      refine (handName _ t _ _ _ _ g _ ((HB.out.cell (World.block_lt_of_cell? w _ HC.out)).trans HC.out)).mono ?_
      rintro e w2 ⟨rfl, hb⟩
      have HB2 := Aside0.mk (below_step HB.out hb)
      have h2 := HI2.out
      clear hb hx0 hx1 hx2 HB HI2
      generalize ((rd_T33 l i).f0.toList == t.toList) = q at h2 ⊢
      cases q
      · rw [if_neg (by decide)] at h2
        have HI := Aside0.mk h2
        clear h2
        go_wp2
        obtain ⟨f0, f1, fk⟩ := HF.out
        go_roundg (l.length - i.toNat)
        case measure => omega
        case rel => exact ⟨i + 1, by rw [hw1], by omega, by omega, by omega, ⟨by rw [show (i + 1).toNat = i.toNat + 1 by omega]; exact HI.out⟩, HB2⟩
      · rw [if_pos rfl] at h2
        have HI := Aside0.mk h2
        clear h2
        go_wp2
        go_ret
        obtain ⟨f0, f1, fk⟩ := HF.out
        have e1 : (i.toNat : Int) = i := by omega
        exact ⟨by rw [← HI.out, e1]; rfl, HB2.out⟩
    · have c1' : decide (i < (l.length : Int)) = false := decide_eq_false c1
      go_wp2
      go_ret
      exact ⟨by have h := HI.out; rw [List.drop_eq_nil_of_le (by omega)] at h; rw [← h]; rfl, HB.out⟩

theorem handContains (t : ByteArray) (A : Option Addr) (c : Nat) (l : List S33) (g : Nat) (w : World) (hr : Kd.C k33 w A l.length l) (hl : l.length ≤ c) (hc : w.cell? ⟨g, 0, none⟩ = some (.string t)) :
    Calls Tryd.prog 53 #[.slice A l.length c, .func (.func 54) #[] #[.pointer (some ⟨g, 0, none⟩)]] w fun e w' => e = .returned (.bool (decide (idxFrom t l 0 ≥ 0))) ∧ Below w.heap.size w w' := by
  go_enter Tryd.func53, Tryd.ntmps53
  go_wp2_with (fail)
  refine (handIndex t A c l g _ hr hl hc).mono ?_
  rintro e w2 ⟨rfl, hb⟩
  go_wp2
  go_ret
  exact ⟨rfl, hb⟩

/-- Are all hands valid, with no name twice? -/
def vhFrom (ok : S33 → Bool) (pre : List S33) : List S33 → Bool
  | [] => true
  | x :: xs => if ok x = true then (if idxFrom x.f0 pre 0 ≥ 0 then false else vhFrom ok (pre ++ [x]) xs) else false
def vHands (ok : S33 → Bool) (l : List S33) : Bool := if (l.length : Int) > 10 then false else vhFrom ok [] l

theorem vhFrom_congr {ok ok' : S33 → Bool} : ∀ (l pre : List S33), (∀ x ∈ l, ok x = ok' x) → vhFrom ok pre l = vhFrom ok' pre l
  | [], _, _ => rfl
  | x :: xs, pre, h => by
    rw [vhFrom, vhFrom, h x List.mem_cons_self, vhFrom_congr xs _ (fun y hy => h y (List.mem_cons_of_mem _ hy))]
theorem vHands_congr {ok ok' : S33 → Bool} (l : List S33) (h : ∀ x ∈ l, ok x = ok' x) : vHands ok l = vHands ok' l := by
  unfold vHands
  rw [vhFrom_congr l [] h]

set_option maxHeartbeats 8000000 in
set_option maxRecDepth 100000 in
theorem handValid (k : Nat) (ok : S33 → Bool) (A : Option Addr) (c : Nat) (l : List S33) (w : World) (hr : Kd.C k33 w A l.length l) (hl : l.length ≤ c) (hok : ∀ x ∈ l, impl_validHand.f k x.f0 x.f1 x.f2 = some (ok x)) :
    Calls Tryd.prog 28 #[.slice A l.length c] w fun e w' => e = .returned (.bool (vHands ok l)) ∧ Below w.heap.size w w' := by
  have huH := Tryd.underlying33
  have HR := Aside0.mk hr
  have HM := Aside0.mk (Kd.C_max hr)
  have HO := Aside0.mk hok
  have HL := Aside0.mk hl
  clear hr hok
  have HB := Aside0.mk (Below.refl w.heap.size w)
  by_cases c0 : (l.length : Int) > 10
  · have e0 : vHands ok l = false := if_pos c0
    rw [e0]
    go_enter Tryd.func28, Tryd.ntmps28
    go_wp2
    go_ret
    exact ⟨rfl, HB.out⟩
  · have e0 : vHands ok l = vhFrom ok [] l := if_neg c0
    rw [e0]
    clear e0
    go_enter Tryd.func28, Tryd.ntmps28
    go_wp2
    go_loopg [10] (l.length + 1) (fun kq v10 w' => ∃ (i : Int), v10 = .int .i64 i ∧ 0 ≤ i ∧ i ≤ l.length ∧ kq = l.length + 1 - i.toNat ∧ Aside0 (vhFrom ok (l.take i.toNat) (l.drop i.toNat) = vhFrom ok [] l) ∧ Aside0 (Below w.heap.size w w'))
    case atStart => exact ⟨0, rfl, by omega, by omega, by simp, ⟨rfl⟩, HB⟩
    case round =>
      clear HB
      obtain ⟨i, rfl, hi0, hi, hk, HI, HB⟩ := hrel
      have hm := HM.out
      by_cases c1 : i < (l.length : Int)
      · have c1' : decide (i < (l.length : Int)) = true := decide_eq_true c1
        have hw1 : wrap64 (i + 1) = i + 1 := by unfold wrap64; omega
        have hlt : i.toNat < l.length := by omega
        have hrd : rd_T33 l i = l[i.toNat] := by simp [rd_T33, List.getD_eq_getElem?_getD, List.getElem?_eq_getElem hlt]
        have hd : l.drop i.toNat = rd_T33 l i :: l.drop (i.toNat + 1) := by
          rw [List.drop_eq_getElem_cons hlt, hrd]
        have ht : l.take i.toNat ++ [rd_T33 l i] = l.take (i.toNat + 1) := by
          rw [hrd]; simp
        have hv := HO.out (rd_T33 l i) (by rw [hrd]; exact List.getElem_mem hlt)
        have hI := HI.out
        rw [hd, vhFrom, ht] at hI
        have HI2 := Aside0.mk hI
        have HV := Aside0.mk hv
        clear hI hd HI ht hrd hlt hv
        have HF := Aside0.mk (And.intro hi0 (And.intro c1 hk))
        obtain ⟨ad, A1, c2, rfl, hx0, hx1, hx2, hl1, hi1⟩ := at_T33 HR.out i hi0 c1
        replace hx0 := (HB.out.cell (World.block_lt_of_cell? w _ hx0)).trans hx0
        replace hx1 := (HB.out.cell (World.block_lt_of_cell? w _ hx1)).trans hx1
        replace hx2 := (HB.out.cell (World.block_lt_of_cell? w _ hx2)).trans hx2
        have HI1 := Aside0.mk hi1
        have HL1 := Aside0.mk hl1
        replace hi0 := eq_true hi0
        replace c1 := eq_true c1
        clear hi hk hm hi1 hl1
        have hic : (i ≤ (c : Int)) = True := eq_true (by have := HF.out; omega)
        go_wp2_with (fail)
        have hcell : (wr.alloc (Obj.cells #[Value.string (rd_T33 l i).f0, Value.slice A1 (rd_T33 l i).f1.length c2, Value.int IntKind.i64 (rd_T33 l i).f2] 33)).cell? ⟨wr.heap.size, 0, none⟩ = some (.string (rd_T33 l i).f0) := by go_simp
        have hb0 := below_alloc HB.out (Obj.cells #[Value.string (rd_T33 l i).f0, Value.slice A1 (rd_T33 l i).f1.length c2, Value.int IntKind.i64 (rd_T33 l i).f2] 33)
        refine (impl_validHand.calls k _ _ _ _ _ (ok (rd_T33 l i)) _ (Kd.C_below HI1.out hb0) HL1.out HV.out).mono ?_
        rintro e w2 ⟨rfl, hb⟩
        have HC2 := Aside0.mk ((hb.cell (World.block_lt_of_cell? _ _ hcell)).trans hcell)
        have HB2 := Aside0.mk (below_step hb0 hb)
        have h2 := HI2.out
        clear hb hx0 hx1 hx2 HB HI2 hcell hb0 HV HI1 HL1
        generalize ok (rd_T33 l i) = q at h2 ⊢
        cases q
        · rw [if_neg (by decide)] at h2
          have HI := Aside0.mk h2
          clear h2
          go_wp2
          go_ret
          exact ⟨by rw [← HI.out]; rfl, HB2.out⟩
        · rw [if_pos rfl] at h2
          have HI := Aside0.mk h2
          clear h2
          go_wp2_with (fail)
          obtain ⟨f0, f1, fk⟩ := HF.out
          have hl2 : (l.take i.toNat).length = i.toNat := by rw [List.length_take]; omega
          have h32 := handContains (rd_T33 l i).f0 (some ad) c (l.take i.toNat) wr.heap.size w2 (Kd.C_take (m := i.toNat) (Kd.C_below HR.out HB2.out) (by omega)) (by rw [hl2]; omega) HC2.out
          rw [hl2] at h32
          refine h32.mono ?_
          rintro e w3 ⟨rfl, hb⟩
          have HB := Aside0.mk (below_step HB2.out hb)
          clear hb h32 HC2 HB2
          have h2 := HI.out
          clear HI
          by_cases cq : idxFrom (rd_T33 l i).f0 (l.take i.toNat) 0 ≥ 0
          · rw [if_pos cq] at h2
            rw [decide_eq_true cq]
            have HI := Aside0.mk h2
            clear h2 cq
            go_wp2
            go_ret
            exact ⟨by rw [← HI.out]; rfl, HB.out⟩
          · rw [if_neg cq] at h2
            rw [decide_eq_false cq]
            have HI := Aside0.mk h2
            clear h2 f0 f1 fk hl2 cq
            go_wp2
            obtain ⟨f0, f1, fk⟩ := HF.out
            go_roundg (l.length - i.toNat)
            case measure => omega
            case rel => exact ⟨i + 1, by rw [hw1], by omega, by omega, by omega, ⟨by rw [show (i + 1).toNat = i.toNat + 1 by omega]; exact HI.out⟩, HB⟩
      · have c1' : decide (i < (l.length : Int)) = false := decide_eq_false c1
        go_wp2
        go_ret
        exact ⟨by have h := HI.out; rw [List.drop_eq_nil_of_le (by omega)] at h; rw [← h]; rfl, HB.out⟩

def hand_ok (k : Nat) (x : S33) : Option Bool := impl_validHand.f k x.f0 x.f1 x.f2
def impl_ValidHands.f (k : Nat) (l0 : List S33) : Option Bool := if (l0.all fun x => (hand_ok k x).isSome) = true then some (vHands (fun x => (hand_ok k x).getD false) l0) else none
theorem impl_ValidHands.mono : ∀ a0 k, LeO (impl_ValidHands.f k a0) (impl_ValidHands.f (k + 1) a0) := by
  intro l k r h
  unfold impl_ValidHands.f at h ⊢
  split at h
  · rename_i c
    have hs : ∀ x ∈ l, hand_ok (k + 1) x = hand_ok k x := by
      intro x hx
      obtain ⟨b, hb⟩ := Option.isSome_iff_exists.1 (List.all_eq_true.1 c x hx)
      rw [hb]
      exact impl_validHand.mono _ _ _ k b hb
    rw [if_pos (List.all_eq_true.2 fun x hx => by rw [hs x hx]; exact List.all_eq_true.1 c x hx)]
    rw [← h]
    congr 1
    exact vHands_congr l (fun x hx => by rw [hs x hx])
  · cases h
theorem impl_ValidHands.calls (k : Nat) (A0 : Option Addr) (c0 : Nat) (l0 : List (S33)) (r : Bool) (w : World) (hr0 : Kd.C k33 w A0 l0.length l0) (hc0 : l0.length ≤ c0) (h : impl_ValidHands.f k l0 = some r) :
    Calls Tryd.prog 28 #[.slice A0 l0.length c0] w fun e w' => e = .returned (.bool r) ∧ Below w.heap.size w w' := by
  unfold impl_ValidHands.f at h
  split at h
  · rename_i c
    obtain rfl := Option.some.inj h
    refine handValid k _ A0 c0 l0 w hr0 hc0 (fun x hx => ?_)
    obtain ⟨b, hb⟩ := Option.isSome_iff_exists.1 (List.all_eq_true.1 c x hx)
    show hand_ok k x = _
    rw [hb]; rfl
  · cases h


/-! ### impl_extraMinutes: function 31 -/
def impl_extraMinutes.l0 : Nat → Int → Int → List Int → Int → Int → Option (Int)
  | 0, _, _, _, _, _ => none
  | k + 1, x1, x5, x9, x10, x11 => if x11 < x10 then (if 0 ≤ x11 then (if x11 < (x9.length : Int) then (impl_extraMinutes.l0 k x1 (wrap64 (x5 + (mx 0 (wrap64 ((rd x9 x11) - x1))))) x9 x10 (wrap64 (x11 + 1))) else (none)) else (none)) else (some x5)
def impl_extraMinutes.f (k : Nat) (a0_0 : ByteArray) (l0_1 : List Int) (a0_2 : Int) (a1 : Int) : Option (Int) := impl_extraMinutes.l0 k a1 0 l0_1 (l0_1.length : Int) 0
theorem impl_extraMinutes.mono_l : ∀ k, (∀ y0 y1 y2 y3 y4, LeO (impl_extraMinutes.l0 k y0 y1 y2 y3 y4) (impl_extraMinutes.l0 (k + 1) y0 y1 y2 y3 y4))
  | 0 => fun _ _ _ _ _ r h => by simp [impl_extraMinutes.l0] at h
  | k + 1 => by
    have ih0 := impl_extraMinutes.mono_l k
    · intro y0 y1 y2 y3 y4
      unfold impl_extraMinutes.l0
      repeat' first
      | (with_reducible exact ih0 _ _ _ _ _)
      | (with_reducible exact LeO.refl _)
      | (with_reducible exact LeO.none _)
      | (with_reducible refine LeO.ite ?_ ?_)
      | (with_reducible refine LeO.bind ?_ (fun _ => ?_))
      | exact ih0 _ _ _ _ _
      | exact LeO.none _
      | refine LeO.ite ?_ ?_
      | refine LeO.bind ?_ (fun _ => ?_)
theorem impl_extraMinutes.mono : ∀ a0 a1 a2 a3 k, LeO (impl_extraMinutes.f k a0 a1 a2 a3) (impl_extraMinutes.f (k + 1) a0 a1 a2 a3) := by
  intro a0 a1 a2 a3 k
  have ih0 := impl_extraMinutes.mono_l k
  unfold impl_extraMinutes.f
  repeat' first
      | (with_reducible exact ih0 _ _ _ _ _)
      | (with_reducible exact LeO.refl _)
      | (with_reducible exact LeO.none _)
      | (with_reducible refine LeO.ite ?_ ?_)
      | (with_reducible refine LeO.bind ?_ (fun _ => ?_))
      | exact ih0 _ _ _ _ _
      | exact LeO.none _
      | refine LeO.ite ?_ ?_
      | refine LeO.bind ?_ (fun _ => ?_)
set_option maxHeartbeats 8000000 in
set_option maxRecDepth 100000 in
theorem impl_extraMinutes.calls (k : Nat) (a0_0 : ByteArray) (A0_1 : Option Addr) (c0_1 : Nat) (l0_1 : List Int) (a0_2 : Int) (a1 : Int) (r : Int) (w : World) (hr0_1 : Kd.C (Kd.int .i64) w A0_1 l0_1.length l0_1) (hc0_1 : l0_1.length ≤ c0_1) (h : impl_extraMinutes.f k a0_0 l0_1 a0_2 a1 = some r) :
    Calls Tryd.prog 31 #[.agg #[.string a0_0, .slice A0_1 l0_1.length c0_1, .int .i64 a0_2], .int .i64 a1] w fun e w' => e = .returned (.int .i64 r) ∧ Below w.heap.size w w' := by
  have hu33 := Tryd.underlying33
  have HR0_1 := Aside0.mk hr0_1
  have HC0_1 := Aside0.mk hc0_1
  clear hr0_1 hc0_1
  have HB := Aside0.mk (Below.refl w.heap.size w)
  have H : (impl_extraMinutes.l0 k a1 0 l0_1 (l0_1.length : Int) 0) = some r := h
  clear h
  have H' := Aside0.mk H
  clear H
  go_enter Tryd.func31, Tryd.ntmps31
  go_wp2_with (first | ((with_reducible refine gate_dst (N := 2) rfl ?_); refine box_event ?hg (N := 2) ?hd (cs := #[.string a0_0, .slice A0_1 l0_1.length c0_1, .int .i64 a0_2]) (t := 33) ?hr ?_; (case hd => rfl); (case hg => rfl); (case hr => first | (go_simp; done) | (go_simp; rfl)); intro gb171 hg w3 hbox hb; have n0_ := Aside0.mk (below_step (by repeat (first | (with_reducible first | exact HB.out | apply below_alloc | apply pw_below_drewN | apply below_drew1) | exact HB.out)) hb); have n1_ := Aside0.mk (hbox); have n2_ := Aside0.mk ((by rw [hg]; exact (below_size (by repeat (first | (with_reducible first | exact HB.out | apply below_alloc | apply pw_below_drewN | apply below_drew1) | exact HB.out))) : w.heap.size ≤ gb171)); have n3_ := Aside0.mk ((by rw [hg]; exact (below_size (by repeat (first | (with_reducible first | exact HB.out | apply below_alloc | apply pw_below_drewN | apply below_drew1) | exact HB.out))) : w.heap.size ≤ gb171)); clear HB; have HB := n0_; have BK171 := n1_; have GW171 := n2_; have GE171 := n3_; clear n0_ n1_ n2_ n3_; clear hb hbox hg; have hcz4_0 : w3.cell? ⟨gb171, 0, none⟩ = some (.string a0_0) := (blk_cell BK171.out 0).trans rfl; have hcz4_1 : w3.cell? ⟨gb171, 1, none⟩ = some (.slice A0_1 l0_1.length c0_1) := (blk_cell BK171.out 1).trans rfl; have hcz4_2 : w3.cell? ⟨gb171, 2, none⟩ = some (.int .i64 a0_2) := (blk_cell BK171.out 2).trans rfl; have hfz4_0 := blk_frozen BK171.out 0; have hfz4_1 := blk_frozen BK171.out 1; have hfz4_2 := blk_frozen BK171.out 2))
  go_loopg [5, 11] k (fun kq v5 v11 w' => ∃ (x5_1 : Int) (x11_1 : Int), v5 = .int .i64 x5_1 ∧ v11 = .int .i64 x11_1 ∧ Aside0 (impl_extraMinutes.l0 kq a1 x5_1 l0_1 (l0_1.length : Int) x11_1 = some r) ∧ Aside0 (kq ≤ k) ∧ Aside0 (w'.heap[gb171]? = some (.cells #[.string a0_0, (.slice A0_1 l0_1.length c0_1), .int .i64 a0_2] 33 (0, 0))) ∧ Aside0 (Below w.heap.size w w'))
  case atStart => exact ⟨(0), (0), (by first | rfl | (simp; done) | (simp [*]; done)), (by first | rfl | (simp; done) | (simp [*]; done)), H', ⟨Nat.le_refl _⟩, ⟨by (with_reducible repeat (first | refine blk_drewN ?_ _ | refine blk_drew ?_ | refine blk_alloc ?_ _)); exact BK171.out⟩, ⟨by repeat (first | (with_reducible first | exact HB.out | apply below_alloc | apply pw_below_drewN | apply below_drew1 | refine below_set ?_ GE171.out) | exact HB.out)⟩⟩
  case round =>
    clear H'
    try clear p2
    try clear c3
    try clear hcz4_0
    try clear hcz4_1
    try clear hcz4_2
    try clear hfz4_0
    try clear hfz4_1
    try clear hfz4_2
    obtain ⟨x5_1, x11_1, rfl, rfl, HA, HK1, BK171, HB⟩ := hrel
    cases gk with
    | zero => exact absurd HA.out (by simp [impl_extraMinutes.l0])
    | succ k1 =>
      have H := HA.out
      clear HA
      simp only [impl_extraMinutes.l0] at H
      by_cases c5 : x11_1 < (l0_1.length : Int)
      · rw [if_pos c5] at H
        have c5b0 : decide (x11_1 < (l0_1.length : Int)) = true := decide_eq_true c5
        clear c5
        by_cases c6 : 0 ≤ x11_1
        · rw [if_pos c6] at H
          have c6b0 : decide (0 ≤ x11_1) = true := decide_eq_true c6
          clear c6
          by_cases c7 : x11_1 < (l0_1.length : Int)
          · rw [if_pos c7] at H
            have c7b0 : decide (x11_1 < (l0_1.length : Int)) = true := decide_eq_true c7
            clear c7
            obtain ⟨ji8, hji8⟩ : ∃ j_ : Int, (mx 0 (wrap64 ((rd l0_1 x11_1) - a1))) = j_ := ⟨_, rfl⟩
            replace H : (impl_extraMinutes.l0 k1 a1 (wrap64 (x5_1 + (ji8))) l0_1 (l0_1.length : Int) (wrap64 (x11_1 + 1))) = some r := by first | (rw [hji8] at H; exact H) | (simp only [hji8] at H ⊢; exact H)
            have hji8_ : (if 0 < (wrap64 ((rd l0_1 x11_1) - a1)) then (wrap64 ((rd l0_1 x11_1) - a1)) else 0) = ji8 := hji8
            have H' := Aside0.mk H
            clear H
            have p172 : 0 ≤ (x11_1 : Int) := of_decide_eq_true (by first | (with_reducible assumption) | assumption)
            have q172 : x11_1 < (l0_1.length : Int) := of_decide_eq_true (by first | (with_reducible assumption) | assumption)
            obtain ⟨ad172, e172, hx172_0⟩ := Kd.at_int HR0_1.out x11_1 p172 q172
            cases e172
            replace hx172_0 := (HB.out.cell (World.block_lt_of_cell? w _ hx172_0)).trans hx172_0
            replace p172 := eq_true p172
            replace q172 := eq_true q172
            go_wp2
            go_roundg k1
            case measure => have := HK1.out; omega
            case rel => exact ⟨(wrap64 (x5_1 + (ji8))), (wrap64 (x11_1 + 1)), (by first | rfl | (simp; done) | (simp only [← hji8] <;> (first | rfl | simp)) | (simp [*]; done)), (by first | rfl | (simp; done) | (simp [*]; done)), H', ⟨by have := HK1.out; omega⟩, ⟨by (with_reducible repeat (first | refine blk_drewN ?_ _ | refine blk_drew ?_ | refine blk_alloc ?_ _)); exact BK171.out⟩, ⟨by repeat (first | (with_reducible first | exact HB.out | apply below_alloc | apply pw_below_drewN | apply below_drew1 | refine below_set ?_ GE171.out) | exact HB.out)⟩⟩
          · rw [if_neg c7] at H
            exact absurd H (by simp)
        · rw [if_neg c6] at H
          exact absurd H (by simp)
      · rw [if_neg c5] at H
        have c5b0 : decide (x11_1 < (l0_1.length : Int)) = false := decide_eq_false c5
        clear c5
        obtain rfl := Option.some.inj H
        go_wp2
        go_ret
        exact ⟨by first | rfl | (simp [errW_none, errW_some] <;> rfl) | (simp [*, errW_none, errW_some] <;> rfl), by repeat (first | (with_reducible first | exact HB.out | apply below_alloc | apply pw_below_drewN | apply below_drew1 | refine below_set ?_ GE171.out) | exact HB.out)⟩

/-! ### impl_payOf: function 32 -/
def impl_payOf.f (k : Nat) (a0_0 : ByteArray) (l0_1 : List Int) (a0_2 : Int) (a1 : Int) (a2 : Int) : Option (Int) := (impl_extraMinutes.f k a0_0 l0_1 a0_2 0).bind fun t174 => ((impl_extraMinutes.f k a0_0 l0_1 a0_2 a1).bind fun t175 => (some (wrap64 (Int.tdiv (wrap64 ((wrap64 ((wrap64 (a0_2 * t174)) * 100)) + (wrap64 ((wrap64 (a0_2 * t175)) * a2)))) 6000))))
theorem impl_payOf.mono : ∀ a0 a1 a2 a3 a4 k, LeO (impl_payOf.f k a0 a1 a2 a3 a4) (impl_payOf.f (k + 1) a0 a1 a2 a3 a4) := by
  intro a0 a1 a2 a3 a4 k
  unfold impl_payOf.f
  repeat' first
      | (with_reducible exact impl_extraMinutes.mono _ _ _ _ _)
      | (with_reducible exact LeO.refl _)
      | (with_reducible exact LeO.none _)
      | (with_reducible refine LeO.ite ?_ ?_)
      | (with_reducible refine LeO.bind ?_ (fun _ => ?_))
      | exact impl_extraMinutes.mono _ _ _ _ _
      | exact LeO.none _
      | refine LeO.ite ?_ ?_
      | refine LeO.bind ?_ (fun _ => ?_)
def impl_payOf.T1 : Bool × List (List Nat × List Nat) := (true, [([], []), ([0], [0]), ([], []), ([2], [2]), ([1, 3], [1, 3]), ([4], [4]), ([], []), ([6], [6]), ([], []), ([], []), ([8, 9, 3], [8, 9]), ([7, 10], [7, 10]), ([], []), ([11, 12], [11, 12]), ([5, 13], [5, 13]), ([14], [14]), ([15, 10, 0, 1, 2, 3, 4, 5, 6, 7, 8, 9, 10, 11, 12, 13, 14, 15], [15])])
def impl_payOf.B1 : List Nat := [0, 1, 0, 4, 15, 31, 0, 64, 0, 0, 780, 1996, 0, 8140, 16383, 32767, 65535]
theorem impl_payOf.tab1 : rtab .any (opsOf Tryd.f32 1) = impl_payOf.T1 := by kernel_rfl
theorem impl_payOf.bits1 : waitsOk impl_payOf.T1.2 impl_payOf.B1 = true := by kernel_rfl
set_option maxHeartbeats 8000000 in
set_option maxRecDepth 100000 in
theorem impl_payOf.calls (k : Nat) (a0_0 : ByteArray) (A0_1 : Option Addr) (c0_1 : Nat) (l0_1 : List Int) (a0_2 : Int) (a1 : Int) (a2 : Int) (r : Int) (w : World) (hr0_1 : Kd.C (Kd.int .i64) w A0_1 l0_1.length l0_1) (hc0_1 : l0_1.length ≤ c0_1) (h : impl_payOf.f k a0_0 l0_1 a0_2 a1 a2 = some r) :
    Calls Tryd.prog 32 #[.agg #[.string a0_0, .slice A0_1 l0_1.length c0_1, .int .i64 a0_2], .int .i64 a1, .int .i64 a2] w fun e w' => e = .returned (.int .i64 r) ∧ Below w.heap.size w w' := by
  have hu33 := Tryd.underlying33
  have HR0_1 := Aside0.mk hr0_1
  have HC0_1 := Aside0.mk hc0_1
  clear hr0_1 hc0_1
  have HB := Aside0.mk (Below.refl w.heap.size w)
  have H : ((impl_extraMinutes.f k a0_0 l0_1 a0_2 0).bind fun t174 => ((impl_extraMinutes.f k a0_0 l0_1 a0_2 a1).bind fun t175 => (some (wrap64 (Int.tdiv (wrap64 ((wrap64 ((wrap64 (a0_2 * t174)) * 100)) + (wrap64 ((wrap64 (a0_2 * t175)) * a2)))) 6000))))) = some r := h
  clear h
  replace H := Option.bind_eq_some_iff.mp H
  obtain ⟨t174, A40, H⟩ := H
  have A4 := Aside0.mk A40
  clear A40
  replace H := Option.bind_eq_some_iff.mp H
  obtain ⟨t175, A50, H⟩ := H
  have A5 := Aside0.mk A50
  clear A50
  obtain rfl := Option.some.inj H
  go_enter Tryd.func32, Tryd.ntmps32
  try go_wp2_with (first | ((with_reducible refine gate_dst (N := 3) rfl ?_); refine box_event ?hg (N := 3) ?hd (cs := #[.string a0_0, .slice A0_1 l0_1.length c0_1, .int .i64 a0_2]) (t := 33) ?hr ?_; (case hd => rfl); (case hg => rfl); (case hr => first | (go_simp; done) | (go_simp; rfl)); intro gb173 hg w6 hbox hb; have n0_ := Aside0.mk (below_step (by repeat (first | (with_reducible first | exact HB.out | apply below_alloc | apply pw_below_drewN | apply below_drew1) | exact HB.out)) hb); have n1_ := Aside0.mk (hbox); have n2_ := Aside0.mk ((by rw [hg]; exact (below_size (by repeat (first | (with_reducible first | exact HB.out | apply below_alloc | apply pw_below_drewN | apply below_drew1) | exact HB.out))) : w.heap.size ≤ gb173)); have n3_ := Aside0.mk ((by rw [hg]; exact (below_size (by repeat (first | (with_reducible first | exact HB.out | apply below_alloc | apply pw_below_drewN | apply below_drew1) | exact HB.out))) : w.heap.size ≤ gb173)); clear HB; have HB := n0_; have BK173 := n1_; have GW173 := n2_; have GE173 := n3_; clear n0_ n1_ n2_ n3_; clear hb hbox hg))
  have n0_ := Aside0.mk (blk_drew BK173.out)
  have n1_ := Aside0.mk (below_drew1 HB.out)
  clear BK173
  clear HB
  have BK173 := n0_
  have HB := n1_
  clear n0_ n1_
  refine start_ (n := 17) (S := fun w' => w'.cell? ⟨gb173, 0, none⟩ = some (.string a0_0) ∧ w'.cell? ⟨gb173, 1, none⟩ = some (.slice A0_1 l0_1.length c0_1) ∧ w'.cell? ⟨gb173, 2, none⟩ = some (.int .i64 a0_2)) (ds := []) #[false, false, false, false, false, false, false, false, false, false, false, false, false, false, false, false, false] (by kernel_rfl) rfl rfl ⟨(blk_cell BK173.out 0).trans rfl, (blk_cell BK173.out 1).trans rfl, (blk_cell BK173.out 2).trans rfl⟩ (fun hHeld => ?_); refine with_tabW impl_payOf.tab1 impl_payOf.bits1 (fun HT_ HW_ => ?_)
  generalize w6.drew = w7 at BK173 HB hHeld ⊢
  refine pure_ (i := 0) (N := some 7) (v := ?_) (a' := ?_) #[true, false, false, false, false, false, false, false, false, false, false, false, false, false, false, false, false] rfl rfl (any_of HT_.out (by kernel_rfl)) (fun _ _ _ h => h) (Or.inl ⟨by rfl, ?_⟩) ?_ ?_
  rotate_left
  · intro w'
    go_simp
    with_reducible rfl
  rotate_left
  · simp only [Act.put, List.setIfInBounds_toArray, List.set_cons_zero, List.set_cons_succ, i64_w, i32_w]
    rfl
  refine pure_ (i := 6) (N := some 13) (v := ?_) (a' := ?_) #[true, false, false, false, false, false, true, false, false, false, false, false, false, false, false, false, false] rfl rfl (any_of HT_.out (by kernel_rfl)) (fun _ _ _ h => h) (Or.inl ⟨by rfl, ?_⟩) ?_ ?_
  rotate_left
  · intro w'
    go_simp
    with_reducible rfl
  rotate_left
  · simp only [Act.put, List.setIfInBounds_toArray, List.set_cons_zero, List.set_cons_succ, i64_w, i32_w]
    rfl
  refine pure_ (i := 9) (N := some 16) (v := ?_) (a' := ?_) #[true, false, false, false, false, false, true, false, false, true, false, false, false, false, false, false, false] rfl rfl (any_of HT_.out (by kernel_rfl)) (fun _ _ _ h => h) (Or.inl ⟨by rfl, ?_⟩) ?_ ?_
  rotate_left
  · intro w'
    go_simp
    with_reducible rfl
  rotate_left
  · simp only [Act.put, List.setIfInBounds_toArray, List.set_cons_zero, List.set_cons_succ, i64_w, i32_w]
    rfl
  refine pure_ (i := 12) (N := some 19) (v := ?_) (a' := ?_) #[true, false, false, false, false, false, true, false, false, true, false, false, true, false, false, false, false] rfl rfl (any_of HT_.out (by kernel_rfl)) (fun _ _ _ h => h) (Or.inl ⟨by rfl, ?_⟩) ?_ ?_
  rotate_left
  · intro w'
    go_simp
    with_reducible rfl
  rotate_left
  · simp only [Act.put, List.setIfInBounds_toArray, List.set_cons_zero, List.set_cons_succ, i64_w, i32_w]
    rfl
  refine take_ (i := 1) (N := some 8) (v := ?_) (a' := ?_) #[true, true, false, false, false, false, true, false, false, true, false, false, true, false, false, false, false] rfl rfl (take_ofW HT_.out HW_.out (by kernel_rfl)) (fun _ _ _ h => h) (Or.inl ⟨by rfl, ?_⟩) hHeld ?_ ?_
  rotate_left
  · rintro w' ⟨s0, s1, s2⟩
    go_simp
    with_reducible rfl
  rotate_left
  · simp only [Act.put, List.setIfInBounds_toArray, List.set_cons_zero, List.set_cons_succ, i64_w, i32_w]
    rfl
  refine take_ (i := 2) (N := some 9) (v := ?_) (a' := ?_) #[true, true, true, false, false, false, true, false, false, true, false, false, true, false, false, false, false] rfl rfl (take_ofW HT_.out HW_.out (by kernel_rfl)) (fun _ _ _ h => h) (Or.inl ⟨by rfl, ?_⟩) hHeld ?_ ?_
  rotate_left
  · rintro w' ⟨s0, s1, s2⟩
    go_simp
    with_reducible rfl
  rotate_left
  · simp only [Act.put, List.setIfInBounds_toArray, List.set_cons_zero, List.set_cons_succ, i64_w, i32_w]
    rfl
  refine take_ (i := 7) (N := some 14) (v := ?_) (a' := ?_) #[true, true, true, false, false, false, true, true, false, true, false, false, true, false, false, false, false] rfl rfl (take_ofW HT_.out HW_.out (by kernel_rfl)) (fun _ _ _ h => h) (Or.inl ⟨by rfl, ?_⟩) hHeld ?_ ?_
  rotate_left
  · rintro w' ⟨s0, s1, s2⟩
    go_simp
    with_reducible rfl
  rotate_left
  · simp only [Act.put, List.setIfInBounds_toArray, List.set_cons_zero, List.set_cons_succ, i64_w, i32_w]
    rfl
  refine take_ (i := 8) (N := some 15) (v := ?_) (a' := ?_) #[true, true, true, false, false, false, true, true, true, true, false, false, true, false, false, false, false] rfl rfl (take_ofW HT_.out HW_.out (by kernel_rfl)) (fun _ _ _ h => h) (Or.inl ⟨by rfl, ?_⟩) hHeld ?_ ?_
  rotate_left
  · rintro w' ⟨s0, s1, s2⟩
    go_simp
    with_reducible rfl
  rotate_left
  · simp only [Act.put, List.setIfInBounds_toArray, List.set_cons_zero, List.set_cons_succ, i64_w, i32_w]
    rfl
  refine one_ (i := 3) (N := some 10) #[true, true, true, true, false, false, true, true, true, true, false, false, true, false, false, false, false] rfl rfl (one_of HT_.out (by kernel_rfl)) (by decide) (fun K hK => ?_)
  refine goes_ Tryd.func31 (by kernel_rfl) rfl #[.agg #[.string a0_0, .slice A0_1 l0_1.length c0_1, .int .i64 a0_2], .int .i64 0] (by rfl) rfl rfl (by (try simp only [List.map_toArray, List.map_cons, List.map_nil]); first | done | rfl | (simp only [List.length_drop, List.length_take]; rfl)) ?_
  with_reducible refine (impl_extraMinutes.calls k a0_0 _ _ l0_1 a0_2 0 t174 _ ?side1 ?side2 A4.out).mono ?_
  (case side1 => repeat (first | exact (Kd.C_below HR0_1.out HB.out) | (with_reducible refine Kd.C_alloc ?_ _) | (with_reducible refine Kd.C_drewN ?_ _) | (with_reducible refine Kd.C_drew ?_)))
  (case side2 => exact HC0_1.out)
  rintro e w8 ⟨rfl, hb⟩
  refine ⟨_, rfl, ?_⟩
  have n0_ := Aside0.mk (blk_below (g := gb173) (o := .cells #[.string a0_0, .slice A0_1 l0_1.length c0_1, .int .i64 a0_2] 33 (0, 0)) (by (with_reducible repeat (first | refine blk_drewN ?_ _ | refine blk_drew ?_ | refine blk_alloc ?_ _)); exact BK173.out) hb)
  have n1_ := Aside0.mk (below_step (by repeat (first | (with_reducible first | exact HB.out | apply below_alloc | apply pw_below_drewN | apply below_drew1 | refine below_set ?_ GE173.out) | exact HB.out)) hb)
  clear BK173
  clear HB
  have BK173 := n0_
  have HB := n1_
  clear n0_ n1_
  (try clear hb)
  (try clear hb2)
  (try clear hk)
  (try clear hi)
  refine hK.out _ _ ⟨(blk_cell BK173.out 0).trans rfl, (blk_cell BK173.out 1).trans rfl, (blk_cell BK173.out 2).trans rfl⟩ (fun hHeld => ?_)
  clear hK K
  refine norm_ (a' := ?_) ?_ ?_
  rotate_left
  · show Act.put _ (some 10) _ = _
    simp only [Act.put, List.setIfInBounds_toArray, List.set_cons_zero, List.set_cons_succ, i64_w, i32_w]
    rfl
  refine pure_ (i := 4) (N := some 11) (v := ?_) (a' := ?_) #[true, true, true, true, true, false, true, true, true, true, false, false, true, false, false, false, false] rfl rfl (any_of HT_.out (by kernel_rfl)) (fun _ _ _ h => h) (Or.inl ⟨by rfl, ?_⟩) ?_ ?_
  rotate_left
  · intro w'
    go_simp
    with_reducible rfl
  rotate_left
  · simp only [Act.put, List.setIfInBounds_toArray, List.set_cons_zero, List.set_cons_succ, i64_w, i32_w]
    rfl
  refine pure_ (i := 5) (N := some 12) (v := ?_) (a' := ?_) #[true, true, true, true, true, true, true, true, true, true, false, false, true, false, false, false, false] rfl rfl (any_of HT_.out (by kernel_rfl)) (fun _ _ _ h => h) (Or.inl ⟨by rfl, ?_⟩) ?_ ?_
  rotate_left
  · intro w'
    go_simp
    with_reducible rfl
  rotate_left
  · simp only [Act.put, List.setIfInBounds_toArray, List.set_cons_zero, List.set_cons_succ, i64_w, i32_w]
    rfl
  refine one_ (i := 10) (N := some 17) #[true, true, true, true, true, true, true, true, true, true, true, false, true, false, false, false, false] rfl rfl (one_of HT_.out (by kernel_rfl)) (by decide) (fun K hK => ?_)
  refine goes_ Tryd.func31 (by kernel_rfl) rfl #[.agg #[.string a0_0, .slice A0_1 l0_1.length c0_1, .int .i64 a0_2], .int .i64 a1] (by rfl) rfl rfl (by (try simp only [List.map_toArray, List.map_cons, List.map_nil]); first | done | rfl | (simp only [List.length_drop, List.length_take]; rfl)) ?_
  with_reducible refine (impl_extraMinutes.calls k a0_0 _ _ l0_1 a0_2 a1 t175 _ ?side1 ?side2 A5.out).mono ?_
  (case side1 => repeat (first | exact (Kd.C_below HR0_1.out HB.out) | (with_reducible refine Kd.C_alloc ?_ _) | (with_reducible refine Kd.C_drewN ?_ _) | (with_reducible refine Kd.C_drew ?_)))
  (case side2 => exact HC0_1.out)
  rintro e w9 ⟨rfl, hb⟩
  refine ⟨_, rfl, ?_⟩
  have n0_ := Aside0.mk (blk_below (g := gb173) (o := .cells #[.string a0_0, .slice A0_1 l0_1.length c0_1, .int .i64 a0_2] 33 (0, 0)) (by (with_reducible repeat (first | refine blk_drewN ?_ _ | refine blk_drew ?_ | refine blk_alloc ?_ _)); exact BK173.out) hb)
  have n1_ := Aside0.mk (below_step (by repeat (first | (with_reducible first | exact HB.out | apply below_alloc | apply pw_below_drewN | apply below_drew1 | refine below_set ?_ GE173.out) | exact HB.out)) hb)
  clear BK173
  clear HB
  have BK173 := n0_
  have HB := n1_
  clear n0_ n1_
  (try clear hb)
  (try clear hb2)
  (try clear hk)
  (try clear hi)
  refine hK.out _ _ ⟨(blk_cell BK173.out 0).trans rfl, (blk_cell BK173.out 1).trans rfl, (blk_cell BK173.out 2).trans rfl⟩ (fun hHeld => ?_)
  clear hK K
  refine norm_ (a' := ?_) ?_ ?_
  rotate_left
  · show Act.put _ (some 17) _ = _
    simp only [Act.put, List.setIfInBounds_toArray, List.set_cons_zero, List.set_cons_succ, i64_w, i32_w]
    rfl
  refine pure_ (i := 11) (N := some 18) (v := ?_) (a' := ?_) #[true, true, true, true, true, true, true, true, true, true, true, true, true, false, false, false, false] rfl rfl (any_of HT_.out (by kernel_rfl)) (fun _ _ _ h => h) (Or.inl ⟨by rfl, ?_⟩) ?_ ?_
  rotate_left
  · intro w'
    go_simp
    with_reducible rfl
  rotate_left
  · simp only [Act.put, List.setIfInBounds_toArray, List.set_cons_zero, List.set_cons_succ, i64_w, i32_w]
    rfl
  refine pure_ (i := 13) (N := some 20) (v := ?_) (a' := ?_) #[true, true, true, true, true, true, true, true, true, true, true, true, true, true, false, false, false] rfl rfl (any_of HT_.out (by kernel_rfl)) (fun _ _ _ h => h) (Or.inl ⟨by rfl, ?_⟩) ?_ ?_
  rotate_left
  · intro w'
    go_simp
    with_reducible rfl
  rotate_left
  · simp only [Act.put, List.setIfInBounds_toArray, List.set_cons_zero, List.set_cons_succ, i64_w, i32_w]
    rfl
  refine pure_ (i := 14) (N := some 21) (v := ?_) (a' := ?_) #[true, true, true, true, true, true, true, true, true, true, true, true, true, true, true, false, false] rfl rfl (any_of HT_.out (by kernel_rfl)) (fun _ _ _ h => h) (Or.inl ⟨by rfl, ?_⟩) ?_ ?_
  rotate_left
  · intro w'
    go_simp
    with_reducible rfl
  rotate_left
  · simp only [Act.put, List.setIfInBounds_toArray, List.set_cons_zero, List.set_cons_succ, i64_w, i32_w]
    rfl
  refine pure_ (i := 15) (N := some 22) (v := ?_) (a' := ?_) #[true, true, true, true, true, true, true, true, true, true, true, true, true, true, true, true, false] rfl rfl (any_of HT_.out (by kernel_rfl)) (fun _ _ _ h => h) (Or.inl ⟨by rfl, ?_⟩) ?_ ?_
  rotate_left
  · intro w'
    go_simp
    with_reducible rfl
  rotate_left
  · simp only [Act.put, List.setIfInBounds_toArray, List.set_cons_zero, List.set_cons_succ, i64_w, i32_w]
    rfl
  refine pure_ (i := 16) (N := some 6) (v := ?_) (a' := ?_) #[true, true, true, true, true, true, true, true, true, true, true, true, true, true, true, true, true] rfl rfl (any_of HT_.out (by kernel_rfl)) (fun _ _ _ h => h) (Or.inl ⟨by rfl, ?_⟩) ?_ ?_
  rotate_left
  · intro w'
    go_simp
    with_reducible rfl
  rotate_left
  · simp only [Act.put, List.setIfInBounds_toArray, List.set_cons_zero, List.set_cons_succ, i64_w, i32_w]
    rfl
  refine done_ (done_of HT_.out (by kernel_rfl)) ?_
  try go_wp2
  go_ret
  exact ⟨by first | rfl | (simp [errW_none, errW_some] <;> rfl) | (simp [*, errW_none, errW_some] <;> rfl), by repeat (first | (with_reducible first | exact HB.out | apply below_alloc | apply pw_below_drewN | apply below_drew1 | refine below_set ?_ GE173.out) | exact HB.out)⟩

end Go.Proofs.YtjmjmpbphhbmpaaDoor.QCB
