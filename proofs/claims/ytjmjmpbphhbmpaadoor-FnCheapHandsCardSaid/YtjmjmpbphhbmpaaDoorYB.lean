/- Plain facts on numerals. -/
import Derived.Lib.ItoaNum
import Derived.Lib.ItoaMem
import Derived.Lib.IndexBytes
import Derived.Lib.IndexMore
import Derived.Lib.Split
namespace Go.Proofs.YtjmjmpbphhbmpaaDoor.ZA
open Go
abbrev Bs := List UInt8
def dig (c : UInt8) : Bool := decide (48 ≤ (c.toNat : Int)) && decide ((c.toNat : Int) ≤ 57)
def digs : Bs → Int → Option Int
  | [], n => some n
  | c :: cs, n => if dig c = true then digs cs (10 * n + ((c.toNat : Int) - 48)) else none
theorem digs_append : ∀ (a b : Bs) (n : Int), digs (a ++ b) n = (digs a n).bind (digs b)
  | [], b, n => rfl
  | c :: cs, b, n => by
    simp only [List.cons_append, digs]
    split
    · exact digs_append cs b _
    · rfl
theorem u8 (n : Nat) (h : n < 256) : (UInt8.ofNat n).toNat = n := by
  rw [UInt8.toNat_ofNat']; omega
theorem dec_digs (u : Nat) : digs (Lib.decDigits u) 0 = some (u : Int) ∧ (∀ c ∈ Lib.decDigits u, dig c = true) ∧ 1 ≤ (Lib.decDigits u).length := by
  induction u using Nat.strongRecOn with
  | ind u ih =>
    rw [Lib.decDigits]
    by_cases h : u < 10
    · have e := u8 (48 + u) (by omega)
      have d : dig (UInt8.ofNat (48 + u)) = true := by simp only [dig, e, Bool.and_eq_true, decide_eq_true_eq]; omega
      rw [dif_pos h]
      refine ⟨?_, ?_, by simp⟩
      · simp only [digs, d, if_true, e]; congr 1; omega
      · intro c hc; rw [List.mem_singleton.1 hc]; exact d
    · rw [dif_neg h]
      obtain ⟨h1, h2, h3⟩ := ih (u / 10) (by omega)
      have e := u8 (48 + u % 10) (by omega)
      have d : dig (UInt8.ofNat (48 + u % 10)) = true := by simp only [dig, e, Bool.and_eq_true, decide_eq_true_eq]; omega
      refine ⟨?_, ?_, by simp⟩
      · rw [digs_append, h1]
        simp only [Option.bind_some, digs, d, if_true, e]
        congr 1; omega
      · intro c hc
        rcases List.mem_append.1 hc with hc | hc
        · exact h2 c hc
        · rw [List.mem_singleton.1 hc]; exact d
theorem dec_len (k : Nat) : ∀ u : Nat, u < 10 ^ (k + 1) → (Lib.decDigits u).length ≤ k + 1 := by
  induction k with
  | zero =>
    intro u h
    rw [Lib.decDigits, dif_pos (by simpa using h)]
    simp
  | succ k ih =>
    intro u h
    rw [Lib.decDigits]
    by_cases c : u < 10
    · rw [dif_pos c]; simp
    · rw [dif_neg c, List.length_append, List.length_singleton]
      have := ih (u / 10) (by rw [Nat.pow_succ] at h; omega)
      omega
abbrev dec (n : Int) : Bs := Lib.itoa n
theorem dec_nat (u : Nat) : dec (u : Int) = Lib.decDigits u := Lib.itoa_nonneg u
theorem dec_inj {a b : Nat} (h : Lib.decDigits a = Lib.decDigits b) : a = b := by
  have h1 := (dec_digs a).1
  rw [h, (dec_digs b).1] at h1
  have := Option.some.inj h1
  omega
/-- The text without a '-' ahead. -/
def trim : Bs → Bs
  | [] => []
  | c :: cs => if c = 45 then cs else c :: cs
def rdNum (s : Bs) : Option Int :=
  if (trim s).length < 1 ∨ 18 < (trim s).length then none
  else match digs (trim s) 0 with
    | none => none
    | some n => if dec (if (trim s).length < s.length then -n else n) = s then some (if (trim s).length < s.length then -n else n) else none
theorem rd_dec (u : Nat) (h : u < 10 ^ 18) : rdNum (dec (u : Int)) = some (u : Int) := by
  obtain ⟨h1, h2, h3⟩ := dec_digs u
  have hl := dec_len 17 u h
  have ht : trim (dec (u : Int)) = dec (u : Int) := by
    rw [dec_nat]
    cases hc : Lib.decDigits u with
    | nil => rfl
    | cons c cs =>
      rw [hc] at h2
      have := h2 c (by simp)
      rw [trim, if_neg]
      rintro rfl
      exact absurd this (by decide)
  unfold rdNum
  rw [ht]
  rw [dec_nat] at *
  rw [if_neg (by omega), h1]
  simp only [Nat.lt_irrefl, if_false]
  rw [if_pos (dec_nat u)]
theorem rd_sound {s : Bs} {n : Int} (h : rdNum s = some n) : dec n = s := by
  unfold rdNum at h
  split at h
  · cases h
  · split at h
    · cases h
    · by_cases c : dec (if (trim s).length < s.length then -(by assumption) else (by assumption)) = s
      · rw [if_pos c] at h; rw [← Option.some.inj h]; exact c
      · rw [if_neg c] at h; cases h

theorem dig_not {c : UInt8} (h : dig c = true) : c ≠ 32 ∧ c ≠ 58 := by
  constructor <;> (rintro rfl; exact absurd h (by decide))
/-- A text at the first place of a byte. -/
def cutAt (c : UInt8) : Bs → Option (Bs × Bs)
  | [] => none
  | x :: xs => if x = c then some ([], xs) else (cutAt c xs).map fun p => (x :: p.1, p.2)
theorem cut_mid (c : UInt8) : ∀ (a b : Bs), c ∉ a → cutAt c (a ++ c :: b) = some (a, b)
  | [], b, _ => by simp [cutAt]
  | x :: xs, b, h => by
    have hx : ¬ x = c := fun e => h (by simp [e])
    rw [List.cons_append, cutAt, if_neg hx, cut_mid c xs b (fun q => h (List.mem_cons_of_mem _ q))]
    rfl
theorem cut_none (c : UInt8) : ∀ (s : Bs), c ∉ s → cutAt c s = none
  | [], _ => rfl
  | x :: xs, h => by
    have hx : ¬ x = c := fun e => h (by simp [e])
    rw [cutAt, if_neg hx, cut_none c xs (fun q => h (List.mem_cons_of_mem _ q))]
    rfl
theorem cut_some (c : UInt8) : ∀ {s a b : Bs}, cutAt c s = some (a, b) → s = a ++ c :: b ∧ c ∉ a
  | [], a, b, h => by cases h
  | x :: xs, a, b, h => by
    rw [cutAt] at h
    by_cases hx : x = c
    · rw [if_pos hx] at h
      simp only [Option.some.injEq, Prod.mk.injEq] at h
      obtain ⟨rfl, rfl⟩ := h
      exact ⟨by rw [hx]; rfl, by simp⟩
    · rw [if_neg hx] at h
      obtain ⟨⟨a', b'⟩, h1, h2⟩ := Option.map_eq_some_iff.1 h
      simp only [Prod.mk.injEq] at h2
      obtain ⟨rfl, rfl⟩ := h2
      obtain ⟨h3, h4⟩ := cut_some c h1
      refine ⟨by rw [h3]; rfl, fun q => ?_⟩
      rcases List.mem_cons.1 q with q | q
      · exact hx q.symm
      · exact h4 q
theorem cut_cases (c : UInt8) (s : Bs) : (c ∉ s ∧ cutAt c s = none) ∨ ∃ a b, s = a ++ c :: b ∧ c ∉ a ∧ cutAt c s = some (a, b) := by
  cases h : cutAt c s with
  | none =>
    left
    refine ⟨fun q => ?_, rfl⟩
    obtain ⟨a, b, hab, hn⟩ : ∃ a b, s = a ++ c :: b ∧ c ∉ a := by
      clear h
      induction s with
      | nil => cases q
      | cons x xs ih =>
        by_cases e : x = c
        · exact ⟨[], xs, by rw [e]; rfl, by simp⟩
        · obtain ⟨a, b, h1, h2⟩ := ih ((List.mem_cons.1 q).resolve_left (fun g => e g.symm))
          exact ⟨x :: a, b, by rw [h1]; rfl, fun g => by
            rcases List.mem_cons.1 g with g | g
            · exact e g.symm
            · exact h2 g⟩
    rw [hab, cut_mid c a b hn] at h
    cases h
  | some p =>
    obtain ⟨h1, h2⟩ := cut_some c (a := p.1) (b := p.2) h
    exact .inr ⟨p.1, p.2, h1, h2, rfl⟩

end Go.Proofs.YtjmjmpbphhbmpaaDoor.ZA
