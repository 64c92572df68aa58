/- Plain facts on lists of bytes: decimal numerals, names, frames of a log, and what is read back. No program in sight. -/
import Derived.Lib.ItoaNum
import Derived.Lib.ItoaMem
import Derived.Lib.IndexBytes
import Derived.Lib.IndexMore
import Derived.Lib.Split
namespace Go.Proofs.YtajbomiaoncgiaaDoor.ZA
open Go

abbrev Bs := List UInt8
def dig (c : UInt8) : Bool := decide (48 ≤ (c.toNat : Int)) && decide ((c.toNat : Int) ≤ 57)
def digs : Bs → Int → Option Int
  | [], n => some n
  | c :: cs, n => if dig c = true then digs cs (10 * n + ((c.toNat : Int) - 48)) else none
theorem digs_append : ∀ (a b : Bs) (n : Int), digs (a ++ b) n = (digs a n).bind (digs b)
  | [], b, n => rfl
  | c :: cs, b, n => by
    simp only [List.cons_append, digs]
    split
    · exact digs_append cs b _
    · rfl
theorem u8 (n : Nat) (h : n < 256) : (UInt8.ofNat n).toNat = n := by
  rw [UInt8.toNat_ofNat']; omega
theorem dec_digs (u : Nat) : digs (Lib.decDigits u) 0 = some (u : Int) ∧ (∀ c ∈ Lib.decDigits u, dig c = true) ∧ 1 ≤ (Lib.decDigits u).length := by
  induction u using Nat.strongRecOn with
  | ind u ih =>
    rw [Lib.decDigits]
    by_cases h : u < 10
    · have e := u8 (48 + u) (by omega)
      have d : dig (UInt8.ofNat (48 + u)) = true := by simp only [dig, e, Bool.and_eq_true, decide_eq_true_eq]; omega
      rw [dif_pos h]
      refine ⟨?_, ?_, by simp⟩
      · simp only [digs, d, if_true, e]; congr 1; omega
      · intro c hc; rw [List.mem_singleton.1 hc]; exact d
    · rw [dif_neg h]
      obtain ⟨h1, h2, h3⟩ := ih (u / 10) (by omega)
      have e := u8 (48 + u % 10) (by omega)
      have d : dig (UInt8.ofNat (48 + u % 10)) = true := by simp only [dig, e, Bool.and_eq_true, decide_eq_true_eq]; omega
      refine ⟨?_, ?_, by simp⟩
      · rw [digs_append, h1]
        simp only [Option.bind_some, digs, d, if_true, e]
        congr 1; omega
      · intro c hc
        rcases List.mem_append.1 hc with hc | hc
        · exact h2 c hc
        · rw [List.mem_singleton.1 hc]; exact d
theorem dec_len (k : Nat) : ∀ u : Nat, u < 10 ^ (k + 1) → (Lib.decDigits u).length ≤ k + 1 := by
  induction k with
  | zero =>
    intro u h
    rw [Lib.decDigits, dif_pos (by simpa using h)]
    simp
  | succ k ih =>
    intro u h
    rw [Lib.decDigits]
    by_cases c : u < 10
    · rw [dif_pos c]; simp
    · rw [dif_neg c, List.length_append, List.length_singleton]
      have := ih (u / 10) (by rw [Nat.pow_succ] at h; omega)
      omega
abbrev dec (n : Int) : Bs := Lib.itoa n
theorem dec_nat (u : Nat) : dec (u : Int) = Lib.decDigits u := Lib.itoa_nonneg u
theorem dec_inj {a b : Nat} (h : Lib.decDigits a = Lib.decDigits b) : a = b := by
  have h1 := (dec_digs a).1
  rw [h, (dec_digs b).1] at h1
  have := Option.some.inj h1
  omega
/-- The text without a '-' ahead. -/
def trim : Bs → Bs
  | [] => []
  | c :: cs => if c = 45 then cs else c :: cs
def rdNum (s : Bs) : Option Int :=
  if (trim s).length < 1 ∨ 18 < (trim s).length then none
  else match digs (trim s) 0 with
    | none => none
    | some n => if dec (if (trim s).length < s.length then -n else n) = s then some (if (trim s).length < s.length then -n else n) else none
theorem rd_dec (u : Nat) (h : u < 10 ^ 18) : rdNum (dec (u : Int)) = some (u : Int) := by
  obtain ⟨h1, h2, h3⟩ := dec_digs u
  have hl := dec_len 17 u h
  have ht : trim (dec (u : Int)) = dec (u : Int) := by
    rw [dec_nat]
    cases hc : Lib.decDigits u with
    | nil => rfl
    | cons c cs =>
      rw [hc] at h2
      have := h2 c (by simp)
      rw [trim, if_neg]
      rintro rfl
      exact absurd this (by decide)
  unfold rdNum
  rw [ht]
  rw [dec_nat] at *
  rw [if_neg (by omega), h1]
  simp only [Nat.lt_irrefl, if_false]
  rw [if_pos (dec_nat u)]
theorem rd_sound {s : Bs} {n : Int} (h : rdNum s = some n) : dec n = s := by
  unfold rdNum at h
  split at h
  · cases h
  · split at h
    · cases h
    · by_cases c : dec (if (trim s).length < s.length then -(by assumption) else (by assumption)) = s
      · rw [if_pos c] at h; rw [← Option.some.inj h]; exact c
      · rw [if_neg c] at h; cases h

/-! ### names, entries, frames -/
def okB (c : UInt8) : Bool := (decide (97 ≤ (c.toNat : Int)) && decide ((c.toNat : Int) ≤ 122)) || dig c || decide ((c.toNat : Int) = 45)
def lowB (c : UInt8) : Bool := decide (97 ≤ (c.toNat : Int)) && decide ((c.toNat : Int) ≤ 122)
def nameL (s : Bs) : Bool := decide (1 ≤ s.length ∧ s.length ≤ 12) && lowB (s.headD 0) && s.all okB
def textL (s : Bs) : Bool := (s.all fun c => decide (32 ≤ (c.toNat : Int)) && decide ((c.toNat : Int) ≤ 126))
def sumL : Bs → Int → Int
  | [], n => n
  | c :: cs, n => sumL cs ((131 * n + (c.toNat : Int) + 1) % 9973)
structure E where
  day : Int
  kind : Bs
  text : Bs
deriving DecidableEq
def validE (e : E) : Bool := decide (0 ≤ e.day ∧ e.day ≤ 20000) && (nameL e.kind && (decide (e.text.length ≤ 60) && textL e.text))
def body (e : E) : Bs := dec e.day ++ [32] ++ e.kind ++ [32] ++ e.text
def frame (e : E) : Bs := dec (body e).length ++ [58] ++ body e ++ [35] ++ dec (sumL (body e) 7) ++ [10]
theorem sum_bound : ∀ (s : Bs) (n : Int), 0 ≤ n → n < 9973 → 0 ≤ sumL s n ∧ sumL s n < 9973
  | [], n, h0, h1 => ⟨h0, h1⟩
  | c :: cs, n, h0, h1 => by
    rw [sumL]
    exact sum_bound cs _ (by omega) (by omega)
theorem validE_facts {e : E} (h : validE e = true) : (0 ≤ e.day ∧ e.day ≤ 20000) ∧ nameL e.kind = true ∧ e.kind.length ≤ 12 ∧ e.text.length ≤ 60 := by
  simp only [validE, Bool.and_eq_true, decide_eq_true_eq] at h
  refine ⟨h.1, h.2.1, ?_, h.2.2.1⟩
  have := h.2.1
  simp only [nameL, Bool.and_eq_true, decide_eq_true_eq] at this
  exact this.1.1.2
theorem ok_not32 {c : UInt8} (h : okB c = true) : c ≠ 32 := by
  rintro rfl
  exact absurd h (by decide)
theorem dig_not {c : UInt8} (h : dig c = true) : c ≠ 32 ∧ c ≠ 58 := by
  constructor <;> (rintro rfl; exact absurd h (by decide))
theorem day_len {n : Int} (h0 : 0 ≤ n) (h1 : n ≤ 20000) : (dec n).length ≤ 5 := by
  obtain ⟨u, rfl⟩ := Int.eq_ofNat_of_zero_le h0
  rw [dec_nat]
  exact dec_len 4 u (by omega)
theorem body_len {e : E} (h : validE e = true) : (body e).length ≤ 79 ∧ 4 ≤ (body e).length := by
  obtain ⟨⟨h0, h1⟩, h2, h3, h4⟩ := validE_facts h
  have h5 := day_len h0 h1
  have h6 : 1 ≤ (dec e.day).length := by
    obtain ⟨u, hu⟩ := Int.eq_ofNat_of_zero_le h0
    rw [hu, dec_nat]
    exact (dec_digs u).2.2
  simp only [nameL, Bool.and_eq_true, decide_eq_true_eq] at h2
  simp only [body, List.length_append, List.length_singleton]
  omega
theorem frame_len {e : E} (h : validE e = true) : (frame e).length ≤ 100 ∧ 1 ≤ (frame e).length := by
  have hb := body_len h
  have hs := sum_bound (body e) 7 (by omega) (by omega)
  have h5 := day_len (n := sumL (body e) 7) hs.1 (by omega)
  have h6 := day_len (n := ((body e).length : Int)) (by omega) (by omega)
  simp only [frame, List.length_append, List.length_singleton]
  omega
/-- Where a byte stands first. -/
theorem split_at {c : UInt8} : ∀ {a b a' b' : Bs}, c ∉ a → c ∉ a' → a ++ c :: b = a' ++ c :: b' → a = a' ∧ b = b'
  | [], b, [], b', _, _, h => ⟨rfl, by simpa using h⟩
  | [], b, x :: a', b', _, h2, h => by
    simp only [List.nil_append, List.cons_append, List.cons.injEq] at h
    exact absurd (h.1 ▸ List.mem_cons_self) h2
  | x :: a, b, [], b', h1, _, h => by
    simp only [List.nil_append, List.cons_append, List.cons.injEq] at h
    exact absurd (h.1 ▸ List.mem_cons_self) h1
  | x :: a, b, y :: a', b', h1, h2, h => by
    simp only [List.cons_append, List.cons.injEq] at h
    obtain ⟨h3, h4⟩ := split_at (a := a) (a' := a') (fun q => h1 (List.mem_cons_of_mem _ q)) (fun q => h2 (List.mem_cons_of_mem _ q)) h.2
    exact ⟨by rw [h.1, h3], h4⟩
theorem no_in_dec (u : Nat) : (32 : UInt8) ∉ dec (u : Int) ∧ (58 : UInt8) ∉ dec (u : Int) := by
  have h := (dec_digs u).2.1
  rw [dec_nat]
  exact ⟨fun q => (dig_not (h _ q)).1 rfl, fun q => (dig_not (h _ q)).2 rfl⟩
theorem no_in_kind {s : Bs} (h : nameL s = true) : (32 : UInt8) ∉ s := by
  simp only [nameL, Bool.and_eq_true, List.all_eq_true] at h
  exact fun q => ok_not32 (h.2 _ q) rfl
theorem body_inj {e e' : E} (h : validE e = true) (h' : validE e' = true) (hb : body e = body e') : e = e' := by
  obtain ⟨⟨h0, _⟩, h2, _⟩ := validE_facts h
  obtain ⟨⟨h0', _⟩, h2', _⟩ := validE_facts h'
  obtain ⟨u, hu⟩ := Int.eq_ofNat_of_zero_le h0
  obtain ⟨u', hu'⟩ := Int.eq_ofNat_of_zero_le h0'
  simp only [body, List.append_assoc, List.singleton_append, hu, hu'] at hb
  obtain ⟨h3, h4⟩ := split_at (no_in_dec u).1 (no_in_dec u').1 hb
  obtain ⟨h5, h6⟩ := split_at (no_in_kind h2) (no_in_kind h2') h4
  rw [dec_nat, dec_nat] at h3
  have := dec_inj h3
  obtain ⟨d, k, t⟩ := e
  obtain ⟨d', k', t'⟩ := e'
  simp only at hu hu' h5 h6
  rw [hu, hu', h5, h6, this]
theorem frame_form (e : E) : frame e = dec ((body e).length : Int) ++ 58 :: (body e ++ (35 :: (dec (sumL (body e) 7) ++ [10]))) := by
  simp [frame, List.append_assoc]
/-- A frame ahead of a text tells its entry. -/
theorem frame_inj {e e' : E} {s t : Bs} (h : validE e = true) (h' : validE e' = true) (hs : frame e ++ s = frame e' ++ t) : e = e' := by
  rw [frame_form, frame_form, List.append_assoc, List.append_assoc, List.cons_append, List.cons_append] at hs
  obtain ⟨h1, h2⟩ := split_at (no_in_dec (body e).length).2 (no_in_dec (body e').length).2 hs
  rw [dec_nat, dec_nat] at h1
  have hl := dec_inj h1
  rw [List.append_assoc, List.append_assoc] at h2
  exact body_inj h h' (List.append_inj_left h2 hl)
end Go.Proofs.YtajbomiaoncgiaaDoor.ZA
