/- Plain facts on logs: how frames are read back, by the program's road and by the reference's, and what follows for what is kept. -/
import Derived.Test.YtajbomiaoncgiaaDoorZA
namespace Go.Proofs.YtajbomiaoncgiaaDoor.ZA
open Go

/-- A text at the first place of a byte. -/
def cutAt (c : UInt8) : Bs → Option (Bs × Bs)
  | [] => none
  | x :: xs => if x = c then some ([], xs) else (cutAt c xs).map fun p => (x :: p.1, p.2)
theorem cut_mid (c : UInt8) : ∀ (a b : Bs), c ∉ a → cutAt c (a ++ c :: b) = some (a, b)
  | [], b, _ => by simp [cutAt]
  | x :: xs, b, h => by
    have hx : ¬ x = c := fun e => h (by simp [e])
    rw [List.cons_append, cutAt, if_neg hx, cut_mid c xs b (fun q => h (List.mem_cons_of_mem _ q))]
    rfl
theorem cut_none (c : UInt8) : ∀ (s : Bs), c ∉ s → cutAt c s = none
  | [], _ => rfl
  | x :: xs, h => by
    have hx : ¬ x = c := fun e => h (by simp [e])
    rw [cutAt, if_neg hx, cut_none c xs (fun q => h (List.mem_cons_of_mem _ q))]
    rfl
theorem cut_some (c : UInt8) : ∀ {s a b : Bs}, cutAt c s = some (a, b) → s = a ++ c :: b ∧ c ∉ a
  | [], a, b, h => by cases h
  | x :: xs, a, b, h => by
    rw [cutAt] at h
    by_cases hx : x = c
    · rw [if_pos hx] at h
      simp only [Option.some.injEq, Prod.mk.injEq] at h
      obtain ⟨rfl, rfl⟩ := h
      exact ⟨by rw [hx]; rfl, by simp⟩
    · rw [if_neg hx] at h
      obtain ⟨⟨a', b'⟩, h1, h2⟩ := Option.map_eq_some_iff.1 h
      simp only [Prod.mk.injEq] at h2
      obtain ⟨rfl, rfl⟩ := h2
      obtain ⟨h3, h4⟩ := cut_some c h1
      refine ⟨by rw [h3]; rfl, fun q => ?_⟩
      rcases List.mem_cons.1 q with q | q
      · exact hx q.symm
      · exact h4 q
theorem cut_cases (c : UInt8) (s : Bs) : (c ∉ s ∧ cutAt c s = none) ∨ ∃ a b, s = a ++ c :: b ∧ c ∉ a ∧ cutAt c s = some (a, b) := by
  cases h : cutAt c s with
  | none =>
    left
    refine ⟨fun q => ?_, rfl⟩
    obtain ⟨a, b, hab, hn⟩ : ∃ a b, s = a ++ c :: b ∧ c ∉ a := by
      clear h
      induction s with
      | nil => cases q
      | cons x xs ih =>
        by_cases e : x = c
        · exact ⟨[], xs, by rw [e]; rfl, by simp⟩
        · obtain ⟨a, b, h1, h2⟩ := ih ((List.mem_cons.1 q).resolve_left (fun g => e g.symm))
          exact ⟨x :: a, b, by rw [h1]; rfl, fun g => by
            rcases List.mem_cons.1 g with g | g
            · exact e g.symm
            · exact h2 g⟩
    rw [hab, cut_mid c a b hn] at h
    cases h
  | some p =>
    obtain ⟨h1, h2⟩ := cut_some c (a := p.1) (b := p.2) h
    exact .inr ⟨p.1, p.2, h1, h2, rfl⟩

def split3 (s : Bs) : Option (Bs × Bs × Bs) :=
  match cutAt 32 s with
  | none => none
  | some (a, r) => match cutAt 32 r with
    | none => none
    | some (b, t) => some (a, b, t)
/-- What a body tells, if the text begins with its frame. -/
def tailL (s b : Bs) : Option E :=
  match split3 b with
  | none => none
  | some (w0, w1, w2) => match rdNum w0 with
    | none => none
    | some d => if validE ⟨d, w1, w2⟩ = true ∧ (frame ⟨d, w1, w2⟩).isPrefixOf s = true then some ⟨d, w1, w2⟩ else none
def Fr (s : Bs) (e : E) : Prop := validE e = true ∧ ∃ t, s = frame e ++ t
theorem tail_sound {s b : Bs} {e : E} (h : tailL s b = some e) : Fr s e := by
  unfold tailL at h
  split at h
  · cases h
  · split at h
    · cases h
    · split at h
      · rename_i hc
        obtain rfl := Option.some.inj h
        obtain ⟨t, ht⟩ := List.isPrefixOf_iff_prefix.1 hc.2
        exact ⟨hc.1, t, ht.symm⟩
      · cases h
theorem rd_day {e : E} (h : validE e = true) : rdNum (dec e.day) = some e.day := by
  obtain ⟨⟨h0, h1⟩, _⟩ := validE_facts h
  obtain ⟨u, hu⟩ := Int.eq_ofNat_of_zero_le h0
  rw [hu]
  exact rd_dec u (by omega)
theorem tail_complete {s : Bs} {e : E} (h : Fr s e) : tailL s (body e) = some e := by
  obtain ⟨hv, t, ht⟩ := h
  obtain ⟨⟨h0, _⟩, h2, _⟩ := validE_facts hv
  obtain ⟨u, hu⟩ := Int.eq_ofNat_of_zero_le h0
  have h3 : split3 (body e) = some (dec e.day, e.kind, e.text) := by
    have hb : body e = dec e.day ++ 32 :: (e.kind ++ 32 :: e.text) := by simp [body, List.append_assoc]
    unfold split3
    rw [hb, cut_mid 32 _ _ (by rw [hu]; exact (no_in_dec u).1)]
    simp only
    rw [cut_mid 32 _ _ (no_in_kind h2)]
  unfold tailL
  rw [h3]
  simp only
  rw [rd_day hv]
  simp only
  rw [if_pos ⟨hv, List.isPrefixOf_iff_prefix.2 ⟨t, by rw [ht]⟩⟩]
/-- The program's road. -/
def implN (s : Bs) : Option E :=
  match cutAt 58 s with
  | none => none
  | some (a, r) => match rdNum a with
    | none => none
    | some n => if 0 ≤ n ∧ n ≤ (r.length : Int) then tailL s (r.take n.toNat) else none
theorem impl_sound {s : Bs} {e : E} (h : implN s = some e) : Fr s e := by
  unfold implN at h
  split at h
  · cases h
  · split at h
    · cases h
    · split at h
      · exact tail_sound h
      · cases h
theorem rd_len (b : Bs) (h : b.length ≤ 79) : rdNum (dec (b.length : Int)) = some (b.length : Int) := rd_dec b.length (by omega)
theorem impl_complete {s : Bs} {e : E} (h : Fr s e) : implN s = some e := by
  have h' := h
  obtain ⟨hv, t, ht⟩ := h
  have hb := body_len hv
  have hs : s = dec ((body e).length : Int) ++ 58 :: (body e ++ (35 :: (dec (sumL (body e) 7) ++ [10]) ++ t)) := by
    rw [ht, frame_form]; simp
  unfold implN
  rw [hs, cut_mid 58 _ _ (no_in_dec _).2]
  simp only
  rw [rd_len _ hb.1]
  simp only
  rw [if_pos ⟨by omega, by simp; omega⟩, Int.toNat_natCast, List.take_left', ← hs]
  · exact tail_complete h'
  · rfl
/-- The reference's road: where the colon is looked for. -/
def colon (s : Bs) : Nat :=
  let rec go : Nat → Bs → Nat
    | 0, _ => 0
    | _ + 1, [] => 0
    | n + 1, x :: xs => if x = 58 then 0 else go n xs + 1
  go 4 s
theorem colon_go : ∀ (n : Nat) (a b : Bs), (58 : UInt8) ∉ a → a.length ≤ n → a.length < n ∨ True → colon.go n (a ++ 58 :: b) = a.length
  | 0, a, b, _, h, _ => by
    have : a = [] := List.eq_nil_of_length_eq_zero (by omega)
    subst this; rfl
  | n + 1, [], b, _, _, _ => by simp [colon.go]
  | n + 1, x :: xs, b, h, hl, _ => by
    have hx : ¬ x = 58 := fun e => h (by simp [e])
    rw [List.cons_append, colon.go, if_neg hx, colon_go n xs b (fun q => h (List.mem_cons_of_mem _ q)) (by simp at hl; omega) (.inr trivial)]
    rfl
def specN (s : Bs) : Option E :=
  match rdNum (s.take (colon s)) with
  | none => none
  | some n => if n < 1 ∨ (s.length : Int) < (colon s : Int) + 1 + n then none else tailL s ((s.drop (colon s + 1)).take n.toNat)
theorem spec_sound {s : Bs} {e : E} (h : specN s = some e) : Fr s e := by
  unfold specN at h
  split at h
  · cases h
  · split at h
    · cases h
    · exact tail_sound h
theorem spec_complete {s : Bs} {e : E} (h : Fr s e) : specN s = some e := by
  have h' := h
  obtain ⟨hv, t, ht⟩ := h
  have hb := body_len hv
  have hs : s = dec ((body e).length : Int) ++ 58 :: (body e ++ (35 :: (dec (sumL (body e) 7) ++ [10]) ++ t)) := by
    rw [ht, frame_form]; simp
  have h2 : (dec ((body e).length : Int)).length ≤ 2 := by
    rw [dec_nat]; exact dec_len 1 _ (by omega)
  have hc : colon s = (dec ((body e).length : Int)).length := by
    rw [hs]; exact colon_go 4 _ _ (no_in_dec _).2 (by omega) (.inr trivial)
  have ht2 : s.take (colon s) = dec ((body e).length : Int) := by rw [hc, hs]; exact List.take_left' rfl
  have hd : s.drop (colon s + 1) = body e ++ (35 :: (dec (sumL (body e) 7) ++ [10]) ++ t) := by
    rw [hc, ← List.drop_drop, hs, List.drop_left' rfl]; rfl
  have hl : s.length = colon s + 1 + ((body e).length + (35 :: (dec (sumL (body e) 7) ++ [10]) ++ t).length) := by
    rw [hc, hs]; simp; omega
  unfold specN
  rw [ht2, rd_len _ hb.1]
  simp only
  rw [if_neg (by omega), hd, Int.toNat_natCast, List.take_left' rfl]
  exact tail_complete h'
theorem spec_impl (s : Bs) : specN s = implN s := by
  cases h : implN s with
  | some e => exact spec_complete (impl_sound h)
  | none =>
    cases h2 : specN s with
    | none => rfl
    | some e => rw [impl_complete (spec_sound h2)] at h; cases h

/-! ### all frames with which a text begins -/
def frames (es : List E) : Bs := es.flatMap frame
theorem frames_cons (e : E) (es : List E) : frames (e :: es) = frame e ++ frames es := rfl
theorem frames_append (a b : List E) : frames (a ++ b) = frames a ++ frames b := by simp [frames]
def allV (es : List E) : Prop := ∀ e ∈ es, validE e = true
theorem parsed_ex (s : Bs) : ∃ es r, s = frames es ++ r ∧ allV es ∧ implN r = none := by
  generalize hn : s.length = n
  induction n using Nat.strongRecOn generalizing s with
  | ind n ih =>
    cases h : implN s with
    | none => exact ⟨[], s, rfl, (fun _ q => by cases q), h⟩
    | some e =>
      obtain ⟨hv, t, ht⟩ := impl_sound h
      have hl := frame_len hv
      obtain ⟨es, r, h1, h2, h3⟩ := ih t.length (by rw [← hn, ht]; simp; omega) t rfl
      exact ⟨e :: es, r, by rw [ht, h1, frames_cons, List.append_assoc], fun q hq => by
        rcases List.mem_cons.1 hq with rfl | hq
        · exact hv
        · exact h2 q hq, h3⟩
theorem parsed_unique : ∀ {es es' : List E} {r r' : Bs}, frames es ++ r = frames es' ++ r' → allV es → allV es' → implN r = none → implN r' = none → es = es' ∧ r = r'
  | [], [], r, r', h, _, _, _, _ => ⟨rfl, h⟩
  | [], e :: es', r, r', h, _, hv, hr, _ => by
    have : implN r = some e := impl_complete ⟨hv e (by simp), frames es' ++ r', by rw [← List.append_assoc, ← frames_cons]; exact h⟩
    rw [hr] at this; cases this
  | e :: es, [], r, r', h, hv, _, _, hr => by
    have : implN r' = some e := impl_complete ⟨hv e (by simp), frames es ++ r, by rw [← List.append_assoc, ← frames_cons]; exact h.symm⟩
    rw [hr] at this; cases this
  | e :: es, e' :: es', r, r', h, hv, hv', hr, hr' => by
    rw [frames_cons, frames_cons, List.append_assoc, List.append_assoc] at h
    have := frame_inj (hv e (by simp)) (hv' e' (by simp)) h
    subst this
    obtain ⟨h1, h2⟩ := parsed_unique (List.append_cancel_left h) (fun q hq => hv q (by simp [hq])) (fun q hq => hv' q (by simp [hq])) hr hr'
    exact ⟨by rw [h1], h2⟩
noncomputable def ents (s : Bs) : List E := Classical.choose (parsed_ex s)
noncomputable def rest (s : Bs) : Bs := Classical.choose (Classical.choose_spec (parsed_ex s))
theorem ents_spec (s : Bs) : s = frames (ents s) ++ rest s ∧ allV (ents s) ∧ implN (rest s) = none := Classical.choose_spec (Classical.choose_spec (parsed_ex s))
noncomputable def plen (s : Bs) : Nat := (frames (ents s)).length
theorem ents_of {s r : Bs} {es : List E} (h : s = frames es ++ r) (hv : allV es) (hr : implN r = none) : ents s = es ∧ rest s = r :=
  parsed_unique ((ents_spec s).1.symm.trans h) (ents_spec s).2.1 hv (ents_spec s).2.2 hr
theorem plen_le (s : Bs) : plen s ≤ s.length := by
  have := congrArg List.length (ents_spec s).1
  rw [List.length_append] at this
  unfold plen
  omega
theorem take_plen (s : Bs) : s.take (plen s) = frames (ents s) := by
  exact (congrArg (List.take (plen s)) (ents_spec s).1).trans (List.take_left' rfl)
theorem impl_nil : implN [] = none := rfl
theorem ents_frames {es : List E} (hv : allV es) : ents (frames es) = es ∧ rest (frames es) = [] := ents_of (by simp) hv impl_nil
theorem whole_iff (s : Bs) : plen s = s.length ↔ s = frames (ents s) := by
  have h := (ents_spec s).1
  constructor
  · intro e
    rw [← take_plen, e, List.take_length]
  · intro e
    unfold plen
    rw [← e]
theorem whole_frames {es : List E} (hv : allV es) : plen (frames es) = (frames es).length := by
  unfold plen; rw [(ents_frames hv).1]
theorem ents_app {s t : Bs} (h : plen s = s.length) : ents (s ++ t) = ents s ++ ents t := by
  have h1 := (whole_iff s).1 h
  have h2 := ents_spec t
  refine (ents_of (r := rest t) ?_ ?_ h2.2.2).1
  · rw [frames_append, List.append_assoc, ← h2.1, ← h1]
  · intro e he
    rcases List.mem_append.1 he with he | he
    · exact (ents_spec s).2.1 e he
    · exact h2.2.1 e he
theorem prefix_frames : ∀ {a b : List E} {t : Bs}, allV a → allV b → frames a ++ t = frames b → a <+: b
  | [], b, t, _, _, _ => List.nil_prefix
  | e :: a, [], t, hv, _, h => by
    have := congrArg List.length h
    have hl := frame_len (hv e (by simp))
    rw [frames_cons] at this
    simp [frames] at this
    simp [this.1] at hl
  | e :: a, e' :: b, t, hv, hv', h => by
    rw [frames_cons, frames_cons, List.append_assoc] at h
    have := frame_inj (hv e (by simp)) (hv' e' (by simp)) h
    subst this
    exact List.cons_prefix_cons.2 ⟨rfl, prefix_frames (fun q hq => hv q (by simp [hq])) (fun q hq => hv' q (by simp [hq])) (List.append_cancel_left h)⟩
theorem ents_cut {w : Bs} (h : plen w = w.length) (b : Nat) : ents (w.take b) <+: ents w := by
  have h1 := (whole_iff w).1 h
  have h2 := ents_spec (w.take b)
  refine prefix_frames (t := rest (w.take b) ++ w.drop b) h2.2.1 (ents_spec w).2.1 ?_
  rw [← List.append_assoc, ← h2.1, List.take_append_drop, ← h1]
theorem ents_len (s : Bs) : (ents s).length ≤ s.length := by
  have h : ∀ es : List E, allV es → es.length ≤ (frames es).length := by
    intro es
    induction es with
    | nil => intro _; simp
    | cons e es ih =>
      intro hv
      have := frame_len (hv e (by simp))
      have := ih (fun q hq => hv q (by simp [hq]))
      rw [frames_cons, List.length_cons, List.length_append]
      omega
  exact Nat.le_trans (h _ (ents_spec s).2.1) (plen_le s)
end Go.Proofs.YtajbomiaoncgiaaDoor.ZA
