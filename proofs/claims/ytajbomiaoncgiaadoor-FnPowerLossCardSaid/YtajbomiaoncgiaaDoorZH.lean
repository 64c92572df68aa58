/- What is drawn: a log that is not long, and a number. -/
import Derived.Test.YtajbomiaoncgiaaDoorZG
import Derived.Test.YtajbomiaoncgiaaDoorQPLx5
namespace Go.Proofs.YtajbomiaoncgiaaDoor.QPL
open Go.RowKit Go.Proofs.YtajbomiaoncgiaaDoorQ Go.Proofs.YtajbomiaoncgiaaDoorW.PrintWords Go.Proofs.YtajbomiaoncgiaaDoorW.PrintLast Go.Proofs.YtajbomiaoncgiaaDoor.ZA

def Bytes (l : List Int) : Prop := l.length ≤ 100000 ∧ ∀ x ∈ l, 0 ≤ x ∧ x ≤ 255
theorem rd_byte {l : List Int} (h : Bytes l) (i : Int) : 0 ≤ rd l i ∧ rd l i ≤ 255 := by
  unfold rd
  rw [List.getD_eq_getElem?_getD]
  cases hc : l[i.toNat]? with
  | none => simp
  | some x => exact h.2 x (List.mem_of_getElem? hc)
theorem u64_wrap (n : Int) : IntKind.u64.wrap n = n % 18446744073709551616 := by simp [IntKind.wrap, IntKind.bits, IntKind.signed]
theorem and255 (x : Int) (h0 : 0 ≤ x) (h1 : x < 18446744073709551616) : Go.bits .and .u64 x 255 = x % 256 :=
  bits_mask .u64 64 (by decide) (fun n h0 h1 => by rw [u64_wrap]; omega) 8 (by decide) x h0 h1
theorem next_ok {l : List Int} (hb : Bytes l) (a sd : Int) (h0 : 0 ≤ a) (h1 : a ≤ 1000000000) : ∃ v sd', spec_l00Src_next.f l a sd = some (v, a + 1, sd') ∧ 0 ≤ v ∧ v ≤ 255 := by
  have hr := rd_byte hb a
  have hw : wrap64 (a + 1) = a + 1 := w64 (by omega) (by omega)
  have hm : ∀ x : Int, 0 ≤ wrap64 (Go.bits .and .u64 (IntKind.u64.wrap x / 1099511627776) 255) ∧ wrap64 (Go.bits .and .u64 (IntKind.u64.wrap x / 1099511627776) 255) ≤ 255 := fun x => by
    rw [u64_wrap, and255 _ (by omega) (by omega), w64 (by omega) (by omega)]
    omega
  unfold spec_l00Src_next.f
  rw [hw]
  by_cases c : a < (l.length : Int)
  · rw [if_pos c, if_pos h0, if_pos (by omega)]
    exact ⟨_, _, rfl, by rw [w64 (by omega) (by omega)]; omega⟩
  · rw [if_neg c, if_neg (by omega)]
    exact ⟨_, _, rfl, hm _⟩
theorem pick_ok {l : List Int} (hb : Bytes l) (a sd n : Int) (h0 : 0 ≤ a) (h1 : a ≤ 900000000) : ∃ v a' sd', spec_l00Src_pick.f l a sd n = some (v, a', sd') ∧ a ≤ a' ∧ a' ≤ a + 2 ∧ 0 ≤ v ∧ (1 ≤ n → v < n) ∧ (n ≤ 1 → v = 0) := by
  unfold spec_l00Src_pick.f
  by_cases c : n ≤ 1
  · rw [if_pos c]
    exact ⟨0, a, sd, rfl, by omega, by omega, by omega, fun h => by omega, fun _ => rfl⟩
  · rw [if_neg c]
    obtain ⟨v, sd1, e1, b0, b1⟩ := next_ok hb a sd h0 (by omega)
    rw [e1]
    simp only [Option.bind_some]
    by_cases d : n > 200
    · rw [if_pos d]
      obtain ⟨v2, sd2, e2, b2, b3⟩ := next_ok hb (a + 1) sd1 (by omega) (by omega)
      rw [e2]
      simp only [Option.bind_some]
      rw [if_neg (by omega), w64 (n := v * 256) (by omega) (by omega), w64 (by omega) (by omega), Int.tmod_eq_emod_of_nonneg (by omega)]
      exact ⟨_, _, _, rfl, by omega, by omega, Int.emod_nonneg _ (by omega), fun _ => Int.emod_lt_of_pos _ (by omega), fun h => by omega⟩
    · rw [if_neg d, if_neg (by omega), Int.tmod_eq_emod_of_nonneg (by omega)]
      exact ⟨_, _, _, rfl, by omega, by omega, Int.emod_nonneg _ (by omega), fun _ => Int.emod_lt_of_pos _ (by omega), fun h => by omega⟩
theorem one_ok {l : List Int} (hb : Bytes l) (a sd n : Int) (h0 : 0 ≤ a) (h1 : a ≤ 900000000) : ∃ b a' sd', spec_l00Src_one.f l a sd n = some (b, a', sd') ∧ a ≤ a' ∧ a' ≤ a + 2 := by
  obtain ⟨v, a', sd', e, g0, g1, _⟩ := pick_ok hb a sd n h0 h1
  unfold spec_l00Src_one.f
  rw [e]
  exact ⟨_, _, _, rfl, g0, g1⟩
theorem text_ok {l : List Int} (hb : Bytes l) (a sd : Int) (h0 : 0 ≤ a) (h1 : a ≤ 900000000) (ts : List ByteArray) (ht : 1 ≤ ts.length) : ∃ t a' sd', spec_l00Src_text.f l a sd ts = some (t, a', sd') ∧ a ≤ a' ∧ a' ≤ a + 2 ∧ t ∈ ts := by
  obtain ⟨v, a', sd', e, g0, g1, b0, b1, _⟩ := pick_ok hb a sd (ts.length : Int) h0 h1
  have hv := b1 (by omega)
  unfold spec_l00Src_text.f
  rw [e]
  simp only [Option.bind_some]
  rw [if_pos b0, if_pos hv]
  refine ⟨_, _, _, rfl, g0, g1, ?_⟩
  unfold rdOf
  rw [List.getD_eq_getElem?_getD, List.getElem?_eq_getElem (by omega)]
  exact List.getElem_mem _
theorem among_ok {l : List Int} (hb : Bytes l) (a sd : Int) (h0 : 0 ≤ a) (h1 : a ≤ 900000000) (ts : List Int) (ht : 1 ≤ ts.length) : ∃ t a' sd', spec_l00Src_among.f l a sd ts = some (t, a', sd') ∧ a ≤ a' ∧ a' ≤ a + 2 ∧ t ∈ ts := by
  obtain ⟨v, a', sd', e, g0, g1, b0, b1, _⟩ := pick_ok hb a sd (ts.length : Int) h0 h1
  have hv := b1 (by omega)
  unfold spec_l00Src_among.f
  rw [e]
  simp only [Option.bind_some]
  rw [if_pos b0, if_pos hv]
  refine ⟨_, _, _, rfl, g0, g1, ?_⟩
  unfold rd
  rw [List.getD_eq_getElem?_getD, List.getElem?_eq_getElem (by omega)]
  exact List.getElem_mem _
def newTexts : List ByteArray := ([(⟨#[]⟩ : ByteArray), (⟨#[109, 97, 105, 110]⟩ : ByteArray), (⟨#[116, 119, 111, 32, 32, 99, 111, 105, 108, 115]⟩ : ByteArray), (⟨#[32, 35, 49, 58, 50]⟩ : ByteArray), (⟨#[104, 101, 109, 112, 58, 32, 51, 48, 32, 109]⟩ : ByteArray), (⟨#[49, 50, 51, 52, 53, 54, 55, 56, 57, 48, 49, 50, 51, 52, 53, 54, 55, 56, 57, 48, 49, 50, 51, 52, 53, 54, 55, 56, 57, 48, 49, 50, 51, 52, 53, 54, 55, 56, 57, 48, 49, 50, 51, 52, 53, 54, 55, 56, 57, 48, 49, 50, 51, 52, 53, 54, 55, 56, 57, 48]⟩ : ByteArray)] : List ByteArray)
theorem new_ok {l : List Int} (hb : Bytes l) (a sd : Int) (h0 : 0 ≤ a) (h1 : a ≤ 800000000) : ∃ d kd t a' sd', spec_l27New.f l a sd = some (d, kd, t, a', sd') ∧ a ≤ a' ∧ a' ≤ a + 6 ∧ validE (e39 ⟨d, kd, t⟩) = true := by
  obtain ⟨d, a1, sd1, e1, g1, q1, b0, b1, _⟩ := pick_ok hb a sd 100 h0 (by omega)
  obtain ⟨kd, a2, sd2, e2, g2, q2, m2⟩ := text_ok hb a1 sd1 (by omega) (by omega) (([(⟨#[115, 112, 108, 105, 99, 101]⟩ : ByteArray), (⟨#[115, 97, 105, 108]⟩ : ByteArray), (⟨#[111, 114, 100, 101, 114]⟩ : ByteArray), (⟨#[119, 101, 97, 114]⟩ : ByteArray)] : List ByteArray)) (by simp)
  obtain ⟨t, a3, sd3, e3, g3, q3, m3⟩ := text_ok hb a2 sd2 (by omega) (by omega) newTexts (by decide)
  refine ⟨d, kd, t, a3, sd3, ?_, by omega, by omega, ?_⟩
  · unfold spec_l27New.f
    rw [e1]
    simp only [Option.bind_some]
    rw [e2]
    simp only [Option.bind_some]
    show ((spec_l00Src_text.f l a2 sd2 newTexts).bind _) = _
    rw [e3]
    rfl
  · have hk : nameL (L kd) = true := by
      simp only [List.mem_cons, List.not_mem_nil, or_false] at m2
      rcases m2 with rfl | rfl | rfl | rfl <;> rfl
    have ht : t.size ≤ 60 ∧ textL (L t) = true := by
      simp only [newTexts, List.mem_cons, List.not_mem_nil, or_false] at m3
      rcases m3 with rfl | rfl | rfl | rfl | rfl | rfl <;> exact ⟨by decide, rfl⟩
    have := b1 (by omega)
    show validE (toE d kd t) = true
    rw [validE_eq, hk, ht.2, decide_eq_true ht.1]
    unfold inB
    rw [decide_eq_true (by omega)]
    rfl
theorem frames_ok {l : List Int} (hb : Bytes l) : ∀ (n : Nat) (out : ByteArray) (a sd : Int), 0 ≤ a → a + 6 * n ≤ 700000000 → out.size + 100 * n ≤ 1000000000 →
    ∃ r a' sd', Ev (fun k => spec_l27Frames.l0 k out (n : Int) l a sd) (r, a', sd') ∧ a ≤ a' ∧ a' ≤ a + 6 * n ∧ r.size ≤ out.size + 100 * n
  | 0, out, a, sd, h0, h1, h2 => ⟨out, a, sd, Ev.step (f := fun _ => some (out, a, sd)) (fun k => by simp only [spec_l27Frames.l0]; rw [if_neg (by omega)]) (Ev.now _), by omega, by omega, by omega⟩
  | n + 1, out, a, sd, h0, h1, h2 => by
    obtain ⟨d, kd, t, a1, sd1, e1, g0, g1, hv⟩ := new_ok hb a sd h0 (by omega)
    have hf := spec_frame ⟨d, kd, t⟩ hv
    have hl := frame_len hv
    obtain ⟨r, a2, sd2, er, g2, g3, g4⟩ := frames_ok hb n (out ++ ofL (frame (e39 ⟨d, kd, t⟩))) a1 sd1 (by omega) (by omega) (by rw [ByteArray.size_append, size_of]; omega)
    rw [ByteArray.size_append, size_of] at g4
    refine ⟨r, a2, sd2, Ev.step (f := fun k => (spec_l27Frame.f k [(⟨d, kd, t⟩ : S39)]).bind fun t161 => (if out.size + t161.size ≤ 9223372036854775807 then (spec_l27Frames.l0 k (out ++ t161) (n : Int) l a1 sd1) else (none))) (fun k => ?_) (Ev.bind hf (Ev.congr (fun k => if_pos ?_) er)), by omega, by omega, by omega⟩
    · simp only [spec_l27Frames.l0]
      rw [if_pos (by omega), e1]
      simp only [Option.bind_some]
      rw [w64 (by omega) (by omega), show ((n + 1 : Nat) : Int) - 1 = (n : Int) by omega]
    · rw [size_of]; omega
theorem fill_ok (n : Int) (l : List Int) (a sd : Int) (W : ByteArray) : ∀ (m : Nat) (K : ByteArray), n ≤ (K.size : Int) + m → K.size + m ≤ 1000000000 → ∃ K', Ev (fun k => spec_l27Draw.l0 k n l a sd K W) (K', W, a, sd) ∧ K'.size ≤ K.size + m
  | 0, K, h, _ => ⟨K, Ev.step (f := fun _ => some (K, W, a, sd)) (fun k => by simp only [spec_l27Draw.l0]; rw [if_neg (by omega)]) (Ev.now _), by omega⟩
  | m + 1, K, h, h2 => by
    by_cases c : (K.size : Int) < n
    · have hz : (K ++ (⟨#[120]⟩ : ByteArray)).size = K.size + 1 := by rw [ByteArray.size_append]; rfl
      obtain ⟨K', e, g⟩ := fill_ok n l a sd W m (K ++ (⟨#[120]⟩ : ByteArray)) (by omega) (by omega)
      refine ⟨K', Ev.step (fun k => ?_) e, by omega⟩
      simp only [spec_l27Draw.l0]
      rw [if_pos c, if_pos (by omega)]
    · exact ⟨K, Ev.step (f := fun _ => some (K, W, a, sd)) (fun k => by simp only [spec_l27Draw.l0]; rw [if_neg c]) (Ev.now _), by omega⟩
theorem draw_j0 {l : List Int} (hb : Bytes l) (x : Int) (q : Bool) (a sd : Int) (h0 : 0 ≤ a) (h1 : a ≤ 600000000) (K W : ByteArray) (hK : K.size ≤ 1000) (hW : W.size ≤ 1000) :
    ∃ K' W' a' sd', Ev (fun k => spec_l27Draw.j0 k x q l a sd K W) (K', W', a', sd') ∧ a ≤ a' ∧ a' ≤ a + 2 ∧ K'.size ≤ 10000 ∧ W'.size ≤ 10000 := by
  have e8 : (K ++ (⟨#[57, 58, 53, 32, 115, 97, 105, 108]⟩ : ByteArray)).size = K.size + 8 := by rw [ByteArray.size_append]; rfl
  have e1 : (W ++ (⟨#[49]⟩ : ByteArray)).size = W.size + 1 := by rw [ByteArray.size_append]; rfl
  by_cases c : q = true
  · obtain ⟨b, a', sd', e, g0, g1⟩ := one_ok hb a sd 2 h0 (by omega)
    by_cases d : b = true
    · refine ⟨_, _, a', sd', Ev.step (f := fun _ => some (K ++ (⟨#[57, 58, 53, 32, 115, 97, 105, 108]⟩ : ByteArray), (⟨#[]⟩ : ByteArray), a', sd')) (fun k => ?_) (Ev.now _), g0, g1, by omega, by decide⟩
      simp only [spec_l27Draw.j0]
      rw [if_pos c, if_pos (by omega), e]
      simp only [Option.bind_some]
      rw [if_pos d]
    · refine ⟨_, _, a', sd', Ev.step (f := fun _ => some (K ++ (⟨#[57, 58, 53, 32, 115, 97, 105, 108]⟩ : ByteArray), W, a', sd')) (fun k => ?_) (Ev.now _), g0, g1, by omega, by omega⟩
      simp only [spec_l27Draw.j0]
      rw [if_pos c, if_pos (by omega), e]
      simp only [Option.bind_some]
      rw [if_neg d]
  by_cases c2 : x = 2
  · refine ⟨_, _, a, sd, Ev.step (f := fun _ => some (K, W ++ (⟨#[49]⟩ : ByteArray), a, sd)) (fun k => ?_) (Ev.now _), by omega, by omega, by omega, by omega⟩
    simp only [spec_l27Draw.j0]
    rw [if_neg c, if_pos c2, if_pos (by omega)]
  by_cases c3 : x = 3
  · obtain ⟨v, a', sd', e, g0, g1, b0, b1, _⟩ := pick_ok hb a sd 2 h0 (by omega)
    have hv := b1 (by omega)
    obtain ⟨K', ek, gk⟩ := fill_ok (4000 - (W.size : Int) + v) l a' sd' W 5000 K (by omega) (by omega)
    refine ⟨K', W, a', sd', Ev.step (fun k => ?_) ek, g0, g1, by omega, by omega⟩
    simp only [spec_l27Draw.j0]
    rw [if_neg c, if_neg c2, if_pos c3, e]
    simp only [Option.bind_some]
    rw [w64 (n := 4000 - (W.size : Int)) (by omega) (by omega), w64 (by omega) (by omega)]
  · refine ⟨K, W, a, sd, Ev.step (f := fun _ => some (K, W, a, sd)) (fun k => ?_) (Ev.now _), by omega, by omega, by omega, by omega⟩
    simp only [spec_l27Draw.j0]
    rw [if_neg c, if_neg c2, if_neg c3]
theorem draw_ok {l : List Int} (hb : Bytes l) (a sd : Int) (h0 : 0 ≤ a) (h1 : a ≤ 500000000) : ∃ K W a' sd', Ev (fun k => spec_l27Draw.f k l a sd) (K, W, a', sd') ∧ a ≤ a' ∧ a' ≤ a + 100 ∧ K.size ≤ 10000 ∧ W.size ≤ 10000 := by
  obtain ⟨n, a1, sd1, e1, g1, q1, b1, c1, _⟩ := pick_ok hb a sd 5 h0 (by omega)
  have hn := c1 (by omega)
  obtain ⟨n, rfl⟩ := Int.eq_ofNat_of_zero_le b1
  obtain ⟨K, a2, sd2, e2, g2, q2, s2⟩ := frames_ok hb n (⟨#[]⟩ : ByteArray) a1 sd1 (by omega) (by omega) (by show 0 + 100 * n ≤ _; omega)
  obtain ⟨m, a3, sd3, e3, g3, q3, b3, c3, _⟩ := pick_ok hb a2 sd2 4 (by omega) (by omega)
  have hm := c3 (by omega)
  obtain ⟨m, rfl⟩ := Int.eq_ofNat_of_zero_le b3
  obtain ⟨W, a4, sd4, e4, g4, q4, s4⟩ := frames_ok hb m (⟨#[]⟩ : ByteArray) a3 sd3 (by omega) (by omega) (by show 0 + 100 * m ≤ _; omega)
  obtain ⟨x, a5, sd5, e5, g5, q5, _⟩ := pick_ok hb a4 sd4 12 (by omega) (by omega)
  have z0 : (⟨#[]⟩ : ByteArray).size = 0 := rfl
  rw [z0] at s2 s4
  obtain ⟨K', W', a6, sd6, e6, g6, q6, s6, s7⟩ := draw_j0 hb x (if x = 0 then (x == 0) else (x == 1)) a5 sd5 (by omega) (by omega) K W (by omega) (by omega)
  refine ⟨K', W', a6, sd6, Ev.congr (f := fun k => (spec_l27Frames.l0 k (⟨#[]⟩ : ByteArray) (n : Int) l a1 sd1).bind fun bt166 => (spec_l00Src_pick.f l bt166.2.1 bt166.2.2 4).bind fun bt170 => (spec_l27Frames.f k l bt170.2.1 bt170.2.2 bt170.1).bind fun bt173 => (spec_l00Src_pick.f l bt173.2.1 bt173.2.2 12).bind fun bt176 => (if bt176.1 = 0 then (spec_l27Draw.j0 k bt176.1 (bt176.1 == 0) l bt176.2.1 bt176.2.2 bt166.1 bt173.1) else (spec_l27Draw.j0 k bt176.1 (bt176.1 == 1) l bt176.2.1 bt176.2.2 bt166.1 bt173.1))) (fun k => ?_) (Ev.bind e2 (Ev.congr (f := fun k => (spec_l27Frames.l0 k (⟨#[]⟩ : ByteArray) (m : Int) l a3 sd3).bind fun bt173 => (spec_l00Src_pick.f l bt173.2.1 bt173.2.2 12).bind fun bt176 => (if bt176.1 = 0 then (spec_l27Draw.j0 k bt176.1 (bt176.1 == 0) l bt176.2.1 bt176.2.2 K bt173.1) else (spec_l27Draw.j0 k bt176.1 (bt176.1 == 1) l bt176.2.1 bt176.2.2 K bt173.1))) (fun k => ?_) (Ev.bind e4 (Ev.congr (fun k => ?_) e6)))), by omega, by omega, s6, s7⟩
  · unfold spec_l27Draw.f
    rw [e1]
    rfl
  · simp only
    rw [e3]
    rfl
  · simp only
    rw [e5]
    simp only [Option.bind_some]
    by_cases c : x = 0
    · rw [if_pos c, if_pos c]
    · rw [if_neg c, if_neg c]
theorem drawlog_ok {l : List Int} (hb : Bytes l) : ∃ K W, Ev (fun k => spec_DrawFlushLog.f k l) (K, W) ∧ K.size ≤ 10000 ∧ W.size ≤ 10000 := by
  obtain ⟨K, W, a', sd', e, _, _, h1, h2⟩ := draw_ok hb 0 0 (by omega) (by omega)
  refine ⟨K, W, Ev.congr (f := fun k => (spec_l27Draw.f k l 0 0).bind fun bt315 => some (bt315.1, bt315.2.1)) (fun k => rfl) (Ev.bind e (Ev.now _)), h1, h2⟩
theorem drawlose_ok {l : List Int} (hb : Bytes l) : ∃ K W n, Ev (fun k => spec_DrawLosePower.f k l) (K, W, n) ∧ K.size ≤ 10000 ∧ W.size ≤ 10000 := by
  obtain ⟨K, W, a', sd', e, g0, g1, h1, h2⟩ := draw_ok hb 0 0 (by omega) (by omega)
  obtain ⟨b, a1, sd1, e1, g2, g3⟩ := one_ok hb a' sd' 6 (by omega) (by omega)
  by_cases c : b = true
  · obtain ⟨n, a2, sd2, e2, _⟩ := among_ok hb a1 sd1 (by omega) (by omega) (([(-1), 0, (W.size : Int), wrap64 ((W.size : Int) + 1), 9223372036854775807] : List Int)) (by simp)
    refine ⟨K, W, n, Ev.congr (f := fun k => (spec_l27Draw.f k l 0 0).bind fun bt194 => (spec_l00Src_one.f l bt194.2.2.1 bt194.2.2.2 6).bind fun bt199 => (if bt199.1 = true then ((spec_l00Src_among.f l bt199.2.1 bt199.2.2 (([(-1), 0, (bt194.2.1.size : Int), wrap64 ((bt194.2.1.size : Int) + 1), 9223372036854775807] : List Int))).bind fun bt205 => (some (bt194.1, bt194.2.1, bt205.1))) else ((spec_l00Src_pick.f l bt199.2.1 bt199.2.2 (wrap64 ((bt194.2.1.size : Int) + 1))).bind fun bt208 => (some (bt194.1, bt194.2.1, bt208.1))))) (fun k => rfl) (Ev.bind e (Ev.congr (f := fun _ => some (K, W, n)) (fun k => ?_) (Ev.now _))), h1, h2⟩
    simp only
    rw [e1]
    simp only [Option.bind_some]
    rw [if_pos c, e2]
    rfl
  · obtain ⟨n, a2, sd2, e2, _⟩ := pick_ok hb a1 sd1 (wrap64 ((W.size : Int) + 1)) (by omega) (by omega)
    refine ⟨K, W, n, Ev.congr (f := fun k => (spec_l27Draw.f k l 0 0).bind fun bt194 => (spec_l00Src_one.f l bt194.2.2.1 bt194.2.2.2 6).bind fun bt199 => (if bt199.1 = true then ((spec_l00Src_among.f l bt199.2.1 bt199.2.2 (([(-1), 0, (bt194.2.1.size : Int), wrap64 ((bt194.2.1.size : Int) + 1), 9223372036854775807] : List Int))).bind fun bt205 => (some (bt194.1, bt194.2.1, bt205.1))) else ((spec_l00Src_pick.f l bt199.2.1 bt199.2.2 (wrap64 ((bt194.2.1.size : Int) + 1))).bind fun bt208 => (some (bt194.1, bt194.2.1, bt208.1))))) (fun k => rfl) (Ev.bind e (Ev.congr (f := fun _ => some (K, W, n)) (fun k => ?_) (Ev.now _))), h1, h2⟩
    simp only
    rw [e1]
    simp only [Option.bind_some]
    rw [if_neg c, e2]
    rfl
end Go.Proofs.YtajbomiaoncgiaaDoor.QPL
