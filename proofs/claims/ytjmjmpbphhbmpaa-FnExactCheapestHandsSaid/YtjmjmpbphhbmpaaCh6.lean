/- What laws.markHandS does to a row of hands. -/
import Derived.Test.YtjmjmpbphhbmpaaQCHx
namespace Go.Proofs.Ytjmjmpbphhbmpaa.QCH
open Go.RowKit Go.Proofs.YtjmjmpbphhbmpaaQ Go.Proofs.YtjmjmpbphhbmpaaW.PrintWords Go.Proofs.YtjmjmpbphhbmpaaW.PrintLast Go.Proofs.YtjmjmpbphhbmpaaW.PrintMore
set_option linter.unusedVariables false
set_option linter.unusedSimpArgs false

/-- The number that is handed back. -/
def markH (k : Nat) : List S43 → Int → Option Int
  | [], a => some a
  | x :: xs, a => (laws_markText.f k a).bind fun _ => (laws_markInt64S.f k x.f1 (wrap64 (a + 1))).bind fun r => markH k xs (wrap64 (r.1 + 1))

set_option maxHeartbeats 8000000 in
set_option maxRecDepth 100000 in
theorem hand10 (k : Nat) (P0 : Nat → Prop) (v : Value) (l : List S43) (a r : Int) (w0 w : World) (hB : Below w0.heap.size w0 w) (ho : Kd.S k43 43 w w0.heap.size P0 v l) (hP : ∀ q, P0 q → q < w.heap.size) (h : markH k l a = some r) :
    Calls Try.prog 10 #[v, .int .i64 a] w fun e w' => e = .returned (.int .i64 r) ∧ Below w0.heap.size w0 w' ∧ Kept w w' P0 := by
  have HB := Aside0.mk hB
  have HO := Aside0.mk ho
  have HH := Aside0.mk h
  have HM : Aside0 (l.length ≤ 9223372036854775807) := ⟨by obtain ⟨A, c, _, _, hC⟩ := Kd.S_reads ho; exact Kd.C_max hC⟩
  obtain ⟨A, c, rfl⟩ := Kd.S_slice ho
  clear hB ho h
  go_enter Try.func10, Try.ntmps10
  go_wp2
  go_loopg [1, 5] (l.length + 1) (fun kq v1 v5 w' => ∃ (j b : Int) (xs : List S43), v1 = .int .i64 b ∧ v5 = .int .i64 j ∧ 0 ≤ j ∧ j ≤ l.length ∧ xs.length = l.length ∧ kq = l.length + 1 - j.toNat ∧ Aside0 (markH k (xs.drop j.toNat) b = some r) ∧ Aside0 (Kd.S k43 43 w' w0.heap.size P0 (.slice A l.length c) xs) ∧ Aside0 (Below w0.heap.size w0 w') ∧ Aside0 (Kept w w' P0))
  case atStart => exact ⟨0, a, l, rfl, rfl, by omega, by omega, rfl, by simp, HH, HO, HB, ⟨Kept.refl _ _⟩⟩
  case round =>
    clear HO HB HH
    obtain ⟨j, b, xs, rfl, rfl, hj0, hj, hxl, hk, HH, HO, HB, HK⟩ := hrel
    have HN := Aside0.mk (And.intro hj0 (And.intro hj (And.intro hxl hk)))
    by_cases q : j < (l.length : Int)
    · have d5 : decide (j < (l.length : Int)) = true := decide_eq_true q
      have Q := Aside0.mk q
      have hlt : j.toNat < xs.length := by omega
      have hd2 : xs.drop j.toNat = rd_T43 xs j :: xs.drop (j + 1).toNat := by
        rw [List.drop_eq_getElem_cons hlt, show (j + 1).toNat = j.toNat + 1 by omega]
        congr 1
        simp [rd_T43, List.getD_eq_getElem?_getD, List.getElem?_eq_getElem hlt]
      have hh := HH.out
      rw [hd2, markH] at hh
      obtain ⟨tx, htx, hh⟩ := Option.bind_eq_some_iff.1 hh
      obtain ⟨⟨b2, ms⟩, hms, hh⟩ := Option.bind_eq_some_iff.1 hh
      have HTX := Aside0.mk htx
      have HMS := Aside0.mk hms
      have HH2 := Aside0.mk hh
      have WJ := Aside0.mk (show wrap64 (j + 1) = j + 1 by have := HM.out; unfold wrap64; omega)
      obtain ⟨g, cap, eA, hgb, hgl, _⟩ := Kd.S_form HO.out (by omega)
      injection eA with eA en_ ec_
      subst eA
      subst ec_
      have hq1 := eq_true hj0
      have hq2 : (j < (l.length : Int)) = True := eq_true q
      clear hh htx hms hd2 hlt HH en_ hj0 hj hk q
      go_wp2_with (fail)
      refine (laws_markText.calls k b tx _ HTX.out).mono ?_
      rintro e w1 ⟨rfl, hb1⟩
      have HB1 := Aside0.mk (below_step HB.out hb1)
      have HK1 := Aside0.mk (HK.out.below hb1)
      have HO1 := Aside0.mk (Kd.S_below HO.out hb1)
      obtain ⟨oki, ce, hcl, hM, hcc, hfr, hoki, hH⟩ := Kd.S_elem HO1.out z43 j (of_eq_true hq1) (of_eq_true hq2)
      obtain ⟨vm, rfl, g1⟩ := k43_openM hM
      have hx0 : w1.cell? ⟨g, j.toNat * 3, none⟩ = some (.string (rd_T43 xs j).f0) := hcc 0 _ rfl
      have hf0 : w1.frozen? ⟨g, j.toNat * 3, none⟩ = false := hfr 0
      have HS1 : Aside0 (Kd.S k43 43 (w1.setCell ⟨g, j.toNat * 3, none⟩ (.string tx)) w0.heap.size P0 (.slice (some ⟨g, 0, none⟩) l.length c) (xs.set j.toNat ⟨tx, (rd_T43 xs j).f1, (rd_T43 xs j).f2⟩) ∧ w1.grownBy (w1.setCell ⟨g, j.toNat * 3, none⟩ (.string tx)) (some g)) := ⟨by
        have h := Kd.H_seg hH (of_eq_true hq1) (of_eq_true hq2) (seg := [.string tx]) (j := 0) (show 1 ≤ 3 from by decide) (by intro u hu; rw [List.mem_singleton.1 hu]; rfl)
        exact ⟨Kd.H_back h.1 (x' := ⟨tx, (rd_T43 xs j).f1, (rd_T43 xs j).f2⟩) (k43_mkM _ _ _ ⟨tx, (rd_T43 xs j).f1, (rd_T43 xs j).f2⟩ (Kd.R_grown g1 h.2 (fun k hk e => (hoki k hk).2 (by injection e)))) (fun _ hk => hk), h.2⟩⟩
      clear hcl hM hcc hfr hoki hH g1 hb1
      go_upto_region 6 with (first | ((with_reducible refine gate_store (t := 9) (p := 17) rfl ?_); refine store_event (t := 9) (p := 17) (v := ?vo_) (w1 := (w1.setCell ⟨g, j.toNat * 3, none⟩ (.string tx))) ?hg ?ho ?hn ?hr ?_; (case ho => rfl); (case hg => rfl); (case hn => rfl); (case hr => first | (go_simp; done) | (go_simp; rfl)); intro w2 hw; have HO2 := Aside0.mk (show Kd.S k43 43 w2 w0.heap.size P0 (.slice (some ⟨g, 0, none⟩) l.length c) (xs.set j.toNat ⟨tx, (rd_T43 xs j).f1, (rd_T43 xs j).f2⟩) ∧ w1.grownBy w2 (some g) by rw [hw]; exact HS1.out); have HB2 := Aside0.mk (show Below w0.heap.size w0 w2 by rw [hw]; exact below_set HB1.out hgb); have HK2 := Aside0.mk (Kept.of_grown HO2.out.2 HK1.out (fun k e => .inl (by injection e with e; subst e; exact (Kd.S_R HO2.out.1).1 _ rfl))); clear hw hx0 hf0))
      obtain ⟨oki2, ce2, hcl2, hM2, hcc2, hoki2, hback2⟩ := Kd.S_borrow HO2.out.1 z43 j (of_eq_true hq1) (of_eq_true hq2)
      have hge : (xs.set j.toNat (⟨tx, (rd_T43 xs j).f1, (rd_T43 xs j).f2⟩ : S43)).getD j.toNat z43 = ⟨tx, (rd_T43 xs j).f1, (rd_T43 xs j).f2⟩ := by
        have h1 := HN.out
        have h2 := Q.out
        simp [List.getD_eq_getElem?_getD, List.getElem?_set, show j.toNat < xs.length by omega]
      rw [hge] at hM2
      obtain ⟨vm2, rfl, g2⟩ := k43_openM hM2
      obtain ⟨Am, cm, rfl⟩ := Kd.R_slice g2
      have hx1 : w2.cell? ⟨g, j.toNat * 3 + 1, none⟩ = some (.slice Am (rd_T43 xs j).f1.length cm) := by
        have h := hcc2 1 _ rfl
        rw [add_plain] at h
        exact h
      have G2 := Aside0.mk g2
      have OK2 := Aside0.mk hoki2
      have BK2 := Aside0.mk (@hback2)
      clear hcl2 hM2 hcc2 hge g2 hoki2 hback2
      go_wp2_with (fail)
      refine (laws_markInt64S.calls k (fun k_ => some k_ = (Value.slice Am (rd_T43 xs j).f1.length cm).ownBlock) _ (rd_T43 xs j).f1 (wrap64 (b + 1)) b2 ms w0 w2 HB2.out (Kd.R_tight rfl G2.out) HMS.out).mono ?_
      rintro e w3 ⟨rfl, hr3, hb3, hk3⟩
      have HG3 : w2.grownBy w3 (Value.slice Am (rd_T43 xs j).f1.length cm).ownBlock := ⟨hb3.os.trans HB2.out.os.symm, hb3.tape.trans HB2.out.tape.symm, hb3.output.trans HB2.out.output.symm, hk3.1, fun q hq hne => hk3.2 q hq hne⟩
      have HO3 := Aside0.mk (BK2.out HG3 (fun q e => G2.out.1 q e) (x' := (⟨tx, ms, (rd_T43 xs j).f2⟩ : S43)) (k43_mkM w3 w0.heap.size oki2 (⟨tx, ms, (rd_T43 xs j).f2⟩ : S43) (Kd.R_reok rfl hr3 (fun q e => G2.out.1 q e))))
      have HB3 := Aside0.mk hb3
      have HK3 := Aside0.mk (Kept.then_ (S := P0) HK2.out hk3 (fun q e => .inl (OK2.out q (G2.out.1 q e.symm)).1))
      clear HS1 HO1 HO2 HB1 HB2 HK1 HK2 OK2 BK2 G2 hr3 hb3 hk3 HG3 hx1
      obtain ⟨oki3, ce3, hcl3, hM3, hcc3, hfr3, hoki3, hH3⟩ := Kd.S_elem HO3.out z43 j (of_eq_true hq1) (of_eq_true hq2)
      have hge3 : ((xs.set j.toNat (⟨tx, (rd_T43 xs j).f1, (rd_T43 xs j).f2⟩ : S43)).set j.toNat ⟨tx, ms, (rd_T43 xs j).f2⟩).getD j.toNat z43 = ⟨tx, ms, (rd_T43 xs j).f2⟩ := by
        have h1 := HN.out
        have h2 := Q.out
        simp [List.getD_eq_getElem?_getD, List.getElem?_set, show j.toNat < xs.length by omega]
      rw [hge3] at hM3
      obtain ⟨vm3, rfl, g3⟩ := k43_openM hM3
      have hx3 : w3.cell? ⟨g, j.toNat * 3 + 2, none⟩ = some (.int .i64 (rd_T43 xs j).f2) := hcc3 2 _ rfl
      have hf3 : w3.frozen? ⟨g, j.toNat * 3 + 2, none⟩ = false := hfr3 2
      have HS3 : Aside0 (Kd.S k43 43 (w3.setCell ⟨g, j.toNat * 3 + 2, none⟩ (.int .i64 b2)) w0.heap.size P0 (.slice (some ⟨g, 0, none⟩) l.length c) (xs.set j.toNat ⟨tx, ms, b2⟩) ∧ w3.grownBy (w3.setCell ⟨g, j.toNat * 3 + 2, none⟩ (.int .i64 b2)) (some g)) := ⟨by
        have h := Kd.H_seg hH3 (of_eq_true hq1) (of_eq_true hq2) (seg := [.int .i64 b2]) (j := 2) (show 3 ≤ 3 from by decide) (by intro u hu; rw [List.mem_singleton.1 hu]; rfl)
        have he := Kd.H_back h.1 (x' := (⟨tx, ms, b2⟩ : S43)) (k43_mkM _ _ _ ⟨tx, ms, b2⟩ (Kd.R_grown g3 h.2 (fun k hk e => (hoki3 k hk).2 (by injection e)))) (fun _ hk => hk)
        rw [List.set_set, List.set_set] at he
        exact ⟨he, h.2⟩⟩
      clear hge3 hcl3 hM3 hcc3 hfr3 hoki3 hH3 g3
      have HB4 : Aside0 (Below w0.heap.size w0 (w3.setCell ⟨g, j.toNat * 3 + 2, none⟩ (.int .i64 b2))) := ⟨below_set HB3.out hgb⟩
      have HK4 := Aside0.mk (Kept.of_grown HS3.out.2 HK3.out (fun k e => .inl (by injection e with e; subst e; exact (Kd.S_R HS3.out.1).1 _ rfl)))
      go_wp2
      have hn := HN.out
      have hq := Q.out
      go_roundg (l.length + 1 - (j + 1).toNat)
      case measure => have hn := HN.out; have hq := Q.out; omega
      case rel => exact ⟨j + 1, wrap64 (b2 + 1), xs.set j.toNat ⟨tx, ms, b2⟩, rfl, by rw [WJ.out], by omega, by omega, by rw [List.length_set]; exact hn.2.2.1, by omega, ⟨by rw [List.drop_set_of_lt (by omega)]; exact HH2.out⟩, ⟨HS3.out.1⟩, HB4, HK4⟩
    · have d5 : decide (j < (l.length : Int)) = false := decide_eq_false q
      have Q := Aside0.mk q
      clear q hj0 hj hxl hk
      go_wp2
      go_ret
      have h := HH.out
      rw [List.drop_eq_nil_of_le (by have := Q.out; have := HN.out; omega)] at h
      exact ⟨by rw [Option.some.inj h]; rfl, HB.out, HK.out⟩
end Go.Proofs.Ytjmjmpbphhbmpaa.QCH
