/- What the law FnExactCheapestHands does, out of what its functions answer. -/
import Derived.Test.YtjmjmpbphhbmpaaCh5
import Derived.Test.YtjmjmpbphhbmpaaCh6
namespace Go.Proofs.Ytjmjmpbphhbmpaa.QCH
open Go.RowKit Go.Proofs.YtjmjmpbphhbmpaaQ Go.Proofs.YtjmjmpbphhbmpaaW.PrintWords Go.Proofs.YtjmjmpbphhbmpaaW.PrintLast Go.Proofs.YtjmjmpbphhbmpaaW.PrintMore
set_option linter.unusedVariables false
set_option linter.unusedSimpArgs false

set_option maxHeartbeats 8000000 in
set_option maxRecDepth 100000 in
theorem hand3a (k : Nat) (A : Option Addr) (c : Nat) (l : List S36) (need : Int) (w : World) (sz : Int)
    (hr : Kd.C k36 w A l.length l) (hlc : l.length ≤ c) (hsz : laws_szHandS.f k l 1048576 = some sz) (hneg : sz < 0) :
    Calls Try.prog 3 #[.slice A l.length c, .int .i64 need] w fun e w' => e = .returned (.bool true) ∧ Below w.heap.size w w' := by
  have HR := Aside0.mk hr
  have HSZ := Aside0.mk hsz
  have d1 : decide (sz < 0) = true := decide_eq_true hneg
  clear hr hsz hneg
  go_enter Try.func3, Try.ntmps3
  go_wp2_with (fail)
  refine (laws_szHandS.calls k A c l 1048576 sz w HR.out hlc HSZ.out).mono ?_
  rintro e w1 ⟨rfl, hb1⟩
  have B1 := Aside0.mk hb1
  clear hb1
  go_wp2
  go_ret
  exact ⟨rfl, B1.out⟩

set_option maxHeartbeats 16000000 in
set_option maxRecDepth 100000 in
theorem hand3b (mn pa : S43 → Int) (k : Nat) (A : Option Addr) (c : Nat) (l : List S36) (need : Int) (w : World) (sz : Int) (m : List S43) (v t : Bool) (r1 r1' : List Int) (r2 r3 K M : Int)
    (hr : Kd.C k36 w A l.length l) (hlc : l.length ≤ c) (hsz : laws_szHandS.f k l 1048576 = some sz) (hneg : 0 ≤ sz)
    (hto : laws_toHandS.f k l = some m)
    (hv : spec_l26Ok.f k m = some v) (ht : spec_l00In.f need 0 20000 = some t)
    (h10 : v = true → t = true → m.length ≤ 10)
    (hmn : v = true → t = true → ∀ x ∈ m, spec_l00Sum.f k x.f1 = some (mn x)) (hpa : v = true → t = true → ∀ x ∈ m, spec_l26Pay.f k [x] 1440 0 = some (pa x))
    (hres : (if v = true then if t = true then spRes mn pa need m else ([], 0, 2) else ([], 0, 1)) = (r1, r2, r3))
    (him : impl_CheapestHands.f k m need = some (r1, r2, r3))
    (heq : laws_eqInt64S.f k r1 r1 = some true) (hem : laws_eqHandS.f k m m = some true)
    (hmk : markH k m 1 = some K) (hK : 0 ≤ K) (hmi : laws_markInt64S.f k r1 1 = some (M, r1')) (hM : 0 ≤ M) (hh : laws_heldInt64S.f k r1' 1 = some M) :
    Calls Try.prog 3 #[.slice A l.length c, .int .i64 need] w fun e w' => e = .returned (.bool true) ∧ Below w.heap.size w w' := by
  have HR := Aside0.mk hr
  have HSZ := Aside0.mk hsz
  have HTO := Aside0.mk hto
  have HV := Aside0.mk hv
  have HT := Aside0.mk ht
  have H10 := Aside0.mk h10
  have HMN := Aside0.mk hmn
  have HPA := Aside0.mk hpa
  have HRES := Aside0.mk hres
  have HIM := Aside0.mk him
  have HEQ := Aside0.mk heq
  have HEM := Aside0.mk hem
  have HMK := Aside0.mk hmk
  have HMI := Aside0.mk hmi
  have HH := Aside0.mk hh
  have HL := Aside0.mk hlc
  have d1 : decide (sz < 0) = false := decide_eq_false (by omega)
  have d2 : decide (K < 0) = false := decide_eq_false (by omega)
  have d3 : decide (M < 0) = false := decide_eq_false (by omega)
  clear hr hsz hneg hto hv ht h10 hmn hpa hres him heq hem hmk hK hmi hM hh hlc
  go_enter Try.func3, Try.ntmps3
  go_wp2_with (fail)
  refine (laws_szHandS.calls k A c l 1048576 sz w HR.out HL.out HSZ.out).mono ?_
  rintro e w1 ⟨rfl, hb⟩
  have B1 := Aside0.mk hb
  clear hb
  go_wp2_with (fail)
  refine (laws_toHandS.calls k A c l m w1 (Kd.C_below HR.out B1.out) HL.out HTO.out).mono ?_
  rintro e w2 ⟨v2, rfl, hs, hb⟩
  obtain ⟨A2, c2, rfl, hl2, hC2⟩ := Kd.S_reads hs
  have B2 := Aside0.mk (below_step B1.out hb)
  have C2 := Aside0.mk hC2
  have L2 := Aside0.mk hl2
  clear hb hs hl2 hC2
  go_wp2_with (fail)
  refine (hand5 mn pa k A2 c2 m need v t w2 C2.out L2.out HV.out HT.out H10.out HMN.out HPA.out r1 r2 r3 HRES.out).mono ?_
  rintro e w3 ⟨v3, rfl, hs, hb⟩
  have B3 := Aside0.mk (below_step B2.out hb)
  obtain ⟨A6, c6, rfl, hl6, hC6⟩ := Kd.R_reads hs
  have C6 := Aside0.mk hC6
  have L6 := Aside0.mk hl6
  clear hb hs hl6 hC6 C2 L2
  go_wp2_with (fail)
  refine (laws_toHandS.calls k A c l m w3 (Kd.C_below HR.out B3.out) HL.out HTO.out).mono ?_
  rintro e w4 ⟨v4, rfl, hs, hb⟩
  have B4 := Aside0.mk (below_step B3.out hb)
  have D4 := Aside0.mk hb
  have Z4 := Aside0.mk hb.size
  obtain ⟨A9, c9, rfl, hl9, hC9⟩ := Kd.S_reads hs
  have S4 := Aside0.mk (Kd.S_mono (Kd.S_bound hs) (ok' := fun q => w3.heap.size ≤ q ∧ q < w4.heap.size) (fun q hq => ⟨hq.2.1, hq.2.2.1⟩))
  have L9 := Aside0.mk hl9
  have C9 := Aside0.mk hC9
  clear hb hs hl9 hC9
  go_wp2_with (fail)
  refine (impl_CheapestHands.calls k A9 c9 m need r1 r2 r3 w4 C9.out L9.out HIM.out).mono ?_
  rintro e w5 ⟨v5, rfl, hs, hb⟩
  have B5 := Aside0.mk (below_step B4.out hb)
  have D5 := Aside0.mk (below_step D4.out hb)
  have E5 := Aside0.mk hb
  obtain ⟨A10, c10, rfl, hl10, hC10⟩ := Kd.R_reads hs
  have G5 := Aside0.mk (Kd.R_mono (Kd.R_bound hs) (ok' := fun q => w4.heap.size ≤ q) (fun q hq => hq.2.1))
  have L10 := Aside0.mk hl10
  have C10 := Aside0.mk hC10
  clear hb hs hl10 hC10
  go_wp2_with (fail)
  refine (laws_eqInt64S.calls k A10 c10 r1 A6 c6 r1 true w5 C10.out L10.out (Kd.C_below C6.out D5.out) L6.out HEQ.out).mono ?_
  rintro e w6 ⟨rfl, hd⟩
  have B6 := Aside0.mk (below_step B5.out hd.below)
  have D6 := Aside0.mk (below_step D5.out hd.below)
  have E6 := Aside0.mk (below_step E5.out hd.below)
  have G6 := Aside0.mk (Kd.R_below G5.out hd.below)
  clear hd G5
  go_wp2_with (fail)
  refine (laws_toHandS.calls k A c l m w6 (Kd.C_below HR.out B6.out) HL.out HTO.out).mono ?_
  rintro e w7 ⟨v7, rfl, hs, hb⟩
  have B7 := Aside0.mk (below_step B6.out hb)
  have D7 := Aside0.mk (below_step D6.out hb)
  have E7 := Aside0.mk (below_step E6.out hb)
  have G7 := Aside0.mk (Kd.R_below G6.out hb)
  obtain ⟨A57, c57, rfl, hl57, hC57⟩ := Kd.S_reads hs
  have L57 := Aside0.mk hl57
  have C57 := Aside0.mk hC57
  clear hb hs hl57 hC57 G6
  go_wp2_with (fail)
  refine (laws_eqHandS.calls k A9 c9 m A57 c57 m true w7 (Kd.C_below C9.out E7.out) L9.out C57.out L57.out HEM.out).mono ?_
  rintro e w8 ⟨rfl, hb⟩
  have B8 := Aside0.mk (below_step B7.out hb)
  have D8 := Aside0.mk (below_step D7.out hb)
  have E8 := Aside0.mk (below_step E7.out hb)
  have G8 := Aside0.mk (Kd.R_below G7.out hb)
  have S8 := Aside0.mk (Kd.S_below S4.out E8.out)
  clear hb G7 S4 C57 L57 C9
  go_wp2_with (fail)
  refine (hand10 k (fun q => w3.heap.size ≤ q ∧ q < w4.heap.size) _ m 1 K w3 w8 D8.out S8.out (fun q hq => Nat.lt_of_lt_of_le hq.2 E8.out.size) HMK.out).mono ?_
  rintro e w9 ⟨rfl, hb, hk⟩
  have D9 := Aside0.mk hb
  have B9 := Aside0.mk (below_step B3.out hb)
  have G9 := Aside0.mk (Kd.R_kept G8.out hk (fun q hq hs => by omega))
  clear hb hk G8 S8 E5 E6 E7 E8 B4 B5 B6 B7 B8 D4 D5 D6 D7 D8
  go_wp2_with (fail)
  refine (laws_eqInt64S.calls k A10 c10 r1 A6 c6 r1 true w9 (Kd.R_reads' G9.out).2.2 L10.out (Kd.C_below C6.out D9.out) L6.out HEQ.out).mono ?_
  rintro e w10 ⟨rfl, hd⟩
  have B10 := Aside0.mk (below_step B9.out hd.below)
  have D10 := Aside0.mk (below_step D9.out hd.below)
  have G10 := Aside0.mk (Kd.R_below G9.out hd.below)
  clear hd G9
  go_wp2_with (fail)
  refine (laws_markInt64S.calls k (fun k_ => some k_ = (Value.slice A10 r1.length c10).ownBlock) _ r1 1 M r1' w3 w10 D10.out (Kd.R_tight rfl (Kd.R_lower G10.out Z4.out)) HMI.out).mono ?_
  rintro e w11 ⟨rfl, hs, hb, hk⟩
  have B11 := Aside0.mk (below_step B3.out hb)
  have D11 := Aside0.mk hb
  have G11 := Aside0.mk hs
  have L11 : Aside0 (r1'.length = r1.length) := ⟨((Kd.R_reads' hs).1).symm⟩
  obtain ⟨A11, c11, e11, hl11, hC11⟩ := Kd.R_reads hs
  injection e11 with ea en ec
  subst ea
  subst ec
  have C11 := Aside0.mk hC11
  have L12 := Aside0.mk hl11
  have E11 : Aside0 (#[Value.slice A10 r1.length c10, Value.int IntKind.i64 1] = #[Value.slice A10 r1'.length c10, Value.int IntKind.i64 1]) := ⟨by rw [en]⟩
  clear hs hb hk en hC11 hl11 G10 B10 D10
  go_wp2_with (fail)
  refine (E11.out ▸ (laws_heldInt64S.calls k A10 c10 r1' 1 M w11 C11.out L12.out HH.out)).mono ?_
  rintro e w12 ⟨rfl, hd⟩
  have B12 := Aside0.mk (below_step B11.out hd.below)
  have D12 := Aside0.mk (below_step D11.out hd.below)
  have E12 := Aside0.mk hd.below
  clear hd
  go_wp2_with (fail)
  refine (laws_toHandS.calls k A c l m w12 (Kd.C_below HR.out B12.out) HL.out HTO.out).mono ?_
  rintro e w13 ⟨v13, rfl, hs, hb⟩
  have B13 := Aside0.mk (below_step B12.out hb)
  have D13 := Aside0.mk (below_step D12.out hb)
  have E13 := Aside0.mk (below_step E12.out hb)
  obtain ⟨A94, c94, rfl, hl94, hC94⟩ := Kd.S_reads hs
  have C94 := Aside0.mk hC94
  have L94 := Aside0.mk hl94
  clear hb hs hC94 hl94
  go_wp2_with (fail)
  refine (impl_CheapestHands.calls k A94 c94 m need r1 r2 r3 w13 C94.out L94.out HIM.out).mono ?_
  rintro e w14 ⟨v14, rfl, hs, hb⟩
  have B14 := Aside0.mk (below_step B13.out hb)
  have D14 := Aside0.mk (below_step D13.out hb)
  have E14 := Aside0.mk (below_step E13.out hb)
  obtain ⟨A16, c16, rfl, hl16, hC16⟩ := Kd.R_reads hs
  have C16 := Aside0.mk hC16
  have L16 := Aside0.mk hl16
  clear hb hs hC16 hl16
  go_wp2_with (fail)
  refine (laws_eqInt64S.calls k A16 c16 r1 A6 c6 r1 true w14 C16.out L16.out (Kd.C_below C6.out D14.out) L6.out HEQ.out).mono ?_
  rintro e w15 ⟨rfl, hd⟩
  have B15 := Aside0.mk (below_step B14.out hd.below)
  have E15 := Aside0.mk (below_step E14.out hd.below)
  clear hd
  go_wp2_with (fail)
  refine (E11.out ▸ (laws_heldInt64S.calls k A10 c10 r1' 1 M w15 (Kd.C_below C11.out E15.out) L12.out HH.out)).mono ?_
  rintro e w16 ⟨rfl, hd⟩
  have B16 := Aside0.mk (below_step B15.out hd.below)
  clear hd
  go_wp2
  go_ret
  exact ⟨rfl, B16.out⟩
end Go.Proofs.Ytjmjmpbphhbmpaa.QCH
