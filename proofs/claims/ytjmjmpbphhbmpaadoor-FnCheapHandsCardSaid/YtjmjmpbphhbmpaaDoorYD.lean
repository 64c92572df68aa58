/- The plain law of FnCheapHands: clocks are read back. -/
import Derived.Test.YtjmjmpbphhbmpaaDoorYC
namespace Go.Proofs.YtjmjmpbphhbmpaaDoor.QCB
open Go.RowKit Go.Proofs.YtjmjmpbphhbmpaaDoorQ Go.Proofs.YtjmjmpbphhbmpaaDoorW.PrintWords Go.Proofs.YtjmjmpbphhbmpaaDoorW.PrintLast Go.Proofs.YtjmjmpbphhbmpaaDoorW.PrintMore Go.Proofs.YtjmjmpbphhbmpaaDoor.ZA

theorem dec1 (d : Nat) (h : d < 10) : dec (d : Int) = [UInt8.ofNat (48 + d)] := by
  rw [dec_nat, Lib.decDigits, dif_pos h]
def dg (d : Nat) : UInt8 := UInt8.ofNat (48 + d)
theorem dg_inj {a b : Nat} (ha : a < 10) (hb : b < 10) (h : dg a = dg b) : a = b := by
  have h := congrArg UInt8.toNat h
  rw [dg, dg, u8 _ (by omega), u8 _ (by omega)] at h
  omega
def clk (m : Nat) : Bs := dec ((m / 60 : Nat) : Int) ++ 58 :: [dg (m % 60 / 10), dg (m % 60 % 10)]
theorem two_digits (r : Nat) (h : r < 60) : impl_twoDigits.f (r : Int) = some (ofL [dg (r / 10), dg (r % 10)]) := by
  unfold impl_twoDigits.f
  have e1 : wrap64 (Int.tdiv (r : Int) 10) = ((r / 10 : Nat) : Int) := by
    rw [Int.tdiv_eq_ediv_of_nonneg (by omega)]; unfold wrap64; omega
  have e2 : Int.tmod (r : Int) 10 = ((r % 10 : Nat) : Int) := by
    rw [Int.tmod_eq_emod_of_nonneg (by omega)]; omega
  rw [e1, e2, impl_dec _ (by omega) (by omega), impl_dec _ (by omega) (by omega), dec1 _ (by omega), dec1 _ (by omega)]
  simp only [Option.bind_some]
  rw [if_pos (by rw [size_of, size_of]; simp), of_app]
  rfl
theorem dec_small (u : Nat) (h : u < 1000) : (dec (u : Int)).length ≤ 3 := by
  rw [dec_nat]; exact dec_len 2 u (by omega)
theorem clock_text (m : Nat) (h : m ≤ 20000) : impl_ClockText.f (m : Int) = some (ofL (clk m)) := by
  unfold impl_ClockText.f
  have e1 : wrap64 (Int.tdiv (m : Int) 60) = ((m / 60 : Nat) : Int) := by
    rw [Int.tdiv_eq_ediv_of_nonneg (by omega)]; unfold wrap64; omega
  have e2 : Int.tmod (m : Int) 60 = ((m % 60 : Nat) : Int) := by
    rw [Int.tmod_eq_emod_of_nonneg (by omega)]; omega
  have hl := dec_small (m / 60) (by omega)
  rw [impl_in, Option.bind_some, if_pos (by unfold inB; exact decide_eq_true (by omega)), e1, e2, impl_dec _ (by omega) (by omega), Option.bind_some, if_pos (by rw [size_of]; omega), two_digits _ (by omega), Option.bind_some,
    show (⟨#[58]⟩ : ByteArray) = ofL [58] from rfl, of_app, if_pos (by rw [size_of, size_of]; simp only [List.length_append, List.length_cons, List.length_nil]; omega), of_app]
  simp [clk]
theorem clk_inj {h r r' : Nat} (hr : r < 60) (hr' : r' < 60) (e : clk (h * 60 + r) = clk (h * 60 + r')) : r = r' := by
  unfold clk at e
  rw [show (h * 60 + r) / 60 = h by omega, show (h * 60 + r') / 60 = h by omega, show (h * 60 + r) % 60 = r by omega, show (h * 60 + r') % 60 = r' by omega] at e
  have e := List.append_cancel_left e
  simp only [List.cons.injEq, and_true, true_and] at e
  have a := dg_inj (by omega) (by omega) e.1
  have b := dg_inj (by omega) (by omega) e.2
  omega
theorem no_colon (u : Nat) : (58 : UInt8) ∉ dec (u : Int) := by
  intro h
  rw [dec_nat] at h
  exact (dig_not ((dec_digs u).2.1 _ h)).2 rfl
theorem clock_loop (h r : Nat) (hr : r < 60) (hb : h * 60 + r ≤ 19990) : ∀ (n j : Nat), j + n = r → Ev (fun k => impl_ReadClock.l0 k (ofL (clk (h * 60 + r))) (h : Int) ((h * 60 + j : Nat) : Int)) (((h * 60 + r : Nat) : Int), true) := by
  intro n
  induction n with
  | zero =>
    intro j hj
    obtain rfl : j = r := by omega
    refine Ev.step (f := fun _ => some (((h * 60 + j : Nat) : Int), true)) (fun k => ?_) (Ev.now _)
    simp only [impl_ReadClock.l0]
    rw [if_pos (by unfold wrap64; omega), clock_text _ (by omega), Option.bind_some, if_pos rfl]
  | succ n ih =>
    intro j hj
    refine Ev.step (fun k => ?_) (ih (j + 1) (by omega))
    simp only [impl_ReadClock.l0]
    rw [if_pos (by unfold wrap64; omega), clock_text _ (by omega), Option.bind_some, if_neg ?_, show wrap64 (((h * 60 + j : Nat) : Int) + 1) = ((h * 60 + (j + 1) : Nat) : Int) by unfold wrap64; omega]
    intro e
    rw [list_eq_iff, L_of, L_of] at e
    have := clk_inj (by omega) hr e
    omega
theorem read_clock (m : Nat) (hm : m ≤ 19980) : Ev (fun k => impl_ReadClock.f k (ofL (clk m))) ((m : Int), true) := by
  have hl := dec_small (m / 60) (by omega)
  have hz : (ofL (clk m)).size < 4294967281 := by rw [size_of, clk]; simp only [List.length_append, List.length_cons, List.length_nil]; omega
  have hc : strings_Cut.f (ofL (clk m)) (⟨#[58]⟩ : ByteArray) = some (ofL (dec ((m / 60 : Nat) : Int)), ofL [dg (m % 60 / 10), dg (m % 60 % 10)], true) := by
    rw [impl_cut _ hz, L_of, clk, cut_mid 58 _ _ (no_colon _)]
  have hn := impl_num (ofL (dec ((m / 60 : Nat) : Int)))
  rw [L_of, rd_dec _ (by omega)] at hn
  have hloop := clock_loop (m / 60) (m % 60) (by omega) (by omega) (m % 60) 0 (by omega)
  rw [show m / 60 * 60 + m % 60 = m by omega, show m / 60 * 60 + 0 = m / 60 * 60 by omega] at hloop
  unfold impl_ReadClock.f
  refine Ev.congr (fun k => by rw [hc]; rfl) (Ev.bind hn ?_)
  dsimp only [outN, Option.getD, Option.isSome]
  refine Ev.congr (fun k => (if_pos rfl).trans ((if_pos rfl).trans (by rw [impl_in, Option.bind_some, if_pos (by unfold inB; exact decide_eq_true (by omega))]))) ?_
  refine Ev.step (fun k => ?_) hloop
  simp only [impl_ReadClock.j0]
  rw [if_neg (by rw [size_of]; simp only [List.length_cons, List.length_nil]; decide), show wrap64 (((m / 60 : Nat) : Int) * 60) = ((m / 60 * 60 : Nat) : Int) by unfold wrap64; omega]
end Go.Proofs.YtjmjmpbphhbmpaaDoor.QCB
