/- What the Go text of 'ClockHalf' does, walked: it returns true, and nothing that was there has turned. No condition. -/
import Derived.Test.YtkpbilajimdbfaaClockMoves
namespace Go.Proofs.Ytkpbilajimdbfaa
set_option linter.unusedVariables false
open Go.ChangeShapes Go.WideShapes Go.ChangeAt Go.RowKit
theorem slot_to (w : World) (b : Nat) (x y z p y' z' : Int) (h : Ck w b x y z) (hy : -1000000000000 ≤ y ∧ y ≤ 1000000000000) (hz : 0 ≤ z ∧ z ≤ 1000000) (e : y + cutf p 100 * 10000 = y') (ez : z + 1 = z') :
   Calls Try.prog 11 #[.pointer (some ⟨b, 0, none⟩), .int .i64 p] w (PSet b w x y' z') := by
  subst e; subst ez; exact slot_any w b x y z p h hy hz
theorem half_facts (p k : Nat) (x y : Int) (hp : (p : Int) < 51) (hq : (k : Int) < 300) (hx : x = 2 * y) (hy : y = p * k * 10000) :
    0 ≤ 2 * (p : Int) * k ∧ 2 * (p : Int) * k ≤ 30000 ∧ downf x = 2 * (p : Int) * k / 100 ∧ (downf x = 2 * downf y ∨ downf x = 2 * downf y + 1) := by
  have h0 : p * k ≤ 50 * 299 := Nat.mul_le_mul (by omega) (by omega)
  have e : (p : Int) * k = ((p * k : Nat) : Int) := by simp
  rw [Int.mul_assoc, e]
  rw [e] at hy
  generalize p * k = z at *
  unfold downf
  omega
set_option maxRecDepth 100000 in
theorem clockHalf_walk (n m : Int) (w : World) : Calls Try.prog 4 #[.int .i64 n, .int .i64 m] w (PTrue w) := by
  obtain ⟨p, hp, he⟩ := umod n 51 (by omega) (by omega)
  obtain ⟨q, hq, hf⟩ := umod m 300 (by omega) (by omega)
  go_enter Try.func4, Try.ntmps4
  go_wp2_with fail
  (try rw [he]); (try rw [hf]); clear he hf
  refine (new_any _).mono ?_
  rintro e w1 ⟨b, rfl, hb, k1, g1⟩
  go_wp2_with fail
  refine (new_any _).mono ?_
  rintro e w2 ⟨c, rfl, hc, r2, g2⟩
  have k2 := k1.kept g2
  have hbc : b ≠ c := by have := lt_of_block k1; omega
  go_wp2_with fail
  refine (new_any _).mono ?_
  rintro e w3 ⟨d, rfl, hd, s3, g3⟩
  have r3 := r2.kept g3
  have k3 := k2.kept g3
  have hbd : b ≠ d := by have := lt_of_block k2; omega
  have hcd : c ≠ d := by have := lt_of_block r2; omega
  have G0 : Chg (fun k => w.heap.size ≤ k) w w3 := (g1.none.trans g2.none).trans g3.none
  have hc' : w.heap.size ≤ c := by have := g1.size; omega
  have hd' : w.heap.size ≤ d := by have := g1.size; have := g2.size; omega
  clear k1 g1 g2 hc hd g3 r2 k2
  go_wp2_with fail
  go_loopw [22] (fun i wr => ∃ (k : Nat) (x y : Int), k ≤ q ∧ i = .int .i64 k ∧ x = 2 * y ∧ y = p * k * 10000 ∧ 0 ≤ y ∧ y ≤ 500000 * k ∧ Ck wr b 0 x k ∧ Ck wr c 0 y k ∧ Ck wr d 0 0 k ∧ Chg (fun k => w.heap.size ≤ k) w wr) (fun i _ => q - (intOf i).toNat)
  case atStart => exact ⟨0, 0, 0, by omega, rfl, by omega, by simp, by omega, by omega, k3, r3, s3, G0⟩
  case round =>
    obtain ⟨k, x, y, hk, rfl, hxy, hyp, hy0, hy1, kk, rr, ss, hg⟩ := hrel
    clear k3 r3 s3 G0
    have HXY := Lib.hid hxy
    have HYP := Lib.hid hyp
    have hxb : 0 ≤ x ∧ x ≤ 1000000 * k := by omega
    obtain ⟨hx0, hx1⟩ := hxb
    clear hxy hyp
    by_cases hlt : k < q
    · go_wp2_with fail
      obtain ⟨x', hx'⟩ : ∃ x' : Int, x' = x + 2 * p * 10000 := ⟨_, rfl⟩
      obtain ⟨y', hy'⟩ : ∃ y' : Int, y' = y + p * 10000 := ⟨_, rfl⟩
      have e1 : x + cutf (2 * p) 100 * 10000 = x' := by unfold cutf; omega
      have e2 : y + cutf p 100 * 10000 = y' := by unfold cutf; omega
      have e3 : x' = 2 * y' := by have := HXY.out; omega
      have e4 : y' = p * (k + 1) * 10000 := by
        have := HYP.out; subst hy'; rw [this, Int.mul_add, Int.add_mul]; omega
      have e5 : 0 ≤ y' ∧ y' ≤ 500000 * (k + 1) := by omega
      clear hx' hy'
      refine (slot_to _ _ _ _ _ _ x' (k + 1) kk (by omega) (by omega) e1 rfl).mono ?_
      rintro e w4 ⟨rfl, k4, g4⟩
      have r4 := rr.keep g4 (fun h => hbc h.symm)
      have s4 := ss.keep g4 (fun h => hbd h.symm)
      have E2 := Lib.hid e2
      have E3 := Lib.hid e3
      have E4 := Lib.hid e4
      clear e1 e2 e3 e4 kk rr ss
      go_wp2_with fail
      refine (slot_to _ _ _ _ _ _ y' (k + 1) r4 (by omega) (by omega) E2.out rfl).mono ?_
      rintro e w5 ⟨rfl, r5, g5⟩
      have k5 := k4.keep g5 hbc
      have s5 := s4.keep g5 (fun h => hcd h.symm)
      clear E2 k4 r4 s4
      go_wp2_with fail
      refine (slot_to _ _ _ _ _ _ 0 (k + 1) s5 (by omega) (by omega) (by decide) rfl).mono ?_
      rintro e w6 ⟨rfl, s6, g6⟩
      have k6 := k5.keep g6 hbd
      have r6 := r5.keep g6 hcd
      go_wp2_with fail
      go_roundw
      case rel => exact ⟨k + 1, x', y', by omega, by go_num, E3.out, E4.out, e5.1, e5.2, k6, r6, s6, ((hg.trans (g4.one hb)).trans (g5.one hc')).trans (g6.one hd')⟩
      case measure => simp [intOf]; omega
    · obtain rfl : k = q := by omega
      go_wp2_with fail
      refine (off_any _ _ _ _ _ _ kk (by omega) (by omega) rfl).mono ?_
      rintro e w4 ⟨rfl, g4⟩
      have r4 := rr.kept g4
      have s4 := ss.kept g4
      go_wp2_with fail
      refine (off_any _ _ _ _ _ _ r4 (by omega) (by omega) rfl).mono ?_
      rintro e w5 ⟨rfl, g5⟩
      have s5 := s4.kept g5
      go_wp2_with fail
      refine (off_any _ _ _ _ _ 0 s5 (by omega) (by omega) (by decide)).mono ?_
      rintro e w6 ⟨rfl, g6⟩
      have hd1 : 0 ≤ downf x ∧ downf x ≤ 1000 := by unfold downf; omega
      have hd2 : 0 ≤ downf y ∧ downf y ≤ 1000 := by unfold downf; omega
      obtain ⟨hd10, hd11⟩ := hd1
      obtain ⟨hd20, hd21⟩ := hd2
      obtain ⟨z0, z1, zx, zy⟩ := half_facts p k x y hp hq HXY.out HYP.out
      clear HXY HYP kk rr ss r4 s4 s5
      have b3 : (downf x == 2 * (p : Int) * k / 100) = true := beq_iff_eq.2 zx
      rcases zy with zy | zy
      · have b1 : (downf x == 2 * downf y) = true := beq_iff_eq.2 zy
        clear zx zy
        go_wp2_with fail
        refine (awake_true _).mono ?_
        rintro e w7 ⟨rfl, g7⟩
        go_wp2_with fail
        go_ret
        exact ⟨rfl, ((((hg.trans g4.none).trans g5.none).trans g6.none).trans g7.none).fresh⟩
      · have b1 : (downf x == 2 * downf y) = false := by rw [beq_eq_false_iff_ne]; omega
        have b2 : (downf x == 2 * downf y + 1) = true := beq_iff_eq.2 zy
        clear zx zy
        go_wp2_with fail
        refine (awake_true _).mono ?_
        rintro e w7 ⟨rfl, g7⟩
        go_wp2_with fail
        go_ret
        exact ⟨rfl, ((((hg.trans g4.none).trans g5.none).trans g6.none).trans g7.none).fresh⟩
end Go.Proofs.Ytkpbilajimdbfaa
