/- What the Go text of 'ClockMoves' does, walked: it returns true, and nothing that was there has turned. No condition but what a row says of its arguments. -/
import Derived.Test.YtkpbilajimdbfaaN
namespace Go.Proofs.Ytkpbilajimdbfaa
set_option linter.unusedVariables false
open Go.ChangeShapes Go.WideShapes Go.ChangeAt Go.RowKit
theorem move_small (w : World) (b : Nat) (x y z n : Int) (h : Ck w b x y z) (hx : -1000000000 ≤ x ∧ x ≤ 1000000000) (hn : -1000 ≤ n ∧ n ≤ 1000) :
   Calls Try.prog 16 #[.pointer (some ⟨b, 0, none⟩), .int .i64 n] w (PSet b w (x + n) y z) := by
  have e : cutf (x + cutf n 1000000) 1000000000000 = x + n := by unfold cutf; omega
  have := move_any w b x y z n h (by omega)
  rw [e] at this; exact this
theorem put_small (w : World) (b : Nat) (x y z n : Int) (h : Ck w b x y z) (hn : -1000000 ≤ n ∧ n ≤ 1000000) :
   Calls Try.prog 14 #[.pointer (some ⟨b, 0, none⟩), .int .i64 n] w (PSet b w n 0 z) := by
  have e : cutf n 1000000000000 = n := by unfold cutf; omega
  have := put_any w b x y z n h
  rw [e] at this; exact this
theorem slot_ex (w : World) (b : Nat) (x y z p : Int) (h : Ck w b x y z) (hy : -1000000000000 ≤ y ∧ y ≤ 1000000000000) (hz : 0 ≤ z ∧ z ≤ 1000000) (y' : Int) (e : y + cutf p 100 * 10000 = y') :
   Calls Try.prog 11 #[.pointer (some ⟨b, 0, none⟩), .int .i64 p] w (PSet b w x y' (z + 1)) := by
  subst e; exact slot_any w b x y z p h hy hz
set_option maxRecDepth 100000 in
theorem clockMoves_walk (m : Int) (a : Option Addr) (len cap : Nat) (zs : List Int) (w : World) (hs : Sl (fun z => Value.int .i64 z) w a len zs) :
    Calls Try.prog 8 #[.slice a len cap, .int .i64 m] w (PTrue w) := by
  have hl := hs.len
  go_enter Try.func8, Try.ntmps8
  go_wp2_with fail
  refine (new_any _).mono ?_
  rintro e w1 ⟨b, rfl, hb, k1, g1⟩
  go_wp2_with fail
  refine (new_any _).mono ?_
  rintro e w2 ⟨c, rfl, hc, r2, g2⟩
  have k2 := k1.kept g2
  have hbc : b ≠ c := by have := lt_of_block k1; omega
  have G0 : Chg (fun k => w.heap.size ≤ k) w w2 := g1.none.trans g2.none
  have hc' : w.heap.size ≤ c := by have := g1.size; omega
  clear k1 g1 g2 hc
  go_wp2_with fail
  go_loopw [7, 15] (fun s i wr => ∃ (k : Nat) (x y : Int), k ≤ len ∧ k ≤ 300 ∧ i = .int .i64 k ∧ s = .int .i64 x ∧ -1000 * k ≤ x ∧ x ≤ 1000 * k ∧ -1000000 * k ≤ y ∧ y ≤ 1000000 * k ∧ Ck wr b x y k ∧ Ck wr c 0 y k ∧ Chg (fun k => w.heap.size ≤ k) w wr) (fun _ i _ => len - (intOf i).toNat)
  case atStart => exact ⟨0, 0, 0, by omega, by omega, rfl, rfl, by omega, by omega, by omega, by omega, k2, r2, G0⟩
  case round =>
    obtain ⟨k, x, y, hk, hk4, rfl, rfl, hx0, hx1, hy0, hy1, kk, rr, hg⟩ := hrel
    clear k2 r2 G0
    by_cases hgo : k < len ∧ k < 300
    · obtain ⟨hlt, h4⟩ := hgo
      obtain ⟨p, z, rfl, hz, hcell⟩ := hs.at hg hlt
      clear hz hs
      obtain ⟨hq0, hq1⟩ := cutf_bd z 100 (by omega)
      obtain ⟨_, _, _, ht0, ht1⟩ := tdm z 1000 (by omega)
      go_wp2_with fail
      obtain ⟨y', hy'⟩ : ∃ y', y + cutf z 100 * 10000 = y' := ⟨_, rfl⟩
      refine (slot_ex _ _ _ _ _ _ kk (by omega) (by omega) y' hy').mono ?_
      rintro e w3 ⟨rfl, k3, g3⟩
      have r3 := rr.keep g3 (fun h => hbc h.symm)
      have HY := Lib.hid hy'
      have hyb : -1000000 * (k + 1) ≤ y' ∧ y' ≤ 1000000 * (k + 1) := by omega
      obtain ⟨hyb0, hyb1⟩ := hyb
      clear hy'
      go_wp2_with fail
      refine (slot_ex _ _ _ _ _ _ r3 (by omega) (by omega) y' HY.out).mono ?_
      rintro e w4 ⟨rfl, r4, g4⟩
      have k4 := k3.keep g4 hbc
      clear HY
      go_wp2_with fail
      refine (move_small _ _ _ _ _ _ k4 (by omega) (by omega)).mono ?_
      rintro e w5 ⟨rfl, k5, g5⟩
      have r5 := r4.keep g5 (fun h => hbc h.symm)
      obtain ⟨hd0, hd1⟩ := downf_bd y' (by omega) (by omega)
      go_wp2_with fail
      refine (off_any _ _ _ _ _ _ k5 (by omega) (by omega) rfl).mono ?_
      rintro e w6 ⟨rfl, g6⟩
      have r6 := r5.kept g6
      have k6 := k5.kept g6
      go_wp2_with fail
      refine (off_any _ _ _ _ _ _ r6 (by omega) (by omega) rfl).mono ?_
      rintro e w7 ⟨rfl, g7⟩
      have r7 := r6.kept g7
      have k7 := k6.kept g7
      go_wp2_with fail
      go_roundw
      case rel => exact ⟨k + 1, _, y', by omega, by omega, by go_num, rfl, by omega, by omega, by omega, by omega, k7, r7, ((((hg.trans (g3.one hb)).trans (g4.one hc')).trans (g5.one hb)).trans g6.none).trans g7.none⟩
      case measure => simp [intOf]; omega
    · obtain ⟨_, _, _, ht0, ht1⟩ := tdm m 1000000 (by omega)
      by_cases hlt : k < len
      · obtain ⟨p, z, rfl, hz, hcell⟩ := hs.at hg hlt
        have h4 : ¬ k < 300 := by omega
        clear hz hs hgo
        go_wp2_with fail
        refine (put_small _ _ _ _ _ _ kk (by omega)).mono ?_
        rintro e w3 ⟨rfl, k3, g3⟩
        go_wp2_with fail
        refine (off_any _ _ _ _ _ (m.tmod 1000000) k3 (by omega) (by omega) (by simp [downf])).mono ?_
        rintro e w4 ⟨rfl, g4⟩
        go_wp2_with fail
        refine (awake_true _).mono ?_
        rintro e w5 ⟨rfl, g5⟩
        go_wp2_with fail
        go_ret
        exact ⟨rfl, (((hg.trans (g3.one hb)).trans g4.none).trans g5.none).fresh⟩
      · clear hgo
        go_wp2_with fail
        refine (put_small _ _ _ _ _ _ kk (by omega)).mono ?_
        rintro e w3 ⟨rfl, k3, g3⟩
        go_wp2_with fail
        refine (off_any _ _ _ _ _ (m.tmod 1000000) k3 (by omega) (by omega) (by simp [downf])).mono ?_
        rintro e w4 ⟨rfl, g4⟩
        go_wp2_with fail
        refine (awake_true _).mono ?_
        rintro e w5 ⟨rfl, g5⟩
        go_wp2_with fail
        go_ret
        exact ⟨rfl, (((hg.trans (g3.one hb)).trans g4.none).trans g5.none).fresh⟩
end Go.Proofs.Ytkpbilajimdbfaa
