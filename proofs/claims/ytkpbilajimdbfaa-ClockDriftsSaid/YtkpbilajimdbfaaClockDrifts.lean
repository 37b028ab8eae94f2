/- What the Go text of 'ClockDrifts' does, walked: it returns true, and nothing that was there has turned. No condition but what a row says of its arguments. -/
import Derived.Test.YtkpbilajimdbfaaClockHalf
namespace Go.Proofs.Ytkpbilajimdbfaa
set_option linter.unusedVariables false
open Go.ChangeShapes Go.WideShapes Go.ChangeAt Go.RowKit
theorem cut3 (z : Int) : (z ≤ -100 ∧ cutf z 100 = -100) ∨ (100 < z ∧ cutf z 100 = 100) ∨ (-100 < z ∧ z ≤ 100 ∧ cutf z 100 = z) := by unfold cutf; omega
set_option maxRecDepth 100000 in
set_option maxHeartbeats 2000000 in
theorem clockDrifts_walk (n : Int) (a : Option Addr) (len cap : Nat) (zs : List Int) (w : World) (hs : Sl (fun z => Value.int .i64 z) w a len zs) :
    Calls Try.prog 5 #[.int .i64 n, .slice a len cap] w (PTrue w) := by
  have hl := hs.len
  obtain ⟨_, _, _, ht0, ht1⟩ := tdm n 1000000 (by omega)
  go_enter Try.func5, Try.ntmps5
  go_wp2_with fail
  refine (new_any _).mono ?_
  rintro e w1 ⟨b, rfl, hb, k1, g1⟩
  go_wp2_with fail
  generalize n.tmod 1000000 = f at *
  refine (put_small _ _ _ _ _ _ k1 (by omega)).mono ?_
  rintro e w2 ⟨rfl, k2, g2⟩
  have G0 : Chg (fun k => w.heap.size ≤ k) w w2 := g1.none.trans (g2.one hb)
  clear k1 g1 g2
  go_wp2_with fail
  go_loopw [6, 7, 21] (fun s la i wr => ∃ (k : Nat) (S y : Int), k ≤ len ∧ k ≤ 300 ∧ i = .int .i64 k ∧ s = .int .i64 S ∧ la = .int .i64 (f + downf y) ∧ y = S * 10000 ∧ -100 * k ≤ S ∧ S ≤ 100 * k ∧ Ck wr b f y k ∧ Chg (fun k => w.heap.size ≤ k) w wr) (fun _ _ i _ => len - (intOf i).toNat)
  case atStart => exact ⟨0, 0, 0, by omega, by omega, rfl, rfl, by simp [downf], by omega, by omega, by omega, k2, G0⟩
  case round =>
    obtain ⟨k, S, y, hk, hk4, rfl, rfl, rfl, hy, hS0, hS1, kk, hg⟩ := hrel
    have HY := Lib.hid hy
    have hyb : -1000000 * k ≤ y ∧ y ≤ 1000000 * k := by omega
    obtain ⟨hyb0, hyb1⟩ := hyb
    clear k2 G0 hy
    by_cases hgo : k < len ∧ k < 300
    · obtain ⟨hlt, h4⟩ := hgo
      obtain ⟨p, z, rfl, hz, hcell⟩ := hs.at hg hlt
      clear hz hs
      obtain ⟨c, y', hc⟩ : ∃ c y' : Int, c = cutf z 100 ∧ y' = y + c * 10000 := ⟨_, _, rfl, rfl⟩
      obtain ⟨hc, hy'⟩ := hc
      have hcb : -100 ≤ c ∧ c ≤ 100 := hc ▸ cutf_bd z 100 (by omega)
      obtain ⟨hc0, hc1⟩ := hcb
      have e1 : y + cutf z 100 * 10000 = y' := by omega
      have e2 : y' = (S + c) * 10000 := by have := HY.out; omega
      have d0 : downf y' - downf y ≤ 1 := by unfold downf; omega
      have d1 : downf y - downf y' ≤ 1 := by unfold downf; omega
      have d2 : downf y' ≤ k + 1 := by unfold downf; omega
      have d3 : - downf y' ≤ k + 1 := by unfold downf; omega
      have d4 : downf y' * 100 ≤ S + c := by unfold downf; omega
      have d5 : S + c - 100 < downf y' * 100 := by unfold downf; omega
      obtain ⟨db0, db1⟩ := downf_bd y (by omega) (by omega)
      have hyb' : -1000000 * (k + 1) ≤ y' ∧ y' ≤ 1000000 * (k + 1) := by omega
      obtain ⟨hyb2, hyb3⟩ := hyb'
      have HC := Lib.hid hc
      have E1 := Lib.hid e1
      have E2 := Lib.hid e2
      clear hc hy' e1 e2 HY
      go_wp2_with fail
      refine (slot_to _ _ _ _ _ _ y' (k + 1) kk (by omega) (by omega) E1.out rfl).mono ?_
      rintro e w3 ⟨rfl, k3, g3⟩
      clear E1
      rcases cut3 z with ⟨z0, z1⟩ | ⟨z0, z1⟩ | ⟨z0, z2, z1⟩
      all_goals
        have hcz := HC.out
        rw [z1] at hcz
        first | subst hcz | skip
        clear HC z1
        go_wp2_with fail
        refine (off_any _ _ _ _ _ _ k3 (by omega) (by omega) rfl).mono ?_
        rintro e w4 ⟨rfl, g4⟩
        have k4 := k3.kept g4
        go_wp2_with fail
        go_roundw
        case rel => exact ⟨k + 1, _, y', by omega, by omega, by go_num, rfl, rfl, E2.out, by omega, by omega, k4, (hg.trans (g3.one hb)).trans g4.none⟩
        case measure => simp [intOf]; omega
    · by_cases hlt : k < len
      · obtain ⟨p, z, rfl, hz, hcell⟩ := hs.at hg hlt
        have h4 : ¬ k < 300 := by omega
        clear hz hs hgo
        go_wp2_with fail
        refine (awake_true _).mono ?_
        rintro e w5 ⟨rfl, g5⟩
        go_wp2_with fail
        go_ret
        exact ⟨rfl, (hg.trans g5.none).fresh⟩
      · clear hgo
        go_wp2_with fail
        refine (awake_true _).mono ?_
        rintro e w5 ⟨rfl, g5⟩
        go_wp2_with fail
        go_ret
        exact ⟨rfl, (hg.trans g5.none).fresh⟩
end Go.Proofs.Ytkpbilajimdbfaa
