/- What the Go text of 'ClockOrder' does, walked: it returns true, and nothing that was there has turned. No condition but what a row says of its arguments. -/
import Derived.Test.YtkpbilajimdbfaaClockHalf
namespace Go.Proofs.Ytkpbilajimdbfaa
set_option linter.unusedVariables false
open Go.ChangeShapes Go.WideShapes Go.ChangeAt Go.RowKit
theorem cut3 (z : Int) : (z ≤ -100 ∧ cutf z 100 = -100) ∨ (100 < z ∧ cutf z 100 = 100) ∨ (-100 < z ∧ z ≤ 100 ∧ cutf z 100 = z) := by unfold cutf; omega
def sumTo (f : Nat → Int) : Nat → Int
  | 0 => 0
  | k + 1 => sumTo f k + f k
theorem sumTo_front (f : Nat → Int) : ∀ n, sumTo f (n + 1) = f 0 + sumTo (fun i => f (i + 1)) n
  | 0 => by simp [sumTo]
  | n + 1 => by
    have := sumTo_front f n
    rw [show sumTo f (n + 1 + 1) = sumTo f (n + 1) + f (n + 1) from rfl, this]
    rw [show sumTo (fun i => f (i + 1)) (n + 1) = sumTo (fun i => f (i + 1)) n + f (n + 1) from rfl]
    omega
theorem sumTo_congr {f g : Nat → Int} : ∀ n, (∀ i, i < n → f i = g i) → sumTo f n = sumTo g n
  | 0, _ => rfl
  | n + 1, h => by simp only [sumTo]; rw [sumTo_congr n (fun i hi => h i (by omega)), h n (by omega)]
theorem sumTo_back (f : Nat → Int) : ∀ n, sumTo (fun i => f (n - 1 - i)) n = sumTo f n
  | 0 => rfl
  | n + 1 => by
    rw [sumTo_front]
    have h : sumTo (fun i => f (n + 1 - 1 - (i + 1))) n = sumTo (fun i => f (n - 1 - i)) n := sumTo_congr n (fun i hi => by congr 1; omega)
    rw [h, sumTo_back f n]
    simp only [sumTo, Nat.add_sub_cancel, Nat.sub_zero]
    omega
theorem sumTo_bd {f : Nat → Int} (h : ∀ i, -1000000 ≤ f i ∧ f i ≤ 1000000) : ∀ n : Nat, -1000000 * (n : Int) ≤ sumTo f n ∧ sumTo f n ≤ 1000000 * (n : Int)
  | 0 => by simp [sumTo]
  | n + 1 => by
    have h1 := sumTo_bd h n
    have h2 := h n
    simp only [sumTo]
    omega
/-- what element i of l adds. -/
def adds (zs : List Int) (i : Nat) : Int := cutf (zs.getD i 0) 100 * 10000
theorem adds_bd (zs : List Int) (i : Nat) : -1000000 ≤ adds zs i ∧ adds zs i ≤ 1000000 := by
  have := cutf_bd (zs.getD i 0) 100 (by omega); unfold adds; omega
theorem adds_at {zs : List Int} {i : Nat} {z : Int} (h : zs[i]? = some z) : adds zs i = cutf z 100 * 10000 := by
  unfold adds; rw [List.getD, h]; rfl
set_option maxRecDepth 100000 in
set_option maxHeartbeats 2000000 in
theorem clockOrder_walk (n : Int) (a : Option Addr) (len cap : Nat) (zs : List Int) (w : World) (hs : Sl (fun z => Value.int .i64 z) w a len zs) :
    Calls Try.prog 3 #[.slice a len cap, .int .i64 n] w (PTrue w) := by
  have hl := hs.len
  by_cases h200 : 200 < len
  · go_enter Try.func3, Try.ntmps3
    go_wp2_with fail
    refine (awake_true _).mono ?_
    rintro e w7 ⟨rfl, g7⟩
    go_wp2_with fail
    go_ret
    exact ⟨rfl, g7⟩
  · obtain ⟨q, hq, hf⟩ := umod n 50 (by omega) (by omega)
    have HF := Lib.hid hf
    clear hf
    go_enter Try.func3, Try.ntmps3
    go_wp2_with fail
    refine (new_any _).mono ?_
    rintro e w1 ⟨b, rfl, hb, k1, g1⟩
    go_wp2_with fail
    refine (new_any _).mono ?_
    rintro e w2 ⟨c, rfl, hc, r2, g2⟩
    have k2 := k1.kept g2
    have hbc : b ≠ c := by have := lt_of_block k1; omega
    go_wp2_with fail
    refine (new_any _).mono ?_
    rintro e w3 ⟨d, rfl, hd, s3, g3⟩
    have r3 := r2.kept g3
    have k3 := k2.kept g3
    have hbd : b ≠ d := by have := lt_of_block k2; omega
    have hcd : c ≠ d := by have := lt_of_block r2; omega
    have G0 : Chg (fun k => w.heap.size ≤ k) w w3 := (g1.none.trans g2.none).trans g3.none
    have hc' : w.heap.size ≤ c := by have := g1.size; omega
    have hd' : w.heap.size ≤ d := by have := g1.size; have := g2.size; omega
    clear k1 g1 g2 hc hd g3 r2 k2
    go_wp2_with fail
    go_loopw [18] (fun i wr => ∃ (k : Nat) (x y u : Int), k ≤ len ∧ i = .int .i64 k ∧ x = sumTo (adds zs) k ∧ y = sumTo (fun i => adds zs (len - 1 - i)) k ∧ x ≤ u ∧ u ≤ 1000000 * k ∧ Ck wr b 0 x k ∧ Ck wr c 0 y k ∧ Ck wr d 0 u k ∧ Chg (fun k => w.heap.size ≤ k) w wr) (fun i _ => len - (intOf i).toNat)
    case atStart => exact ⟨0, 0, 0, 0, by omega, rfl, rfl, rfl, by omega, by omega, k3, r3, s3, G0⟩
    case round =>
      obtain ⟨k, x, y, u, hk, rfl, hx, hy, hu0, hu1, kk, rr, ss, hg⟩ := hrel
      have hxb := sumTo_bd (adds_bd zs) k
      have hyb := sumTo_bd (fun i => adds_bd zs (len - 1 - i)) k
      rw [← hx] at hxb
      rw [← hy] at hyb
      obtain ⟨hx0, hx1⟩ := hxb
      obtain ⟨hy0, hy1⟩ := hyb
      clear k3 r3 s3 G0
      by_cases hlt : k < len
      · obtain ⟨p, z, rfl, hz, hcell⟩ := hs.at hg hlt
        obtain ⟨p', z', hp', hz', hcell'⟩ := hs.at hg (i := len - 1 - k) (by omega)
        cases hp'
        obtain ⟨x', hx'⟩ : ∃ x' : Int, x + cutf z 100 * 10000 = x' := ⟨_, rfl⟩
        obtain ⟨y', hy'⟩ : ∃ y' : Int, y + cutf z' 100 * 10000 = y' := ⟨_, rfl⟩
        have ex : x' = sumTo (adds zs) (k + 1) := by simp only [sumTo]; rw [adds_at hz, ← hx, hx']
        have ey : y' = sumTo (fun i => adds zs (len - 1 - i)) (k + 1) := by simp only [sumTo]; rw [adds_at hz', ← hy, hy']
        obtain ⟨c0, c1⟩ := cutf_bd z 100 (by omega)
        have EX := Lib.hid ex
        have EY := Lib.hid ey
        have EX2 := Lib.hid hx'
        have EY2 := Lib.hid hy'
        have HS := Lib.hid hs
        have HZ := Lib.hid hz
        have HZ' := Lib.hid hz'
        clear hx hy ex ey hz hz' hs hx' hy' hcell'
        go_wp2_with fail
        refine (slot_to _ _ _ _ _ _ x' (k + 1) kk (by omega) (by omega) EX2.out rfl).mono ?_
        rintro e w4 ⟨rfl, k4, g4⟩
        have r4 := rr.keep g4 (fun h => hbc h.symm)
        have s4 := ss.keep g4 (fun h => hbd h.symm)
        have G4 := hg.trans (g4.one hb)
        obtain ⟨p2, z2, hp2, hz2, hcell2⟩ := HS.out.at G4 (i := len - 1 - k) (by omega)
        cases hp2
        obtain rfl : z2 = z' := by rw [HZ'.out] at hz2; cases hz2; rfl
        clear hz2
        go_wp2_with fail
        refine (slot_to _ _ _ _ _ _ y' (k + 1) r4 (by omega) (by omega) EY2.out rfl).mono ?_
        rintro e w5 ⟨rfl, r5, g5⟩
        have k5 := k4.keep g5 hbc
        have s5 := s4.keep g5 (fun h => hcd h.symm)
        have G5 := G4.trans (g5.one hc')
        obtain ⟨p3, z3, hp3, hz3, hcell3⟩ := HS.out.at G5 hlt
        cases hp3
        obtain rfl : z3 = z := by rw [HZ.out] at hz3; cases hz3; rfl
        clear hz3 hcell2 hcell EY2 k4 r4 s4 kk rr ss g4 g5 hg
        have hx'b : -1000000 * (k + 1) ≤ x' ∧ x' ≤ 1000000 * (k + 1) := by have := EX2.out; omega
        obtain ⟨hxb0, hxb1⟩ := hx'b
        have hyb' := sumTo_bd (fun i => adds_bd zs (len - 1 - i)) (k + 1)
        rw [← EY.out] at hyb'
        obtain ⟨hyb0, hyb1⟩ := hyb'
        have hk1 : ((k + 1 : Nat) : Int) = k + 1 := by omega
        rw [hk1] at hyb0 hyb1
        clear hk1
        rcases cut3 z3 with ⟨z0, z1⟩ | ⟨z0, z1⟩ | ⟨z0, z2, z1⟩
        all_goals
          have hx2 := EX2.out
          rw [z1] at hx2
          have HX2 := Lib.hid hx2
          clear z1 EX2 hx2
          have hf := HF.out
          go_wp2_with fail
          clear hf
          refine (slot_to _ _ _ _ _ _ _ (k + 1) s5 (by omega) (by omega) rfl rfl).mono ?_
          rintro e w6 ⟨rfl, s6, g6⟩
          have k6 := k5.keep g6 hbd
          have r6 := r5.keep g6 hcd
          have G6 := G5.trans (g6.one hd')
          obtain ⟨u', hu', hule, hub⟩ : ∃ u' : Int, Ck w6 d 0 u' (k + 1) ∧ x' ≤ u' ∧ u' ≤ 1000000 * (k + 1) :=
            ⟨_, s6, by have := HX2.out; unfold cutf; omega, by unfold cutf; omega⟩
          clear s6 k5 r5 s5 hcell3
          have hdd : downf x' ≤ downf u' := by unfold downf; omega
          obtain ⟨e0, e1⟩ := downf_bd x' (by omega) (by omega)
          obtain ⟨e2, e3⟩ := downf_bd u' (by omega) (by omega)
          go_wp2_with fail
          refine (off_any _ _ _ _ _ (downf u') hu' (by omega) (by omega) (by omega)).mono ?_
          rintro e w7 ⟨rfl, g7⟩
          have k7 := k6.kept g7
          have r7 := r6.kept g7
          have s7 := hu'.kept g7
          go_wp2_with fail
          refine (off_any _ _ _ _ _ (downf x') k7 (by omega) (by omega) (by omega)).mono ?_
          rintro e w8 ⟨rfl, g8⟩
          have k8 := k7.kept g8
          have r8 := r7.kept g8
          have s8 := s7.kept g8
          go_wp2_with fail
          go_roundw
          case rel => exact ⟨k + 1, x', y', u', by omega, by go_num, EX.out, EY.out, hule, hub, k8, r8, s8, (G6.trans g7.none).trans g8.none⟩
          case measure => simp [intOf]; omega
      · obtain rfl : k = len := by omega
        have hxy : x = y := by rw [hx, hy, sumTo_back (adds zs) k]
        subst hxy
        clear hx hy hs
        obtain ⟨e0, e1⟩ := downf_bd x (by omega) (by omega)
        go_wp2_with fail
        refine (off_any _ _ _ _ _ (downf x) kk (by omega) (by omega) (by omega)).mono ?_
        rintro e w4 ⟨rfl, g4⟩
        have k4 := kk.kept g4
        have r4 := rr.kept g4
        go_wp2_with fail
        refine (off_any _ _ _ _ _ (downf x) r4 (by omega) (by omega) (by omega)).mono ?_
        rintro e w5 ⟨rfl, g5⟩
        have k5 := k4.kept g5
        go_wp2_with fail
        refine (slots_any _ _ _ _ _ k5).mono ?_
        rintro e w6 ⟨rfl, rfl⟩
        go_wp2_with fail
        refine (awake_true _).mono ?_
        rintro e w7 ⟨rfl, g7⟩
        go_wp2_with fail
        go_ret
        exact ⟨rfl, (((hg.trans g4.none).trans g5.none).trans g7.none).fresh⟩
end Go.Proofs.Ytkpbilajimdbfaa
