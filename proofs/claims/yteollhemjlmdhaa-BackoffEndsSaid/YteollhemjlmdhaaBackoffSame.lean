/- What the Go text of 'BackoffSame' does, walked: it returns true, and nothing that was there has turned. No condition but what a row says of its arguments. -/
import Derived.Test.YteollhemjlmdhaaN
namespace Go.Proofs.Yteollhemjlmdhaa
set_option linter.unusedVariables false
open Go.ChangeShapes Go.WideShapes Go.ChangeAt Go.RowKit
theorem u32_bd {x : Int} (h : (Lit.int .u32 x).wf = true) : 0 ≤ x ∧ x ≤ 4294967295 := by
  simp only [Lit.wf, IntKind.min, IntKind.max, IntKind.signed, IntKind.bits, Bool.and_eq_true] at h
  simp at h; omega
theorem sentNo_l (s : St) : (sentNo s).l = s.l := rfl
set_option maxRecDepth 100000 in
set_option maxHeartbeats 2000000 in
theorem backoffSame_walk (l m x : Int) (hx : (Lit.int .u32 x).wf = true) (a : Option Addr) (len cap : Nat) (zs : List Bool) (w : World) (hs : Sl Value.bool w a len zs) :
    Calls Try.prog 3 #[.int .i64 l, .int .i64 m, .int .u32 x, .slice a len cap] w (PTrue w) := by
  have hl := hs.len
  have ok := ok0 l m x (u32_bd hx).1 (u32_bd hx).2
  have hsl : (st0 l m x).e = (st0 l m x).l := rfl
  have HSL := Lib.hid hsl
  clear hx hsl
  go_enter Try.func3, Try.ntmps3
  go_wp2_with fail
  refine (new_any _ _ _ _).mono ?_
  rintro e w1 ⟨b, rfl, hb, k1, g1⟩
  go_wp2_with fail
  refine (new_any _ _ _ _).mono ?_
  rintro e w2 ⟨c, rfl, hc, r2, g2⟩
  generalize st0 l m x = s0 at *
  have k2 := k1.kept g2
  have hbc : b ≠ c := by have := lt_of_block k1; omega
  have G0 : Chg (fun k => w.heap.size ≤ k) w w2 := g1.none.trans g2.none
  have hc' : w.heap.size ≤ c := by have := g1.size; omega
  clear k1 g1 g2 hc
  go_wp2_with fail
  refine (exponent_any _ _ _ k2).mono ?_
  rintro e w9 ⟨rfl, rfl⟩
  rw [HSL.out]
  go_wp2_with fail
  generalize hfirst : s0.l = first at *
  go_loopw [26] (fun i wr => ∃ (k : Nat) (s : St), k ≤ len ∧ k ≤ 100 ∧ i = .int .i64 k ∧ Ok s ∧ s.l = first ∧ Bk wr b s ∧ Bk wr c s ∧ Chg (fun k => w.heap.size ≤ k) w wr) (fun i _ => len - (intOf i).toNat)
  case atStart => exact ⟨0, s0, by omega, by omega, rfl, ok, hfirst, k2, r2, G0⟩
  case round =>
    obtain ⟨k, s, hk, hk4, rfl, oks, hfl, kk, rr, hg⟩ := hrel
    clear k2 r2 G0 ok hfirst HSL
    have HFL := Lib.hid hfl
    clear hfl
    by_cases hgo : k < len ∧ k < 100
    · obtain ⟨hlt, h4⟩ := hgo
      obtain ⟨p, z, rfl, hz, hcell⟩ := hs.at hg hlt
      clear hz hs
      cases z
      case true =>
        go_wp2_with fail
        refine (sent_yes _ _ _ kk).mono ?_
        rintro e w3 ⟨rfl, k3, g3⟩
        have r3 := rr.keep g3 (fun h => hbc h.symm)
        go_wp2_with fail
        refine (sent_yes _ _ _ r3).mono ?_
        rintro e w4 ⟨rfl, r4, g4⟩
        have k4 := k3.keep g4 hbc
        have ok4 := ok_yes oks
        have he : (sentYes s).e = first := HFL.out
        have ht : (sentYes s).t = 0 := rfl
        have hl' : (sentYes s).l = first := HFL.out
        generalize sentYes s = s' at *
        have HE := Lib.hid he
        have HT := Lib.hid ht
        have HL := Lib.hid hl'
        clear kk rr k3 r3 hcell he ht hl'
        go_wp2_with fail
        refine (wait_any _ _ _ k4).mono ?_
        rintro e w9 ⟨rfl, rfl⟩
        rw [HT.out]
        go_wp2_with fail
        refine (wait_any _ _ _ r4).mono ?_
        rintro e w9 ⟨rfl, rfl⟩
        rw [HT.out]
        go_wp2_with fail
        refine (exponent_any _ _ _ k4).mono ?_
        rintro e w9 ⟨rfl, rfl⟩
        rw [HE.out]
        go_wp2_with fail
        refine (exponent_any _ _ _ r4).mono ?_
        rintro e w9 ⟨rfl, rfl⟩
        rw [HE.out]
        go_wp2_with fail
        refine (free_any _ _ _ true k4 (by rw [HT.out]; rfl)).mono ?_
        rintro e w9 ⟨rfl, rfl⟩
        go_wp2_with fail
        refine (exponent_any _ _ _ k4).mono ?_
        rintro e w9 ⟨rfl, rfl⟩
        rw [HE.out]
        go_wp2_with fail
        refine (exponent_any _ _ _ k4).mono ?_
        rintro e w9 ⟨rfl, rfl⟩
        rw [HE.out]
        go_wp2_with fail
        go_roundw
        case rel => exact ⟨k + 1, s', by omega, by omega, by go_num, ok4, HL.out, k4, r4, (hg.trans (g3.one hb)).trans (g4.one hc')⟩
        case measure => simp [intOf]; omega
      case false =>
        go_wp2_with fail
        refine (sent_no _ _ _ kk oks).mono ?_
        rintro e w3 ⟨rfl, k3, g3⟩
        have r3 := rr.keep g3 (fun h => hbc h.symm)
        go_wp2_with fail
        refine (sent_no _ _ _ r3 oks).mono ?_
        rintro e w4 ⟨rfl, r4, g4⟩
        have k4 := k3.keep g4 hbc
        have ok4 := ok_no oks
        have hl' : (sentNo s).l = first := HFL.out
        generalize sentNo s = s' at *
        have hge : first ≤ s'.e := by have := ok4.le; omega
        have HL := Lib.hid hl'
        clear kk rr k3 r3 hcell hl'
        go_wp2_with fail
        refine (wait_any _ _ _ k4).mono ?_
        rintro e w9 ⟨rfl, rfl⟩
        go_wp2_with fail
        refine (wait_any _ _ _ r4).mono ?_
        rintro e w9 ⟨rfl, rfl⟩
        go_wp2_with fail
        refine (exponent_any _ _ _ k4).mono ?_
        rintro e w9 ⟨rfl, rfl⟩
        go_wp2_with fail
        refine (exponent_any _ _ _ r4).mono ?_
        rintro e w9 ⟨rfl, rfl⟩
        go_wp2_with fail
        refine (exponent_any _ _ _ k4).mono ?_
        rintro e w9 ⟨rfl, rfl⟩
        go_wp2_with fail
        go_roundw
        case rel => exact ⟨k + 1, s', by omega, by omega, by go_num, ok4, HL.out, k4, r4, (hg.trans (g3.one hb)).trans (g4.one hc')⟩
        case measure => simp [intOf]; omega
    · by_cases hlt : k < len
      · obtain ⟨p, z, rfl, hz, hcell⟩ := hs.at hg hlt
        have h4 : ¬ k < 100 := by omega
        clear hz hs hgo
        go_wp2_with fail
        refine (awake_true _).mono ?_
        rintro e w5 ⟨rfl, g5⟩
        go_wp2_with fail
        go_ret
        exact ⟨rfl, (hg.trans g5.none).fresh⟩
      · clear hgo
        go_wp2_with fail
        refine (awake_true _).mono ?_
        rintro e w5 ⟨rfl, g5⟩
        go_wp2_with fail
        go_ret
        exact ⟨rfl, (hg.trans g5.none).fresh⟩
end Go.Proofs.Yteollhemjlmdhaa
