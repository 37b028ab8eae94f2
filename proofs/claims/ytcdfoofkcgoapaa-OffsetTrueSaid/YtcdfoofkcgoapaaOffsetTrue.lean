/- What the Go text of 'OffsetTrue' does, walked: it returns true, and nothing that was there has turned. No condition but what a row says of its arguments. -/
import Derived.Test.YtcdfoofkcgoapaaT
import Derived.Test.YtcdfoofkcgoapaaC
namespace Go.Proofs.Ytcdfoofkcgoapaa
set_option linter.unusedVariables false
open Go.ChangeShapes Go.WideShapes Go.ChangeAt Go.RowKit
theorem make_zero (n : Nat) (hn : n ≤ 16) : ∃ arr : Array Value, arr = ((List.replicate n (0 : Int)).map V).toArray ∧ ∀ w : World, (Instr.makeSlice 40 (.int .i64 (n : Int)) (.int .i64 (n : Int))).run Try.prog w = .ok (.slice (some ⟨w.heap.size, 0, none⟩) n n) (w.alloc (.cells arr 2)) := by
  obtain ⟨i0, hi, hx⟩ := Option.map_eq_some_iff.1 Try.info2
  simp only [Prod.mk.injEq] at hx
  obtain ⟨hz0, hz1, hz2⟩ := hx
  refine ⟨_, rfl, fun w => ?_⟩
  have := run_make (P := Try.prog) w 40 2 i0 (.int .i64 0) Try.underlying40 hi hz0 .i64 .i64 n n (by omega) (by omega) (by rw [hz2]; omega) (by omega)
  rw [hz1] at this
  simp only [Int.toNat_natCast, Nat.mul_one] at this
  rw [this]
  congr 3
  apply Array.ext
  · simp [madeCells]
  · intro i h1 h2
    have e : i % 1 = 0 := by omega
    simp [madeCells, V, Value.cells, e]
set_option maxRecDepth 100000 in
set_option maxHeartbeats 8000000 in
theorem offsetTrue_walk (n : Int) (a : Option Addr) (len cap : Nat) (zs : List (Int × Int × Int × Int)) (w : World) (hs : Sls 4 VCall w a len zs) :
    Calls Try.prog 7 #[.int .i64 n, .slice a len cap] w (PTrue w) := by
  have hl := hs.len
  obtain ⟨p0, hp0, he⟩ := umod n 15 (by omega) (by omega)
  go_enter Try.func7, Try.ntmps7
  go_wp2_with fail
  (try rw [he])
  clear he
  obtain ⟨m, hm⟩ : ∃ m : Nat, (m : Int) = 2 + p0 := ⟨2 + p0, by omega⟩
  rw [← hm]
  have hm2 : 2 ≤ m := by omega
  have hm16 : m ≤ 16 := by omega
  clear hm hp0
  refine (new_any _ _).mono ?_
  rintro e w1 ⟨b, d, rfl, hb, hd, k1, g1⟩
  obtain ⟨arr, harr, hmk⟩ := make_zero m hm16
  have HARR := Lib.hid harr
  clear harr
  go_wp2_with fail
  clear hmk
  have oo1 : Of (w1.alloc (.cells arr 2)) w1.heap.size (List.replicate m 0) := by unfold Of; rw [← HARR.out]; exact block_alloc _ _
  have g2 := Chg.alloc (fun _ => False) w1 (.cells arr 2)
  have k2 := k1.keep g2 (fun f => f) (fun f => f)
  have hod : w1.heap.size ≠ d := by have := lt_of_block k1.data; omega
  have hbo : b ≠ w1.heap.size := by have := lt_of_block k1.head; omega
  have ho : w.heap.size ≤ w1.heap.size := g1.size
  have G0 : Chg (fun k => w.heap.size ≤ k) w _ := g1.none.trans g2.none
  have inv0 := OInv.first hm2 hm16
  clear k1 g1 g2
  generalize w1.alloc (.cells arr 2) = w2 at *
  have ho' := Nat.le_trans ho (Nat.le_refl _)
  obtain ⟨o, hoo⟩ : ∃ o, o = w1.heap.size := ⟨_, rfl⟩
  rw [← hoo] at oo1 hod ho' hbo
  rw [← hoo]
  clear hoo ho
  go_loopw [30] (fun i wr => ∃ (k : Nat) (l f : List Int), k ≤ len ∧ k ≤ 300 ∧ i = .int .i64 k ∧ OInv m k l f ∧ Pk wr b d l ∧ Of wr o f ∧ Chg (fun k => w.heap.size ≤ k) w wr) (fun i _ => len - (intOf i).toNat)
  case atStart => exact ⟨0, _, _, by omega, by omega, rfl, inv0, k2, oo1, G0⟩
  case round =>
    obtain ⟨k, l, f, hk, hk4, rfl, inv, kk, oo, hg⟩ := hrel
    clear k2 oo1 G0 inv0
    by_cases hgo : k < len ∧ k < 300
    · obtain ⟨hlt, h4⟩ := hgo
      obtain ⟨p, ⟨c0, c1, c2, c3⟩, rfl, hz, hcell⟩ := hs.at hg hlt
      have hc0 : wr.cell? (p.add (k * 4)) = some (.int .i64 c0) := hcell 0 (by omega)
      have hc1 : wr.cell? { block := (p.add (k * 4)).block, off := (p.add (k * 4)).off + 1 } = some (.int .i64 c1) := hcell 1 (by omega)
      have hc2 : wr.cell? { block := (p.add (k * 4)).block, off := (p.add (k * 4)).off + 2 } = some (.int .i64 c2) := hcell 2 (by omega)
      have hc3 : wr.cell? { block := (p.add (k * 4)).block, off := (p.add (k * 4)).off + 3 } = some (.int .i64 c3) := hcell 3 (by omega)
      clear hz hs hcell
      by_cases h0 : c0 = 0
      · have b0 : (c0 == 0) = true := beq_iff_eq.2 h0
        have b1 : (c0 == 1) = false := by rw [beq_eq_false_iff_ne]; omega
        clear h0
        go_wp2_with fail
        have ga := Chg.alloc (fun _ => False) wr (.cells #[.int .i64 c0, .int .i64 c1, .int .i64 c2, .int .i64 c3] 33)
        have vA : Vk (wr.alloc (.cells #[.int .i64 c0, .int .i64 c1, .int .i64 c2, .int .i64 c3] 33)) wr.heap.size c0 c1 c2 c3 := block_alloc _ _
        have kA := kk.keep ga (fun f => f) (fun f => f)
        have oA := oo.keep ga (fun f => f)
        have hsd : wr.heap.size ≠ d := by have := lt_of_block kk.data; omega
        have hso : wr.heap.size ≠ o := by have := lt_of_block oo; omega
        have gA := hg.trans ga.none
        clear kk oo hg ga hc0 hc1 hc2 hc3
        generalize wr.alloc (.cells #[.int .i64 c0, .int .i64 c1, .int .i64 c2, .int .i64 c3] 33) = wa at *
        generalize wr.heap.size = s at *
        refine (slot_ex _ _ _ _ _ kA (by rw [inv.ll]; omega) (inv.le hk4) rfl).mono ?_
        rintro e w3 ⟨rfl, k3, g3⟩
        have o3 := oA.keep g3 hod
        have v3 := vA.keep g3 hsd
        have G3 := gA.trans (g3.one hd)
        have hfb := inv.fb
        have HFB := Lib.hid hfb
        have HINV := Lib.hid inv
        have M1 := MidF.first inv
        generalize hl'' : slotf l = l' at *
        have HL'' := Lib.hid hl''
        clear kA oA gA g3 vA hl'' hfb inv
        go_wp2_with fail
        go_loopw [9] (fun i wr => ∃ (j : Nat) (L : List Int), 1 ≤ j ∧ j ≤ m ∧ i = .int .i64 j ∧ MidF m f L j ∧ Pk wr b d l' ∧ Of wr o L ∧ Vk wr s c0 c1 c2 c3 ∧ Chg (fun k => w.heap.size ≤ k) w wr) (fun i _ => m - (intOf i).toNat)
        case atStart => exact ⟨1, f, by omega, by omega, rfl, M1, k3, o3, v3, G3⟩
        case round =>
          obtain ⟨j, L, hj1, hjm, rfl, mid, kj, oj, vj, gj⟩ := hrel
          clear M1 k3 o3 v3 G3
          by_cases hlt2 : j < m
          · obtain ⟨y, hy⟩ : ∃ y, L[j]? = some y := ⟨_, List.getElem?_eq_getElem (by rw [mid.len]; omega)⟩
            have hyb : -40000 * (300 : Int) - 300 ≤ y ∧ y ≤ 40000 * (300 : Int) + 300 := by
              have := HFB.out j y (by rw [← mid.rest j (Nat.le_refl _)]; exact hy); omega
            obtain ⟨hyb0, hyb1⟩ := hyb
            have cy := oj.at hy
            have fy := oj.f j
            have cc1 := vj.c1
            have cc2 := vj.c2
            have HY := Lib.hid hy
            have MD := Lib.hid mid
            clear hy mid
            obtain ⟨v1, hv1⟩ : ∃ v1, bits BinOp.and IntKind.i64 (c1 / 2 ^ min (IntKind.u64.wrap (j : Int)).toNat 64) 1 = v1 := ⟨_, rfl⟩
            obtain ⟨v2, hv2⟩ : ∃ v2, bits BinOp.and IntKind.i64 (c2 / 2 ^ min (IntKind.u64.wrap (j : Int)).toNat 64) 1 = v2 := ⟨_, rfl⟩
            have hb1 : 0 ≤ v1 ∧ v1 ≤ 1 := hv1 ▸ and_one_bd _
            have hb2 : 0 ≤ v2 ∧ v2 ≤ 1 := hv2 ▸ and_one_bd _
            obtain ⟨hb10, hb11⟩ := hb1
            obtain ⟨hb20, hb21⟩ := hb2
            have e1 : IntKind.i64.wrap (v1 - v2) = v1 - v2 := IntWalk.i64_in _ (by omega)
            have e2 : IntKind.i64.wrap (y + (v1 - v2)) = y + (v1 - v2) := IntWalk.i64_in _ (by omega)
            go_wp2_with fail
            go_still_tail 18, (by kernel_rfl)
            change wpList _ _ _ _ _ wr.drew
            clear hv1 hv2 e1 e2 cc1 cc2 cy fy
            have gd := Chg.drew (fun _ => False) wr
            have k5 := kj.keep gd (fun f => f) (fun f => f)
            have o5 := oj.keep gd (fun f => f)
            have v5 := vj.keep gd (fun f => f)
            have g5 := gj.trans gd.none
            have cy := o5.at HY.out
            have fy := o5.f j
            clear kj oj vj gj gd
            generalize wr.drew = w5 at *
            go_wp2_with fail
            have gs := chg1 w5 o j (.int .i64 (y + (v1 - v2)))
            have k6 := k5.keep gs (fun h => hbo h) (fun h => hod h.symm)
            have o6 := o5.set j (y + (v1 - v2))
            have v6 := v5.keep gs hso
            have g6 := g5.trans (gs.one ho')
            clear k5 o5 v5 g5 gs cy fy
            generalize w5.setCell ⟨o, j, none⟩ (.int .i64 (y + (v1 - v2))) = w6 at *
            go_roundw
            case rel => exact ⟨j + 1, _, by omega, by omega, by go_num, MD.out.step hj1 HY.out (by omega), k6, o6, v6, g6⟩
            case measure => simp [intOf]; omega
          · obtain rfl : j = m := by omega
            have hI : OInv j (k + 1) l' L := HL''.out ▸ HINV.out.slot hk4 mid.len mid.l0 mid.near
            have kX := kj
            have oX := oj
            have GX := gj
            obtain ⟨f', hf'⟩ : ∃ f', f' = L := ⟨_, rfl⟩
            rw [← hf'] at hI oX
            clear hf' kj oj gj mid vj HL'' HINV HFB
            go_wp2_with fail
            go_loopw [140] (fun i wr => ∃ (t : Nat), t ≤ j ∧ i = .int .i64 t ∧ Pk wr b d l' ∧ Of wr o f' ∧ Chg (fun k => w.heap.size ≤ k) w wr) (fun i _ => j - (intOf i).toNat)
            case atStart => exact ⟨0, by omega, rfl, kX, oX, GX⟩
            case round =>
              obtain ⟨t, ht, rfl, kt, ot, gt⟩ := hrel
              clear kX oX GX
              have HI := Lib.hid hI
              by_cases htm : t < j
              · obtain ⟨z, hz⟩ : ∃ z, l'[t]? = some z := ⟨_, List.getElem?_eq_getElem (by rw [hI.ll]; omega)⟩
                obtain ⟨y, hy⟩ : ∃ y, f'[t]? = some y := ⟨_, List.getElem?_eq_getElem (by rw [hI.fl]; omega)⟩
                have hzl := hI.lb t z hz
                have hyb := hI.fb t y hy
                have hok := hI.ok t z y hz hy
                have hll : l'.length ≤ 16 := by rw [hI.ll]; omega
                clear hI
                have cy := ot.at hy
                by_cases hz0 : 0 ≤ z
                · obtain ⟨hok0, hok1⟩ := hok hz0
                  obtain ⟨hyb0, hyb1⟩ := hyb
                  have HB := Lib.hid (bnd_yes hz hz0)
                  clear hok hz hy
                  go_wp2_with fail
                  refine (bound_ex _ _ _ _ _ _ _ kt hll HB.out).mono ?_
                  rintro e w9 ⟨rfl, rfl⟩
                  clear hll HB
                  go_wp2_with fail
                  go_roundw
                  case rel => exact ⟨t + 1, by omega, by go_num, kt, ot, gt⟩
                  case measure => simp [intOf]; omega
                · have HB := Lib.hid (bnd_no hz (by omega))
                  clear hok hz hy hyb
                  go_wp2_with fail
                  refine (bound_ex _ _ _ _ _ _ _ kt hll HB.out).mono ?_
                  rintro e w9 ⟨rfl, rfl⟩
                  clear hll HB
                  go_wp2_with fail
                  go_roundw
                  case rel => exact ⟨t + 1, by omega, by go_num, kt, ot, gt⟩
                  case measure => simp [intOf]; omega
              · clear hI
                go_wp2_with fail
                go_roundw
                case rel => exact ⟨k + 1, l', f', by omega, by omega, by go_num, HI.out, kt, ot, gt⟩
                case measure => simp [intOf]; omega
      · have b0 : (c0 == 0) = false := by rw [beq_eq_false_iff_ne]; omega
        by_cases h1 : c0 = 1
        · have b1 : (c0 == 1) = true := beq_iff_eq.2 h1
          clear h1 h0
          go_wp2_with fail
          have ga := Chg.alloc (fun _ => False) wr (.cells #[.int .i64 c0, .int .i64 c1, .int .i64 c2, .int .i64 c3] 33)
          have vA : Vk (wr.alloc (.cells #[.int .i64 c0, .int .i64 c1, .int .i64 c2, .int .i64 c3] 33)) wr.heap.size c0 c1 c2 c3 := block_alloc _ _
          have kA := kk.keep ga (fun f => f) (fun f => f)
          have oA := oo.keep ga (fun f => f)
          have hsd : wr.heap.size ≠ d := by have := lt_of_block kk.data; omega
          have hso : wr.heap.size ≠ o := by have := lt_of_block oo; omega
          have gA := hg.trans ga.none
          clear kk oo hg ga hc0 hc1 hc2 hc3
          generalize wr.alloc (.cells #[.int .i64 c0, .int .i64 c1, .int .i64 c2, .int .i64 c3] 33) = wa at *
          generalize wr.heap.size = s at *
          refine (lose_ex _ _ _ _ _ _ kA (by rw [inv.ll]; omega) rfl).mono ?_
          rintro e w3 ⟨rfl, kX, g3⟩
          have oX := oA.keep g3 hod
          have GX := gA.trans (g3.one hd)
          have hI := (inv.lose c1).up
          clear inv kA oA gA g3 vA
          generalize hl'' : losef l c1 = l' at *
          clear hl''
          obtain ⟨f', hf'⟩ : ∃ f', f' = f := ⟨_, rfl⟩
          rw [← hf'] at hI oX
          clear hf'
          have hfl := hI.fl
          clear hfl
          go_wp2_with fail
          go_loopw [140] (fun i wr => ∃ (t : Nat), t ≤ m ∧ i = .int .i64 t ∧ Pk wr b d l' ∧ Of wr o f' ∧ Chg (fun k => w.heap.size ≤ k) w wr) (fun i _ => m - (intOf i).toNat)
          case atStart => exact ⟨0, by omega, rfl, kX, oX, GX⟩
          case round =>
            obtain ⟨t, ht, rfl, kt, ot, gt⟩ := hrel
            clear kX oX GX
            have HI := Lib.hid hI
            by_cases htm : t < m
            · obtain ⟨z, hz⟩ : ∃ z, l'[t]? = some z := ⟨_, List.getElem?_eq_getElem (by rw [hI.ll]; omega)⟩
              obtain ⟨y, hy⟩ : ∃ y, f'[t]? = some y := ⟨_, List.getElem?_eq_getElem (by rw [hI.fl]; omega)⟩
              have hzl := hI.lb t z hz
              have hyb := hI.fb t y hy
              have hok := hI.ok t z y hz hy
              have hll : l'.length ≤ 16 := by rw [hI.ll]; omega
              clear hI
              have cy := ot.at hy
              by_cases hz0 : 0 ≤ z
              · obtain ⟨hok0, hok1⟩ := hok hz0
                obtain ⟨hyb0, hyb1⟩ := hyb
                have HB := Lib.hid (bnd_yes hz hz0)
                clear hok hz hy
                go_wp2_with fail
                refine (bound_ex _ _ _ _ _ _ _ kt hll HB.out).mono ?_
                rintro e w9 ⟨rfl, rfl⟩
                clear hll HB
                go_wp2_with fail
                go_roundw
                case rel => exact ⟨t + 1, by omega, by go_num, kt, ot, gt⟩
                case measure => simp [intOf]; omega
              · have HB := Lib.hid (bnd_no hz (by omega))
                clear hok hz hy hyb
                go_wp2_with fail
                refine (bound_ex _ _ _ _ _ _ _ kt hll HB.out).mono ?_
                rintro e w9 ⟨rfl, rfl⟩
                clear hll HB
                go_wp2_with fail
                go_roundw
                case rel => exact ⟨t + 1, by omega, by go_num, kt, ot, gt⟩
                case measure => simp [intOf]; omega
            · clear hI
              go_wp2_with fail
              go_roundw
              case rel => exact ⟨k + 1, l', f', by omega, by omega, by go_num, HI.out, kt, ot, gt⟩
              case measure => simp [intOf]; omega
        · have b1 : (c0 == 1) = false := by rw [beq_eq_false_iff_ne]; omega
          clear h1 h0
          go_wp2_with fail
          have ga := Chg.alloc (fun _ => False) wr (.cells #[.int .i64 c0, .int .i64 c1, .int .i64 c2, .int .i64 c3] 33)
          have vA : Vk (wr.alloc (.cells #[.int .i64 c0, .int .i64 c1, .int .i64 c2, .int .i64 c3] 33)) wr.heap.size c0 c1 c2 c3 := block_alloc _ _
          have kA := kk.keep ga (fun f => f) (fun f => f)
          have oA := oo.keep ga (fun f => f)
          have hsd : wr.heap.size ≠ d := by have := lt_of_block kk.data; omega
          have hso : wr.heap.size ≠ o := by have := lt_of_block oo; omega
          have gA := hg.trans ga.none
          clear kk oo hg ga hc0 hc1 hc2 hc3
          generalize wr.alloc (.cells #[.int .i64 c0, .int .i64 c1, .int .i64 c2, .int .i64 c3] 33) = wa at *
          generalize wr.heap.size = s at *
          have cc1 := vA.c1
          have cc2 := vA.c2
          obtain ⟨x, hx, hex⟩ := umod c1 m (by omega) (by omega)
          obtain ⟨y, hy, hey⟩ := umod c2 m (by omega) (by omega)
          have hex' : IntKind.i64.wrap ((IntKind.u64.wrap c1).tmod m) = x := (wrap_is _).trans hex
          have hey' : IntKind.i64.wrap ((IntKind.u64.wrap c2).tmod m) = y := (wrap_is _).trans hey
          have hwm : IntKind.u64.wrap (m : Int) = m := by rw [u64w]; omega
          have hm0 : ¬ m = 0 := by omega
          have hm0b : ((m : Int) == 0) = false := by rw [beq_eq_false_iff_ne]; omega
          clear hex hey
          go_still (by kernel_rfl)
          clear hm0 hm0b
          clear hex' hey' hwm cc1 cc2
          change Exit.then _ _ _ _ wa.drew
          have gd := Chg.drew (fun _ => False) wa
          have k2 := kA.keep gd (fun f => f) (fun f => f)
          have o2 := oA.keep gd (fun f => f)
          have v2 := vA.keep gd (fun f => f)
          have g2 := gA.trans gd.none
          clear kA oA vA gA gd
          generalize wa.drew = w2 at *
          have cc3 := v2.c3
          by_cases hx0 : x = 0
          · have bx : ((x : Int) == 0) = true := beq_iff_eq.2 (by omega)
            clear hx0
            go_wp2_with fail
            go_roundw
            case rel => exact ⟨k + 1, l, f, by omega, by omega, by go_num, inv.up, k2, o2, g2⟩
            case measure => simp [intOf]; omega
          · have bx : ((x : Int) == 0) = false := by rw [beq_eq_false_iff_ne]; omega
            by_cases hxy : x = y
            · have bxy : ((x : Int) == (y : Int)) = true := beq_iff_eq.2 (by omega)
              clear hxy
              go_wp2_with fail
              go_roundw
              case rel => exact ⟨k + 1, l, f, by omega, by omega, by go_num, inv.up, k2, o2, g2⟩
              case measure => simp [intOf]; omega
            · have bxy : ((x : Int) == (y : Int)) = false := by rw [beq_eq_false_iff_ne]; omega
              obtain ⟨fx, hfx⟩ : ∃ z, f[x]? = some z := ⟨_, List.getElem?_eq_getElem (by rw [inv.fl]; omega)⟩
              obtain ⟨fy, hfy⟩ : ∃ z, f[y]? = some z := ⟨_, List.getElem?_eq_getElem (by rw [inv.fl]; omega)⟩
              have hbx := inv.fb x fx hfx
              have hby := inv.fb y fy hfy
              have cx := o2.at hfx
              have cy := o2.at hfy
              have HFX := Lib.hid hfx
              have HFY := Lib.hid hfy
              have HINV := Lib.hid inv
              obtain ⟨_, _, _, ht0, ht1⟩ := tdm c3 1000 (by omega)
              obtain ⟨hbx0, hbx1⟩ := hbx
              obtain ⟨hby0, hby1⟩ := hby
              clear hfx hfy inv
              go_wp2_with fail
              generalize c3.tmod 1000 = e at *
              have e1 : IntKind.i64.wrap (fy - fx) = fy - fx := IntWalk.i64_in _ (by omega)
              have e2 : IntKind.i64.wrap (fy - fx + e) = fy - fx + e := IntWalk.i64_in _ (by omega)
              go_still (by kernel_rfl)
              change Exit.then _ _ _ _ w2.drew
              have gd := Chg.drew (fun _ => False) w2
              have k3 := k2.keep gd (fun f => f) (fun f => f)
              have o3 := o2.keep gd (fun f => f)
              have v3 := v2.keep gd (fun f => f)
              have g3 := g2.trans gd.none
              clear k2 o2 v2 g2 gd cx cy cc3 e1 e2
              generalize w2.drew = w3 at *
              by_cases hd1 : 30000 < fy - fx + e
              · go_wp2_with fail
                go_roundw
                case rel => exact ⟨k + 1, l, f, by omega, by omega, by go_num, HINV.out.up, k3, o3, g3⟩
                case measure => simp [intOf]; omega
              · by_cases hd2 : fy - fx + e < -30000
                · go_wp2_with fail
                  go_roundw
                  case rel => exact ⟨k + 1, l, f, by omega, by omega, by go_num, HINV.out.up, k3, o3, g3⟩
                  case measure => simp [intOf]; omega
                · have cx := o3.at HFX.out
                  have cy := o3.at HFY.out
                  have hme := meas_is (k := k) (e := e) hk4 ⟨hbx0, hbx1⟩ ⟨hby0, hby1⟩ ⟨ht0, ht1⟩ (by omega) (by omega)
                  have HME := Lib.hid hme
                  obtain ⟨M, hM⟩ : ∃ M, M = fy - fx + e := ⟨_, rfl⟩
                  rw [← hM] at HME
                  have hM1 : M ≤ 30000 := by omega
                  have hM2 : -30000 ≤ M := by omega
                  have hsum : fx + M = fy + e := by omega
                  have HSUM := Lib.hid hsum
                  have e3 : IntKind.i64.wrap (fx + M) = fx + M := IntWalk.i64_in _ (by omega)
                  clear hme hM hsum
                  go_wp2_with fail
                  go_still_tail 15, (by kernel_rfl)
                  still_call (by have := measure_any fx fy e 1000 w3.drew; rw [HME.out] at this; exact this)
                  repeat still_step
                  refine wpStill_nil ?_
                  change wpList _ _ _ _ _ w3.drew
                  have gd := Chg.drew (fun _ => False) w3
                  have k4 := k3.keep gd (fun f => f) (fun f => f)
                  have o4 := o3.keep gd (fun f => f)
                  have g4 := g3.trans gd.none
                  clear k3 o3 v3 g3 gd cx cy e3
                  have cx := o4.at HFX.out
                  have fz := o4.f x
                  generalize w3.drew = w4 at *
                  by_cases hee : ¬ e < -e
                  · go_wp2_with fail
                    have gs := chg1 w4 o x (.int .i64 (fx + M))
                    have k5 := k4.keep gs (fun h => hbo h) (fun h => hod h.symm)
                    have o5 := o4.set x (fx + M)
                    have g5 := g4.trans (gs.one ho')
                    clear k4 o4 g4 gs cx fz
                    generalize w4.setCell ⟨o, x, none⟩ (.int .i64 (fx + M)) = w5 at *
                    have inv := HINV.out
                    refine (heard_ex _ _ _ _ (heardf l x y (max e (-e))) _ _ _ k5 (by rw [inv.ll]; omega) (inv.le hk4) (by rw [show max e (-e) = e from by omega])).mono ?_
                    rintro e6 w6 ⟨rfl, kX, g6⟩
                    have oX := o5.keep g6 hod
                    have GX := g5.trans (g6.one hd)
                    have hI := inv.heard hk4 (by omega) (by omega) (by omega) hxy ⟨ht0, ht1⟩ (x := fx + M) (fun y' hy' => by rw [HFY.out] at hy'; cases hy'; exact HSUM.out) (fun y' hy' => by rw [HFX.out] at hy'; cases hy'; omega)
                    clear inv HINV k5 o5 g5 g6
                    generalize heardf l x y (max e (-e)) = l' at *
                    generalize f.set x (fx + M) = f' at *
                    go_wp2_with fail
                    go_loopw [140] (fun i wr => ∃ (t : Nat), t ≤ m ∧ i = .int .i64 t ∧ Pk wr b d l' ∧ Of wr o f' ∧ Chg (fun k => w.heap.size ≤ k) w wr) (fun i _ => m - (intOf i).toNat)
                    case atStart => exact ⟨0, by omega, rfl, kX, oX, GX⟩
                    case round =>
                      obtain ⟨t, ht, rfl, kt, ot, gt⟩ := hrel
                      clear kX oX GX
                      have HI := Lib.hid hI
                      by_cases htm : t < m
                      · obtain ⟨z, hz⟩ : ∃ z, l'[t]? = some z := ⟨_, List.getElem?_eq_getElem (by rw [hI.ll]; omega)⟩
                        obtain ⟨y, hy⟩ : ∃ y, f'[t]? = some y := ⟨_, List.getElem?_eq_getElem (by rw [hI.fl]; omega)⟩
                        have hzl := hI.lb t z hz
                        have hyb := hI.fb t y hy
                        have hok := hI.ok t z y hz hy
                        have hll : l'.length ≤ 16 := by rw [hI.ll]; omega
                        clear hI
                        have cy := ot.at hy
                        by_cases hz0 : 0 ≤ z
                        · obtain ⟨hok0, hok1⟩ := hok hz0
                          obtain ⟨hyb0, hyb1⟩ := hyb
                          have HB := Lib.hid (bnd_yes hz hz0)
                          clear hok hz hy
                          go_wp2_with fail
                          refine (bound_ex _ _ _ _ _ _ _ kt hll HB.out).mono ?_
                          rintro e w9 ⟨rfl, rfl⟩
                          clear hll HB
                          go_wp2_with fail
                          go_roundw
                          case rel => exact ⟨t + 1, by omega, by go_num, kt, ot, gt⟩
                          case measure => simp [intOf]; omega
                        · have HB := Lib.hid (bnd_no hz (by omega))
                          clear hok hz hy hyb
                          go_wp2_with fail
                          refine (bound_ex _ _ _ _ _ _ _ kt hll HB.out).mono ?_
                          rintro e w9 ⟨rfl, rfl⟩
                          clear hll HB
                          go_wp2_with fail
                          go_roundw
                          case rel => exact ⟨t + 1, by omega, by go_num, kt, ot, gt⟩
                          case measure => simp [intOf]; omega
                      · clear hI
                        go_wp2_with fail
                        go_roundw
                        case rel => exact ⟨k + 1, l', f', by omega, by omega, by go_num, HI.out, kt, ot, gt⟩
                        case measure => simp [intOf]; omega
                  · go_wp2_with fail
                    have gs := chg1 w4 o x (.int .i64 (fx + M))
                    have k5 := k4.keep gs (fun h => hbo h) (fun h => hod h.symm)
                    have o5 := o4.set x (fx + M)
                    have g5 := g4.trans (gs.one ho')
                    clear k4 o4 g4 gs cx fz
                    generalize w4.setCell ⟨o, x, none⟩ (.int .i64 (fx + M)) = w5 at *
                    have inv := HINV.out
                    refine (heard_ex _ _ _ _ (heardf l x y (max e (-e))) _ _ _ k5 (by rw [inv.ll]; omega) (inv.le hk4) (by rw [show max e (-e) = -e from by omega])).mono ?_
                    rintro e6 w6 ⟨rfl, kX, g6⟩
                    have oX := o5.keep g6 hod
                    have GX := g5.trans (g6.one hd)
                    have hI := inv.heard hk4 (by omega) (by omega) (by omega) hxy ⟨ht0, ht1⟩ (x := fx + M) (fun y' hy' => by rw [HFY.out] at hy'; cases hy'; exact HSUM.out) (fun y' hy' => by rw [HFX.out] at hy'; cases hy'; omega)
                    clear inv HINV k5 o5 g5 g6
                    generalize heardf l x y (max e (-e)) = l' at *
                    generalize f.set x (fx + M) = f' at *
                    go_wp2_with fail
                    go_loopw [140] (fun i wr => ∃ (t : Nat), t ≤ m ∧ i = .int .i64 t ∧ Pk wr b d l' ∧ Of wr o f' ∧ Chg (fun k => w.heap.size ≤ k) w wr) (fun i _ => m - (intOf i).toNat)
                    case atStart => exact ⟨0, by omega, rfl, kX, oX, GX⟩
                    case round =>
                      obtain ⟨t, ht, rfl, kt, ot, gt⟩ := hrel
                      clear kX oX GX
                      have HI := Lib.hid hI
                      by_cases htm : t < m
                      · obtain ⟨z, hz⟩ : ∃ z, l'[t]? = some z := ⟨_, List.getElem?_eq_getElem (by rw [hI.ll]; omega)⟩
                        obtain ⟨y, hy⟩ : ∃ y, f'[t]? = some y := ⟨_, List.getElem?_eq_getElem (by rw [hI.fl]; omega)⟩
                        have hzl := hI.lb t z hz
                        have hyb := hI.fb t y hy
                        have hok := hI.ok t z y hz hy
                        have hll : l'.length ≤ 16 := by rw [hI.ll]; omega
                        clear hI
                        have cy := ot.at hy
                        by_cases hz0 : 0 ≤ z
                        · obtain ⟨hok0, hok1⟩ := hok hz0
                          obtain ⟨hyb0, hyb1⟩ := hyb
                          have HB := Lib.hid (bnd_yes hz hz0)
                          clear hok hz hy
                          go_wp2_with fail
                          refine (bound_ex _ _ _ _ _ _ _ kt hll HB.out).mono ?_
                          rintro e w9 ⟨rfl, rfl⟩
                          clear hll HB
                          go_wp2_with fail
                          go_roundw
                          case rel => exact ⟨t + 1, by omega, by go_num, kt, ot, gt⟩
                          case measure => simp [intOf]; omega
                        · have HB := Lib.hid (bnd_no hz (by omega))
                          clear hok hz hy hyb
                          go_wp2_with fail
                          refine (bound_ex _ _ _ _ _ _ _ kt hll HB.out).mono ?_
                          rintro e w9 ⟨rfl, rfl⟩
                          clear hll HB
                          go_wp2_with fail
                          go_roundw
                          case rel => exact ⟨t + 1, by omega, by go_num, kt, ot, gt⟩
                          case measure => simp [intOf]; omega
                      · clear hI
                        go_wp2_with fail
                        go_roundw
                        case rel => exact ⟨k + 1, l', f', by omega, by omega, by go_num, HI.out, kt, ot, gt⟩
                        case measure => simp [intOf]; omega
    · by_cases hlt : k < len
      · have h4 : ¬ k < 300 := by omega
        obtain ⟨p, ⟨c0, c1, c2, c3⟩, rfl, hz, hcell⟩ := hs.at hg hlt
        have hc0 : wr.cell? (p.add (k * 4)) = some (.int .i64 c0) := hcell 0 (by omega)
        have hc1 : wr.cell? { block := (p.add (k * 4)).block, off := (p.add (k * 4)).off + 1 } = some (.int .i64 c1) := hcell 1 (by omega)
        have hc2 : wr.cell? { block := (p.add (k * 4)).block, off := (p.add (k * 4)).off + 2 } = some (.int .i64 c2) := hcell 2 (by omega)
        have hc3 : wr.cell? { block := (p.add (k * 4)).block, off := (p.add (k * 4)).off + 3 } = some (.int .i64 c3) := hcell 3 (by omega)
        clear hz hs hcell
        clear hgo
        go_wp2_with fail
        have ga := Chg.alloc (fun _ => False) wr (.cells #[.int .i64 c0, .int .i64 c1, .int .i64 c2, .int .i64 c3] 33)
        have kk := kk.keep ga (fun f => f) (fun f => f)
        have hg := hg.trans ga.none
        go_wp2_with fail
        refine (bound_ex _ _ _ _ _ 0 true kk (by rw [inv.ll]; omega) (bnd_yes inv.l0 (by omega))).mono ?_
        rintro e w9 ⟨rfl, rfl⟩
        go_wp2_with fail
        refine (awake_true _).mono ?_
        rintro e w8 ⟨rfl, g8⟩
        go_wp2_with fail
        go_ret
        exact ⟨rfl, (hg.trans g8.none).fresh⟩
      · clear hgo
        go_wp2_with fail
        refine (bound_ex _ _ _ _ _ 0 true kk (by rw [inv.ll]; omega) (bnd_yes inv.l0 (by omega))).mono ?_
        rintro e w9 ⟨rfl, rfl⟩
        go_wp2_with fail
        refine (awake_true _).mono ?_
        rintro e w8 ⟨rfl, g8⟩
        go_wp2_with fail
        go_ret
        exact ⟨rfl, (hg.trans g8.none).fresh⟩
end Go.Proofs.Ytcdfoofkcgoapaa
