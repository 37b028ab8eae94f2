/- What the Go text of 'DupPlays' does, walked: it returns true, and nothing that was there has turned. No condition. -/
import Derived.Test.YtciekkenheiedaaRW
import Derived.Test.YtciekkenheiedaaM2
import Derived.Deep.RegionHeld3
namespace Go.Proofs.Ytciekkenheiedaa
set_option linter.unusedVariables false
open Go.ChangeShapes Go.WideShapes Go.ChangeAt Go.RowKit

def VCall (c : Bool × Int × Int) : List Value := [.bool c.1, .int .i64 c.2.1, .int .i64 c.2.2]
theorem wf_top {x : Int} (h : (Lit.int .i64 x).wf = true) : x ≤ 9223372036854775807 := by
  simp [Lit.wf] at h
  omega

/-- where both windows lie. -/
structure PAt (w : World) (b m c : Nat) (f : Seen) (L : Hd) (F : Fm) (wr : World) : Prop where
  win : Wk wr b m f
  rw : Rw wr c L F
  rel : Rel f L F
  fine : Fine f
  dom : Dom f
  chg : Chg (fun j => w.heap.size ≤ j) w wr
  b0 : w.heap.size ≤ b
  m0 : w.heap.size ≤ m
  bc : b < c
  mc : m < c
theorem PAt.own {w wr : World} {b m c : Nat} {f : Seen} {L : Hd} {F : Fm} (A : PAt w b m c f L F wr) {j : Nat} (h : own c L j) : c ≤ j ∧ j < wr.heap.size ∧ w.heap.size ≤ j := by
  have := A.rw.lt h; have := A.b0; have := A.bc; omega
theorem PAt.kept {w wr w' : World} {b m c : Nat} {f : Seen} {L : Hd} {F : Fm} (A : PAt w b m c f L F wr) (g : Chg (fun _ => False) wr w') : PAt w b m c f L F w' :=
  ⟨A.win.kept g, A.rw.keep g (fun _ _ e => e), A.rel, A.fine, A.dom, A.chg.trans g.none, A.b0, A.m0, A.bc, A.mc⟩
/-- .. between a call of the one and the call of the other. -/
structure PHalf (w : World) (b m c : Nat) (f f' : Seen) (L : Hd) (F : Fm) (wr : World) : Prop where
  win : Wk wr b m f'
  rw : Rw wr c L F
  rel : Rel f L F
  fine : Fine f
  fine' : Fine f'
  dom' : Dom f'
  chg : Chg (fun j => w.heap.size ≤ j) w wr
  b0 : w.heap.size ≤ b
  m0 : w.heap.size ≤ m
  bc : b < c
  mc : m < c
theorem PAt.half {w wr w' : World} {b m c : Nat} {f f' : Seen} {L : Hd} {F : Fm} (A : PAt w b m c f L F wr) (k : Wk w' b m f') (g : Chg (· = m) wr w') (hf : Fine f') (hd : Dom f') : PHalf w b m c f f' L F w' :=
  ⟨k, A.rw.keep g (fun j hj e => by have := A.own hj; have := A.mc; have : j = m := e; omega), A.rel, A.fine, hf, hd, A.chg.trans (g.mono (fun j _ e => by have := A.m0; have : j = m := e; omega)), A.b0, A.m0, A.bc, A.mc⟩
theorem PHalf.whole {w wr w' : World} {b m c : Nat} {f f' : Seen} {L L' : Hd} {F F' : Fm} (A : PHalf w b m c f f' L F wr) (k : Rw w' c L' F') (r : Rel f' L' F') (g : Chg (own c L) wr w') : PAt w b m c f' L' F' w' :=
  ⟨A.win.keep g (fun h => by have := A.rw.lt h; have := A.bc; omega) (fun h => by have := A.rw.lt h; have := A.mc; omega), k, r, A.fine', A.dom', A.chg.trans (g.mono (fun j _ e => by have := A.rw.lt e; have := A.b0; have := A.bc; omega)), A.b0, A.m0, A.bc, A.mc⟩

set_option maxRecDepth 100000 in
set_option maxHeartbeats 8000000 in
theorem dupPlays_walk (a : Option Addr) (len cap : Nat) (zs : List (Bool × Int × Int)) (ask : Int) (w : World) (hs : Sls 3 VCall w a len zs) (hg : ∀ z ∈ zs, PW z.2) :
    Calls Try.prog 6 #[.slice a len cap, .int .i64 ask] w (PTrue w) := by
  have hl := hs.len
  go_enter Try.func6, Try.ntmps6
  go_wp2_with fail
  refine (new_any _).mono ?_
  rintro e w1 ⟨b, m, rfl, k1, hb, hm1, hbl, hml, g1⟩
  go_wp2_with fail
  have gb := Chg.alloc (fun _ => False) w1 (.cells #[.int .i64 0, .map none, .int .i64 0, .map none, .int .i64 0, .map none, .int .i64 0, .map none, .int .i64 0, .map none, .int .i64 0, .map none, .int .i64 0, .map none, .int .i64 0, .map none, .int .i64 0, .map none, .int .i64 0, .map none, .int .i64 0, .map none, .int .i64 0, .map none, .int .i64 0, .map none, .int .i64 0, .map none, .int .i64 0, .map none, .int .i64 0, .map none] 44)
  have hbk := block_alloc w1 (.cells #[.int .i64 0, .map none, .int .i64 0, .map none, .int .i64 0, .map none, .int .i64 0, .map none, .int .i64 0, .map none, .int .i64 0, .map none, .int .i64 0, .map none, .int .i64 0, .map none, .int .i64 0, .map none, .int .i64 0, .map none, .int .i64 0, .map none, .int .i64 0, .map none, .int .i64 0, .map none, .int .i64 0, .map none, .int .i64 0, .map none, .int .i64 0, .map none] 44)
  have A0 : PAt w b m w1.heap.size (fun _ => none) (fun _ => (0, none)) (fun _ _ => none) (w1.alloc (.cells #[.int .i64 0, .map none, .int .i64 0, .map none, .int .i64 0, .map none, .int .i64 0, .map none, .int .i64 0, .map none, .int .i64 0, .map none, .int .i64 0, .map none, .int .i64 0, .map none, .int .i64 0, .map none, .int .i64 0, .map none, .int .i64 0, .map none, .int .i64 0, .map none, .int .i64 0, .map none, .int .i64 0, .map none, .int .i64 0, .map none, .int .i64 0, .map none] 44)) :=
    ⟨k1.kept gb, ⟨⟨_, hbk, rfl, fun k hk => by
      match k, hk with
      | 0, _ => exact ⟨rfl, rfl⟩
      | 1, _ => exact ⟨rfl, rfl⟩
      | 2, _ => exact ⟨rfl, rfl⟩
      | 3, _ => exact ⟨rfl, rfl⟩
      | 4, _ => exact ⟨rfl, rfl⟩
      | 5, _ => exact ⟨rfl, rfl⟩
      | 6, _ => exact ⟨rfl, rfl⟩
      | 7, _ => exact ⟨rfl, rfl⟩
      | 8, _ => exact ⟨rfl, rfl⟩
      | 9, _ => exact ⟨rfl, rfl⟩
      | 10, _ => exact ⟨rfl, rfl⟩
      | 11, _ => exact ⟨rfl, rfl⟩
      | 12, _ => exact ⟨rfl, rfl⟩
      | 13, _ => exact ⟨rfl, rfl⟩
      | 14, _ => exact ⟨rfl, rfl⟩
      | 15, _ => exact ⟨rfl, rfl⟩
      | n + 16, h => exact absurd h (by omega)⟩, fun k q _ h => (by cases h), fun k j q _ _ h => (by cases h)⟩, Rel.first _, Fine.none, fun _ _ => rfl, g1.none.trans gb.none, hb, hm1, hbl, hml⟩
  have HA := Lib.hid A0
  clear k1 g1 hb hm1 hbl hml gb hbk A0
  generalize w1.alloc _ = w2 at *
  generalize w1.heap.size = c at *
  go_loopw [24] (fun i wr => ∃ (k : Nat) (f : Seen) (L : Hd) (F : Fm), k ≤ len ∧ k ≤ 300 ∧ i = .int .i64 k ∧ PAt w b m c f L F wr) (fun i _ => len - (intOf i).toNat)
  case atStart => exact ⟨0, _, _, _, by omega, by omega, rfl, HA.out⟩
  case round =>
    obtain ⟨k, f, L, F, hk, hk3, rfl, hA⟩ := hrel
    clear HA
    have HA := Lib.hid hA
    clear hA
    by_cases hgo : k < len ∧ k < 300
    · obtain ⟨hlt, h3⟩ := hgo
      obtain ⟨p, ⟨z, n, x⟩, rfl, hz, hcell⟩ := hs.at HA.out.chg hlt
      have hw : PW (n, x) := hg _ (List.mem_of_getElem? hz)
      have hx2 : x ≤ 9223372036854775807 := wf_top hw.2
      have hc0 : wr.cell? (p.add (k * 3)) = some (.bool z) := hcell 0 (by omega)
      have hc1 : wr.cell? { block := (p.add (k * 3)).block, off := (p.add (k * 3)).off + 1 } = some (.int .i64 n) := hcell 1 (by omega)
      have hc2 : wr.cell? { block := (p.add (k * 3)).block, off := (p.add (k * 3)).off + 2 } = some (.int .i64 x) := hcell 2 (by omega)
      clear hz hs hcell hw hg
      cases z with
      | true =>
        go_wp2_with fail
        obtain ⟨o, ho⟩ : ∃ o, o = Obj.cells #[.bool true, .int .i64 n, .int .i64 x] 28 (0, 0) := ⟨_, rfl⟩
        have hv0 : (wr.alloc o).heap[wr.heap.size]? = some o := block_alloc _ _
        have gA := Chg.alloc (fun _ => False) wr o
        have hsm : wr.heap.size ≠ m := by have := HA.out.win.lt; omega
        have hso : ¬ own c L wr.heap.size := fun h => by have := HA.out.own h; omega
        have hsw : w.heap.size ≤ wr.heap.size := HA.out.chg.size
        have A1 := HA.out.kept gA
        rw [← ho]
        generalize wr.alloc o = w3 at *
        subst ho
        clear gA hc0 hc1 hc2
        have HA1 := Lib.hid A1
        have HV := Lib.hid hv0
        have HSO := Lib.hid hso
        clear A1 hv0 hso
        generalize wr.heap.size = s at *
        refine (forget_any _ b m f n HA1.out.win).mono ?_
        rintro e w4 ⟨rfl, k4, g4⟩
        have H4 := HA1.out.half k4 g4 (HA1.out.fine.fgt n) (HA1.out.dom.fgt n)
        have v4 := Chg.keep g4 HV.out hsm
        have d1 : w4.cell? ⟨s, 1, none⟩ = some (.int .i64 n) := by rw [cell_of_block v4]; rfl
        have HH4 := Lib.hid H4
        have HV4 := Lib.hid v4
        clear H4 v4 k4 g4 HV HA1
        go_wp2_with fail
        refine (rforget_any _ c L F f n HH4.out.rw HH4.out.rel).mono ?_
        rintro e w5 ⟨L', F', rfl, k5, r5, g5⟩
        have A5 := HH4.out.whole k5 r5 g5
        have v5 := Chg.keep g5 HV4.out HSO.out
        clear d1 k5 r5 g5 HH4 HV4
        generalize hff : fgt f n = FF at *
        clear hff
        have d1 : w5.cell? ⟨s, 1, none⟩ = some (.int .i64 n) := by rw [cell_of_block v5]; rfl
        have HA5 := Lib.hid A5
        have HV5 := Lib.hid v5
        clear A5 v5
        go_wp2_with fail
        refine (last_any _ b m _ n HA5.out.win).mono ?_
        rintro e w6 ⟨rfl, g6⟩
        have A6 := HA5.out.kept g6
        have v6 := Chg.keep g6 HV5.out (fun e => e)
        have d1' : w6.cell? ⟨s, 1, none⟩ = some (.int .i64 n) := by rw [cell_of_block v6]; rfl
        have HA6 := Lib.hid A6
        clear A6 v6 g6 d1 HA5 HV5
        go_wp2_with fail
        refine (great_any _ c L' F' _ n HA6.out.rw HA6.out.rel HA6.out.dom).mono ?_
        rintro e w7 ⟨rfl, rfl⟩
        clear d1'
        have HF := HA6
        clear HA6
        generalize lastn (FF n) = g1 at *
        generalize (FF n).isSome = g2 at *
        go_wp2_with fail
        go_roundw
        case measure => simp [intOf]; omega
        case rel =>
          exact ⟨k + 1, _, L', F', by omega, by omega, rfl, HF.out⟩
      | false =>
        go_wp2_with fail
        obtain ⟨o, ho⟩ : ∃ o, o = Obj.cells #[.bool false, .int .i64 n, .int .i64 x] 28 (0, 0) := ⟨_, rfl⟩
        have hv0 : (wr.alloc o).heap[wr.heap.size]? = some o := block_alloc _ _
        have gA := Chg.alloc (fun _ => False) wr o
        have hsm : wr.heap.size ≠ m := by have := HA.out.win.lt; omega
        have hso : ¬ own c L wr.heap.size := fun h => by have := HA.out.own h; omega
        have hsw : w.heap.size ≤ wr.heap.size := HA.out.chg.size
        have A1 := HA.out.kept gA
        rw [← ho]
        generalize wr.alloc o = w3 at *
        subst ho
        clear gA hc0 hc1 hc2
        have d1 : w3.cell? ⟨wr.heap.size, 1, none⟩ = some (.int .i64 n) := by rw [cell_of_block hv0]; rfl
        have d2 : w3.cell? ⟨wr.heap.size, 2, none⟩ = some (.int .i64 x) := by rw [cell_of_block hv0]; rfl
        have HA1 := Lib.hid A1
        have HV := Lib.hid hv0
        have HSO := Lib.hid hso
        clear A1 hv0 hso
        generalize wr.heap.size = s at *
        have K4 : ∀ (w4 : World), w4.drew.heap = w4.heap := fun _ => rfl
        go_region_held3 (fun w' => w'.cell? ⟨s, 1, none⟩ = some (.int .i64 n) ∧ w'.cell? ⟨s, 2, none⟩ = some (.int .i64 x)) (first | exact ⟨d1, d2⟩ | exact ⟨j1, j2⟩ | exact ⟨i1, i2⟩)
          (first
            | (go_at_call 9
               refine (put_any _ b m f n x ?h9 HA1.out.fine hx2).mono ?_
               case h9 => exact (HA1.out.kept (Chg.drew (fun _ => False) _)).win
               rintro e w4 ⟨rfl, k4, g4⟩
               have v4 := Chg.keep g4 (Chg.keep (Chg.drew (fun _ => False) w3) HV.out (fun e => e)) hsm
               have j1 : w4.cell? ⟨s, 1, none⟩ = some (.int .i64 n) := by rw [cell_of_block v4]; rfl
               have j2 : w4.cell? ⟨s, 2, none⟩ = some (.int .i64 x) := by rw [cell_of_block v4]; rfl
               have HH4 := Lib.hid ((HA1.out.kept (Chg.drew (fun _ => False) w3)).half k4 g4 (HA1.out.fine.next n x hx2) (HA1.out.dom.next n x))
               have HV4 := Lib.hid v4
               clear v4 k4 g4)
            | (go_at_call 14
               refine (rnew_any _ c L F f n x HH4.out.rw HH4.out.rel HH4.out.fine hx2).mono ?_
               rintro e w5 ⟨L', F', rfl, k5, r5, g5⟩
               have A5 := HH4.out.whole k5 r5 g5
               have v5 := Chg.keep g5 HV4.out HSO.out
               have i1 : w5.cell? ⟨s, 1, none⟩ = some (.int .i64 n) := by rw [cell_of_block v5]; rfl
               have i2 : w5.cell? ⟨s, 2, none⟩ = some (.int .i64 x) := by rw [cell_of_block v5]; rfl
               clear k5 r5 g5))
        clear d1 d2 K4 i1 i2 j1 j2 HH4 HV4 HA1 HV
        generalize hff : nextf f n x = FF at *
        clear hff
        generalize isnew f n x = g3 at *
        have d1 : w5.cell? ⟨s, 1, none⟩ = some (.int .i64 n) := by rw [cell_of_block v5]; rfl
        have HA5 := Lib.hid A5
        have HV5 := Lib.hid v5
        clear A5 v5
        go_wp2_with fail
        refine (last_any _ b m _ n HA5.out.win).mono ?_
        rintro e w6 ⟨rfl, g6⟩
        have A6 := HA5.out.kept g6
        have v6 := Chg.keep g6 HV5.out (fun e => e)
        have d1' : w6.cell? ⟨s, 1, none⟩ = some (.int .i64 n) := by rw [cell_of_block v6]; rfl
        have HA6 := Lib.hid A6
        clear A6 v6 g6 d1 HA5 HV5
        go_wp2_with fail
        refine (great_any _ c L' F' _ n HA6.out.rw HA6.out.rel HA6.out.dom).mono ?_
        rintro e w7 ⟨rfl, rfl⟩
        clear d1'
        have HF := HA6
        clear HA6
        generalize lastn (FF n) = g1 at *
        generalize (FF n).isSome = g2 at *
        go_wp2_with fail
        go_roundw
        case measure => simp [intOf]; omega
        case rel =>
          exact ⟨k + 1, _, L', F', by omega, by omega, rfl, HF.out⟩
    · clear hg
      have FIN : ∀ wx : World, Chg (fun j => w.heap.size ≤ j) w wx → True := fun _ _ => trivial
      rcases (by omega : len ≤ k ∨ (k < len ∧ 300 ≤ k)) with h1 | ⟨h1, h2⟩
      · clear hgo hs
        go_wp2_with fail
        refine (last_any _ b m f ask HA.out.win).mono ?_
        rintro e w6 ⟨rfl, g6⟩
        have HA6 := Lib.hid (HA.out.kept g6)
        clear g6
        go_wp2_with fail
        refine (great_any _ c L F f ask HA6.out.rw HA6.out.rel HA6.out.dom).mono ?_
        rintro e w7 ⟨rfl, rfl⟩
        generalize lastn (f ask) = g1 at *
        generalize (f ask).isSome = g2 at *
        go_wp2_with fail
        refine (awake_true _).mono ?_
        rintro e w8 ⟨rfl, g8⟩
        go_wp2_with fail
        go_ret
        exact ⟨rfl, (HA6.out.chg.trans g8.none).fresh⟩
      · obtain ⟨p, ⟨z, n, x⟩, rfl, hz, hcell⟩ := hs.at HA.out.chg h1
        have hc0 : wr.cell? (p.add (k * 3)) = some (.bool z) := hcell 0 (by omega)
        have hc1 : wr.cell? { block := (p.add (k * 3)).block, off := (p.add (k * 3)).off + 1 } = some (.int .i64 n) := hcell 1 (by omega)
        have hc2 : wr.cell? { block := (p.add (k * 3)).block, off := (p.add (k * 3)).off + 2 } = some (.int .i64 x) := hcell 2 (by omega)
        clear hz hs hcell hgo
        go_wp2_with fail
        have HA5 := Lib.hid (HA.out.kept (Chg.alloc (fun _ => False) wr (.cells #[.bool z, .int .i64 n, .int .i64 x] 28)))
        refine (last_any _ b m f ask HA5.out.win).mono ?_
        rintro e w6 ⟨rfl, g6⟩
        have HA6 := Lib.hid (HA5.out.kept g6)
        clear g6 HA5 hc0 hc1 hc2
        go_wp2_with fail
        refine (great_any _ c L F f ask HA6.out.rw HA6.out.rel HA6.out.dom).mono ?_
        rintro e w7 ⟨rfl, rfl⟩
        generalize lastn (f ask) = g1 at *
        generalize (f ask).isSome = g2 at *
        go_wp2_with fail
        refine (awake_true _).mono ?_
        rintro e w8 ⟨rfl, g8⟩
        go_wp2_with fail
        go_ret
        exact ⟨rfl, (HA6.out.chg.trans g8.none).fresh⟩
end Go.Proofs.Ytciekkenheiedaa
