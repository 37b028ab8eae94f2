/- What the Go text of 'DupOnce' does, walked: it returns true, and nothing that was there has turned. No condition. -/
import Derived.Test.YtciekkenheiedaaM2
import Derived.Test.YtciekkenheiedaaDupRow
import Derived.Test.YtciekkenheiedaaR20
import Derived.IntWalk
namespace Go.Proofs.Ytciekkenheiedaa
set_option linter.unusedVariables false
open Go.ChangeShapes Go.WideShapes Go.ChangeAt Go.RowKit

def VCall (c : Bool × Int × Int) : List Value := [.bool c.1, .int .i64 c.2.1, .int .i64 c.2.2]

/-- the greatest numbers lie in block t -/
def Tp (w : World) (t : Nat) (l : List Int) : Prop := w.heap[t]? = some (.cells (l.map V).toArray 26 (0, 0))
theorem Tp.at {w : World} {d : Nat} {l : List Int} (h : Tp w d l) {i : Nat} {z : Int} (hi : l[i]? = some z) : w.cell? ⟨d, i, none⟩ = some (.int .i64 z) := by
  rw [cell_of_block h]; simp [hi, V]
theorem Tp.f {w : World} {d : Nat} {l : List Int} (h : Tp w d l) (o : Nat) : w.frozen? ⟨d, o, none⟩ = false := frozen_of_block h o
theorem Tp.keep {w w' : World} {d : Nat} {l : List Int} {S : Nat → Prop} (h : Tp w d l) (g : Chg S w w') (hd : ¬ S d) : Tp w' d l := Chg.keep g h hd
theorem Tp.set {w : World} {d : Nat} {l : List Int} (h : Tp w d l) (i : Nat) (z : Int) : Tp (w.setCell ⟨d, i, none⟩ (.int .i64 z)) d (l.set i z) := by
  unfold Tp; rw [block_set h i (.int .i64 z)]; simp [List.map_set, V]

def lastv (s : Option (Int × Nat)) : Int := match s with | none => -1 | some q => q.1
structure OInv (f : Seen) (S : Int × Int → Prop) (l : List Int) : Prop where
  fine : Fine f
  len : l.length = 16
  top : ∀ k : Nat, k < 16 → l[k]? = some (lastv (f k))
  known : ∀ p, S p → Known (f p.1) p.2

theorem OInv.first : OInv (fun _ => none) (fun _ => False) (List.replicate 16 (-1)) :=
  ⟨Fine.none, by simp, fun k hk => by rw [List.getElem?_replicate, if_pos hk]; rfl, fun p h => h.elim⟩
/-- a number that is new. -/
theorem OInv.new {f : Seen} {S : Int × Int → Prop} {l : List Int} {n : Nat} {x : Int} (h : OInv f S l) (hn : n < 16) (hx : 0 ≤ x) (hx2 : x ≤ 9223372036854775807) (hi : isnew f n x = true) :
    ¬ S ((n : Int), x) ∧ (64 ≤ lastv (f n) → lastv (f n) - 64 < x) ∧ OInv (nextf f n x) (fun q => S q ∨ q = ((n : Int), x)) (l.set n (max (lastv (f n)) x)) := by
  have hm : may n x = true := may_is.2 ⟨by omega, by omega, hx⟩
  obtain ⟨p, hp⟩ : ∃ p, nw (f n) x = some p := by
    unfold isnew at hi
    rw [hm] at hi
    exact Option.isSome_iff_exists.1 (by simpa using hi)
  obtain ⟨h1, h2⟩ := put_new hm hp
  obtain ⟨t1, t2, t3⟩ := nw_top hp
  have hl : p.1 = max (lastv (f n)) x := by
    cases hf : f n with
    | none => have := t3 hf; simp only [lastv]; omega
    | some q => have := (t2 q hf).1; simp only [lastv]; exact this
  refine ⟨fun hs => ?_, fun h64 => ?_, ?_⟩
  · have := known_no (h.known _ hs)
    rw [hp] at this; cases this
  · cases hf : f n with
    | none => rw [hf] at h64; simp only [lastv] at h64; omega
    | some q => have := (t2 q hf).2; simp only [lastv]; omega
  · refine ⟨h.fine.next _ _ hx2, by simp [h.len], fun k hk => ?_, fun q hq => ?_⟩
    · rw [h1]
      by_cases e : n = k
      · subst e
        rw [List.getElem?_set_self (by rw [h.len]; exact hn), upd_at, ← hl]; rfl
      · rw [List.getElem?_set_ne e, h.top k hk]
        unfold upd; rw [if_neg (by omega)]
    · rw [h1]
      by_cases e : q.1 = n
      · rw [e, upd_at]
        rcases hq with hq | rfl
        · have := h.known q hq
          rw [e] at this
          exact known_keep hp this
        · exact known_new hp
      · unfold upd; rw [if_neg e]
        rcases hq with hq | rfl
        · exact h.known q hq
        · exact absurd rfl e
/-- .. that isn't. -/
theorem OInv.old {f : Seen} {S : Int × Int → Prop} {l : List Int} {n : Nat} {x : Int} (h : OInv f S l) (hn : n < 16) (hx : 0 ≤ x) (hi : isnew f n x = false) :
    nextf f n x = f ∧ x ≤ lastv (f n) := by
  have hm : may n x = true := may_is.2 ⟨by omega, by omega, hx⟩
  have hno : nw (f n) x = none := by
    unfold isnew at hi
    rw [hm] at hi
    simpa using hi
  refine ⟨(put_no hno).1, ?_⟩
  by_cases hlt : x ≤ lastv (f n)
  · exact hlt
  · obtain ⟨p, hp⟩ := nw_above (s := f n) (n := x) (fun q hq => by rw [hq] at hlt; simp only [lastv] at hlt; omega)
    rw [hno] at hp; cases hp

theorem wf_top {x : Int} (h : (Lit.int .i64 x).wf = true) : x ≤ 9223372036854775807 := by
  simp [Lit.wf] at h
  omega
theorem lastv_bd {f : Seen} (h : Fine f) (k : Int) : -1 ≤ lastv (f k) ∧ lastv (f k) ≤ 9223372036854775807 := by
  cases hf : f k with
  | none => simp only [lastv]; omega
  | some q => have := h k q.1 q.2 hf; simp only [lastv]; omega
theorem set_same {l : List Int} {j : Nat} {T : Int} (h : l[j]? = some T) : l.set j T = l := by
  apply List.ext_getElem?
  intro i
  by_cases e : j = i
  · subst e
    have := (List.getElem?_eq_some_iff.1 h).1
    rw [List.getElem?_set_self this, h]
  · rw [List.getElem?_set_ne e]
theorem OInv.start {l : List Int} (h : l.length = 16) (hl : ∀ i : Nat, i < 16 → l[i]? = some (-1)) : OInv (fun _ => none) (fun _ => False) l :=
  ⟨Fine.none, h, fun k hk => hl k hk, fun p h => h.elim⟩

/-- where everything lies. -/
structure OAt (w : World) (b m h t c : Nat) (f : Seen) (S : Int × Int → Prop) (l : List Int) (wr : World) : Prop where
  win : Wk wr b m f
  sn : Sn wr h c S
  tp : Tp wr t l
  chg : Chg (fun j => w.heap.size ≤ j) w wr
structure OBl (w : World) (b m h t : Nat) : Prop where
  b0 : w.heap.size ≤ b
  m0 : w.heap.size ≤ m
  bh : b < h
  mh : m < h
  ht : t = h + 1
theorem OAt.keep {w wr w' : World} {b m h t c : Nat} {f : Seen} {S : Int × Int → Prop} {l : List Int} (A : OAt w b m h t c f S l wr) {T : Nat → Prop} (g : Chg T wr w') (hb : ¬ T b) (hm : ¬ T m) (hh : ¬ T h) (ht : ¬ T t) (h0 : ∀ j, T j → w.heap.size ≤ j) : OAt w b m h t c f S l w' :=
  ⟨A.win.keep g hb hm, A.sn.keep g hh, A.tp.keep g ht, A.chg.trans (g.mono (fun j _ e => h0 j e))⟩
theorem OAt.kept {w wr w' : World} {b m h t c : Nat} {f : Seen} {S : Int × Int → Prop} {l : List Int} (A : OAt w b m h t c f S l wr) (g : Chg (fun _ => False) wr w') : OAt w b m h t c f S l w' :=
  A.keep g (fun e => e) (fun e => e) (fun e => e) (fun e => e) (fun _ e => e.elim)
theorem OAt.put {w wr w' : World} {b m h t c : Nat} {f f' : Seen} {S : Int × Int → Prop} {l : List Int} (A : OAt w b m h t c f S l wr) (B : OBl w b m h t) (k : Wk w' b m f') (g : Chg (· = m) wr w') : OAt w b m h t c f' S l w' :=
  ⟨k, A.sn.keep g (fun e => by have := B.mh; have : h = m := e; omega), A.tp.keep g (fun e => by have := B.mh; have := B.ht; have : t = m := e; omega), A.chg.trans (g.mono (fun j _ e => by have := B.m0; have : j = m := e; omega))⟩
theorem OAt.see {w wr w' : World} {b m h t c d : Nat} {f : Seen} {S S' : Int × Int → Prop} {l : List Int} (A : OAt w b m h t c f S l wr) (B : OBl w b m h t) (k : Sn w' h d S') (g : Chg (· = h) wr w') : OAt w b m h t d f S' l w' :=
  ⟨A.win.keep g (fun e => by have := B.bh; have : b = h := e; omega) (fun e => by have := B.mh; have : m = h := e; omega), k, A.tp.keep g (fun e => by have := B.ht; have : t = h := e; omega), A.chg.trans (g.mono (fun j _ e => by have := B.mh; have := B.m0; have : j = h := e; omega))⟩
theorem OAt.set {w wr : World} {b m h t c : Nat} {f : Seen} {S : Int × Int → Prop} {l : List Int} (A : OAt w b m h t c f S l wr) (B : OBl w b m h t) (n : Nat) (z : Int) : OAt w b m h t c f S (l.set n z) (wr.setCell ⟨t, n, none⟩ (.int .i64 z)) := by
  have g : Chg (· = t) wr (wr.setCell ⟨t, n, none⟩ (.int .i64 z)) := Chg.set wr ⟨t, n, none⟩ _ rfl
  have := B.bh; have := B.mh; have := B.ht; have := B.m0
  exact ⟨A.win.keep g (fun e => by have : b = t := e; omega) (fun e => by have : m = t := e; omega), A.sn.keep g (fun e => by have : h = t := e; omega), A.tp.set n z, A.chg.trans (g.mono (fun j _ e => by have : j = t := e; omega))⟩

set_option maxRecDepth 100000 in
set_option maxHeartbeats 60000000 in
theorem dupOnce_walk (a : Option Addr) (len cap : Nat) (zs : List (Bool × Int × Int)) (w : World) (hs : Sls 3 VCall w a len zs) (hg : ∀ z ∈ zs, PW z.2) :
    Calls Try.prog 3 #[.slice a len cap] w (PTrue w) := by
  have hl := hs.len
  have hm := @run_makeMap Try.prog
  go_enter Try.func3, Try.ntmps3
  go_wp2_with fail
  refine (new_any _).mono ?_
  rintro e w1 ⟨b, m, rfl, k1, hb, hm1, hbl, hml, g1⟩
  go_wp2_with fail
  have B0 : OBl w b m w1.heap.size (w1.heap.size + 1) := ⟨hb, hm1, hbl, hml, rfl⟩
  have ga := Chg.alloc (fun _ => False) w1 (.map #[] 0)
  have hb2 := block_alloc (w1.alloc (.map #[] 0)) (.cells #[.int .i64 0, .int .i64 0, .int .i64 0, .int .i64 0, .int .i64 0, .int .i64 0, .int .i64 0, .int .i64 0, .int .i64 0, .int .i64 0, .int .i64 0, .int .i64 0, .int .i64 0, .int .i64 0, .int .i64 0, .int .i64 0] 26)
  have hsz : (w1.alloc (.map #[] 0)).heap.size = w1.heap.size + 1 := by simp
  rw [hsz] at hb2
  have gb := Chg.alloc (fun _ => False) (w1.alloc (.map #[] 0)) (.cells #[.int .i64 0, .int .i64 0, .int .i64 0, .int .i64 0, .int .i64 0, .int .i64 0, .int .i64 0, .int .i64 0, .int .i64 0, .int .i64 0, .int .i64 0, .int .i64 0, .int .i64 0, .int .i64 0, .int .i64 0, .int .i64 0] 26)
  have A0 : OAt w b m w1.heap.size (w1.heap.size + 1) 0 (fun _ => none) (fun _ => False) [0, 0, 0, 0, 0, 0, 0, 0, 0, 0, 0, 0, 0, 0, 0, 0] ((w1.alloc (.map #[] 0)).alloc (.cells #[.int .i64 0, .int .i64 0, .int .i64 0, .int .i64 0, .int .i64 0, .int .i64 0, .int .i64 0, .int .i64 0, .int .i64 0, .int .i64 0, .int .i64 0, .int .i64 0, .int .i64 0, .int .i64 0, .int .i64 0, .int .i64 0] 26)) :=
    ⟨(k1.kept ga).kept gb, (Sn.made w1).keep gb (fun e => e), hb2, g1.none.trans (ga.trans gb).none⟩
  have HB := Lib.hid B0
  clear k1 g1 hb hm1 hbl hml hb2 ga gb hsz B0
  obtain ⟨t, ht⟩ : ∃ t, t = w1.heap.size + 1 := ⟨_, rfl⟩
  rw [← ht] at HB A0 ⊢
  clear ht
  generalize (w1.alloc (.map #[] 0)).alloc _ = w2 at *
  generalize w1.heap.size = h at *
  have HA := Lib.hid A0
  clear A0 hm
  go_loopw [14] (fun i wr => ∃ (k : Nat) (l : List Int), k ≤ 16 ∧ i = .int .i64 k ∧ l.length = 16 ∧ (∀ i, i < k → l[i]? = some (-1)) ∧ OAt w b m h t 0 (fun _ => none) (fun _ => False) l wr) (fun i _ => 16 - (intOf i).toNat)
  case atStart => exact ⟨0, _, by omega, rfl, rfl, fun i hi => absurd hi (by omega), HA.out⟩
  case round =>
    obtain ⟨k, l, hk, rfl, hll, hlk, hA⟩ := hrel
    clear HA
    have HA := Lib.hid hA
    have HLK := Lib.hid hlk
    clear hA hlk
    by_cases hlt : k < 16
    · have c0 := HA.out.tp.at (List.getElem?_eq_getElem (by omega : k < l.length))
      have fz := HA.out.tp.f k
      go_wp2_with fail
      go_roundw
      case measure => simp [intOf]; omega
      case rel =>
        refine ⟨k + 1, l.set k (-1), by omega, rfl, by simp [hll], fun i hi => ?_, HA.out.set HB.out k (-1)⟩
        by_cases e : k = i
        · subst e; rw [List.getElem?_set_self (by omega)]
        · rw [List.getElem?_set_ne e]; exact HLK.out i (by omega)
    · obtain rfl : k = 16 := by omega
      have I0 := OInv.start hll HLK.out
      have HI0 := Lib.hid I0
      clear I0 HLK hll
      go_wp2_with fail
      go_loopw [22] (fun i wr => ∃ (k : Nat) (f : Seen) (S : Int × Int → Prop) (l : List Int), k ≤ len ∧ k ≤ 300 ∧ i = .int .i64 k ∧ OInv f S l ∧ OAt w b m h t k f S l wr) (fun i _ => len - (intOf i).toNat)
      case atStart => exact ⟨0, _, _, l, by omega, by omega, rfl, HI0.out, HA.out⟩
      case round =>
        obtain ⟨k, f, S, l, hk, hk3, rfl, hI, hA⟩ := hrel
        clear HA HI0
        have HA := Lib.hid hA
        have HI := Lib.hid hI
        clear hA hI
        by_cases hgo : k < len ∧ k < 300
        · obtain ⟨hlt, h3⟩ := hgo
          obtain ⟨p, ⟨z, n, x⟩, rfl, hz, hcell⟩ := hs.at HA.out.chg hlt
          have hw : PW (n, x) := hg _ (List.mem_of_getElem? hz)
          have hx2 : x ≤ 9223372036854775807 := (wf_top hw.2)
          have hc0 : wr.cell? (p.add (k * 3)) = some (.bool z) := hcell 0 (by omega)
          have hc1 : wr.cell? { block := (p.add (k * 3)).block, off := (p.add (k * 3)).off + 1 } = some (.int .i64 n) := hcell 1 (by omega)
          have hc2 : wr.cell? { block := (p.add (k * 3)).block, off := (p.add (k * 3)).off + 2 } = some (.int .i64 x) := hcell 2 (by omega)
          have HW := Lib.hid hw
          clear hz hs hcell hw
          go_wp2_with fail
          obtain ⟨o, ho⟩ : ∃ o, o = Obj.cells #[.bool z, .int .i64 n, .int .i64 x] 28 (0, 0) := ⟨_, rfl⟩
          have hv0 : (wr.alloc o).heap[wr.heap.size]? = some o := block_alloc _ _
          have gA := Chg.alloc (fun _ => False) wr o
          have hsm : wr.heap.size ≠ m := by have := HA.out.win.lt; omega
          have hsh : wr.heap.size ≠ h := by have := HA.out.sn.lt; omega
          have hst : wr.heap.size ≠ t := by have := lt_of_block HA.out.tp; omega
          have hsw : w.heap.size ≤ wr.heap.size := HA.out.chg.size
          have A1 := HA.out.kept gA
          have g1 := Chg.alloc (fun j => wr.heap.size ≤ j) wr o
          rw [← ho]
          generalize wr.alloc o = w3 at *
          subst ho
          clear gA hc0 hc1 hc2 g1
          have HA1 := Lib.hid A1
          have HV := Lib.hid hv0
          clear A1 hv0
          generalize wr.heap.size = s at *
          refine (put_any _ b m f n x HA1.out.win HI.out.fine hx2).mono ?_
          rintro e w4 ⟨rfl, k4, g4⟩
          have hv4 := Chg.keep g4 HV.out hsm
          have A4 := HA1.out.put HB.out k4 g4
          have d0 : w4.cell? ⟨s, 0, none⟩ = some (.bool z) := by rw [cell_of_block hv4]; rfl
          have d1 : w4.cell? ⟨s, 1, none⟩ = some (.int .i64 n) := by rw [cell_of_block hv4]; rfl
          have d2 : w4.cell? ⟨s, 2, none⟩ = some (.int .i64 x) := by rw [cell_of_block hv4]; rfl
          have HA4 := Lib.hid A4
          have HV4 := Lib.hid hv4
          clear A4 k4 g4 hv4 HA1 HV
          by_cases hin : 0 ≤ n ∧ n ≤ 15 ∧ 0 ≤ x
          · obtain ⟨n0, n1, x0⟩ := hin
            obtain ⟨j, rfl⟩ : ∃ j : Nat, n = j := ⟨n.toNat, by omega⟩
            have hj : j < 16 := by omega
            have htop := HI.out.top j hj
            cases hi : isnew f j x with
            | true =>
              obtain ⟨q1, q2, q3⟩ := HI.out.new hj x0 hx2 hi
              have HTB := Lib.hid (lastv_bd HI.out.fine (j : Int))
              have Q1 := Lib.hid q1
              have Q2 := Lib.hid q2
              have Q3 := Lib.hid q3
              have HTOP := Lib.hid htop
              clear q1 q2 q3 htop hi
              generalize nextf f j x = f' at *
              generalize lastv (f j) = T at *
              go_wp2_with fail
              obtain ⟨o, ho⟩ : ∃ o, o = Obj.cells #[.int .i64 j, .int .i64 x] 30 (0, 0) := ⟨_, rfl⟩
              have hu0 : (w4.alloc o).heap[w4.heap.size]? = some o := block_alloc _ _
              have gA := Chg.alloc (fun _ => False) w4 o
              have hs2h : w4.heap.size ≠ h := by have := HA4.out.sn.lt; omega
              have hs2t : w4.heap.size ≠ t := by have := lt_of_block HA4.out.tp; omega
              have A5 := HA4.out.kept gA
              have hv5 := Chg.keep gA HV4.out (fun e => e)
              rw [← ho]
              generalize w4.alloc o = w5 at *
              subst ho
              clear gA d0 d1 d2 HA4 HV4
              generalize w4.heap.size = s2 at *
              have HA5 := Lib.hid A5
              have HV5 := Lib.hid hv5
              have HU5 := Lib.hid hu0
              have e0 : w5.cell? ⟨s2, 0, none⟩ = some (.int .i64 j) := by rw [cell_of_block hu0]; rfl
              have e1 : w5.cell? ⟨s2, 1, none⟩ = some (.int .i64 x) := by rw [cell_of_block hu0]; rfl
              clear A5 hv5 hu0
              have A6 := HA5.out.kept (Chg.drew (fun _ => False) w5)
              obtain ⟨v, hv1, hv2, _, _⟩ := A6.sn.look (j, x) HW.out
              obtain rfl := hv2 Q1.out
              clear hv2
              obtain ⟨st, w6, w7, hme, hlk, hes, S7, G7⟩ := A6.sn.first (j, x) HW.out Q1.out (by omega)
              change (Instr.lookup 25 (.map (some h)) (.agg #[.int .i64 j, .int .i64 x]) false).run Try.prog w5.drew = _ at hv1
              change (Instr.mapEntry 25 (.map (some h)) (.agg #[.int .i64 j, .int .i64 x])).run Try.prog w5.drew = _ at hme
              change (Instr.lookup 25 (.map (some h)) (.agg #[.int .i64 j, .int .i64 x]) false).run Try.prog w6 = _ at hlk
              change (Instr.entryStore 25 (.map (some h)) (.int .i64 (st : Int)) (.int .i64 1)).run Try.prog w6 = _ at hes
              have HA6 := Lib.hid A6
              have HS7 := Lib.hid (And.intro S7 G7)
              clear A6 S7 G7
              go_region
              have A8 := HA6.out.see HB.out HS7.out.1 HS7.out.2
              have v8 := Chg.keep HS7.out.2 (Chg.keep (Chg.drew (fun _ => False) w5) HV5.out (fun e => e)) hsh
              have u8 := Chg.keep HS7.out.2 (Chg.keep (Chg.drew (fun _ => False) w5) HU5.out (fun e => e)) hs2h
              clear e0 e1 hv1 hme hlk hes HA6 HS7 HA5 HV5 HU5
              have d1 : w7.cell? ⟨s, 1, none⟩ = some (.int .i64 j) := by rw [cell_of_block v8]; rfl
              have d2 : w7.cell? ⟨s, 2, none⟩ = some (.int .i64 x) := by rw [cell_of_block v8]; rfl
              have e0 : w7.cell? ⟨s2, 0, none⟩ = some (.int .i64 j) := by rw [cell_of_block u8]; rfl
              have e1 : w7.cell? ⟨s2, 1, none⟩ = some (.int .i64 x) := by rw [cell_of_block u8]; rfl
              have eT := A8.tp.at HTOP.out
              obtain ⟨v, hv1, _, hv0, hv3⟩ := (A8.kept (Chg.drew (fun _ => False) w7)).sn.look (j, x) HW.out
              change (Instr.lookup 25 (.map (some h)) (.agg #[.int .i64 j, .int .i64 x]) false).run Try.prog w7.drew = _ at hv1
              have HA8 := Lib.hid A8
              have HV8 := Lib.hid v8
              have HU8 := Lib.hid u8
              clear A8 v8 u8
              go_wp2_with fail
              have hj2 : (j : Int) < 16 := by omega
              have hT : IntKind.i64.wrap (T - 64) = T - 64 := IntWalk.i64_in _ (by have := HTB.out; omega)
              have HF : Hid (true = false → ¬ T < x) := Lib.hid (fun h => by cases h)
              have HG : Hid (true = true → 64 ≤ T → T - 64 < x) := Lib.hid (fun _ => Q2.out)
              with_reducible refine wp_region_still_lit (by kernel_rfl) (by kernel_rfl) ?_
              with_reducible refine reg20 (x := x) (T := T) (v := v) (j := j) _ ?d1 ?d2 ?e0 ?e1 ?eT ?hv ?hj ?hT ?hV ?hf ?ht ?q
              case d1 => exact d1
              case d2 => exact d2
              case e0 => exact e0
              case e1 => exact e1
              case eT => exact eT
              case hv => exact hv1
              case hj => exact hj2
              case hT => exact hT
              case hV => exact hv3
              case hf => exact HF.out
              case ht => exact HG.out
              case q =>
              intro x61 x62 x63 x64 x65 x66 x67 x68 x69 x70 x71 x72 x73 x74 x75 x76 x77 x78 x79 x80 x81 x82 x83 x84 x85 x86 x87 x88 x89 x90 x91 x92 x93 x94 x95 x96
              change Exit.then _ _ _ _ w7.drew
              clear d1 d2 e0 e1 eT hv1 hT
              rcases (by omega : T < x ∨ x ≤ T) with hc | hc
              case' inl =>
                have HN := Lib.hid hc
                have hx : max T x = x := by omega
                have h := Q3.out
                rw [hx] at h
                have Q4 := Lib.hid h
                clear h hx
              case' inr =>
                have HN := Lib.hid (show ¬ T < x by omega)
                have hx : max T x = T := by omega
                have h := Q3.out
                rw [hx] at h
                have Q4 := Lib.hid h
                clear h hx
              all_goals
                have A9 := HA8.out.kept (Chg.drew (fun _ => False) w7)
                have v9 := Chg.keep (Chg.drew (fun _ => False) w7) HV8.out (fun e => e)
                clear HA8 HV8 HU8
                generalize w7.drew = w9 at *
                have d1 : w9.cell? ⟨s, 1, none⟩ = some (.int .i64 j) := by rw [cell_of_block v9]; rfl
                have d2 : w9.cell? ⟨s, 2, none⟩ = some (.int .i64 x) := by rw [cell_of_block v9]; rfl
                have eT := A9.tp.at HTOP.out
                have HA9 := Lib.hid A9
                clear A9 v9
                go_wp2_with fail
                go_still_tail 10, (by kernel_rfl)
                change wpList _ _ _ _ _ w9.drew
                clear d1 d2 eT
                have A10 := HA9.out.kept (Chg.drew (fun _ => False) w9)
                have eT := A10.tp.at HTOP.out
                have fz := A10.tp.f j
                have HA10 := Lib.hid A10
                clear A10 HA9
                generalize w9.drew = w10 at *
                first | rw [if_neg HN.out] | rw [if_neg (Int.not_lt.2 HN.out)] | skip
                go_wp2_with fail
                go_roundw
                case measure => simp [intOf]; omega
                case rel =>
                  (repeat apply Exists.intro)
                  exact ⟨⟨k + 1, f', _, _, by omega, by omega, rfl, Q4.out, HA10.out.set HB.out j _⟩, rfl⟩
            | false =>
              obtain ⟨q1, hc2⟩ := HI.out.old hj x0 hi
              rw [q1] at HA4
              clear q1 hi
              have HTB := Lib.hid (lastv_bd HI.out.fine (j : Int))
              have HTOP := Lib.hid htop
              clear htop
              generalize lastv (f j) = T at *
              go_wp2_with fail
              obtain ⟨o, ho⟩ : ∃ o, o = Obj.cells #[.int .i64 j, .int .i64 x] 30 (0, 0) := ⟨_, rfl⟩
              have hu0 : (w4.alloc o).heap[w4.heap.size]? = some o := block_alloc _ _
              have gA := Chg.alloc (fun _ => False) w4 o
              have A5 := HA4.out.kept gA
              have hv5 := Chg.keep gA HV4.out (fun e => e)
              rw [← ho]
              generalize w4.alloc o = w7 at *
              subst ho
              clear gA d0 d1 d2 HA4 HV4
              generalize w4.heap.size = s2 at *
              have d1 : w7.cell? ⟨s, 1, none⟩ = some (.int .i64 j) := by rw [cell_of_block hv5]; rfl
              have d2 : w7.cell? ⟨s, 2, none⟩ = some (.int .i64 x) := by rw [cell_of_block hv5]; rfl
              have e0 : w7.cell? ⟨s2, 0, none⟩ = some (.int .i64 j) := by rw [cell_of_block hu0]; rfl
              have e1 : w7.cell? ⟨s2, 1, none⟩ = some (.int .i64 x) := by rw [cell_of_block hu0]; rfl
              have eT := A5.tp.at HTOP.out
              obtain ⟨v, hv1, _, hv0, hv3⟩ := (A5.kept (Chg.drew (fun _ => False) w7)).sn.look (j, x) HW.out
              change (Instr.lookup 25 (.map (some h)) (.agg #[.int .i64 j, .int .i64 x]) false).run Try.prog w7.drew = _ at hv1
              have HA8 := Lib.hid A5
              have HV8 := Lib.hid hv5
              clear A5 hv5 hu0
              have hj2 : (j : Int) < 16 := by omega
              have hT : IntKind.i64.wrap (T - 64) = T - 64 := IntWalk.i64_in _ (by have := HTB.out; omega)
              have HN : Hid (¬ T < x) := Lib.hid (by omega)
              have HF : Hid (false = false → ¬ T < x) := Lib.hid (fun _ => by omega)
              have HG : Hid (false = true → 64 ≤ T → T - 64 < x) := Lib.hid (fun h => by cases h)
              with_reducible refine wp_region_still_lit (by kernel_rfl) (by kernel_rfl) ?_
              with_reducible refine reg20 (x := x) (T := T) (v := v) (j := j) _ ?d1 ?d2 ?e0 ?e1 ?eT ?hv ?hj ?hT ?hV ?hf ?ht ?q
              case d1 => exact d1
              case d2 => exact d2
              case e0 => exact e0
              case e1 => exact e1
              case eT => exact eT
              case hv => exact hv1
              case hj => exact hj2
              case hT => exact hT
              case hV => exact hv3
              case hf => exact HF.out
              case ht => exact HG.out
              case q =>
              intro x61 x62 x63 x64 x65 x66 x67 x68 x69 x70 x71 x72 x73 x74 x75 x76 x77 x78 x79 x80 x81 x82 x83 x84 x85 x86 x87 x88 x89 x90 x91 x92 x93 x94 x95 x96
              change Exit.then _ _ _ _ w7.drew
              clear d1 d2 e0 e1 eT hv1 hT
              have A9 := HA8.out.kept (Chg.drew (fun _ => False) w7)
              have v9 := Chg.keep (Chg.drew (fun _ => False) w7) HV8.out (fun e => e)
              clear HA8 HV8
              generalize w7.drew = w9 at *
              have d1 : w9.cell? ⟨s, 1, none⟩ = some (.int .i64 j) := by rw [cell_of_block v9]; rfl
              have d2 : w9.cell? ⟨s, 2, none⟩ = some (.int .i64 x) := by rw [cell_of_block v9]; rfl
              have eT := A9.tp.at HTOP.out
              have HA9 := Lib.hid A9
              clear A9 v9
              go_wp2_with fail
              go_still_tail 10, (by kernel_rfl)
              change wpList _ _ _ _ _ w9.drew
              clear d1 d2 eT
              have A10 := HA9.out.kept (Chg.drew (fun _ => False) w9)
              have eT := A10.tp.at HTOP.out
              have fz := A10.tp.f j
              have HA10 := Lib.hid A10
              clear A10 HA9
              generalize w9.drew = w10 at *
              first | rw [if_neg HN.out] | rw [if_neg (Int.not_lt.2 HN.out)] | skip
              go_wp2_with fail
              have HA11 := HA10.out.set HB.out j T
              rw [set_same HTOP.out] at HA11
              have HA12 := Lib.hid (show OAt w b m h t (k + 1) f S l _ from ⟨HA11.win, HA11.sn.more (by omega), HA11.tp, HA11.chg⟩)
              clear HA11
              go_roundw
              case measure => simp [intOf]; omega
              case rel =>
                (repeat apply Exists.intro)
                exact ⟨⟨k + 1, f, S, l, by omega, by omega, rfl, HI.out, HA12.out⟩, rfl⟩
          · have hm0 : may n x = false := by unfold may; exact decide_eq_false (by omega)
            have hi0 : isnew f n x = false := by unfold isnew; rw [hm0]; rfl
            have hf0 : nextf f n x = f := by unfold nextf; rw [hm0]; rfl
            rw [hi0]
            rw [hf0] at HA4
            have HA5 := Lib.hid (show OAt w b m h t (k + 1) f S l w4 from ⟨HA4.out.win, HA4.out.sn.more (by omega), HA4.out.tp, HA4.out.chg⟩)
            clear hm0 hi0 hf0 HA4 hsm hsh hst hsw HW
            rcases (by omega : n < 0 ∨ (0 ≤ n ∧ 15 < n) ∨ (0 ≤ n ∧ n ≤ 15 ∧ x < 0)) with q | ⟨q, q1⟩ | ⟨q, q1, q2⟩
            all_goals
              go_wp2_with fail
              go_roundw
              case measure => simp [intOf]; omega
              case rel => (repeat apply Exists.intro); exact ⟨⟨k + 1, f, S, l, by omega, by omega, rfl, HI.out, HA5.out⟩, rfl⟩
        · clear HB HI
          rcases (by omega : len ≤ k ∨ (k < len ∧ 300 ≤ k)) with h1 | ⟨h1, h2⟩
          · clear hgo hs hg
            go_wp2_with fail
            refine (awake_true _).mono ?_
            rintro e w3 ⟨rfl, g3⟩
            go_wp2_with fail
            go_ret
            exact ⟨rfl, (HA.out.chg.trans g3.none).fresh⟩
          · obtain ⟨p, ⟨z, n, x⟩, rfl, hz, hcell⟩ := hs.at HA.out.chg h1
            have hc0 : wr.cell? (p.add (k * 3)) = some (.bool z) := hcell 0 (by omega)
            have hc1 : wr.cell? { block := (p.add (k * 3)).block, off := (p.add (k * 3)).off + 1 } = some (.int .i64 n) := hcell 1 (by omega)
            have hc2 : wr.cell? { block := (p.add (k * 3)).block, off := (p.add (k * 3)).off + 2 } = some (.int .i64 x) := hcell 2 (by omega)
            clear hz hs hcell hgo hg
            go_wp2_with fail
            have g2 := Chg.alloc (fun _ => False) wr (.cells #[.bool z, .int .i64 n, .int .i64 x] 28)
            refine (awake_true _).mono ?_
            rintro e w3 ⟨rfl, g3⟩
            go_wp2_with fail
            go_ret
            exact ⟨rfl, (HA.out.chg.trans (g2.trans g3).none).fresh⟩
end Go.Proofs.Ytciekkenheiedaa
