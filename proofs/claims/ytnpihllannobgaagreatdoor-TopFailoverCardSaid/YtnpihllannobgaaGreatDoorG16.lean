/- A node in memory. What a node's small methods come to. Rank, first parent, sync, packet of a node. What a node tells. No condition. -/
import Derived.Test.YtnpihllannobgaaGreatDoorG15
import Derived.Test.YtnpihllannobgaaGreatDoorG11
namespace Go.Proofs.YtnpihllannobgaaGreatDoor
set_option linter.unusedVariables false
set_option linter.unusedSimpArgs false
open Go.ChangeShapes Go.WideShapes Go.ChangeAt Go.RowKit

/-- a config. -/
structure Cfg where
  nodes : Nat
  near : List Int
  hops : List Int
  guard : Int
  err : Int
  keep : Int
  loss : Int
  queue : Int
  life : Int
structure CfgOk (c : Cfg) : Prop where
  n0 : 2 ≤ c.nodes
  n1 : c.nodes ≤ 16
  near : c.near.length = c.nodes
  nearb : ∀ (i : Nat) x, c.near[i]? = some x → 0 ≤ x ∧ x < 65536 ∧ x < 2 ^ c.nodes ∧ x / 2 ^ i % 2 = 0
  hops : HopOk c.hops
  g : 1 ≤ c.guard ∧ c.guard ≤ 4000
  e : 0 ≤ c.err ∧ c.err ≤ 1000
  k : 1 ≤ c.keep ∧ c.keep ≤ 10000
  l : 2 ≤ c.loss ∧ c.loss ≤ 10000
  q : 1 ≤ c.queue ∧ c.queue ≤ 32
  f : 1 ≤ c.life ∧ c.life ≤ 15
def cfgCells (c : Cfg) (nv hv : Value) : List Value :=
  [.int .i64 c.nodes, nv, hv, .int .i64 c.guard, .int .i64 c.err, .int .i64 c.keep, .int .i64 c.loss, .int .i64 c.queue, .int .i64 c.life]
def cfgV (c : Cfg) (nv hv : Value) : Value :=
  .agg #[.int .i64 c.nodes, nv, hv, .int .i64 c.guard, .int .i64 c.err, .int .i64 c.keep, .int .i64 c.loss, .int .i64 c.queue, .int .i64 c.life]
/-- what a node knows. -/
structure NSt where
  base : Int
  sum : Int
  slots : Int
  q : List (Int × List Int)
  up : Seen
  down : Seen
  got : Seen
  seq : Int
  last : Int
  tries : Int
  synced : Bool
  p : Option (Int × List Pa)
  k : Option Int
  listened : Int
  paths : Int → Option (List Int)
  sasn : Int
  skind : Int
  ssrc : Int
  sdst : Int
  sseq : Int
  sopen : Bool
  ev : List Ev
/-- where it lies. -/
structure NR where
  nv : Value
  hv : Value
  clk : Nat
  q : Nat
  up : Nat
  down : Nat
  got : Nat
  pv : Value
  kv : Value
  paths : Nat
  ia : Option Addr
  il : Nat
  ic : Nat
  da : Option Addr
  dl : Nat
  dc : Nat
  ev : Value
def cellsN (c : Cfg) (i : Nat) (r : NR) (s : NSt) : Array Value :=
  #[.int .i64 c.nodes, r.nv, r.hv, .int .i64 c.guard, .int .i64 c.err, .int .i64 c.keep, .int .i64 c.loss, .int .i64 c.queue, .int .i64 c.life,
    .int .i64 i, .pointer (some ⟨r.clk, 0, none⟩), .pointer (some ⟨r.q, 0, none⟩), .pointer (some ⟨r.up, 0, none⟩), .pointer (some ⟨r.down, 0, none⟩), .pointer (some ⟨r.got, 0, none⟩),
    .int .i64 s.seq, .int .i64 s.last, .int .i64 s.tries, .bool s.synced, r.pv, r.kv, .int .i64 s.listened, .map (some r.paths),
    .int .i64 s.sasn, .int .i64 s.skind, .int .i64 s.ssrc, .int .i64 s.sdst, .int .i64 s.sseq, .slice r.ia r.il r.ic, .slice r.da r.dl r.dc, .bool s.sopen, r.ev]
def cellsV (e : Ev × Value × Value) : List Value :=
  [.int .i64 e.1.kind, .int .i64 e.1.i, .int .i64 e.1.src, .int .i64 e.1.code, .int .i64 e.1.p.src, .int .i64 e.1.p.dst, .int .i64 e.1.p.n, .int .i64 e.1.p.life, e.2.1, e.2.2]
theorem cellsV_len (e : Ev × Value × Value) : (cellsV e).length = 10 := rfl
/-- events: v their row. -/
def Eo (w : World) (own : Cls) (c : Nat) (v : Value) (l : List Ev) : Prop :=
  ∃ ps : List (Ev × Value × Value), w.ownsRow 0 44 10 v ps.length (ps.flatMap cellsV) ∧ (∀ k, v.ownBlock = some k → own k = c) ∧ (∀ p ∈ ps, RV VI w own p.2.1 p.1.p.path ∧ BO w own p.2.2 p.1.p.data) ∧ l = ps.map Prod.fst
def Np (w : World) (own : Cls) (c : Cfg) (i : Nat) (r : NR) (s : NSt) : Prop :=
  RV VU w own r.nv c.near ∧ RV VI w own r.hv c.hops ∧ Co w own (cl i 1) r.clk s.base s.sum s.slots ∧ Qo w own (cl i 2) r.q c.queue s.q ∧
  Wo w own (cl i 3) r.up s.up ∧ Wo w own (cl i 4) r.down s.down ∧ Wo w own (cl i 5) r.got s.got ∧ Po w own (cl i 6) r.pv i s.p ∧ Ko w own (cl i 7) r.kv c.keep s.k ∧
  Mo w own (cl i 8) r.paths s.paths ∧ Eo w own (cl i 9) r.ev s.ev
/-- node i lies in block b. -/
structure Nd (w : World) (own : Cls) (c : Cfg) (i b : Nat) (r : NR) (s : NSt) : Prop where
  blk : w.heap[b]? = some (.cells (cellsN c i r s) 75 (0, 0))
  ob : own b = cl i 0
  np : Np w own c i r s
/-- a part of node i. -/
def NdS (own : Cls) (i : Nat) : Nat → Prop := fun k => ∃ j, j < 16 ∧ own k = cl i j
section
variable {w w' : World} {own own' : Cls} {c : Cfg} {i b : Nat} {r r' : NR} {s s' : NSt} {S : Nat → Prop}
theorem Eo.step {c : Nat} {v : Value} {l : List Ev} (h : Eo w own c v l) (e : Ext w own own') (g : Chg S w w') (o : Off own c S) : Eo w' own' c v l := by
  obtain ⟨ps, h1, h2, h3, h4⟩ := h
  exact ⟨ps, own_chg h1 g (fun k hk => o k (.inr (h2 k hk))), fun k hk => by rw [e k (own_inS h1 hk).2]; exact h2 k hk,
    fun p hp => ⟨(h3 p hp).1.step e g o.zero, (h3 p hp).2.step e g o.zero⟩, h4⟩
theorem Np.step (h : Np w own c i r s) (e : Ext w own own') (g : Chg S w w') (o0 : ∀ k, own k = 0 → ¬ S k) (o : ∀ j, 1 ≤ j → j ≤ 9 → ∀ k, own k = cl i j → ¬ S k) : Np w' own' c i r s := by
  obtain ⟨h1, h2, h3, h4, h5, h6, h7, h8, h9, ha, hb⟩ := h
  have of : ∀ j, 1 ≤ j → j ≤ 9 → Off own (cl i j) S := fun j h1 h2 k hk => hk.elim (o0 k) (o j h1 h2 k)
  exact ⟨h1.step e g o0, h2.step e g o0, h3.step e g (of 1 (by omega) (by omega)), h4.step e g (of 2 (by omega) (by omega)), h5.step e g (of 3 (by omega) (by omega)), h6.step e g (of 4 (by omega) (by omega)),
    h7.step e g (of 5 (by omega) (by omega)), h8.step e g (of 6 (by omega) (by omega)), h9.step e g (of 7 (by omega) (by omega)), ha.step e g (of 8 (by omega) (by omega)), hb.step e g (of 9 (by omega) (by omega))⟩
theorem Nd.step (h : Nd w own c i b r s) (e : Ext w own own') (g : Chg S w w') (o0 : ∀ k, own k = 0 → ¬ S k) (o : ∀ k, NdS own i k → ¬ S k) : Nd w' own' c i b r s :=
  ⟨Chg.keep g h.blk (o b ⟨0, by omega, h.ob⟩), by rw [e b (lt_of_block h.blk)]; exact h.ob, h.np.step e g o0 (fun j h1 h2 k hk => o k ⟨j, by omega, hk⟩)⟩
theorem Nd.kept (h : Nd w own c i b r s) (g : Chg (fun _ => False) w w') : Nd w' own c i b r s := h.step (Ext.refl _ _) g (fun _ _ e => e) (fun _ _ e => e)
theorem Nd.cell (h : Nd w own c i b r s) (o : Nat) : w.cell? ⟨b, o, none⟩ = (cellsN c i r s)[o]? := by rw [cell_of_block h.blk]
theorem Nd.f (h : Nd w own c i b r s) (o : Nat) : w.frozen? ⟨b, o, none⟩ = false := frozen_of_block h.blk o
end
/-- .. reached from world w0. -/
structure NAt (w0 : World) (o0 : Cls) (c : Cfg) (i b : Nat) (s : NSt) (w : World) (o : Cls) (r : NR) : Prop where
  nd : Nd w o c i b r s
  z : Z w o
  ext : Ext w0 o0 o
  chg : Chg (NdS o0 i) w0 w
section
variable {w0 w w' : World} {o0 o o' : Cls} {c : Cfg} {i b : Nat} {r r' : NR} {s s' : NSt}
theorem NAt.start (h : Nd w o c i b r s) (z : Z w o) : NAt w o c i b s w o r := ⟨h, z, Ext.refl _ _, Chg.refl _ _⟩
theorem Chg.extN {w w1 w2 : World} {o1 o2 : Cls} (h : Chg (NdS o1 i) w w1) (e : Ext w o1 o2) (k : Chg (NdS o2 i) w1 w2) : Chg (NdS o1 i) w w2 :=
  ⟨k.os.trans h.os, k.tape.trans h.tape, k.output.trans h.output, Nat.le_trans h.size k.size,
   fun q hi hn => (k.block q (Nat.lt_of_lt_of_le hi h.size) (fun hh => hn (by obtain ⟨j, h1, h2⟩ := hh; exact ⟨j, h1, by rw [← e q hi]; exact h2⟩))).trans (h.block q hi hn)⟩
theorem NAt.next (h : NAt w0 o0 c i b s w o r) (n : Nd w' o' c i b r' s') (z : Z w' o') (e : Ext w o o') (g : Chg (NdS o i) w w') : NAt w0 o0 c i b s' w' o' r' :=
  ⟨n, z, h.ext.trans e h.chg.size, h.chg.extN h.ext g⟩
theorem NAt.trans {w1 : World} {o1 : Cls} {s1 : NSt} {r1 : NR} (h : NAt w0 o0 c i b s1 w1 o1 r1) (k : NAt w1 o1 c i b s w o r) : NAt w0 o0 c i b s w o r :=
  h.next k.nd k.z k.ext k.chg
theorem NAt.kept (h : NAt w0 o0 c i b s w o r) (g : Chg (fun _ => False) w w') : NAt w0 o0 c i b s w' o r :=
  h.next (h.nd.kept g) (h.z.more g.size) (Ext.refl _ _) g.none
theorem NAt.cell (h : NAt w0 o0 c i b s w o r) (k : Nat) : w.cell? ⟨b, k, none⟩ = (cellsN c i r s)[k]? := h.nd.cell k
theorem NAt.f (h : NAt w0 o0 c i b s w o r) (k : Nat) : w.frozen? ⟨b, k, none⟩ = false := h.nd.f k
/-- one of its own cells is set. -/
theorem NAt.set (h : NAt w0 o0 c i b s w o r) (k : Nat) (v : Value) (hc : cellsN c i r' s' = (cellsN c i r s).setIfInBounds k v) (hp : Np w o c i r' s') : NAt w0 o0 c i b s' (w.setCell ⟨b, k, none⟩ v) o r' := by
  have g := chg1 w b k v
  have hb := h.nd.ob
  refine h.next ⟨?_, hb, hp.step (Ext.refl _ _) g (fun q h1 e => ?_) (fun j h1 h2 q h3 e => ?_)⟩ (h.z.more g.size) (Ext.refl _ _) (g.mono (fun q _ e => ⟨0, by omega, by rw [e]; exact hb⟩))
  · rw [hc]
    exact block_set h.nd.blk k v
  · subst e; rw [hb] at h1; exact cl_ne0 i 0 h1
  · subst e; rw [hb] at h3; have := (cl_inj h3 (by omega) (by omega)).2; omega
/-- one of its parts is turned. -/
theorem NAt.part (h : NAt w0 o0 c i b s w o r) (j : Nat) (hj : 1 ≤ j ∧ j ≤ 9) (e : Ext w o o') (z : Z w' o') (g : Chg (Of o (cl i j)) w w') (hc : cellsN c i r s' = cellsN c i r s)
    (hp : (∀ k, o k = 0 → ¬ Of o (cl i j) k) → (∀ m, m ≠ j → m < 16 → Off o (cl i m) (Of o (cl i j))) → Np w' o' c i r s') : NAt w0 o0 c i b s' w' o' r := by
  have hb := h.nd.ob
  refine h.next ⟨?_, ?_, hp ?_ ?_⟩ z e (g.mono (fun q _ e => ⟨j, by omega, e⟩))
  · rw [hc]
    refine Chg.keep g h.nd.blk (fun e => ?_)
    unfold Of at e; rw [hb] at e; have := (cl_inj e (by omega) (by omega)).2; omega
  · rw [e b (lt_of_block h.nd.blk)]; exact hb
  · intro k h1 h2; unfold Of at h2; rw [h1] at h2; exact cl_ne0 i j h2.symm
  · intro m hm h16
    refine Off.of (cl_ne0 i j) (fun e => ?_)
    exact hm (cl_inj e (by omega) (by omega)).2.symm
end
end Go.Proofs.YtnpihllannobgaaGreatDoor
namespace Go.Proofs.YtnpihllannobgaaGreatDoor
set_option linter.unusedVariables false
set_option linter.unusedSimpArgs false
open Go.ChangeShapes Go.WideShapes Go.ChangeAt Go.RowKit

theorem nin_any (n a b : Int) (w : World) : Calls Tryz.prog 48 #[.int .i64 n, .int .i64 a, .int .i64 b] w fun e w' => e = .returned (.bool (inR n a b)) ∧ w' = w := by
  by_cases h0 : a ≤ n
  · by_cases h1 : n ≤ b
    · have e : inR n a b = true := inR_yes h0 (by omega)
      rw [e]
      clear e
      go_enter Tryz.func48, Tryz.ntmps48
      go_wp2_with fail
      go_ret
      exact ⟨rfl, rfl⟩
    · have e : inR n a b = false := inR_high (by omega)
      have h1 : b < n := by omega
      rw [e]
      clear e
      go_enter Tryz.func48, Tryz.ntmps48
      go_wp2_with fail
      go_ret
      exact ⟨rfl, rfl⟩
  · have e : inR n a b = false := inR_low (by omega)
    have h0 : n < a := by omega
    rw [e]
    clear e
    go_enter Tryz.func48, Tryz.ntmps48
    go_wp2_with fail
    go_ret
    exact ⟨rfl, rfl⟩
theorem nasn_any (n : Int) (h0 : 0 ≤ n) (h1 : n < 1099511627776) (w : World) : Calls Tryz.prog 56 #[.int .i64 n] w fun e w' => e = .returned (.bool true) ∧ w' = w := by
  go_enter Tryz.func56, Tryz.ntmps56
  go_wp2_with fail
  go_ret
  exact ⟨rfl, rfl⟩
/-- a result; how the node is then. -/
def PN (w0 : World) (o0 : Cls) (c : Cfg) (i b : Nat) (s : NSt) (V : Value → World → Cls → Prop) (en : Ending) (w' : World) : Prop :=
  ∃ v o r, en = .returned v ∧ NAt w0 o0 c i b s w' o r ∧ V v w' o
/-- .. the node as it was. -/
def PV0 (v : Value) (w : World) (e : Ending) (w' : World) : Prop := e = .returned v ∧ w' = w
section
variable {w0 w : World} {o0 o : Cls} {c : Cfg} {i b : Nat} {s : NSt} {r : NR}
theorem nhas_any (h : NAt w0 o0 c i b s w o r) (q : Int) (hc : c.nodes ≤ 16) : Calls Tryz.prog 78 #[.pointer (some ⟨b, 0, none⟩), .int .i64 q] w (PV0 (.bool (inR q 0 ((c.nodes : Int) - 1))) w) := by
  have c0 : w.cell? ⟨b, 0, none⟩ = some (.int .i64 c.nodes) := h.cell 0
  have HI := Lib.hid (fun a b w => nin_any q a b w)
  obtain ⟨M, hM⟩ : ∃ M, M = inR q 0 ((c.nodes : Int) - 1) := ⟨_, rfl⟩
  have HM := Lib.hid hM
  rw [← hM]
  generalize c.nodes = n at *
  have hn : (n : Int) ≤ 16 := by omega
  clear h hM hc
  go_enter Tryz.func78, Tryz.ntmps78
  go_wp2_with fail
  (with_reducible refine (HI.out _ _ _).mono ?_)
  rintro en w1 ⟨rfl, rfl⟩
  go_wp2_with fail
  have hm := HM.out
  subst hm
  go_ret
  exact ⟨rfl, rfl⟩
def clkN (s : NSt) (x y z : Int) : NSt := { s with base := x, sum := y, slots := z }
def lisN (s : NSt) (x : Int) : NSt := { s with listened := x }
theorem NAt.clk {w' : World} {x y z : Int} (h : NAt w0 o0 c i b s w o r) (k : Ck w' r.clk x y z) (g0 : Chg (· = r.clk) w w') : NAt w0 o0 c i b (clkN s x y z) w' o r := by
  have ho := h.nd.np.2.2.1.2
  have g : Chg (Of o (cl i 1)) w w' := g0.mono (fun k _ e => by subst e; exact ho)
  refine h.part 1 (by omega) (Ext.refl _ _) (h.z.more g.size) g rfl (fun o0 o => ?_)
  obtain ⟨p1, p2, p3, p4, p5, p6, p7, p8, p9, pa, pb⟩ := h.nd.np
  exact ⟨p1.step (Ext.refl _ _) g o0, p2.step (Ext.refl _ _) g o0, ⟨k, ho⟩, p4.step (Ext.refl _ _) g (o 2 (by omega) (by omega)), p5.step (Ext.refl _ _) g (o 3 (by omega) (by omega)),
    p6.step (Ext.refl _ _) g (o 4 (by omega) (by omega)), p7.step (Ext.refl _ _) g (o 5 (by omega) (by omega)), p8.step (Ext.refl _ _) g (o 6 (by omega) (by omega)),
    p9.step (Ext.refl _ _) g (o 7 (by omega) (by omega)), pa.step (Ext.refl _ _) g (o 8 (by omega) (by omega)), pb.step (Ext.refl _ _) g (o 9 (by omega) (by omega))⟩
theorem NAt.lis (h : NAt w0 o0 c i b s w o r) (x : Int) : NAt w0 o0 c i b (lisN s x) (w.setCell ⟨b, 21, none⟩ (.int .i64 x)) o r := h.set 21 _ rfl h.nd.np
def slotN (i : Nat) (p : Int) (s : NSt) : NSt :=
  lisN (clkN s s.base (s.sum + cutf (if i = 0 then 0 else p) 100 * 10000) (s.slots + 1)) (if s.synced then s.listened else s.listened + 1)
set_option maxRecDepth 100000 in
theorem nslot_any (h : NAt w0 o0 c i b s w o r) (now p : Int) (h0 : 0 ≤ now) (h1 : now < 1099511627776) (hs : -1000000000000 ≤ s.sum ∧ s.sum ≤ 1000000000000) (hz : 0 ≤ s.slots ∧ s.slots ≤ 1000000) (hl : 0 ≤ s.listened ∧ s.listened ≤ 1000000) :
    Calls Tryz.prog 53 #[.pointer (some ⟨b, 0, none⟩), .int .i64 now, .int .i64 p] w (PN w0 o0 c i b (slotN i p s) (fun v _ _ => v = .tuple #[])) := by
  have HA := Lib.hid (fun w => nasn_any now h0 h1 w)
  have c1 : w.cell? ⟨b, 9, none⟩ = some (.int .i64 i) := h.cell 9
  have c2 : w.cell? ⟨b, 10, none⟩ = some (.pointer (some ⟨r.clk, 0, none⟩)) := h.cell 10
  obtain ⟨q, hq⟩ : ∃ q, q = (if i = 0 then 0 else p) := ⟨_, rfl⟩
  obtain ⟨y, hy⟩ : ∃ y, y = s.sum + cutf q 100 * 10000 := ⟨_, rfl⟩
  have hk := ckslot_any w r.clk s.base s.sum s.slots q h.nd.np.2.2.1.1 hs hz
  have hg : slotN i p s = lisN (clkN s s.base y (s.slots + 1)) (if s.synced then s.listened else s.listened + 1) := by rw [hy, hq]; rfl
  rw [← hy] at hk
  have HH := Lib.hid (fun w' => h.clk (w' := w') (x := s.base) (y := y) (z := s.slots + 1))
  have HK := Lib.hid hk
  obtain ⟨ck, hck⟩ : ∃ ck, ck = r.clk := ⟨_, rfl⟩
  rw [← hck] at c2 HH HK
  obtain ⟨X, hX⟩ : ∃ X, X = clkN s s.base y (s.slots + 1) := ⟨_, rfl⟩
  rw [← hX] at HH hg
  have hsy : X.synced = s.synced := by rw [hX]; rfl
  have hli : X.listened = s.listened := by rw [hX]; rfl
  obtain ⟨l0, l1⟩ := hl
  have e1 : IntKind.i64.wrap (s.listened + 1) = s.listened + 1 := IntWalk.i64_in _ (by omega)
  obtain ⟨F, hF⟩ : ∃ F, F = slotN i p s := ⟨_, rfl⟩
  rw [← hF] at hg ⊢
  have HG := Lib.hid hg
  clear hX hg hck hk hy h hF
  by_cases hi : i = 0
  · subst hi
    rw [if_pos rfl] at hq
    subst hq
    go_enter Tryz.func53, Tryz.ntmps53
    go_wp2_with fail
    (with_reducible refine (HA.out _).mono ?_)
    rintro en w1 ⟨rfl, rfl⟩
    go_wp2_with fail
    (with_reducible refine HK.out.mono ?_)
    rintro en w1 ⟨rfl, k1, k2⟩
    have K := HH.out _ k1 k2
    have HKK := Lib.hid K
    have d1 : w1.cell? ⟨b, 18, none⟩ = some (.bool s.synced) := (K.cell 18).trans (by rw [← hsy]; rfl)
    have d2 : w1.cell? ⟨b, 21, none⟩ = some (.int .i64 s.listened) := (K.cell 21).trans (by rw [← hli]; rfl)
    have f2 := K.f 21
    clear k1 k2 K HH HK
    cases hsb : s.synced with
    | true =>
      rw [hsb] at d1 hsy
      go_wp2_with fail
      go_end0
      refine ⟨_, o, r, rfl, ?_, rfl⟩
      have hg := HG.out
      rw [hsb, if_pos rfl, ← hli] at hg
      rw [hg]
      exact HKK.out
    | false =>
      rw [hsb] at d1 hsy
      go_wp2_with fail
      go_end0
      refine ⟨_, o, r, rfl, ?_, rfl⟩
      have hg := HG.out
      rw [hsb, if_neg (by decide)] at hg
      rw [hg]
      exact HKK.out.lis _
  · rw [if_neg hi] at hq
    subst hq
    have hi' : ((i : Int) == 0) = false := by simp; omega
    go_enter Tryz.func53, Tryz.ntmps53
    go_wp2_with fail
    (with_reducible refine (HA.out _).mono ?_)
    rintro en w1 ⟨rfl, rfl⟩
    go_wp2_with fail
    (with_reducible refine HK.out.mono ?_)
    rintro en w1 ⟨rfl, k1, k2⟩
    have K := HH.out _ k1 k2
    have HKK := Lib.hid K
    have d1 : w1.cell? ⟨b, 18, none⟩ = some (.bool s.synced) := (K.cell 18).trans (by rw [← hsy]; rfl)
    have d2 : w1.cell? ⟨b, 21, none⟩ = some (.int .i64 s.listened) := (K.cell 21).trans (by rw [← hli]; rfl)
    have f2 := K.f 21
    clear k1 k2 K HH HK
    cases hsb : s.synced with
    | true =>
      rw [hsb] at d1 hsy
      go_wp2_with fail
      go_end0
      refine ⟨_, o, r, rfl, ?_, rfl⟩
      have hg := HG.out
      rw [hsb, if_pos rfl, ← hli] at hg
      rw [hg]
      exact HKK.out
    | false =>
      rw [hsb] at d1 hsy
      go_wp2_with fail
      go_end0
      refine ⟨_, o, r, rfl, ?_, rfl⟩
      have hg := HG.out
      rw [hsb, if_neg (by decide)] at hg
      rw [hg]
      exact HKK.out.lis _
end
end Go.Proofs.YtnpihllannobgaaGreatDoor
namespace Go.Proofs.YtnpihllannobgaaGreatDoor
set_option linter.unusedVariables false
set_option linter.unusedSimpArgs false
open Go.ChangeShapes Go.WideShapes Go.ChangeAt Go.RowKit

def rankN (i : Nat) (s : NSt) : Int :=
  if s.synced then (if i = 0 then 0 else match s.p with | none => 255 | some x => x.1) else 255
def firstN (s : NSt) : Int := match s.p with | some (_, p :: _) => p.node | _ => 64
def pktN (s : NSt) : List Int × Int × Bool :=
  match s.q with
  | [] => ([], 0, false)
  | (d, L) :: _ => (L, if d = 64 then firstN s else d, decide ((if d = 64 then firstN s else d) ≠ 64))
def syncE (i : Nat) (s : NSt) (now : Int) : El := ⟨1, now, rankN i s, 0, []⟩
section
variable {w0 w : World} {o0 o : Cls} {c : Cfg} {i b : Nat} {s : NSt} {r : NR}
theorem nrank_any (h : NAt w0 o0 c i b s w o r) (hp : s.synced = true → i ≠ 0 → s.p ≠ none) : Calls Tryz.prog 134 #[.pointer (some ⟨b, 0, none⟩)] w (PV0 (.int .i64 (rankN i s)) w) := by
  have c1 : w.cell? ⟨b, 9, none⟩ = some (.int .i64 i) := h.cell 9
  have c2 : w.cell? ⟨b, 18, none⟩ = some (.bool s.synced) := h.cell 18
  have c3 : w.cell? ⟨b, 19, none⟩ = some r.pv := h.cell 19
  have hpo := h.nd.np.2.2.2.2.2.2.2.1
  clear h
  unfold rankN
  cases hs : s.synced with
  | false =>
    rw [hs] at c2
    rw [if_neg (by decide)]
    clear hpo c3 hp
    go_enter Tryz.func134, Tryz.ntmps134
    go_wp2_with fail
    go_ret
    exact ⟨rfl, rfl⟩
  | true =>
    rw [hs] at c2
    rw [if_pos rfl]
    by_cases hi : i = 0
    · subst hi
      rw [if_pos rfl]
      clear hpo c3 hp
      go_enter Tryz.func134, Tryz.ntmps134
      go_wp2_with fail
      go_ret
      exact ⟨rfl, rfl⟩
    · rw [if_neg hi]
      have hi' : ((i : Int) == 0) = false := by simp; omega
      cases hsp : s.p with
      | none => exact absurd hsp (hp hs hi)
      | some x =>
        rw [hsp] at hpo
        obtain ⟨rank, L⟩ := x
        obtain ⟨pb, row, e1, hP, _⟩ := hpo
        rw [e1] at c3
        have HR := Lib.hid (prank_any w pb row i rank L hP)
        clear hP hp
        go_enter Tryz.func134, Tryz.ntmps134
        go_wp2_with fail
        (with_reducible refine HR.out.mono ?_)
        rintro en w1 ⟨rfl, rfl⟩
        go_wp2_with fail
        go_ret
        exact ⟨rfl, rfl⟩
theorem nfirst_any (h : NAt w0 o0 c i b s w o r) : Calls Tryz.prog 73 #[.pointer (some ⟨b, 0, none⟩)] w (PV (.int .i64 (firstN s)) w) := by
  have c3 : w.cell? ⟨b, 19, none⟩ = some r.pv := h.cell 19
  have hpo := h.nd.np.2.2.2.2.2.2.2.1
  clear h
  unfold firstN
  cases hsp : s.p with
  | none =>
    rw [hsp] at hpo
    have e1 : r.pv = .pointer none := hpo
    rw [e1] at c3
    have HR := Lib.hid (first_nil w)
    clear hpo
    go_enter Tryz.func73, Tryz.ntmps73
    go_wp2_with fail
    (with_reducible refine HR.out.mono ?_)
    rintro en w1 ⟨rfl, hG⟩
    have HG := Lib.hid hG
    clear hG
    go_wp2_with fail
    go_ret
    exact ⟨rfl, HG.out⟩
  | some x =>
    rw [hsp] at hpo
    obtain ⟨rank, L⟩ := x
    obtain ⟨pb, row, e1, hP, _, _, _, _, hL, _⟩ := hpo
    rw [e1] at c3
    have HR := Lib.hid (first_any w pb row i rank L hP (by omega))
    clear hP
    cases L with
    | nil =>
      have HR := Lib.hid (show Calls Tryz.prog 119 #[.pointer (some ⟨pb, 0, none⟩)] w (PV (.tuple #[.int .i64 0, .bool false]) w) from HR.out)
      clear hL
      go_enter Tryz.func73, Tryz.ntmps73
      go_wp2_with fail
      (with_reducible refine HR.out.mono ?_)
      rintro en w1 ⟨rfl, hG⟩
      have HG := Lib.hid hG
      clear hG
      go_wp2_with fail
      go_ret
      exact ⟨rfl, HG.out⟩
    | cons p t =>
      have HR := Lib.hid (show Calls Tryz.prog 119 #[.pointer (some ⟨pb, 0, none⟩)] w (PV (.tuple #[.int .i64 p.node, .bool true]) w) from HR.out)
      clear hL
      go_enter Tryz.func73, Tryz.ntmps73
      go_wp2_with fail
      (with_reducible refine HR.out.mono ?_)
      rintro en w1 ⟨rfl, hG⟩
      have HG := Lib.hid hG
      clear hG
      go_wp2_with fail
      go_ret
      exact ⟨rfl, HG.out⟩
theorem nsync_any (h : NAt w0 o0 c i b s w o r) (now : Int) (hp : s.synced = true → i ≠ 0 → s.p ≠ none) :
    Calls Tryz.prog 95 #[.pointer (some ⟨b, 0, none⟩), .int .i64 now] w (PV (elV (syncE i s now) (.slice none 0 0)) w) := by
  have HR := Lib.hid (fun w1 (h1 : NAt w0 o0 c i b s w1 o r) => nrank_any h1 hp)
  have H := Lib.hid h
  obtain ⟨P, hP⟩ : ∃ P, P = PV (elV (syncE i s now) (.slice none 0 0)) w := ⟨_, rfl⟩
  rw [← hP]
  have HP := Lib.hid hP
  clear h hP
  go_enter Tryz.func95, Tryz.ntmps95
  go_wp2_with fail
  (with_reducible refine (HR.out _ (H.out.kept (Chg.alloc _ w _))).mono ?_)
  rintro en w1 ⟨rfl, rfl⟩
  go_wp2_with fail
  have k0 : (w.alloc (Obj.cells #[Value.int .i64 1, Value.int .i64 now, Value.int .i64 (rankN i s), Value.int .i64 0, Value.slice none 0 0] 172)).heap[w.heap.size]? = _ := block_alloc _ _
  obtain ⟨k0, k1, k2, k3, k4⟩ := cell5 k0
  refine bodyPost_ret (v := elV (syncE i s now) (.slice none 0 0)) (by simp [results, Tryz.results95, go_sem, k0, k1, k2, k3, k4]; rfl) rfl ?_
  rw [HP.out]
  exact ⟨rfl, Chg.alloc _ _ _⟩
def PPkt (x : List Int × Int × Bool) (w : World) (o : Cls) (en : Ending) (w' : World) : Prop :=
  ∃ v, en = .returned (.tuple #[v, .int .i64 x.2.1, .bool x.2.2]) ∧ BO w' o v x.1 ∧ Chg (fun _ => False) w w'
theorem npacket_any (h : NAt w0 o0 c i b s w o r) (hq : s.q.length ≤ 1000) (hl : ∀ p ∈ s.q, p.2.length ≤ 1000) :
    Calls Tryz.prog 96 #[.pointer (some ⟨b, 0, none⟩)] w (PPkt (pktN s) w o) := by
  have c3 : w.cell? ⟨b, 11, none⟩ = some (.pointer (some ⟨r.q, 0, none⟩)) := h.cell 11
  obtain ⟨v, lost, ps, q1, q2, q3, q4, q5, q6, q7, q8⟩ := h.nd.np.2.2.2.1
  have hb : Qb w r.q c.queue v lost ps := ⟨q1, q5⟩
  have H := Lib.hid h
  obtain ⟨qb, hqb⟩ : ∃ q, q = r.q := ⟨_, rfl⟩
  rw [← hqb] at c3 hb
  cases ps with
  | nil =>
    have e : pktN s = ([], 0, false) := by unfold pktN; rw [q8]; rfl
    rw [e]
    have HQ := Lib.hid (qat_nil w qb c.queue lost v hb)
    clear e hb q1 q2 q3 q4 q5 q6 q7 q8 h hq hl hqb
    go_enter Tryz.func96, Tryz.ntmps96
    go_wp2_with fail
    (with_reducible refine HQ.out.mono ?_)
    rintro en w1 ⟨rfl, rfl⟩
    go_wp2_with fail
    go_ret3
    exact ⟨_, rfl, BO.nil _ _, Chg.refl _ _⟩
  | cons p ps =>
    obtain ⟨d, pv, L⟩ := p
    obtain ⟨F, hF⟩ : ∃ F, F = pktN s := ⟨_, rfl⟩
    have e : F = (L, if d = 64 then firstN s else d, decide ((if d = 64 then firstN s else d) ≠ 64)) := by rw [hF]; unfold pktN; rw [q8]; rfl
    rw [← hF]
    have hB : BO w o pv L := q7 (d, pv, L) (by simp)
    have hl1 : L.length ≤ 1000 := by have := hl (d, L) (by rw [q8]; simp); exact this
    have hn : (((d, pv, L) : QE) :: ps).length ≤ 1000 := by rw [q8] at hq; simpa using hq
    have HQ := Lib.hid (qat_any w qb c.queue lost v (d, pv, L) ps hb hn hB.bs (by show L.length ≤ _; omega))
    have hsl : ∀ p ∈ ((d, pv, L) : QE) :: ps, ∃ A n c, p.2.1 = .slice A n c := fun p hp => by
      obtain ⟨⟨A, c, e, _⟩, _⟩ := q7 p hp
      exact ⟨A, _, c, e⟩
    have HT := Lib.hid (fun w1 (g : Chg (fun _ => False) w w1) => qto_any w1 qb c.queue lost v ((d, pv, L) :: ps) (hb.kept g) hn hsl)
    have HE := Lib.hid (And.intro e hB)
    have HF := Lib.hid (fun w1 (g : Chg (fun _ => False) w w1) => nfirst_any (h.kept g))
    have HZ := Lib.hid h.z
    have hcb := hb
    clear hF e hb q1 q2 q3 q4 q5 q6 q7 q8 h hq hl hqb hB hn hsl hl1 hcb
    go_enter Tryz.func96, Tryz.ntmps96
    go_wp2_with fail
    (with_reducible refine HQ.out.mono ?_)
    rintro en w1 ⟨v1, rfl, hO, hG⟩
    have c3 : w1.cell? ⟨b, 11, none⟩ = some (.pointer (some ⟨qb, 0, none⟩)) := by rw [hG.cell (lt_of_cell c3) (fun e => e), c3]
    have HB1 := Lib.hid (And.intro (BO.of_own (own := o) hO HE.out.2.2 HZ.out) hG)
    clear hO hG
    go_wp2_with fail
    (with_reducible refine (HT.out _ HB1.out.2).mono ?_)
    rintro en w2 ⟨v2, rfl, hO, hG⟩
    obtain ⟨g, cap, cur, rfl, _, _, _, _⟩ := own_pos hO (by simp)
    have d0 : w2.cell? ⟨g, 0, none⟩ = some (.int .i64 d) := own_cell hO 0 _ rfl
    obtain ⟨m, hm⟩ : ∃ m, m = (List.map Prod.fst (((d, pv, L) : QE) :: ps)).length := ⟨_, rfl⟩
    have hm0 : 0 < m := by rw [hm]; simp
    rw [← hm]
    have HB2 := Lib.hid (And.intro (HB1.out.1.keep hG (fun _ _ e => e)) (HB1.out.2.trans hG))
    clear hO hG hm HB1
    by_cases h64 : d = 64
    · subst h64
      go_wp2_with fail
      (with_reducible refine (HF.out _ HB2.out.2).mono ?_)
      rintro en w3 ⟨rfl, hG⟩
      have HB3 := Lib.hid (And.intro (HB2.out.1.keep hG (fun _ _ e => e)) (HB2.out.2.trans hG))
      clear hG HB2
      obtain ⟨t, ht⟩ : ∃ t, t = firstN s := ⟨_, rfl⟩
      have HE2 := Lib.hid (And.intro HE.out.1 ht)
      rw [← ht]
      clear ht
      go_wp2_with fail
      have he : F = (L, t, !(t == 64)) := by
        have e1 := HE2.out.1
        simp only [if_true] at e1
        rw [e1, ← HE2.out.2]
        by_cases q : t = 64 <;> simp [q]
      subst he
      go_ret3
      exact ⟨_, rfl, HB3.out⟩
    · have h64' : (d == 64) = false := by simpa using h64
      go_wp2_with fail
      have he : F = (L, d, d != 64) := by
        rw [HE.out.1, if_neg h64]
        simp [h64]
      subst he
      go_ret3
      exact ⟨_, rfl, HB2.out⟩
end
end Go.Proofs.YtnpihllannobgaaGreatDoor
namespace Go.Proofs.YtnpihllannobgaaGreatDoor
set_option linter.unusedVariables false
set_option linter.unusedSimpArgs false
open Go.ChangeShapes Go.WideShapes Go.ChangeAt Go.RowKit

theorem ElV : ElS 29 44 10 112 := ElS.of (z := .agg #[.int .i64 0, .int .i64 0, .int .i64 0, .int .i64 0, .int .i64 0, .int .i64 0, .int .i64 0, .int .i64 0, .slice none 0 0, .slice none 0 0]) (by kernel_rfl) (by kernel_rfl) (by decide +kernel) (by decide)
def evN (s : NSt) (e : Ev) : NSt := { s with ev := s.ev ++ [e] }
def noEv (s : NSt) : NSt := { s with ev := [] }
section
variable {w0 w w' : World} {o0 o o' : Cls} {c : Cfg} {i b : Nat} {s s' : NSt} {r r' : NR}
theorem NAt.upd (h : NAt w0 o0 c i b s w o r) (j : Nat) (hj : 1 ≤ j ∧ j ≤ 9) (e : Ext w o o') (z : Z w' o') (g : Chg (fun q => o q = cl i j ∨ q = b) w w') (hc : w'.heap[b]? = some (.cells (cellsN c i r' s') 75 (0, 0)))
    (hp : (∀ k, o k = 0 → ¬ (o k = cl i j ∨ k = b)) → (∀ m, 1 ≤ m → m ≠ j → m < 16 → Off o (cl i m) (fun q => o q = cl i j ∨ q = b)) → Np w' o' c i r' s') : NAt w0 o0 c i b s' w' o' r' := by
  have hb := h.nd.ob
  have h0 : ∀ k, o k = 0 → ¬ (o k = cl i j ∨ k = b) := fun k h1 h2 => by
    rcases h2 with h2 | h2
    · rw [h1] at h2; exact cl_ne0 i j h2.symm
    · subst h2; rw [hb] at h1; exact cl_ne0 i 0 h1
  refine h.next ⟨hc, ?_, hp h0 ?_⟩ z e (g.mono (fun q _ e => ?_))
  · rw [e b (lt_of_block h.nd.blk)]; exact hb
  · intro m h1 hm h16 k hk h2
    rcases hk with hk | hk
    · exact h0 k hk h2
    · rcases h2 with h2 | h2
      · exact hm (cl_inj (hk.symm.trans h2) (by omega) (by omega)).2
      · subst h2; have := (cl_inj (hb.symm.trans hk) (by omega) (by omega)).2; omega
  · rcases e with e | e
    · exact ⟨j, by omega, e⟩
    · exact ⟨0, by omega, by rw [e]; exact hb⟩
theorem NAt.told (h : NAt w0 o0 c i b s w o r) (e : Ev) (pv dv : Value) (g cap n : Nat) (w5 : World) (G : Chg (fun k => r.ev.ownBlock = some k) w w5) (hn : n = s.ev.length)
    (ps : List (Ev × Value × Value)) (e3 : ∀ p ∈ ps, RV VI w o p.2.1 p.1.p.path ∧ BO w o p.2.2 p.1.p.data) (e4 : s.ev = ps.map Prod.fst)
    (hrow : w5.ownsRow 0 44 10 (.slice (some ⟨g, 0, none⟩) (n + 1) cap) (n + 1) (ps.flatMap cellsV ++ cellsV (e, pv, dv)))
    (hat : r.ev.ownBlock = some g ∨ w.heap.size ≤ g) (hlt : g < w5.heap.size) (hpd : RV VI w o pv e.p.path ∧ BO w o dv e.p.data) :
    ∃ o' r', NAt w0 o0 c i b (evN s e) (w5.setCell ⟨b, 31, none⟩ (.slice (some ⟨g, 0, none⟩) (n + 1) cap)) o' r' := by
  obtain ⟨p1, p2, p3, p4, p5, p6, p7, p8, p9, pa, _, _, e2, _, _⟩ := h.nd.np
  have hlen : ps.length = n := by rw [hn, e4, List.length_map]
  have hbN : ∀ k, r.ev.ownBlock = some k → k ≠ b := fun k hk e => by
    subst e; have h1 := e2 k hk; rw [h.nd.ob] at h1; have := (cl_inj h1 (by omega) (by omega)).2; omega
  have hlb := lt_of_block h.nd.blk
  have hgb : g ≠ b := by
    rcases hat with h1 | h1
    · exact hbN g h1
    · omega
  have gs := chg1 w5 b 31 (.slice (some ⟨g, 0, none⟩) (n + 1) cap)
  have G2 : Chg (fun q => o q = cl i 9 ∨ q = b) w (w5.setCell ⟨b, 31, none⟩ (.slice (some ⟨g, 0, none⟩) (n + 1) cap)) :=
    (G.mono (fun k _ hk => (.inl (e2 k hk) : o k = cl i 9 ∨ k = b))).trans (gs.mono (fun k _ hk => .inr hk))
  have hbk : (w5.setCell ⟨b, 31, none⟩ (.slice (some ⟨g, 0, none⟩) (n + 1) cap)).heap[b]? = some (.cells (cellsN c i { r with ev := .slice (some ⟨g, 0, none⟩) (n + 1) cap } (evN s e)) 75 (0, 0)) :=
    block_set (Chg.keep G h.nd.blk (fun e => hbN b e rfl)) 31 _
  have hrw : (w5.setCell ⟨b, 31, none⟩ (.slice (some ⟨g, 0, none⟩) (n + 1) cap)).ownsRow 0 44 10 (.slice (some ⟨g, 0, none⟩) (n + 1) cap) (ps ++ [(e, pv, dv)]).length ((ps ++ [(e, pv, dv)]).flatMap cellsV) := by
    have := own_chg hrow gs (fun k hk e => by cases hk; exact hgb e)
    rw [List.flatMap_append, List.length_append, hlen]
    simpa using this
  have key : ∀ o', Ext w o o' → Z w5 o' → o' g = cl i 9 → ∃ o' r', NAt w0 o0 c i b (evN s e) (w5.setCell ⟨b, 31, none⟩ (.slice (some ⟨g, 0, none⟩) (n + 1) cap)) o' r' := by
    intro o' hE hZ hg
    refine ⟨o', _, h.upd 9 (by omega) hE (hZ.more gs.size) G2 hbk (fun a0 a => ?_)⟩
    have hob : o' b = cl i 0 := by rw [hE b hlb]; exact h.nd.ob
    have hz0 : ∀ j, o' j = 0 → ¬ j = b := fun j hj e => by subst e; rw [hob] at hj; exact cl_ne0 i 0 hj
    exact ⟨p1.step hE G2 a0, p2.step hE G2 a0, p3.step hE G2 (a 1 (by omega) (by omega) (by omega)), p4.step hE G2 (a 2 (by omega) (by omega) (by omega)), p5.step hE G2 (a 3 (by omega) (by omega) (by omega)),
      p6.step hE G2 (a 4 (by omega) (by omega) (by omega)), p7.step hE G2 (a 5 (by omega) (by omega) (by omega)), p8.step hE G2 (a 6 (by omega) (by omega) (by omega)),
      p9.step hE G2 (a 7 (by omega) (by omega) (by omega)), pa.step hE G2 (a 8 (by omega) (by omega) (by omega)),
      ps ++ [(e, pv, dv)], hrw, fun k hk => by cases hk; exact hg, fun p hp => by
        rcases List.mem_append.1 hp with hp | hp
        · exact ⟨(e3 p hp).1.step hE G2 a0, (e3 p hp).2.step hE G2 a0⟩
        · simp at hp; subst hp
          exact ⟨hpd.1.step hE G2 a0, hpd.2.step hE G2 a0⟩, by simp [evN, e4]⟩
  rcases hat with h1 | h1
  · exact key o (Ext.refl _ _) (h.z.more G.size) (e2 g h1)
  · exact key (cls o g (cl i 9)) (Ext.cls o g (cl i 9) h1) ((h.z.more G.size).cls _ hlt) (cls_at _ _ _)
theorem NAt.evrow (h : NAt w0 o0 c i b s w o r) : ∃ A cap, r.ev = .slice A s.ev.length cap := by
  obtain ⟨p1, p2, p3, p4, p5, p6, p7, p8, p9, pa, ps, e1, e2, e3, e4⟩ := h.nd.np
  have hl : ps.length = s.ev.length := by rw [e4, List.length_map]
  rcases own_val e1 with ⟨e, h1, _⟩ | ⟨g, cap, e, _⟩
  · exact ⟨none, 0, by rw [e, ← hl, h1]⟩
  · exact ⟨_, _, by rw [e, hl]⟩
set_option maxRecDepth 100000 in
set_option maxHeartbeats 8000000 in
theorem nevent_any (h : NAt w0 o0 c i b s w o r) (k q : Int) (hn : s.ev.length ≤ 1000) : Calls Tryz.prog 76 #[.pointer (some ⟨b, 0, none⟩), .int .i64 k, .int .i64 q] w (PN w0 o0 c i b (evN s ⟨k, i, q, 0, pk0⟩) (fun v _ _ => v = .tuple #[])) := by
  have c1 : w.cell? ⟨b, 9, none⟩ = some (.int .i64 i) := h.cell 9
  have c2 : w.cell? ⟨b, 31, none⟩ = some r.ev := h.cell 31
  have f2 : w.frozen? ⟨b, 31, none⟩ = false := h.f 31
  have H := Lib.hid h
  have hlb := lt_of_block h.nd.blk
  obtain ⟨A, cap, hev⟩ := h.evrow
  rw [hev] at c2
  obtain ⟨F, hF⟩ : ∃ F, F = evN s ⟨k, i, q, 0, pk0⟩ := ⟨_, rfl⟩
  rw [← hF]
  have HF := Lib.hid hF
  obtain ⟨n, hln⟩ : ∃ n, n = s.ev.length := ⟨_, rfl⟩
  rw [← hln] at c2 hn hev
  have HV := Lib.hid (And.intro hev hln)
  obtain ⟨ps, e1, e2, e3, e4⟩ := h.nd.np.2.2.2.2.2.2.2.2.2.2
  have hpl : ps.length = n := by rw [hln, e4, List.length_map]
  rw [hpl, hev] at e1
  have HROW := Lib.hid e1
  have HPL := Lib.hid (And.intro e3 e4)
  have hnb : ∀ k, (Value.slice A n cap).ownBlock = some k → k ≠ b := fun k hk e => by
    rw [← hev] at hk
    have h1 := e2 k hk; rw [e, h.nd.ob] at h1; have := (cl_inj h1 (by omega) (by omega)).2; omega
  have HNB := Lib.hid hnb
  obtain ⟨ei, z, i1, i2, i3, i4, i5, i6⟩ := ElV.2
  have hEI := Lib.hid (And.intro i1 (And.intro i2 (And.intro i3 (And.intro i4 (And.intro i5 i6)))))
  clear i1 i2 i3 i4 i5 i6
  obtain ⟨ob, hob⟩ : ∃ ob, ob = Obj.cells #[Value.int .i64 k, .int .i64 i, .int .i64 q, .int .i64 0, .int .i64 0, .int .i64 0, .int .i64 0, .int .i64 0, .slice none 0 0, .slice none 0 0] 44 := ⟨_, rfl⟩
  have HONE := Lib.hid (show ∀ u ∈ [Value.int .i64 k, .int .i64 i, .int .i64 q, .int .i64 0, .int .i64 0, .int .i64 0, .int .i64 0, .int .i64 0, .slice none 0 0, .slice none 0 0], u.oneCell' = true by intro u hu; simp at hu; rcases hu with rfl | rfl | rfl | rfl | rfl <;> rfl)
  have HLN := Lib.hid (show n + 1 ≤ maxLen ∧ (n + 1) * 112 ≤ 140737488355328 by unfold maxLen; omega)
  have c2a := cell_al c2 ob
  rw [hob] at c2a
  clear h hev hln e1 e2 e3 e4 hF hpl hob ob hnb
  go_enter Tryz.func76, Tryz.ntmps76
  go_region_law
    ((
      refine step_append_lies (P := Tryz.prog) _ (by rfl) (.tmp 10) (.tmp 18) 29 (by rfl) 0 44 ei z 10 112 Tryz.underlying29 hEI.out.1 hEI.out.2.1 hEI.out.2.2.1 hEI.out.2.2.2.1 hEI.out.2.2.2.2.1 hEI.out.2.2.2.2.2 (.slice A n cap) n (ps.flatMap cellsV) rfl (own_chg HROW.out ((Chg.alloc (fun _ => False) w (.cells #[.int .i64 k, .int .i64 i, .int .i64 q, .int .i64 0, .int .i64 0, .int .i64 0, .int .i64 0, .int .i64 0, .slice none 0 0, .slice none 0 0] 44)).trans (Chg.drew _ _)) (fun _ _ e => e)) ⟨w.heap.size, 0, none⟩ 1 1 [.int .i64 k, .int .i64 i, .int .i64 q, .int .i64 0, .int .i64 0, .int .i64 0, .int .i64 0, .int .i64 0, .slice none 0 0, .slice none 0 0] rfl rfl (World.news_of_block (w := (w.alloc (.cells #[.int .i64 k, .int .i64 i, .int .i64 q, .int .i64 0, .int .i64 0, .int .i64 0, .int .i64 0, .int .i64 0, .slice none 0 0, .slice none 0 0] 44)).drew) (block_alloc w (.cells #[.int .i64 k, .int .i64 i, .int .i64 q, .int .i64 0, .int .i64 0, .int .i64 0, .int .i64 0, .int .i64 0, .slice none 0 0, .slice none 0 0] 44))) HONE.out (by omega) HLN.out.1 HLN.out.2 (Nat.zero_le _) (w.heap.size + 1) (by simp) ?_
      intro g5 cap5 w5 hown5 hgr5 hat5 hlt5
      have G5 : Chg (fun k => (Value.slice A n cap).ownBlock = some k) w w5 := ((Chg.alloc _ w (.cells #[.int .i64 k, .int .i64 i, .int .i64 q, .int .i64 0, .int .i64 0, .int .i64 0, .int .i64 0, .int .i64 0, .slice none 0 0, .slice none 0 0] 44)).trans (Chg.drew _ _)).trans (chg_grown hgr5 (fun j e => e.symm ▸ rfl))
      have kb := Chg.keep G5 H.out.nd.blk (fun e => HNB.out b e rfl)
      have k2 : w5.cell? ⟨b, 31, none⟩ = some (.slice A n cap) := by rw [cell_of_block kb]; exact congrArg some HV.out.1
      have kf : w5.frozen? ⟨b, 31, none⟩ = false := frozen_of_block kb 31
      have HKB := Lib.hid kb
      have HG5 := Lib.hid G5
      have HO5 := Lib.hid (And.intro hown5 (And.intro hat5 hlt5))
      clear kb G5 hown5 hgr5 hat5 hlt5))
  all_goals
    go_wp2_with fail
    go_end0
    obtain ⟨o', r', hN⟩ := H.out.told ⟨k, i, q, 0, pk0⟩ (.slice none 0 0) (.slice none 0 0) g5 cap5 n w5 (by rw [HV.out.1]; exact HG5.out) HV.out.2 ps HPL.out.1 HPL.out.2 HO5.out.1
      (by rw [HV.out.1]; rcases HO5.out.2.1 with h | h; exact .inl h; right; omega) HO5.out.2.2 ⟨RV.nil _ _ _, BO.nil _ _⟩
    refine ⟨_, o', r', rfl, ?_, rfl⟩
    rw [HF.out]
    exact hN
theorem ntells_any (h : NAt w0 o0 c i b s w o r) : Calls Tryz.prog 70 #[.pointer (some ⟨b, 0, none⟩)] w (PN w0 o0 c i b (noEv s) (fun v w' o' => Eo w' o' (cl i 9) v s.ev)) := by
  have c2 : w.cell? ⟨b, 31, none⟩ = some r.ev := h.cell 31
  have f2 : w.frozen? ⟨b, 31, none⟩ = false := h.f 31
  have hE := h.nd.np.2.2.2.2.2.2.2.2.2.2
  obtain ⟨A, cap, hev⟩ := h.evrow
  have h1 : NAt w0 o0 c i b (noEv s) (w.setCell ⟨b, 31, none⟩ (.slice none 0 0)) o { r with ev := .slice none 0 0 } := by
    obtain ⟨p1, p2, p3, p4, p5, p6, p7, p8, p9, pa, pb⟩ := h.nd.np
    exact h.set 31 _ rfl ⟨p1, p2, p3, p4, p5, p6, p7, p8, p9, pa, [], World.ownsRow_nil _ _ _ _, fun k hk => by (cases hk), fun p hp => by (cases hp), rfl⟩
  have h2 : Eo (w.setCell ⟨b, 31, none⟩ (.slice none 0 0)) o (cl i 9) r.ev s.ev := hE.step (Ext.refl _ _) (chg1 w b 31 _) (fun k hk e => by
    subst e
    rw [h.nd.ob] at hk
    rcases hk with hk | hk
    · exact cl_ne0 i 0 hk
    · have := (cl_inj hk (by omega) (by omega)).2; omega)
  have H1 := Lib.hid (And.intro h1 h2)
  obtain ⟨F, hF⟩ : ∃ F, F = noEv s := ⟨_, rfl⟩
  rw [← hF] at H1 ⊢
  obtain ⟨E, hE2⟩ : ∃ E, E = s.ev := ⟨_, rfl⟩
  rw [← hE2] at H1 hev ⊢
  rw [hev] at c2 H1
  obtain ⟨n, hn⟩ : ∃ n, n = E.length := ⟨_, rfl⟩
  rw [← hn] at c2 H1
  clear h hE h1 h2 hF hE2 hev hn
  go_enter Tryz.func70, Tryz.ntmps70
  go_wp2_with fail
  go_ret
  exact ⟨_, o, _, rfl, H1.out.1, H1.out.2⟩
end
end Go.Proofs.YtnpihllannobgaaGreatDoor
