/- A row of sixteen noughts. The console's first config. The console's five nodes: two slots of them. No condition. -/
import Derived.Test.YtnpihllannobgaaGreatDoorG36
import Derived.Test.YtnpihllannobgaaGreatDoorG29
import Derived.Test.YtnpihllannobgaaGreatDoorG35
import Derived.StillTailTactics
import Derived.Laws.CopyRow
namespace Go.Proofs.YtnpihllannobgaaGreatDoor
set_option linter.unusedVariables false
set_option linter.unusedSimpArgs false
open Go.ChangeShapes Go.WideShapes Go.ChangeAt Go.RowKit

section
variable {w : World}
set_option maxRecDepth 100000 in
set_option maxHeartbeats 2000000 in
theorem mul64_any (w : World) : Calls Tryz.prog 265 #[.int .u64 1, .int .u64 16] w (fun e w' => e = .returned (.tuple #[.int .u64 0, .int .u64 16]) ∧ w' = w) := by
  have b1 : bits BinOp.and IntKind.u64 1 4294967295 = 1 := by decide +kernel
  have b2 : bits BinOp.and IntKind.u64 16 4294967295 = 16 := by decide +kernel
  have b3 : bits BinOp.and IntKind.u64 0 4294967295 = 0 := by decide +kernel
  go_enter Tryz.func265, Tryz.ntmps265
  go_wp2_with fail
  go_ret2
  exact ⟨rfl, rfl⟩
set_option maxRecDepth 100000 in
set_option maxHeartbeats 2000000 in
theorem mul_any (w : World) : Calls Tryz.prog 235 #[.int .u64 1, .int .u64 16] w (fun e w' => e = .returned (.tuple #[.int .u64 0, .int .u64 16]) ∧ w' = w) := by
  have H := Lib.hid (mul64_any w)
  go_enter Tryz.func235, Tryz.ntmps235
  go_wp2_with fail
  (with_reducible refine H.out.mono ?_)
  rintro en w1 ⟨rfl, rfl⟩
  go_wp2_with fail
  go_ret2
  exact ⟨rfl, rfl⟩
def zs16 : Array Value := #[.int .i64 0, .int .i64 0, .int .i64 0, .int .i64 0, .int .i64 0, .int .i64 0, .int .i64 0, .int .i64 0, .int .i64 0, .int .i64 0, .int .i64 0, .int .i64 0, .int .i64 0, .int .i64 0, .int .i64 0, .int .i64 0]
theorem copy0 {wx : World} {b : Nat} (hb : wx.heap[b]? = some (.cells zs16 3 (0, 0))) (o n dL dC sL sC : Nat) (src : Addr) (hn : n = Nat.min sL dL) (hs : ∀ j, j < n → wx.cell? (src.add j) = some (.int .i64 0)) (hf : o + n ≤ 16)
    (hz : (zs16.toList.take o ++ List.replicate n (Value.int .i64 0) ++ zs16.toList.drop (o + n)).toArray = zs16) :
    (Builtin.copy_ #[22, 22] 3 #[.slice (some ⟨b, o, none⟩) dL dC, .slice (some src) sL sC]).run Tryz.prog wx = .ok (.int .i64 n) wx := by
  have h := run_copy_row Tryz.prog wx 22 22 3 3 b o dL dC src sL sC zs16 3 (List.replicate n (.int .i64 0)) Tryz.underlying22 (by kernel_rfl) hb (by simp [hn]) (fun j v hj => by
    rw [List.getElem?_replicate] at hj
    split at hj
    · cases hj; exact hs j (by assumption)
    · cases hj) (by rw [List.length_replicate]; exact hf) (fun v hv => by rw [List.mem_replicate] at hv; rw [hv.2]; rfl)
  rw [List.length_replicate, hz, setRow_self _ _ _ _ _ hb] at h
  exact h
set_option maxRecDepth 100000 in
set_option maxHeartbeats 4000000 in
theorem repeat_any {g : Nat} (hb : w.heap[g]? = some (.cells #[.int .i64 0] 3 (0, 0))) : Calls Tryz.prog 181 #[.slice (some ⟨g, 0, none⟩) 1 1, .int .i64 16] w (fun e w' => e = .returned (.slice (some ⟨w.heap.size, 0, none⟩) 16 16) ∧ w'.heap[w.heap.size]? = some (.cells zs16 3 (0, 0)) ∧ Chg (fun _ => False) w w') := by
  have H := Lib.hid (mul_any w)
  have hk : ∀ wx : World, (Instr.makeSlice 22 (.int .i64 16) (.int .i64 16)).run Tryz.prog wx = .ok (.slice (some ⟨wx.heap.size, 0, none⟩) 16 16) (wx.alloc (.cells zs16 3)) := fun wx => by kernel_rfl
  have hN := block_alloc w (.cells zs16 3)
  have hG := Chg.alloc (fun _ => False) w (.cells zs16 3)
  have hg : (w.alloc (.cells zs16 3)).cell? ⟨g, 0, none⟩ = some (.int .i64 0) := by rw [cell_of_block (Chg.keep hG hb (fun e => e))]; rfl
  have h0 := copy0 hN 0 1 16 16 1 1 ⟨g, 0, none⟩ rfl (fun j hj => by rw [show j = 0 from Nat.lt_one_iff.1 hj]; exact hg) (by decide) (by rfl)
  have HX := Lib.hid (And.intro hN hG)
  clear hN hG hg hb
  go_enter Tryz.func181, Tryz.ntmps181
  go_wp2_with fail
  (with_reducible refine H.out.mono ?_)
  rintro en w1 ⟨rfl, rfl⟩
  clear H
  go_wp2_with fail
  generalize w1.alloc (.cells zs16 3) = W at *
  obtain ⟨b, hbe⟩ : ∃ b, b = w1.heap.size := ⟨_, rfl⟩
  rw [← hbe] at HX ⊢
  have HBE := Lib.hid hbe
  clear hk h0 hbe
  go_loopw [8] (fun i wr => ∃ (n : Nat), (n = 1 ∨ n = 2 ∨ n = 4 ∨ n = 8 ∨ n = 16) ∧ i = .int .i64 n ∧ wr.heap[b]? = some (.cells zs16 3 (0, 0)) ∧ Chg (fun _ => False) w1 wr) (fun i _ => 16 - (intOf i).toNat)
  case atStart => exact ⟨1, .inl rfl, rfl, HX.out⟩
  case round =>
    obtain ⟨n, hn, rfl, hb, hg⟩ := hrel
    have hbd : wr.drew.heap[b]? = some (.cells zs16 3 (0, 0)) := hb
    have HG := Lib.hid (And.intro hbd (hg.trans (Chg.drew _ wr)))
    have HG0 := Lib.hid (And.intro hb hg)
    have hz : ∀ j, j < 16 → wr.drew.cell? ((⟨b, 0, none⟩ : Addr).add j) = some (.int .i64 0) := fun j hj => by
      rw [show (⟨b, 0, none⟩ : Addr).add j = ⟨b, 0 + j, none⟩ by unfold Addr.add; split <;> simp_all, cell_of_block hbd]
      have hj : j = 0 ∨ j = 1 ∨ j = 2 ∨ j = 3 ∨ j = 4 ∨ j = 5 ∨ j = 6 ∨ j = 7 ∨ j = 8 ∨ j = 9 ∨ j = 10 ∨ j = 11 ∨ j = 12 ∨ j = 13 ∨ j = 14 ∨ j = 15 := by omega
      rcases hj with rfl | rfl | rfl | rfl | rfl | rfl | rfl | rfl | rfl | rfl | rfl | rfl | rfl | rfl | rfl | rfl <;> rfl
    rcases hn with rfl | rfl | rfl | rfl | rfl
    · have h1 := copy0 hbd 1 1 15 15 1 16 ⟨b, 0, none⟩ rfl (fun j hj => hz j (by omega)) (by decide) rfl
      clear hz hb hg hbd
      go_wp2_with fail
      with_reducible refine wp_region_still_lit (by kernel_rfl) (by kernel_rfl) ?_
      repeat (with_reducible refine wpStill_step (fun K hK => ?_); go_simp; with_reducible refine hK _ ?_; clear hK K)
      with_reducible refine wpStill_nil ?_
      change Exit.inBlock _ _ _ _ wr.drew
      go_roundw
      case measure => simp [intOf]; decide
      case rel => exact ⟨_, _, _, _, _, _, _, _, _, _, _, _, _, _, ⟨2, by omega, by go_num, HG.out⟩, rfl⟩
    · have h1 := copy0 hbd 2 2 14 14 2 16 ⟨b, 0, none⟩ rfl (fun j hj => hz j (by omega)) (by decide) rfl
      clear hz hb hg hbd
      go_wp2_with fail
      with_reducible refine wp_region_still_lit (by kernel_rfl) (by kernel_rfl) ?_
      repeat (with_reducible refine wpStill_step (fun K hK => ?_); go_simp; with_reducible refine hK _ ?_; clear hK K)
      with_reducible refine wpStill_nil ?_
      change Exit.inBlock _ _ _ _ wr.drew
      go_roundw
      case measure => simp [intOf]; decide
      case rel => exact ⟨_, _, _, _, _, _, _, _, _, _, _, _, _, _, ⟨4, by omega, by go_num, HG.out⟩, rfl⟩
    · have h1 := copy0 hbd 4 4 12 12 4 16 ⟨b, 0, none⟩ rfl (fun j hj => hz j (by omega)) (by decide) rfl
      clear hz hb hg hbd
      go_wp2_with fail
      with_reducible refine wp_region_still_lit (by kernel_rfl) (by kernel_rfl) ?_
      repeat (with_reducible refine wpStill_step (fun K hK => ?_); go_simp; with_reducible refine hK _ ?_; clear hK K)
      with_reducible refine wpStill_nil ?_
      change Exit.inBlock _ _ _ _ wr.drew
      go_roundw
      case measure => simp [intOf]; decide
      case rel => exact ⟨_, _, _, _, _, _, _, _, _, _, _, _, _, _, ⟨8, by omega, by go_num, HG.out⟩, rfl⟩
    · have h1 := copy0 hbd 8 8 8 8 8 16 ⟨b, 0, none⟩ rfl (fun j hj => hz j (by omega)) (by decide) rfl
      clear hz hb hg hbd
      go_wp2_with fail
      with_reducible refine wp_region_still_lit (by kernel_rfl) (by kernel_rfl) ?_
      repeat (with_reducible refine wpStill_step (fun K hK => ?_); go_simp; with_reducible refine hK _ ?_; clear hK K)
      with_reducible refine wpStill_nil ?_
      change Exit.inBlock _ _ _ _ wr.drew
      go_roundw
      case measure => simp [intOf]; decide
      case rel => exact ⟨_, _, _, _, _, _, _, _, _, _, _, _, _, _, ⟨16, by omega, by go_num, HG.out⟩, rfl⟩
    · clear hz hb hg hbd
      go_wp2_with fail
      go_ret
      rw [← HBE.out]
      exact ⟨rfl, HG0.out⟩
set_option maxRecDepth 100000 in
theorem row_any (w : World) : Calls Tryz.prog 131 #[.int .i64 16, .int .i64 0] w (fun e w' => ∃ b, e = .returned (.slice (some ⟨b, 0, none⟩) 16 16) ∧ w'.heap[b]? = some (.cells zs16 3 (0, 0)) ∧ w.heap.size ≤ b ∧ Chg (fun _ => False) w w') := by
  have H := Lib.hid (repeat_any (block_alloc w (.cells #[.int .i64 0] 3)))
  have HG := Lib.hid (Chg.alloc (fun _ => False) w (.cells #[.int .i64 0] 3))
  go_enter Tryz.func131, Tryz.ntmps131
  go_wp2_with fail
  (with_reducible refine H.out.mono ?_)
  rintro en w1 ⟨rfl, hb, G⟩
  rw [show (w.alloc (.cells #[.int .i64 0] 3)).heap.size = w.heap.size + 1 by simp] at hb
  have H1 := Lib.hid (And.intro hb G)
  clear hb G H
  go_wp2_with fail
  go_ret
  refine ⟨_, rfl, H1.out.1, by simp, HG.out.trans H1.out.2⟩
end
end Go.Proofs.YtnpihllannobgaaGreatDoor
namespace Go.Proofs.YtnpihllannobgaaGreatDoor
set_option linter.unusedVariables false
set_option linter.unusedSimpArgs false
open Go.ChangeShapes Go.WideShapes Go.ChangeAt Go.RowKit

def c5 : Cfg := ⟨5, [6, 13, 11, 22, 8], [11, 15, 20, 25], 300, 3, 20, 60, 8, 10⟩
def nearK : Nat → Array Value
  | 0 => #[.int .u64 0, .int .u64 0, .int .u64 0, .int .u64 0, .int .u64 0]
  | 1 => #[.int .u64 2, .int .u64 1, .int .u64 0, .int .u64 0, .int .u64 0]
  | 2 => #[.int .u64 6, .int .u64 1, .int .u64 1, .int .u64 0, .int .u64 0]
  | 3 => #[.int .u64 6, .int .u64 5, .int .u64 3, .int .u64 0, .int .u64 0]
  | 4 => #[.int .u64 6, .int .u64 13, .int .u64 3, .int .u64 2, .int .u64 0]
  | 5 => #[.int .u64 6, .int .u64 13, .int .u64 11, .int .u64 6, .int .u64 0]
  | _ => #[.int .u64 6, .int .u64 13, .int .u64 11, .int .u64 22, .int .u64 8]
theorem alloc5 (w : World) (o0 o1 o2 o3 o4 : Obj) : ∀ W, W = ((((w.alloc o0).alloc o1).alloc o2).alloc o3).alloc o4 → W.heap[w.heap.size]? = some o0 ∧ W.heap[w.heap.size + 1]? = some o1 ∧ W.heap[w.heap.size + 1 + 1]? = some o2 ∧ W.heap[w.heap.size + 1 + 1 + 1]? = some o3 ∧ W.heap[w.heap.size + 1 + 1 + 1 + 1]? = some o4 ∧ Chg (fun _ => False) w W := by
  intro W h
  have s0 : (w.alloc o0).heap.size = w.heap.size + 1 := by simp
  have s1 : ((w.alloc o0).alloc o1).heap.size = w.heap.size + 1 + 1 := by simp
  have s2 : (((w.alloc o0).alloc o1).alloc o2).heap.size = w.heap.size + 1 + 1 + 1 := by simp
  have s3 : ((((w.alloc o0).alloc o1).alloc o2).alloc o3).heap.size = w.heap.size + 1 + 1 + 1 + 1 := by simp
  have g0 := Chg.alloc (fun _ => False) w o0
  have g1 := Chg.alloc (fun _ => False) (w.alloc o0) o1
  have g2 := Chg.alloc (fun _ => False) ((w.alloc o0).alloc o1) o2
  have g3 := Chg.alloc (fun _ => False) (((w.alloc o0).alloc o1).alloc o2) o3
  have g4 := Chg.alloc (fun _ => False) ((((w.alloc o0).alloc o1).alloc o2).alloc o3) o4
  have b0 := block_alloc w o0
  have b1 := block_alloc (w.alloc o0) o1
  have b2 := block_alloc ((w.alloc o0).alloc o1) o2
  have b3 := block_alloc (((w.alloc o0).alloc o1).alloc o2) o3
  have b4 := block_alloc ((((w.alloc o0).alloc o1).alloc o2).alloc o3) o4
  rw [s0] at b1
  rw [s1] at b2
  rw [s2] at b3
  rw [s3] at b4
  rw [← h] at g4 b4
  have k3 := g3.trans g4
  have k2 := g2.trans k3
  have k1 := g1.trans k2
  exact ⟨Chg.keep k1 b0 (fun e => e), Chg.keep k2 b1 (fun e => e), Chg.keep k3 b2 (fun e => e), Chg.keep g4 b3 (fun e => e), b4, g0.trans k1⟩
/-- where the loop stands. -/
structure FiK (w0 : World) (n nb hb cb pb : Nat) (N : Array Value) (w : World) : Prop where
  n1 : w.heap[n]? = some (.cells #[.int .i64 0, .slice none 0 0, .slice none 0 0, .int .i64 0, .int .i64 0, .int .i64 0, .int .i64 0, .int .i64 0, .int .i64 0] 26 (0, 0))
  n2 : w.heap[nb]? = some (.cells N 23 (0, 0))
  n3 : w.heap[hb]? = some (.cells #[.int .i64 11, .int .i64 15, .int .i64 20, .int .i64 25] 3 (0, 0))
  n4 : w.heap[cb]? = some (.cells #[.int .i64 5, .slice (some ⟨nb, 0, none⟩) 5 5, .slice (some ⟨hb, 0, none⟩) 4 4, .int .i64 300, .int .i64 3, .int .i64 20, .int .i64 60, .int .i64 8, .int .i64 10] 26 (0, 0))
  n5 : w.heap[pb]? = some (.cells #[.int .i64 0, .int .i64 1, .int .i64 0, .int .i64 2, .int .i64 1, .int .i64 2, .int .i64 1, .int .i64 3, .int .i64 2, .int .i64 3, .int .i64 3, .int .i64 4] 154 (0, 0))
  g : Chg (fun _ => False) w0 w
  lt : w0.heap.size ≤ n ∧ n < nb ∧ nb < hb ∧ hb < cb ∧ cb < pb
section
variable {w0 w w' : World} {n nb hb cb pb : Nat} {N : Array Value}
theorem FiK.kept (h : FiK w0 n nb hb cb pb N w) (g : Chg (fun _ => False) w w') : FiK w0 n nb hb cb pb N w' :=
  ⟨Chg.keep g h.n1 (fun e => e), Chg.keep g h.n2 (fun e => e), Chg.keep g h.n3 (fun e => e), Chg.keep g h.n4 (fun e => e), Chg.keep g h.n5 (fun e => e), h.g.trans g, h.lt⟩
theorem FiK.set (h : FiK w0 n nb hb cb pb N w) (a : Nat) (v : Value) : FiK w0 n nb hb cb pb (N.setIfInBounds a v) (w.setCell ⟨nb, a, none⟩ v) := by
  have g : Chg (fun q => q = nb) w (w.setCell ⟨nb, a, none⟩ v) := Chg.set _ _ _ rfl
  have hl := h.lt
  refine ⟨Chg.keep g h.n1 (by omega), block_set h.n2 a v, Chg.keep g h.n3 (by omega), Chg.keep g h.n4 (by omega), Chg.keep g h.n5 (by omega), ?_, h.lt⟩
  have k : Chg (fun q => w0.heap.size ≤ q) w (w.setCell ⟨nb, a, none⟩ v) := g.mono (fun q _ e => by omega)
  exact (h.g.none.trans k).fresh
theorem pair_set {x a b : Nat} {v : Value} (hx : w.heap[x]? = some (.cells #[.int .i64 a, .int .i64 b] 154 (0, 0))) (q : Nat) (hne : x ≠ nb) : (w.setCell ⟨nb, q, none⟩ v).heap[x]? = some (.cells #[.int .i64 a, .int .i64 b] 154 (0, 0)) :=
  Chg.keep (S := fun q => q = nb) (Chg.set _ _ _ rfl) hx hne
end
set_option maxRecDepth 100000 in
set_option maxHeartbeats 8000000 in
theorem cfirst_any (w : World) : Calls Tryz.prog 42 #[] w (fun e w' => ∃ nb hb, e = .returned (cfgV c5 (.slice (some ⟨nb, 0, none⟩) 5 5) (.slice (some ⟨hb, 0, none⟩) 4 4)) ∧ w'.heap[nb]? = some (.cells (nearK 6) 23 (0, 0)) ∧ w'.heap[hb]? = some (.cells #[.int .i64 11, .int .i64 15, .int .i64 20, .int .i64 25] 3 (0, 0)) ∧ w.heap.size ≤ nb ∧ w.heap.size ≤ hb ∧ Chg (fun _ => False) w w') := by
  have hk : ∀ wx : World, (Instr.makeSlice 24 (.int .i64 5) (.int .i64 5)).run Tryz.prog wx = .ok (.slice (some ⟨wx.heap.size, 0, none⟩) 5 5) (wx.alloc (.cells (nearK 0) 23)) := fun wx => by kernel_rfl
  go_enter Tryz.func42, Tryz.ntmps42
  go_wp2_with fail
  obtain ⟨b0, b1, b2, b3, b4, G⟩ := alloc5 w _ _ _ _ _ _ rfl
  have H0 := Lib.hid (FiK.mk (N := nearK 0) b0 b1 b2 b3 b4 G (by omega))
  clear b0 b1 b2 b3 b4 G
  obtain ⟨n, hn⟩ : ∃ n, n = w.heap.size := ⟨_, rfl⟩
  have HL := Lib.hid (show w.heap.size ≤ n + 1 ∧ w.heap.size ≤ n + 1 + 1 ∧ n < n + 1 ∧ n + 1 < n + 1 + 1 by omega)
  rw [← hn] at H0 ⊢
  generalize ((((w.alloc _).alloc _).alloc _).alloc _).alloc _ = W at *
  generalize n + 1 = nb at *
  generalize nb + 1 = hb at *
  generalize hb + 1 = cb at *
  generalize cb + 1 = pb at *
  clear hk hn
  go_loopw [15] (fun i wr => ∃ (k : Nat), k ≤ 6 ∧ i = .int .i64 k ∧ FiK w n nb hb cb pb (nearK k) wr) (fun i _ => 6 - (intOf i).toNat)
  case atStart => exact ⟨0, by omega, rfl, H0.out⟩
  case round =>
    obtain ⟨k, hk, rfl, hF⟩ := hrel
    clear H0
    have HF := Lib.hid hF
    clear hF
    obtain rfl | rfl | rfl | rfl | rfl | rfl | rfl : k = 0 ∨ k = 1 ∨ k = 2 ∨ k = 3 ∨ k = 4 ∨ k = 5 ∨ k = 6 := by omega
    · have q0 : wr.cell? ⟨pb, 0, none⟩ = some (.int .i64 0) := by rw [cell_of_block HF.out.n5]; rfl
      have q1 : wr.cell? ⟨pb, 1, none⟩ = some (.int .i64 1) := by rw [cell_of_block HF.out.n5]; rfl
      go_wp2_with fail
      have hl := HF.out.lt
      have hxl := lt_of_block HF.out.n5
      have hx := block_alloc wr (.cells #[.int .i64 0, .int .i64 1] 154)
      have HX := Lib.hid (HF.out.kept (Chg.alloc (fun _ => False) wr (.cells #[.int .i64 0, .int .i64 1] 154)))
      obtain ⟨x, hxe⟩ : ∃ x, x = wr.heap.size := ⟨_, rfl⟩
      rw [← hxe] at hx ⊢
      have HN := Lib.hid (show x ≠ nb by omega)
      clear q0 q1 hl hxl hxe
      generalize wr.alloc (.cells #[.int .i64 0, .int .i64 1] 154) = wx at *
      have HXX := Lib.hid hx
      have c0 : wx.drew.cell? ⟨x, 0, none⟩ = some (.int .i64 0) := by rw [cell_of_block (w := wx.drew) hx]; rfl
      have c1 : wx.drew.cell? ⟨x, 1, none⟩ = some (.int .i64 1) := by rw [cell_of_block (w := wx.drew) hx]; rfl
      have d1 : wx.drew.cell? ⟨cb, 1, none⟩ = some (.slice (some ⟨nb, 0, none⟩) 5 5) := by rw [cell_of_block (w := wx.drew) HX.out.n4]; rfl
      have n0 : wx.drew.cell? ⟨nb, 0, none⟩ = some (.int .u64 0) := by rw [cell_of_block (w := wx.drew) HX.out.n2]; rfl
      have f0 : wx.drew.frozen? ⟨nb, 0, none⟩ = false := frozen_of_block (w := wx.drew) HX.out.n2 0
      have o1 : bits BinOp.or IntKind.u64 0 2 = 2 := by decide +kernel
      clear hx
      go_still_tail 11, (by kernel_rfl)
      change wpList _ _ _ _ _ wx.drew
      go_wp2_with fail
      clear c0 c1 d1 n0 f0
      rw [o1]
      have HY := Lib.hid ((HX.out.set 0 (.int .u64 2)).kept (Chg.drew _ _))
      have hy : ((wx.setCell ⟨nb, 0, none⟩ (.int .u64 2)).drew).heap[x]? = some (.cells #[.int .i64 0, .int .i64 1] 154 (0, 0)) := pair_set HXX.out _ HN.out
      generalize (wx.setCell ⟨nb, 0, none⟩ (.int .u64 2)).drew = wy at *
      have c0 : wy.drew.cell? ⟨x, 0, none⟩ = some (.int .i64 0) := by rw [cell_of_block (w := wy.drew) hy]; rfl
      have c1 : wy.drew.cell? ⟨x, 1, none⟩ = some (.int .i64 1) := by rw [cell_of_block (w := wy.drew) hy]; rfl
      have d1 : wy.drew.cell? ⟨cb, 1, none⟩ = some (.slice (some ⟨nb, 0, none⟩) 5 5) := by rw [cell_of_block (w := wy.drew) HY.out.n4]; rfl
      have n0 : wy.drew.cell? ⟨nb, 1, none⟩ = some (.int .u64 0) := by rw [cell_of_block (w := wy.drew) HY.out.n2]; rfl
      have f0 : wy.drew.frozen? ⟨nb, 1, none⟩ = false := frozen_of_block (w := wy.drew) HY.out.n2 1
      have o2 : bits BinOp.or IntKind.u64 0 1 = 1 := by decide +kernel
      clear hy o1
      go_still_tail 11, (by kernel_rfl)
      change wpList _ _ _ _ _ wy.drew
      go_wp2_with fail
      exact ⟨⟨1, by omega, rfl, (HY.out.set 1 (.int .u64 1)).kept (Chg.drew _ _)⟩, by simp [intOf]⟩
    · have q0 : wr.cell? ⟨pb, 2, none⟩ = some (.int .i64 0) := by rw [cell_of_block HF.out.n5]; rfl
      have q1 : wr.cell? ⟨pb, 3, none⟩ = some (.int .i64 2) := by rw [cell_of_block HF.out.n5]; rfl
      go_wp2_with fail
      have hl := HF.out.lt
      have hxl := lt_of_block HF.out.n5
      have hx := block_alloc wr (.cells #[.int .i64 0, .int .i64 2] 154)
      have HX := Lib.hid (HF.out.kept (Chg.alloc (fun _ => False) wr (.cells #[.int .i64 0, .int .i64 2] 154)))
      obtain ⟨x, hxe⟩ : ∃ x, x = wr.heap.size := ⟨_, rfl⟩
      rw [← hxe] at hx ⊢
      have HN := Lib.hid (show x ≠ nb by omega)
      clear q0 q1 hl hxl hxe
      generalize wr.alloc (.cells #[.int .i64 0, .int .i64 2] 154) = wx at *
      have HXX := Lib.hid hx
      have c0 : wx.drew.cell? ⟨x, 0, none⟩ = some (.int .i64 0) := by rw [cell_of_block (w := wx.drew) hx]; rfl
      have c1 : wx.drew.cell? ⟨x, 1, none⟩ = some (.int .i64 2) := by rw [cell_of_block (w := wx.drew) hx]; rfl
      have d1 : wx.drew.cell? ⟨cb, 1, none⟩ = some (.slice (some ⟨nb, 0, none⟩) 5 5) := by rw [cell_of_block (w := wx.drew) HX.out.n4]; rfl
      have n0 : wx.drew.cell? ⟨nb, 0, none⟩ = some (.int .u64 2) := by rw [cell_of_block (w := wx.drew) HX.out.n2]; rfl
      have f0 : wx.drew.frozen? ⟨nb, 0, none⟩ = false := frozen_of_block (w := wx.drew) HX.out.n2 0
      have o1 : bits BinOp.or IntKind.u64 2 4 = 6 := by decide +kernel
      clear hx
      go_still_tail 11, (by kernel_rfl)
      change wpList _ _ _ _ _ wx.drew
      go_wp2_with fail
      clear c0 c1 d1 n0 f0
      rw [o1]
      have HY := Lib.hid ((HX.out.set 0 (.int .u64 6)).kept (Chg.drew _ _))
      have hy : ((wx.setCell ⟨nb, 0, none⟩ (.int .u64 6)).drew).heap[x]? = some (.cells #[.int .i64 0, .int .i64 2] 154 (0, 0)) := pair_set HXX.out _ HN.out
      generalize (wx.setCell ⟨nb, 0, none⟩ (.int .u64 6)).drew = wy at *
      have c0 : wy.drew.cell? ⟨x, 0, none⟩ = some (.int .i64 0) := by rw [cell_of_block (w := wy.drew) hy]; rfl
      have c1 : wy.drew.cell? ⟨x, 1, none⟩ = some (.int .i64 2) := by rw [cell_of_block (w := wy.drew) hy]; rfl
      have d1 : wy.drew.cell? ⟨cb, 1, none⟩ = some (.slice (some ⟨nb, 0, none⟩) 5 5) := by rw [cell_of_block (w := wy.drew) HY.out.n4]; rfl
      have n0 : wy.drew.cell? ⟨nb, 2, none⟩ = some (.int .u64 0) := by rw [cell_of_block (w := wy.drew) HY.out.n2]; rfl
      have f0 : wy.drew.frozen? ⟨nb, 2, none⟩ = false := frozen_of_block (w := wy.drew) HY.out.n2 2
      have o2 : bits BinOp.or IntKind.u64 0 1 = 1 := by decide +kernel
      clear hy o1
      go_still_tail 11, (by kernel_rfl)
      change wpList _ _ _ _ _ wy.drew
      go_wp2_with fail
      exact ⟨⟨2, by omega, rfl, (HY.out.set 2 (.int .u64 1)).kept (Chg.drew _ _)⟩, by simp [intOf]⟩
    · have q0 : wr.cell? ⟨pb, 4, none⟩ = some (.int .i64 1) := by rw [cell_of_block HF.out.n5]; rfl
      have q1 : wr.cell? ⟨pb, 5, none⟩ = some (.int .i64 2) := by rw [cell_of_block HF.out.n5]; rfl
      go_wp2_with fail
      have hl := HF.out.lt
      have hxl := lt_of_block HF.out.n5
      have hx := block_alloc wr (.cells #[.int .i64 1, .int .i64 2] 154)
      have HX := Lib.hid (HF.out.kept (Chg.alloc (fun _ => False) wr (.cells #[.int .i64 1, .int .i64 2] 154)))
      obtain ⟨x, hxe⟩ : ∃ x, x = wr.heap.size := ⟨_, rfl⟩
      rw [← hxe] at hx ⊢
      have HN := Lib.hid (show x ≠ nb by omega)
      clear q0 q1 hl hxl hxe
      generalize wr.alloc (.cells #[.int .i64 1, .int .i64 2] 154) = wx at *
      have HXX := Lib.hid hx
      have c0 : wx.drew.cell? ⟨x, 0, none⟩ = some (.int .i64 1) := by rw [cell_of_block (w := wx.drew) hx]; rfl
      have c1 : wx.drew.cell? ⟨x, 1, none⟩ = some (.int .i64 2) := by rw [cell_of_block (w := wx.drew) hx]; rfl
      have d1 : wx.drew.cell? ⟨cb, 1, none⟩ = some (.slice (some ⟨nb, 0, none⟩) 5 5) := by rw [cell_of_block (w := wx.drew) HX.out.n4]; rfl
      have n0 : wx.drew.cell? ⟨nb, 1, none⟩ = some (.int .u64 1) := by rw [cell_of_block (w := wx.drew) HX.out.n2]; rfl
      have f0 : wx.drew.frozen? ⟨nb, 1, none⟩ = false := frozen_of_block (w := wx.drew) HX.out.n2 1
      have o1 : bits BinOp.or IntKind.u64 1 4 = 5 := by decide +kernel
      clear hx
      go_still_tail 11, (by kernel_rfl)
      change wpList _ _ _ _ _ wx.drew
      go_wp2_with fail
      clear c0 c1 d1 n0 f0
      rw [o1]
      have HY := Lib.hid ((HX.out.set 1 (.int .u64 5)).kept (Chg.drew _ _))
      have hy : ((wx.setCell ⟨nb, 1, none⟩ (.int .u64 5)).drew).heap[x]? = some (.cells #[.int .i64 1, .int .i64 2] 154 (0, 0)) := pair_set HXX.out _ HN.out
      generalize (wx.setCell ⟨nb, 1, none⟩ (.int .u64 5)).drew = wy at *
      have c0 : wy.drew.cell? ⟨x, 0, none⟩ = some (.int .i64 1) := by rw [cell_of_block (w := wy.drew) hy]; rfl
      have c1 : wy.drew.cell? ⟨x, 1, none⟩ = some (.int .i64 2) := by rw [cell_of_block (w := wy.drew) hy]; rfl
      have d1 : wy.drew.cell? ⟨cb, 1, none⟩ = some (.slice (some ⟨nb, 0, none⟩) 5 5) := by rw [cell_of_block (w := wy.drew) HY.out.n4]; rfl
      have n0 : wy.drew.cell? ⟨nb, 2, none⟩ = some (.int .u64 1) := by rw [cell_of_block (w := wy.drew) HY.out.n2]; rfl
      have f0 : wy.drew.frozen? ⟨nb, 2, none⟩ = false := frozen_of_block (w := wy.drew) HY.out.n2 2
      have o2 : bits BinOp.or IntKind.u64 1 2 = 3 := by decide +kernel
      clear hy o1
      go_still_tail 11, (by kernel_rfl)
      change wpList _ _ _ _ _ wy.drew
      go_wp2_with fail
      exact ⟨⟨3, by omega, rfl, (HY.out.set 2 (.int .u64 3)).kept (Chg.drew _ _)⟩, by simp [intOf]⟩
    · have q0 : wr.cell? ⟨pb, 6, none⟩ = some (.int .i64 1) := by rw [cell_of_block HF.out.n5]; rfl
      have q1 : wr.cell? ⟨pb, 7, none⟩ = some (.int .i64 3) := by rw [cell_of_block HF.out.n5]; rfl
      go_wp2_with fail
      have hl := HF.out.lt
      have hxl := lt_of_block HF.out.n5
      have hx := block_alloc wr (.cells #[.int .i64 1, .int .i64 3] 154)
      have HX := Lib.hid (HF.out.kept (Chg.alloc (fun _ => False) wr (.cells #[.int .i64 1, .int .i64 3] 154)))
      obtain ⟨x, hxe⟩ : ∃ x, x = wr.heap.size := ⟨_, rfl⟩
      rw [← hxe] at hx ⊢
      have HN := Lib.hid (show x ≠ nb by omega)
      clear q0 q1 hl hxl hxe
      generalize wr.alloc (.cells #[.int .i64 1, .int .i64 3] 154) = wx at *
      have HXX := Lib.hid hx
      have c0 : wx.drew.cell? ⟨x, 0, none⟩ = some (.int .i64 1) := by rw [cell_of_block (w := wx.drew) hx]; rfl
      have c1 : wx.drew.cell? ⟨x, 1, none⟩ = some (.int .i64 3) := by rw [cell_of_block (w := wx.drew) hx]; rfl
      have d1 : wx.drew.cell? ⟨cb, 1, none⟩ = some (.slice (some ⟨nb, 0, none⟩) 5 5) := by rw [cell_of_block (w := wx.drew) HX.out.n4]; rfl
      have n0 : wx.drew.cell? ⟨nb, 1, none⟩ = some (.int .u64 5) := by rw [cell_of_block (w := wx.drew) HX.out.n2]; rfl
      have f0 : wx.drew.frozen? ⟨nb, 1, none⟩ = false := frozen_of_block (w := wx.drew) HX.out.n2 1
      have o1 : bits BinOp.or IntKind.u64 5 8 = 13 := by decide +kernel
      clear hx
      go_still_tail 11, (by kernel_rfl)
      change wpList _ _ _ _ _ wx.drew
      go_wp2_with fail
      clear c0 c1 d1 n0 f0
      rw [o1]
      have HY := Lib.hid ((HX.out.set 1 (.int .u64 13)).kept (Chg.drew _ _))
      have hy : ((wx.setCell ⟨nb, 1, none⟩ (.int .u64 13)).drew).heap[x]? = some (.cells #[.int .i64 1, .int .i64 3] 154 (0, 0)) := pair_set HXX.out _ HN.out
      generalize (wx.setCell ⟨nb, 1, none⟩ (.int .u64 13)).drew = wy at *
      have c0 : wy.drew.cell? ⟨x, 0, none⟩ = some (.int .i64 1) := by rw [cell_of_block (w := wy.drew) hy]; rfl
      have c1 : wy.drew.cell? ⟨x, 1, none⟩ = some (.int .i64 3) := by rw [cell_of_block (w := wy.drew) hy]; rfl
      have d1 : wy.drew.cell? ⟨cb, 1, none⟩ = some (.slice (some ⟨nb, 0, none⟩) 5 5) := by rw [cell_of_block (w := wy.drew) HY.out.n4]; rfl
      have n0 : wy.drew.cell? ⟨nb, 3, none⟩ = some (.int .u64 0) := by rw [cell_of_block (w := wy.drew) HY.out.n2]; rfl
      have f0 : wy.drew.frozen? ⟨nb, 3, none⟩ = false := frozen_of_block (w := wy.drew) HY.out.n2 3
      have o2 : bits BinOp.or IntKind.u64 0 2 = 2 := by decide +kernel
      clear hy o1
      go_still_tail 11, (by kernel_rfl)
      change wpList _ _ _ _ _ wy.drew
      go_wp2_with fail
      exact ⟨⟨4, by omega, rfl, (HY.out.set 3 (.int .u64 2)).kept (Chg.drew _ _)⟩, by simp [intOf]⟩
    · have q0 : wr.cell? ⟨pb, 8, none⟩ = some (.int .i64 2) := by rw [cell_of_block HF.out.n5]; rfl
      have q1 : wr.cell? ⟨pb, 9, none⟩ = some (.int .i64 3) := by rw [cell_of_block HF.out.n5]; rfl
      go_wp2_with fail
      have hl := HF.out.lt
      have hxl := lt_of_block HF.out.n5
      have hx := block_alloc wr (.cells #[.int .i64 2, .int .i64 3] 154)
      have HX := Lib.hid (HF.out.kept (Chg.alloc (fun _ => False) wr (.cells #[.int .i64 2, .int .i64 3] 154)))
      obtain ⟨x, hxe⟩ : ∃ x, x = wr.heap.size := ⟨_, rfl⟩
      rw [← hxe] at hx ⊢
      have HN := Lib.hid (show x ≠ nb by omega)
      clear q0 q1 hl hxl hxe
      generalize wr.alloc (.cells #[.int .i64 2, .int .i64 3] 154) = wx at *
      have HXX := Lib.hid hx
      have c0 : wx.drew.cell? ⟨x, 0, none⟩ = some (.int .i64 2) := by rw [cell_of_block (w := wx.drew) hx]; rfl
      have c1 : wx.drew.cell? ⟨x, 1, none⟩ = some (.int .i64 3) := by rw [cell_of_block (w := wx.drew) hx]; rfl
      have d1 : wx.drew.cell? ⟨cb, 1, none⟩ = some (.slice (some ⟨nb, 0, none⟩) 5 5) := by rw [cell_of_block (w := wx.drew) HX.out.n4]; rfl
      have n0 : wx.drew.cell? ⟨nb, 2, none⟩ = some (.int .u64 3) := by rw [cell_of_block (w := wx.drew) HX.out.n2]; rfl
      have f0 : wx.drew.frozen? ⟨nb, 2, none⟩ = false := frozen_of_block (w := wx.drew) HX.out.n2 2
      have o1 : bits BinOp.or IntKind.u64 3 8 = 11 := by decide +kernel
      clear hx
      go_still_tail 11, (by kernel_rfl)
      change wpList _ _ _ _ _ wx.drew
      go_wp2_with fail
      clear c0 c1 d1 n0 f0
      rw [o1]
      have HY := Lib.hid ((HX.out.set 2 (.int .u64 11)).kept (Chg.drew _ _))
      have hy : ((wx.setCell ⟨nb, 2, none⟩ (.int .u64 11)).drew).heap[x]? = some (.cells #[.int .i64 2, .int .i64 3] 154 (0, 0)) := pair_set HXX.out _ HN.out
      generalize (wx.setCell ⟨nb, 2, none⟩ (.int .u64 11)).drew = wy at *
      have c0 : wy.drew.cell? ⟨x, 0, none⟩ = some (.int .i64 2) := by rw [cell_of_block (w := wy.drew) hy]; rfl
      have c1 : wy.drew.cell? ⟨x, 1, none⟩ = some (.int .i64 3) := by rw [cell_of_block (w := wy.drew) hy]; rfl
      have d1 : wy.drew.cell? ⟨cb, 1, none⟩ = some (.slice (some ⟨nb, 0, none⟩) 5 5) := by rw [cell_of_block (w := wy.drew) HY.out.n4]; rfl
      have n0 : wy.drew.cell? ⟨nb, 3, none⟩ = some (.int .u64 2) := by rw [cell_of_block (w := wy.drew) HY.out.n2]; rfl
      have f0 : wy.drew.frozen? ⟨nb, 3, none⟩ = false := frozen_of_block (w := wy.drew) HY.out.n2 3
      have o2 : bits BinOp.or IntKind.u64 2 4 = 6 := by decide +kernel
      clear hy o1
      go_still_tail 11, (by kernel_rfl)
      change wpList _ _ _ _ _ wy.drew
      go_wp2_with fail
      exact ⟨⟨5, by omega, rfl, (HY.out.set 3 (.int .u64 6)).kept (Chg.drew _ _)⟩, by simp [intOf]⟩
    · have q0 : wr.cell? ⟨pb, 10, none⟩ = some (.int .i64 3) := by rw [cell_of_block HF.out.n5]; rfl
      have q1 : wr.cell? ⟨pb, 11, none⟩ = some (.int .i64 4) := by rw [cell_of_block HF.out.n5]; rfl
      go_wp2_with fail
      have hl := HF.out.lt
      have hxl := lt_of_block HF.out.n5
      have hx := block_alloc wr (.cells #[.int .i64 3, .int .i64 4] 154)
      have HX := Lib.hid (HF.out.kept (Chg.alloc (fun _ => False) wr (.cells #[.int .i64 3, .int .i64 4] 154)))
      obtain ⟨x, hxe⟩ : ∃ x, x = wr.heap.size := ⟨_, rfl⟩
      rw [← hxe] at hx ⊢
      have HN := Lib.hid (show x ≠ nb by omega)
      clear q0 q1 hl hxl hxe
      generalize wr.alloc (.cells #[.int .i64 3, .int .i64 4] 154) = wx at *
      have HXX := Lib.hid hx
      have c0 : wx.drew.cell? ⟨x, 0, none⟩ = some (.int .i64 3) := by rw [cell_of_block (w := wx.drew) hx]; rfl
      have c1 : wx.drew.cell? ⟨x, 1, none⟩ = some (.int .i64 4) := by rw [cell_of_block (w := wx.drew) hx]; rfl
      have d1 : wx.drew.cell? ⟨cb, 1, none⟩ = some (.slice (some ⟨nb, 0, none⟩) 5 5) := by rw [cell_of_block (w := wx.drew) HX.out.n4]; rfl
      have n0 : wx.drew.cell? ⟨nb, 3, none⟩ = some (.int .u64 6) := by rw [cell_of_block (w := wx.drew) HX.out.n2]; rfl
      have f0 : wx.drew.frozen? ⟨nb, 3, none⟩ = false := frozen_of_block (w := wx.drew) HX.out.n2 3
      have o1 : bits BinOp.or IntKind.u64 6 16 = 22 := by decide +kernel
      clear hx
      go_still_tail 11, (by kernel_rfl)
      change wpList _ _ _ _ _ wx.drew
      go_wp2_with fail
      clear c0 c1 d1 n0 f0
      rw [o1]
      have HY := Lib.hid ((HX.out.set 3 (.int .u64 22)).kept (Chg.drew _ _))
      have hy : ((wx.setCell ⟨nb, 3, none⟩ (.int .u64 22)).drew).heap[x]? = some (.cells #[.int .i64 3, .int .i64 4] 154 (0, 0)) := pair_set HXX.out _ HN.out
      generalize (wx.setCell ⟨nb, 3, none⟩ (.int .u64 22)).drew = wy at *
      have c0 : wy.drew.cell? ⟨x, 0, none⟩ = some (.int .i64 3) := by rw [cell_of_block (w := wy.drew) hy]; rfl
      have c1 : wy.drew.cell? ⟨x, 1, none⟩ = some (.int .i64 4) := by rw [cell_of_block (w := wy.drew) hy]; rfl
      have d1 : wy.drew.cell? ⟨cb, 1, none⟩ = some (.slice (some ⟨nb, 0, none⟩) 5 5) := by rw [cell_of_block (w := wy.drew) HY.out.n4]; rfl
      have n0 : wy.drew.cell? ⟨nb, 4, none⟩ = some (.int .u64 0) := by rw [cell_of_block (w := wy.drew) HY.out.n2]; rfl
      have f0 : wy.drew.frozen? ⟨nb, 4, none⟩ = false := frozen_of_block (w := wy.drew) HY.out.n2 4
      have o2 : bits BinOp.or IntKind.u64 0 8 = 8 := by decide +kernel
      clear hy o1
      go_still_tail 11, (by kernel_rfl)
      change wpList _ _ _ _ _ wy.drew
      go_wp2_with fail
      exact ⟨⟨6, by omega, rfl, (HY.out.set 4 (.int .u64 8)).kept (Chg.drew _ _)⟩, by simp [intOf]⟩
    · obtain ⟨b0, b1, b2, b3, b4, b5, b6, b7, b8⟩ := cell9 HF.out.n4
      obtain ⟨a0, a1, a2, a3, a4, a5, a6, a7, a8⟩ := cell9 HF.out.n1
      have f0 := frozen_of_block HF.out.n1 0
      have f1 := frozen_of_block HF.out.n1 1
      have f2 := frozen_of_block HF.out.n1 2
      have f3 := frozen_of_block HF.out.n1 3
      have f4 := frozen_of_block HF.out.n1 4
      have f5 := frozen_of_block HF.out.n1 5
      have f6 := frozen_of_block HF.out.n1 6
      have f7 := frozen_of_block HF.out.n1 7
      have f8 := frozen_of_block HF.out.n1 8
      go_wp2_with fail
      have hl := HF.out.lt
      have B := block_set (block_set (block_set (block_set (block_set (block_set (block_set (block_set (block_set HF.out.n1 0 (.int .i64 5)) 1 (.slice (some ⟨nb, 0, none⟩) 5 5)) 2 (.slice (some ⟨hb, 0, none⟩) 4 4)) 3 (.int .i64 300)) 4 (.int .i64 3)) 5 (.int .i64 20)) 6 (.int .i64 60)) 7 (.int .i64 8)) 8 (.int .i64 10)
      have G : Chg (fun q => q = n) wr _ := ((((((((Chg.set (S := fun q => q = n) wr ⟨n, 0, none⟩ (.int .i64 5) rfl).trans (Chg.set _ ⟨n, 1, none⟩ (.slice (some ⟨nb, 0, none⟩) 5 5) rfl)).trans (Chg.set _ ⟨n, 2, none⟩ (.slice (some ⟨hb, 0, none⟩) 4 4) rfl)).trans (Chg.set _ ⟨n, 3, none⟩ (.int .i64 300) rfl)).trans (Chg.set _ ⟨n, 4, none⟩ (.int .i64 3) rfl)).trans (Chg.set _ ⟨n, 5, none⟩ (.int .i64 20) rfl)).trans (Chg.set _ ⟨n, 6, none⟩ (.int .i64 60) rfl)).trans (Chg.set _ ⟨n, 7, none⟩ (.int .i64 8) rfl)).trans (Chg.set _ ⟨n, 8, none⟩ (.int .i64 10) rfl)
      have N2 := Chg.keep G HF.out.n2 (by omega)
      have N3 := Chg.keep G HF.out.n3 (by omega)
      have GG : Chg (fun q => w.heap.size ≤ q) wr _ := G.mono (fun q _ e => by omega)
      have G2 := (HF.out.g.none.trans GG).fresh
      clear a0 a1 a2 a3 a4 a5 a6 a7 a8 b0 b1 b2 b3 b4 b5 b6 b7 b8 f0 f1 f2 f3 f4 f5 f6 f7 f8 G GG
      generalize ((((((((wr.setCell ⟨n, 0, none⟩ _).setCell ⟨n, 1, none⟩ _).setCell ⟨n, 2, none⟩ _).setCell ⟨n, 3, none⟩ _).setCell ⟨n, 4, none⟩ _).setCell ⟨n, 5, none⟩ _).setCell ⟨n, 6, none⟩ _).setCell ⟨n, 7, none⟩ _).setCell ⟨n, 8, none⟩ _ = wz at *
      have B : wz.heap[n]? = some (.cells #[.int .i64 5, .slice (some ⟨nb, 0, none⟩) 5 5, .slice (some ⟨hb, 0, none⟩) 4 4, .int .i64 300, .int .i64 3, .int .i64 20, .int .i64 60, .int .i64 8, .int .i64 10] 26 (0, 0)) := B
      obtain ⟨k0, k1, k2, k3, k4, k5, k6, k7, k8⟩ := cell9 B
      exact bodyPost_ret (v := cfgV c5 (.slice (some ⟨nb, 0, none⟩) 5 5) (.slice (some ⟨hb, 0, none⟩) 4 4)) (by simp [results, Tryz.results42, go_sem, cfgV, c5, k0, k1, k2, k3, k4, k5, k6, k7, k8]) rfl ⟨nb, hb, rfl, N2, N3, by omega, by omega, G2⟩
end Go.Proofs.YtnpihllannobgaaGreatDoor
namespace Go.Proofs.YtnpihllannobgaaGreatDoor
set_option linter.unusedVariables false
set_option linter.unusedSimpArgs false

def d5 : Dr := ⟨[0, 0, 0, 0, 0, 0, 0, 0, 0, 0, 0, 0, 0, 0, 0, 0], [], [], []⟩
theorem c5_ok : CfgOk c5 := by
  refine ⟨by decide, by decide, rfl, ?_, ⟨by decide, by decide, by decide, by decide⟩, by decide, by decide, by decide, by decide, by decide, by decide⟩
  intro i z hz
  have hz : ([6, 13, 11, 22, 8] : List Int)[i]? = some z := hz
  show 0 ≤ z ∧ z < 65536 ∧ z < 2 ^ 5 ∧ z / 2 ^ i % 2 = 0
  match i, hz with
  | 0, hz => cases hz; decide
  | 1, hz => cases hz; decide
  | 2, hz => cases hz; decide
  | 3, hz => cases hz; decide
  | 4, hz => cases hz; decide
  | (n + 5), hz => simp at hz
/-- all but node 0 are out of time. -/
structure Un5 (t : Int) (x : WM) : Prop where
  a0 : Zs (absN (x.nd 0))
  a : ∀ i, i < 5 → i ≠ 0 → Us t (absN (x.nd i))
theorem Un5.ok {t : Int} {x : WM} (h : Un5 t x) : ∀ i, i < 5 → AOk 5 i (absN (x.nd i)) := by
  intro i hi
  by_cases h0 : i = 0
  · subst h0; exact h.a0.ok
  · exact (h.a i hi h0).ok h0
theorem un5_new : Good c5 0 0 (newW c5) ∧ Un5 0 (newW c5) := by
  have e : ∀ i, i < 5 → (newW c5).nd i = newN i := fun i hi => newW_nd c5 i hi
  have hU : Un5 0 (newW c5) := ⟨by rw [e 0 (by decide)]; exact ⟨rfl, rfl⟩, fun i hi h0 => by rw [e i hi]; exact ⟨by show ((i : Int) == 0) = false; simp; exact h0, rfl, rfl, rfl⟩⟩
  refine ⟨⟨by simp [newW], fun i hi => by rw [e i hi]; exact nb_new i, fun i hi => by rw [e i hi]; rfl, hU.ok, ?_, rfl⟩, hU⟩
  refine ⟨by simp [newW], fun z hz => ?_⟩
  have hz : z ∈ ([0, -1, -1, -1, -1] : List Int) := hz
  simp at hz
  omega
theorem un5_step {t K : Int} {x : WM} (ht : 0 ≤ t ∧ t ≤ 50) (hK : 0 ≤ K ∧ K ≤ 100000) (g : Good c5 t K x) (h : Un5 t x) :
    Good c5 (t + 1) (K + 4) (noEvW (slot5W c5 d5 5 t x)) ∧ SlotOk c5 d5 t x ∧ Un5 (t + 1) (noEvW (slot5W c5 d5 5 t x)) := by
  have hs : Sim c5 d5 t x := g.sim c5_ok (by omega) (fun i => rfl) (by show 2 * (t + 1) ≤ 300; omega)
  have hq : ∀ i, i < 5 → (i = 0 → Zs (endA c5.loss i (absN (vQ c5 d5 t x i)) t)) ∧ (i ≠ 0 → Us (t + 1) (endA c5.loss i (absN (vQ c5 d5 t x i)) t)) ∧ Nb (t + 1) (t + 1) (vQ c5 d5 t x i) := by
    intro i hi
    by_cases h5 : t % 5 = 0
    · have k : Snds c5 d5 t x 0 := hs.snds h.ok (show 0 < 5 by decide) h5 h.a0.1
      obtain ⟨e1, e2⟩ := k.all hs (k.beacon_w (show 5 ≤ 16 by decide) (kd_root k)) (show i < c5.nodes from hi)
      rw [e1]
      refine ⟨fun h0 => ?_, fun h0 => ?_, e2⟩
      · rw [if_pos h0]; subst h0; exact h.a0.next
      · rw [if_neg h0, hd_deaf (h.a i hi h0) (show t < 60 by omega)]; exact (h.a i hi h0).next i
    · have k : Mute c5 d5 t x := fun q hq e => by
        have hq : q < 5 := hq
        have e2 : t % 5 = (q : Int) := e.2
        by_cases h0 : q = 0
        · exact h5 (by rw [e2, h0]; rfl)
        · have e1 : (absN (x.nd q)).syn = true := e.1
          rw [(h.a q hq h0).1] at e1; cases e1
      obtain ⟨e1, e2⟩ := k.abs hs (show i < c5.nodes from hi)
      rw [e1]
      refine ⟨fun h0 => ?_, fun h0 => ?_, e2⟩
      · subst h0; exact h.a0.next
      · exact (h.a i hi h0).next i
  have hn := g.next hs (by omega) (fun i hi => by
    by_cases h0 : i = 0
    · have := (hq i hi).1 h0; subst h0; exact this.ok
    · exact ((hq i hi).2.1 h0).ok h0) (fun i hi => (hq i hi).2.2)
  obtain ⟨g1, g2, g3, g4⟩ := hn
  refine ⟨?_, g2, ?_, fun i hi h0 => ?_⟩
  · have e : K + 1 + c5.err = K + 4 := by show K + 1 + 3 = K + 4; omega
    rw [e] at g1; exact g1
  · have := g4 0 (show 0 < 5 by decide)
    show Zs (absN ((noEvW (slot5W c5 d5 c5.nodes t x)).nd 0))
    rw [this]; exact (hq 0 (by decide)).1 rfl
  · have := g4 i hi
    show Us (t + 1) (absN ((noEvW (slot5W c5 d5 c5.nodes t x)).nd i))
    rw [this]; exact (hq i hi).2.1 h0
def w5a : WM := slot5W c5 d5 5 0 (newW c5)
def w5b : WM := slot5W c5 d5 5 1 (noEvW w5a)
theorem w5_facts : w5a.ev.length = 0 ∧ w5b.ev.length = 0 ∧ atL w5b.bound 3 = -1 ∧ atL w5b.bound 0 = 0 ∧ offN (w5b.nd 3) = 0 := by decide +kernel
end Go.Proofs.YtnpihllannobgaaGreatDoor
