/- What the Go text of 'DupRow' does, walked: it returns true, and nothing that was there has turned. No condition. -/
import Derived.Test.YtciekkenheiedaaL
namespace Go.Proofs.Ytciekkenheiedaa
set_option linter.unusedVariables false
open Go.ChangeShapes Go.WideShapes Go.ChangeAt Go.RowKit

def V (z : Int) : Value := .int .i64 z
theorem put_new {f : Seen} {k n : Int} {p : Int × Nat} (hm : may k n = true) (h : nw (f k) n = some p) : nextf f k n = upd f k p ∧ isnew f k n = true := by
  unfold nextf isnew; rw [hm, h]; exact ⟨rfl, rfl⟩
theorem put_no {f : Seen} {k n : Int} (h : nw (f k) n = none) : nextf f k n = f ∧ isnew f k n = false := by
  unfold nextf isnew; rw [h]; simp
theorem upd_at (f : Seen) (k : Int) (p : Int × Nat) : upd f k p k = some p := by unfold upd; rw [if_pos rfl]

theorem Try.info3 : (Try.prog.info? 3).map (fun i => (i.zero, i.size, i.bytes)) = some (some (.int .i64 0), 1, 8) := by kernel_rfl
theorem info_parts : ∃ i, Try.prog.info? 3 = some i ∧ i.zero = some (.int .i64 0) ∧ i.size = 1 ∧ i.bytes = 8 := by
  obtain ⟨i0, hi, hx⟩ := Option.map_eq_some_iff.1 Try.info3
  simp only [Prod.mk.injEq] at hx
  exact ⟨i0, hi, hx⟩
theorem chg_grown {S : Nat → Prop} {w w' : World} {row : Option Nat} (h : w.grownBy w' row) (hr : ∀ k, row = some k → S k) : Chg S w w' :=
  ⟨h.os, h.tape, h.output, h.size, fun k hk hn => h.block k hk (fun e => hn (hr k e.symm))⟩
theorem own_chg {S : Nat → Prop} {w w' : World} {base e size n : Nat} {v : Value} {xs : List Value} (h : w.ownsRow base e size v n xs) (g : Chg S w w') (hS : ∀ k, v.ownBlock = some k → ¬ S k) : w'.ownsRow base e size v n xs := by
  refine ⟨h.1, ?_⟩
  rcases h.2 with hn | ⟨k, cap, cur, rfl, hb, hgg, rest⟩
  · exact .inl hn
  · exact .inr ⟨k, cap, cur, rfl, hb, Chg.keep g hgg (hS k rfl), rest⟩

/-- k steps are done: the row 'zs' of numbers lies in v. -/
structure RowAt (w : World) (base b m k : Nat) (N : Int) (v : Value) (zs : List Int) (f : Seen) (wr : World) : Prop where
  win : Wk wr b m f
  fine : Fine f
  own : wr.ownsRow base 3 1 v k (zs.map V)
  lo : 0 ≤ N
  hi : N ≤ 1099511627776 + 200 * k
  top : ∀ q, f 2 = some q → q.1 ≤ N
  known : ∀ x ∈ zs, Known (f 2) x ∧ x ≤ N
  chg : Chg (fun j => w.heap.size ≤ j) w wr
  hb : w.heap.size ≤ b
  hm : w.heap.size ≤ m
  bb : b < base
  mb : m < base
  bw : base ≤ wr.heap.size

theorem RowAt.next {f : Seen} {N n' : Int} {zs : List Int} (h : Fine f) (hN : 0 ≤ N) (hn : N < n') (top : ∀ q, f 2 = some q → q.1 ≤ N) (known : ∀ x ∈ zs, Known (f 2) x ∧ x ≤ N) :
    isnew f 2 n' = true ∧ (∀ q, nextf f 2 n' 2 = some q → q.1 ≤ n') ∧ ∀ x ∈ zs ++ [n'], Known (nextf f 2 n' 2) x ∧ x ≤ n' := by
  obtain ⟨p, hp⟩ := nw_above (s := f 2) (n := n') (fun q hq => by have := top q hq; omega)
  obtain ⟨h1, h2⟩ := put_new (f := f) (k := 2) (may_is.2 ⟨by omega, by omega, by omega⟩) hp
  rw [h1, h2, upd_at]
  refine ⟨rfl, fun q hq => ?_, fun x hx => ?_⟩
  · cases hq
    obtain ⟨h3, h4, h5⟩ := nw_top hp
    cases hf : f 2 with
    | none => rw [h5 hf]; omega
    | some q => have := h4 q hf; have := top q hf; omega
  · simp only [List.mem_append, List.mem_singleton] at hx
    rcases hx with hx | rfl
    · exact ⟨known_keep hp (known x hx).1, by have := (known x hx).2; omega⟩
    · exact ⟨known_new hp, Int.le_refl _⟩

set_option maxRecDepth 100000 in
set_option maxHeartbeats 4000000 in
theorem dupRow_walk (y : Int) (a : Option Addr) (len cap : Nat) (zs0 : List Int) (w : World) (hs : Sl (fun z => Value.int .i64 z) w a len zs0) :
    Calls Try.prog 4 #[.int .i64 y, .slice a len cap] w (PTrue w) := by
  have hl := hs.len
  obtain ⟨n0, hn1, hn2⟩ := umod y 1099511627776 (by omega) (by omega)
  obtain ⟨i0, hi, hz0, hz1, hz2⟩ := info_parts
  have HI := Lib.hid hi
  have HZ0 := Lib.hid hz0
  have HZ1 := Lib.hid hz1
  have HZ2 := Lib.hid hz2
  clear hi hz0 hz1 hz2
  go_enter Try.func4, Try.ntmps4
  go_wp2_with fail
  refine (new_any _).mono ?_
  rintro e w1 ⟨b, m, rfl, k1, hb, hm, hbl, hml, g1⟩
  have R0 : RowAt w w1.heap.size b m 0 n0 (.slice none 0 0) [] (fun _ => none) w1 :=
    ⟨k1, Fine.none, World.ownsRow_nil _ _ _ _, by omega, by omega, (fun q hq => by cases hq), (fun x hx => by cases hx), g1.none, hb, hm, hbl, hml, Nat.le_refl _⟩
  clear k1 g1 hb hm hbl hml
  generalize w1.heap.size = base at *
  go_wp2_with fail
  go_loopw [6, 7, 19] (fun u6 u7 i wr => ∃ (k : Nat) (N : Int) (v : Value) (zs : List Int) (f : Seen), k ≤ len ∧ k ≤ 60 ∧ u6 = .int .i64 N ∧ u7 = v ∧ i = .int .i64 k ∧ RowAt w base b m k N v zs f wr) (fun _ _ i _ => len - (intOf i).toNat)
  case atStart => exact ⟨0, n0, _, [], _, by omega, by omega, congrArg _ hn2, rfl, rfl, R0⟩
  case round =>
    obtain ⟨k, N, v, zs, f, hk, hk60, rfl, rfl, rfl, hR⟩ := hrel
    clear R0 hn1 hn2
    have HR := Lib.hid hR
    clear hR
    by_cases hgo : k < len ∧ k < 60
    · obtain ⟨hlt, h60⟩ := hgo
      obtain ⟨p, z, rfl, hz, hc⟩ := hs.at HR.out.chg hlt
      obtain ⟨t, ht1, ht2⟩ := umod z 200 (by omega) (by omega)
      have hN0 := HR.out.lo
      have hN1 := HR.out.hi
      have ht3 : (t : Int) < 200 := ht1
      have hNb : N ≤ 1099511640000 := by omega
      have hM : N < N + (1 + t) ∧ N + (1 + t) ≤ 1099511627776 + 200 * ((k + 1 : Nat) : Int) ∧ N + (1 + t) ≤ 1099511650000 := by omega
      have HM := Lib.hid hM
      clear hz hM hN1 hs ht1
      go_wp2_with (at_builtin; go_loud (refine wpList_append_own _ rfl (.tmp 33) (.tmp 35) 33 rfl base 3 i0 (.int .i64 0) 1 8 Try.underlying33 HI.out HZ0.out HZ1.out HZ2.out rfl (by decide) u7 k (zs.map V) rfl (HR.out.own.alloc _) ⟨wr.heap.size, 0, none⟩ 1 1 [.int .i64 (N + (1 + t))] rfl rfl ?c1 ?c2 (by unfold maxLen; omega) (by omega) ?hb ?grow))
      case c1 => intro j u hj; match j, hj with | 0, hj => simp at hj; subst hj; simp [Addr.add]
      case c2 => intro u hu; simp at hu; subst hu; rfl
      case hb => exact Nat.le_trans HR.out.bw (Chg.alloc (fun _ => False) wr _).size
      case grow =>
        intro v' w' hown hgr hnil
        have hR := HR.out
        have gA := Chg.alloc (fun _ => False) wr (.cells #[.int .i64 (N + (1 + t))] 3)
        have ga := chg_grown (S := fun j => base ≤ j) hgr (fun j hj => (hR.own.lt j hj).1)
        have hbb := hR.bb
        have hmb := hR.mb
        have hb0 := hR.hb
        have W2 := (hR.win.kept gA).keep ga (by omega) (by omega)
        have G2 : Chg (fun j => w.heap.size ≤ j) w w' := (hR.chg.trans gA.none).trans (ga.mono (fun j _ hj => by omega))
        have hsz : wr.heap.size ≤ w'.heap.size := Nat.le_trans gA.size ga.size
        have HW2 := Lib.hid W2
        have HG2 := Lib.hid G2
        have HO := Lib.hid hown
        have HSZ := Lib.hid hsz
        clear hgr ga gA hR W2 G2 hown hnil hbb hmb hb0 hsz hN0 hNb
        generalize N + (1 + (t : Int)) = M at *
        have hM3 : M ≤ 1099511650000 := HM.out.2.2
        go_wp2_with fail
        refine (put_any _ b m f 2 M HW2.out HR.out.fine (by omega)).mono ?_
        obtain ⟨n1, n2, n3⟩ := RowAt.next (n' := M) HR.out.fine HR.out.lo HM.out.1 HR.out.top HR.out.known
        rw [n1]
        have hf' := HR.out.fine.next 2 M (by omega)
        have R' : ∀ w3 : World, Wk w3 b m (nextf f 2 M) → Chg (· = m) w' w3 → RowAt w base b m (k + 1) M v' (zs ++ [M]) (nextf f 2 M) w3 := fun w3 W3 G3 =>
          ⟨W3, hf', by rw [List.map_append]; exact own_chg HO.out G3 (fun j hj e => by have := (HO.out.lt j hj).1; have := HR.out.mb; omega), by have := HR.out.lo; have := HM.out.1; omega, HM.out.2.1, n2, n3,
            HG2.out.trans (G3.mono (fun j _ e => e ▸ HR.out.hm)), HR.out.hb, HR.out.hm, HR.out.bb, HR.out.mb, by have := HR.out.bw; have := HSZ.out; have := G3.size; omega⟩
        have HR' := Lib.hid R'
        clear R' n1 n2 n3 hf'
        rintro e w3 ⟨rfl, W3, G3⟩
        have R3 := Lib.hid (HR'.out w3 W3 G3)
        clear W3 G3 HR' HW2 HG2 HO HSZ
        go_wp2_with fail
        go_roundw
        case measure => simp [intOf]; omega
        case rel => exact ⟨k + 1, M, v', zs ++ [M], _, by omega, by omega, rfl, rfl, rfl, R3.out⟩
    · rcases HR.out.own.2 with ⟨rfl, rfl⟩ | ⟨g, cap', cur, rfl, hgb, hgg, hkc, hcm, hcs, htk⟩
      · have h0 : len = 0 := by omega
        clear hgo hs
        subst h0
        go_wp2_with fail
        go_loopw [44] (fun i wr => ∃ j : Nat, j ≤ 0 ∧ i = .int .i64 j ∧ Wk wr b m f ∧ True ∧ Chg (fun j => w.heap.size ≤ j) w wr) (fun i _ => 0 - (intOf i).toNat)
        case atStart => exact ⟨0, by omega, rfl, HR.out.win, trivial, HR.out.chg⟩
        case round =>
          obtain ⟨j, hj, rfl, W2, hg2, G2⟩ := hrel
          by_cases hlt2 : j < 0
          · exact absurd hlt2 (by omega)
          · obtain rfl : j = 0 := by omega
            have HG2 := Lib.hid G2
            clear G2 W2 hg2
            go_wp2_with fail
            refine (awake_true _).mono ?_
            rintro e w3 ⟨rfl, g3⟩
            go_wp2_with fail
            go_ret
            exact ⟨rfl, (HG2.out.trans g3.none).fresh⟩
      · have hzl : zs.length = k := by have := HR.out.own.1; simpa using this
        have HL := Lib.hid hzl
        have HGB := Lib.hid hgb
        have HT := Lib.hid htk
        have HGG0 := Lib.hid hgg
        have hk9 : k ≤ 9223372036854775807 := by omega
        clear hzl hgb htk hgg hcs
        rcases (by omega : len ≤ k ∨ (k < len ∧ 60 ≤ k)) with h1 | ⟨h1, h2⟩
        · clear hgo hs
          go_wp2_with fail
          go_loopw [44] (fun i wr => ∃ j : Nat, j ≤ k ∧ i = .int .i64 j ∧ Wk wr b m f ∧ wr.heap[g]? = some (.cells cur 3 (0, 0)) ∧ Chg (fun j => w.heap.size ≤ j) w wr) (fun i _ => k - (intOf i).toNat)
          case atStart => exact ⟨0, by omega, rfl, HR.out.win, HGG0.out, HR.out.chg⟩
          case round =>
            obtain ⟨j, hj, rfl, W2, hg2, G2⟩ := hrel
            by_cases hlt2 : j < k
            · obtain ⟨x, hx⟩ : ∃ x, zs[j]? = some x := ⟨_, List.getElem?_eq_getElem (by have := HL.out; omega)⟩
              have hc1 : cur[j]? = some (.int .i64 x) := by
                have h1 : (zs.map V)[j]? = some (V x) := by rw [List.getElem?_map, hx]; rfl
                rw [← HT.out, List.getElem?_take, if_pos (by omega)] at h1
                simpa [V] using h1
              have c0 : wr.cell? ⟨g, j, none⟩ = some (.int .i64 x) := by rw [cell_of_block hg2, hc1]
              have hkx := HR.out.known x (List.mem_of_getElem? hx)
              have hhi := HR.out.hi
              have hxM : x ≤ 9223372036854775807 := by have := hkx.2; omega
              obtain ⟨p1, p2⟩ := put_no (f := f) (k := 2) (known_no hkx.1)
              have HP1 := Lib.hid p1
              have HP2 := Lib.hid p2
              have HG2 := Lib.hid G2
              have HW2 := Lib.hid W2
              have HGG := Lib.hid hg2
              clear hkx hhi hc1 hx p1 p2 G2 W2 hg2
              go_wp2_with fail
              refine (put_any _ b m f 2 x HW2.out HR.out.fine hxM).mono ?_
              rw [HP1.out, HP2.out]
              rintro e w3 ⟨rfl, W3, G3⟩
              have k3 := Chg.keep G3 HGG.out (by have := HR.out.mb; have := HGB.out; omega)
              have G4 := HG2.out.trans (G3.mono (fun j _ e => e ▸ HR.out.hm))
              have HK := Lib.hid (And.intro W3 (And.intro k3 G4))
              clear W3 G3 k3 G4 HW2 HGG HG2 c0
              go_wp2_with fail
              go_roundw
              case measure => simp [intOf]; omega
              case rel =>
                try rw [show decide (k < len) = false from decide_eq_false (by omega)]
                try rw [show decide (k < len) = true from decide_eq_true (by omega)]
                try rw [show decide ((60 : Int) ≤ (k : Int)) = true from decide_eq_true (by omega)]
                try rw [show decide (60 ≤ k) = true from decide_eq_true (by omega)]
                (repeat apply Exists.intro)
                exact ⟨⟨j + 1, by omega, rfl, HK.out.1, HK.out.2.1, HK.out.2.2⟩, rfl⟩
            · obtain rfl : j = k := by omega
              have HG2 := Lib.hid G2
              clear G2 W2 hg2
              go_wp2_with fail
              refine (awake_true _).mono ?_
              rintro e w3 ⟨rfl, g3⟩
              go_wp2_with fail
              go_ret
              exact ⟨rfl, (HG2.out.trans g3.none).fresh⟩
        · clear hgo
          obtain ⟨p, z, rfl, hz, hc⟩ := hs.at HR.out.chg h1
          clear hz hs
          go_wp2_with fail
          go_loopw [44] (fun i wr => ∃ j : Nat, j ≤ k ∧ i = .int .i64 j ∧ Wk wr b m f ∧ wr.heap[g]? = some (.cells cur 3 (0, 0)) ∧ Chg (fun j => w.heap.size ≤ j) w wr) (fun i _ => k - (intOf i).toNat)
          case atStart => exact ⟨0, by omega, rfl, HR.out.win, HGG0.out, HR.out.chg⟩
          case round =>
            obtain ⟨j, hj, rfl, W2, hg2, G2⟩ := hrel
            by_cases hlt2 : j < k
            · obtain ⟨x, hx⟩ : ∃ x, zs[j]? = some x := ⟨_, List.getElem?_eq_getElem (by have := HL.out; omega)⟩
              have hc1 : cur[j]? = some (.int .i64 x) := by
                have h1 : (zs.map V)[j]? = some (V x) := by rw [List.getElem?_map, hx]; rfl
                rw [← HT.out, List.getElem?_take, if_pos (by omega)] at h1
                simpa [V] using h1
              have c0 : wr.cell? ⟨g, j, none⟩ = some (.int .i64 x) := by rw [cell_of_block hg2, hc1]
              have hkx := HR.out.known x (List.mem_of_getElem? hx)
              have hhi := HR.out.hi
              have hxM : x ≤ 9223372036854775807 := by have := hkx.2; omega
              obtain ⟨p1, p2⟩ := put_no (f := f) (k := 2) (known_no hkx.1)
              have HP1 := Lib.hid p1
              have HP2 := Lib.hid p2
              have HG2 := Lib.hid G2
              have HW2 := Lib.hid W2
              have HGG := Lib.hid hg2
              clear hkx hhi hc1 hx p1 p2 G2 W2 hg2
              go_wp2_with fail
              refine (put_any _ b m f 2 x HW2.out HR.out.fine hxM).mono ?_
              rw [HP1.out, HP2.out]
              rintro e w3 ⟨rfl, W3, G3⟩
              have k3 := Chg.keep G3 HGG.out (by have := HR.out.mb; have := HGB.out; omega)
              have G4 := HG2.out.trans (G3.mono (fun j _ e => e ▸ HR.out.hm))
              have HK := Lib.hid (And.intro W3 (And.intro k3 G4))
              clear W3 G3 k3 G4 HW2 HGG HG2 c0
              go_wp2_with fail
              go_roundw
              case measure => simp [intOf]; omega
              case rel =>
                try rw [show decide (k < len) = false from decide_eq_false (by omega)]
                try rw [show decide (k < len) = true from decide_eq_true (by omega)]
                try rw [show decide ((60 : Int) ≤ (k : Int)) = true from decide_eq_true (by omega)]
                try rw [show decide (60 ≤ k) = true from decide_eq_true (by omega)]
                (repeat apply Exists.intro)
                exact ⟨⟨j + 1, by omega, rfl, HK.out.1, HK.out.2.1, HK.out.2.2⟩, rfl⟩
            · obtain rfl : j = k := by omega
              have HG2 := Lib.hid G2
              clear G2 W2 hg2
              go_wp2_with fail
              refine (awake_true _).mono ?_
              rintro e w3 ⟨rfl, g3⟩
              go_wp2_with fail
              go_ret
              exact ⟨rfl, (HG2.out.trans g3.none).fresh⟩
end Go.Proofs.Ytciekkenheiedaa
