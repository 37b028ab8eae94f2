/- Steps of the proof, part H03. No condition. -/
import Derived.Test.YtnpihllannobgaaGreatDoorH01
import Derived.Lib.Strings
import Derived.Lib.Slices
import Derived.Lib.Walk
import Derived.Lib.Bytealg
import Derived.LoopN
import Derived.Lib.ConvBytes
import Derived.StillTailTactics
import Derived.Laws.CopyRow
namespace Go.Proofs.YtnpihllannobgaaGreatDoor
set_option linter.unusedVariables false
set_option linter.unusedSimpArgs false
set_option maxRecDepth 100000
set_option maxHeartbeats 32000000
theorem ixbyte_any(s:ByteArray)(c:Int)(w:World):
  Calls Tryz.prog 230 #[.string s,.int .u8 c] w λe w'=>e= .returned (.int .i64 (Lib.indexByte s.data.toList c.toNat.toUInt8))∧w'=w:=by
 go_enter Tryz.func230,Tryz.ntmps230
 go_wp2
 rw[run_callFunc_extern Tryz.func262 (by kernel_rfl) (by kernel_rfl) (by kernel_rfl) (e:=Extern.BytealgIndexByte.indexByte) (by kernel_rfl),Lib.run_indexByteString]
 simp only[Result.andThen]
 rw[Oper.upon_value]
 go_wp2
 go_ret
 exact⟨rfl,rfl⟩
theorem sindex_any(s:ByteArray)(c:UInt8)(w:World):
  Calls Tryz.prog 179 #[.string s,.string ⟨#[c]⟩] w λe w'=>e= .returned (.int .i64 (Lib.indexByte s.data.toList c))∧w'=w:=by
 go_enter Tryz.func179,Tryz.ntmps179
 go_wp2_with (go_at_call 230;refine (ixbyte_any _ _ _).mono ?_;rintro e w' ⟨rfl,rfl⟩)
 ·have h:([c]==s.toList)=true:=by assumption
  go_ret
  refine⟨?_,rfl⟩
  have e:s.data.toList=[c]:=by rw[←Lib.toList_data];exact (beq_iff_eq.1 h).symm
  rw[e]
  simp[Lib.indexByte]
 ·go_ret
  exact⟨rfl,rfl⟩
theorem index_any(s:ByteArray)(c:UInt8)(w:World):
  Calls Tryz.prog 128 #[.string s,.string ⟨#[c]⟩] w λe w'=>e= .returned (.int .i64 (Lib.indexByte s.data.toList c))∧w'=w:=by
 go_enter Tryz.func128,Tryz.ntmps128
 go_wp2_with (go_at_call 179;refine (sindex_any _ _ _).mono ?_;rintro e w' ⟨rfl,rfl⟩)
 go_ret
 exact⟨rfl,rfl⟩
theorem count_any(s:ByteArray)(c:UInt8)(w:World):
  Calls Tryz.prog 127 #[.string s,.string ⟨#[c]⟩] w λe w'=>e= .returned (.int .i64 (Lib.countByte s.data.toList c))∧w'=w:=by
 go_enter Tryz.func127,Tryz.ntmps127
 go_wp2
 rw[run_callFunc_extern Tryz.func178 (by kernel_rfl) (by kernel_rfl) (by kernel_rfl) (e:=Extern.BytealgCount.count) (by kernel_rfl),Lib.run_countString]
 simp only[Result.andThen]
 rw[Oper.upon_value]
 go_wp2
 go_ret
 exact⟨rfl,rfl⟩
open Go.ChangeShapes Go.WideShapes Go.ChangeAt Go.RowKit
structure Ln2(s:ByteArray)(p:Nat)(a d:ByteArray):Prop where
 cnt:Lib.countByte s.data.toList 32=1
 ix:Lib.indexByte s.data.toList 32=(p:Int)
 lt:p+1<s.size
 sz:s.size≤1000
 ea:s.extract 0 p=a
 ed:s.extract (p+1) s.size=d
 a0:(a.toList==([]:List UInt8))=false
 d0:(d.toList==([]:List UInt8))=false
def twoB(a d:ByteArray):Obj:= .cells #[.string a,.string d] 9
section
variable {s a d:ByteArray}{p:Nat}{w:World}
theorem gensplit_any(h:Ln2 s p a d)(w:World):
  Calls Tryz.prog 84 #[.string s,.string ⟨#[32]⟩,.int .i64 0,.int .i64 (-1)] w (λe w'=>e= .returned (.slice (some ⟨w.heap.size,0,none⟩) 2 2)∧w'=w.alloc (twoB a d)):=by
 obtain⟨hc,hi,hp,hs,ha,hd,_,_⟩:=h
 have HC:=qQ (count_any s 32 w)
 rw[hc] at HC
 have hm:min (2:Int) ((s.size:Int)+1)=2:=by omega
 have hk:∀wx:World,(Instr.makeSlice 109 (.int .i64 2) (.int .i64 2)).run Tryz.prog wx= .ok (.slice (some ⟨wx.heap.size,0,none⟩) 2 2) (wx.alloc (.cells #[.string ⟨#[]⟩,.string ⟨#[]⟩] 9)):=λwx=>by kernel_rfl
 have HA:=qQ (And.intro ha hd)
 clear ha hd
 unfold twoB
 go_enter Tryz.func84,Tryz.ntmps84
 go_wp2_with fail
 with_reducible refine HC.out.mono ?_
 rintro en w1 ⟨rfl,rfl⟩
 go_wp2_with fail
 with_reducible refine wp_loop_rounds 2 ?_
 rw[rounds_succ]
 go_wp2_with fail
 (with_reducible refine (index_any _ _ _).mono ?_)
 rintro en w2 ⟨rfl,rfl⟩
 rw[hi]
 have b1:decide ((p:Int)<0)=false:=by simp
 go_wp2_with fail
 rw[rounds_succ]
 go_wp2_with fail
 go_ret
 rw[HA.out.1,HA.out.2]
 exact⟨rfl,rfl⟩
theorem split_any(h:Ln2 s p a d)(w:World):
  Calls Tryz.prog 45 #[.string s,.string ⟨#[32]⟩] w (λe w'=>e= .returned (.slice (some ⟨w.heap.size,0,none⟩) 2 2)∧w'=w.alloc (twoB a d)):=by
 have HC:=qQ (gensplit_any h w)
 clear h
 go_enter Tryz.func45,Tryz.ntmps45
 go_wp2_with fail
 with_reducible refine HC.out.mono ?_
 rintro en w1 ⟨rfl,rfl⟩
 go_wp2_with fail
 go_ret
 exact⟨rfl,rfl⟩
theorem cf46(args:Array Value)(w':World):(callFunc 46 args).run Tryz.prog w'= .ok (.enter 46 args) w':=by kernel_rfl
theorem line1_any(a:ByteArray)(ha:(a.toList==([]:List UInt8))=false)(w:World):Calls Tryz.prog 46 #[.string a] w (λe w'=>e= .returned (.bool false)∧w'=w):=by
 go_enter Tryz.func46,Tryz.ntmps46
 go_wp2_with fail
 go_ret
 exact⟨rfl,rfl⟩
theorem two_cells{g:Nat}(hb:w.heap[g]? =some (twoB a d)):w.cell? ⟨g,0,none⟩=some (.string a)∧w.cell? ⟨g,1,none⟩=some (.string d):=
 ⟨by rw[qJ hb];rfl,by rw[qJ hb];rfl⟩
theorem ixstr_any{g:Nat}(ha:(a.toList==([]:List UInt8))=false)(hd:(d.toList==([]:List UInt8))=false)(hb:w.heap[g]? =some (twoB a d)):
  Calls Tryz.prog 83 #[.slice (some ⟨g,0,none⟩) 2 2,.func (.func 46) #[] #[]] w (λe w'=>e= .returned (.int .i64 (-1))∧w'=w):=by
 obtain⟨c0,c1⟩:=two_cells hb
 have H1:=qQ (line1_any a ha w)
 have H2:=qQ (line1_any d hd w)
 have hcf:=cf46
 clear ha hd hb
 go_enter Tryz.func83,Tryz.ntmps83
 go_wp2_with fail
 with_reducible refine wp_loop_rounds 3 ?_
 rw[rounds_succ]
 go_wp2_with fail
 with_reducible refine H1.out.mono ?_
 rintro en w1 ⟨rfl,rfl⟩
 go_wp2_with fail
 rw[rounds_succ]
 go_wp2_with fail
 with_reducible refine H2.out.mono ?_
 rintro en w1 ⟨rfl,rfl⟩
 go_wp2_with fail
 rw[rounds_succ]
 go_wp2_with fail
 go_ret
 exact⟨rfl,rfl⟩
theorem delstr_any{g:Nat}(ha:(a.toList==([]:List UInt8))=false)(hd:(d.toList==([]:List UInt8))=false)(hb:w.heap[g]? =some (twoB a d)):
  Calls Tryz.prog 44 #[.slice (some ⟨g,0,none⟩) 2 2,.func (.func 46) #[] #[]] w (λe w'=>e= .returned (.slice (some ⟨g,0,none⟩) 2 2)∧w'=w):=by
 have H1:=qQ (ixstr_any ha hd hb)
 clear ha hd hb
 go_enter Tryz.func44,Tryz.ntmps44
 go_wp2_with fail
 with_reducible refine H1.out.mono ?_
 rintro en w1 ⟨rfl,rfl⟩
 go_wp2_with fail
 go_ret
 exact⟨rfl,rfl⟩
end
def PQ(v:Value)(w:World)(e:Ending)(w':World):Prop:=e= .returned v∧Chg (λ_=>False) w w'
def Dg(k:Int)(d:ByteArray):Prop:=(k=0∧d=⟨#[48]⟩)∨(k=2∧d=⟨#[50]⟩)∨(k=3∧d=⟨#[51]⟩)
theorem Chg.bytes(w:World)(e:TypeId)(s:ByteArray):Chg (λ_=>False) w (Lib.bytesWorld w e s):=
 ⟨rfl,rfl,rfl,by rw[Lib.bytesWorld_size];omega,λk hk _=>Lib.bytesWorld_at_old w e s k hk⟩
theorem bytes1(w:World)(b:UInt8)(n:Int)(hn:(b.toNat:Int)=n):∃W q,(convert 9 33 (.string ⟨#[b]⟩)).run Tryz.prog w= .ok (.slice (some ⟨w.heap.size,0,none⟩) 1 q) W∧W.cell? ⟨w.heap.size,0,none⟩=some (.int .u8 n)∧Chg (λ_=>False) w W:=by
 refine⟨_,_,Lib.run_convert_string_bytes (P:=Tryz.prog) w 9 33 5 ⟨#[b]⟩ Tryz.underlying9 Tryz.underlying33 Tryz.underlying5,?_,Chg.bytes w 5 _⟩
 have:=Lib.bytesWorld_cell w 5 ⟨#[b]⟩ 0 (show 0<1 by decide)
 rw[this,←hn];rfl
section
variable {d:ByteArray}{k:Int}{w:World}
theorem puint_any(h:Dg k d)(w:World):Calls Tryz.prog 266 #[.string d,.int .i64 10,.int .i64 64] w (PQ (.tuple #[.int .u64 k,.nilIface]) w):=by
 have e1:IntKind.u64.wrap (IntKind.u64.wrap 18446744073709551616-1)=18446744073709551615:=by decide
 obtain⟨b,hd,W,q,hcv,hc,G⟩:∃(b:UInt8),d=⟨#[b]⟩∧∃W q,(convert 9 33 (.string ⟨#[b]⟩)).run Tryz.prog w= .ok (.slice (some ⟨w.heap.size,0,none⟩) 1 q) W∧W.cell? ⟨w.heap.size,0,none⟩=some (.int .u8 (48+k))∧Chg (λ_=>False) w W:=by
  rcases h with ⟨rfl,rfl⟩|⟨rfl,rfl⟩|⟨rfl,rfl⟩
  ·exact⟨48,rfl,bytes1 w 48 48 rfl⟩
  ·exact⟨50,rfl,bytes1 w 50 50 rfl⟩
  ·exact⟨51,rfl,bytes1 w 51 51 rfl⟩
 have HG:=qQ G
 clear G
 rcases h with ⟨rfl,rfl⟩|⟨rfl,rfl⟩|⟨rfl,rfl⟩ <;> cases hd
 all_goals
  go_enter Tryz.func266,Tryz.ntmps266
  go_wp2_with fail
  with_reducible refine wp_loop_rounds 2 ?_
  rw[rounds_succ]
  go_wp2_with fail
  rw[rounds_succ]
  go_wp2_with fail
  go_ret2
  exact⟨rfl,HG.out⟩
theorem pint_any(h:Dg k d)(w:World):Calls Tryz.prog 236 #[.string d,.int .i64 10,.int .i64 64] w (PQ (.tuple #[.int .i64 k,.nilIface]) w):=by
 have HP:=qQ (puint_any h w)
 rcases h with ⟨rfl,rfl⟩|⟨rfl,rfl⟩|⟨rfl,rfl⟩
 all_goals
  go_enter Tryz.func236,Tryz.ntmps236
  go_wp2_with fail
  with_reducible refine HP.out.mono ?_
  rintro en w1 ⟨rfl,G⟩
  have HG:=qQ G
  clear G HP
  go_wp2_with fail
  go_ret2
  exact⟨rfl,HG.out⟩
theorem parse_any(h:Dg k d)(w:World):Calls Tryz.prog 182 #[.string d,.int .i64 10,.int .i64 64] w (PQ (.tuple #[.int .i64 k,.nilIface]) w):=by
 have HP:=qQ (pint_any h w)
 clear h
 go_enter Tryz.func182,Tryz.ntmps182
 go_wp2_with fail
 with_reducible refine HP.out.mono ?_
 rintro en w1 ⟨rfl,G⟩
 have HG:=qQ G
 clear G HP
 go_wp2_with fail
 go_ret2
 exact⟨rfl,HG.out⟩
theorem fint_any(h:Dg k d)(w:World):Calls Tryz.prog 141 #[.int .i64 k,.int .i64 10] w (λe w'=>e= .returned (.string d)∧w'=w):=by
 rcases h with ⟨rfl,rfl⟩|⟨rfl,rfl⟩|⟨rfl,rfl⟩
 all_goals
  go_enter Tryz.func141,Tryz.ntmps141
  go_wp2
  go_ret
  exact⟨rfl,rfl⟩
theorem format_any(h:Dg k d)(w:World):Calls Tryz.prog 90 #[.int .i64 k,.int .i64 10] w (λe w'=>e= .returned (.string d)∧w'=w):=by
 have HP:=qQ (fint_any h w)
 clear h
 go_enter Tryz.func90,Tryz.ntmps90
 go_wp2_with fail
 with_reducible refine HP.out.mono ?_
 rintro en w1 ⟨rfl,rfl⟩
 go_wp2_with fail
 go_ret
 exact⟨rfl,rfl⟩
end
structure Wo1(w:World)(wb g:Nat)(d:ByteArray):Prop where
 blk:w.heap[wb]? =some (.cells #[.slice (some ⟨g,1,none⟩) 1 1,.bool false] 117 (0,0))
 cell:w.cell? ⟨g,1,none⟩=some (.string d)
def Wo0(w:World)(wb:Nat):Prop:=∃A c,w.heap[wb]? =some (.cells #[.slice A 0 c,.bool false] 117 (0,0))
def PWo(v:Value)(wb:Nat)(w:World)(e:Ending)(w':World):Prop:=e= .returned v∧Wo0 w' wb∧Chg (λq=>q=wb) w w'
section
variable {d:ByteArray}{k:Int}{w:World}{wb g:Nat}
theorem cell2{b:Nat}{t:TypeId}{v0 v1:Value}(h:w.heap[b]? =some (.cells #[v0,v1] t (0,0))):w.cell? ⟨b,0,none⟩=some v0∧w.cell? ⟨b,1,none⟩=some v1:=by
 refine⟨?_,?_⟩ <;> rw[qJ h] <;> rfl
theorem wnext_any(h:Wo1 w wb g d):Calls Tryz.prog 139 #[.pointer (some ⟨wb,0,none⟩)] w (PWo (.string d) wb w):=by
 obtain⟨c0,c1⟩:=cell2 h.blk
 have f0:=qK h.blk 0
 have cg:=h.cell
 have HB:=qQ h.blk
 clear h
 go_enter Tryz.func139,Tryz.ntmps139
 go_wp2_with fail
 go_ret
 exact⟨rfl,⟨_,_,qB HB.out 0 _⟩,Chg.set _ _ _ rfl⟩
theorem Wo0.step{S:Nat→Prop}{w':World}(h:Wo0 w wb)(g:Chg S w w')(hS:¬S wb):Wo0 w' wb:=by
 obtain⟨A,c,h⟩:=h
 exact⟨A,c,Chg.keep g h hS⟩
theorem vB(h:Wo1 w wb g d)(hd:Dg k d):Calls Tryz.prog 132 #[.pointer (some ⟨wb,0,none⟩)] w (PWo (.int .i64 k) wb w):=by
 have HN:=qQ (wnext_any h)
 have HP:=qQ (λw=>parse_any hd w)
 have HF:=qQ (λw=>format_any hd w)
 have bq:(d.toList==d.toList)=true:=by simp
 clear h hd
 go_enter Tryz.func132,Tryz.ntmps132
 go_wp2_with fail
 with_reducible refine HN.out.mono ?_
 rintro en w1 ⟨rfl,h0,G⟩
 have H1:=qQ (And.intro h0 G)
 clear HN h0 G
 go_wp2_with fail
 (with_reducible refine (HP.out _).mono ?_)
 rintro en w2 ⟨rfl,G⟩
 obtain⟨A,c,hb⟩:=H1.out.1.step G (λe=>e)
 obtain⟨c0,c1⟩:=cell2 hb
 have f1:=qK hb 1
 have H2:=qQ (And.intro hb (H1.out.2.trans G.none))
 clear HP G hb
 go_wp2_with fail
 (with_reducible refine (HF.out _).mono ?_)
 rintro en w3 ⟨rfl,rfl⟩
 clear HF
 go_wp2_with fail
 go_ret
 refine⟨rfl,⟨_,_,qB H2.out.1 1 _⟩,H2.out.2.trans (Chg.set _ _ _ rfl)⟩
theorem wfrom_any(h:Wo1 w wb g d)(hd:Dg k d)(lo hi:Int)(h1:lo≤k)(h2:k≤hi):Calls Tryz.prog 129 #[.pointer (some ⟨wb,0,none⟩),.int .i64 lo,.int .i64 hi] w (PWo (.int .i64 k) wb w):=by
 have HN:=qQ (vB h hd)
 have b1:decide (k<lo)=false:=by simp;omega
 have b2:decide (hi<k)=false:=by simp;omega
 clear h hd h1 h2
 go_enter Tryz.func129,Tryz.ntmps129
 go_wp2_with fail
 with_reducible refine HN.out.mono ?_
 rintro en w1 ⟨rfl,h0,G⟩
 obtain⟨A,c,hb⟩:=h0
 obtain⟨c0,c1⟩:=cell2 hb
 have f1:=qK hb 1
 have H1:=qQ (And.intro hb G)
 clear HN hb G
 go_wp2_with fail
 go_ret
 refine⟨rfl,⟨_,_,qB H1.out.1 1 _⟩,H1.out.2.trans (Chg.set _ _ _ rfl)⟩
theorem wdone_any(h:Wo0 w wb):Calls Tryz.prog 91 #[.pointer (some ⟨wb,0,none⟩)] w (λe w'=>e= .returned (.bool true)∧w'=w):=by
 obtain⟨A,c,hb⟩:=h
 obtain⟨c0,c1⟩:=cell2 hb
 clear hb
 go_enter Tryz.func91,Tryz.ntmps91
 go_wp2_with fail
 go_ret
 exact⟨rfl,rfl⟩
end
section
variable {w:World}
theorem mul64_any(w:World):Calls Tryz.prog 265 #[.int .u64 1,.int .u64 16] w (λe w'=>e= .returned (.tuple #[.int .u64 0,.int .u64 16])∧w'=w):=by
 have b1:bits BinOp.and IntKind.u64 1 4294967295=1:=by decide+kernel
 have b2:bits BinOp.and IntKind.u64 16 4294967295=16:=by decide+kernel
 have b3:bits BinOp.and IntKind.u64 0 4294967295=0:=by decide+kernel
 go_enter Tryz.func265,Tryz.ntmps265
 go_wp2_with fail
 go_ret2
 exact⟨rfl,rfl⟩
theorem mul_any(w:World):Calls Tryz.prog 235 #[.int .u64 1,.int .u64 16] w (λe w'=>e= .returned (.tuple #[.int .u64 0,.int .u64 16])∧w'=w):=by
 have H:=qQ (mul64_any w)
 go_enter Tryz.func235,Tryz.ntmps235
 go_wp2_with fail
 with_reducible refine H.out.mono ?_
 rintro en w1 ⟨rfl,rfl⟩
 go_wp2_with fail
 go_ret2
 exact⟨rfl,rfl⟩
def zs16:Array Value:=#[.int .i64 0,.int .i64 0,.int .i64 0,.int .i64 0,.int .i64 0,.int .i64 0,.int .i64 0,.int .i64 0,.int .i64 0,.int .i64 0,.int .i64 0,.int .i64 0,.int .i64 0,.int .i64 0,.int .i64 0,.int .i64 0]
theorem copy0{wx:World}{b:Nat}(hb:wx.heap[b]? =some (.cells zs16 3 (0,0))) (o n dL dC sL sC:Nat) (src:Addr) (hn:n=Nat.min sL dL) (hs:∀j,j<n→wx.cell? (src.add j)=some (.int .i64 0)) (hf:o+n≤16)
  (hz:(zs16.toList.take o++List.replicate n (Value.int .i64 0)++zs16.toList.drop (o+n)).toArray=zs16):
  (Builtin.copy_ #[22,22] 3 #[.slice (some ⟨b,o,none⟩) dL dC,.slice (some src) sL sC]).run Tryz.prog wx= .ok (.int .i64 n) wx:=by
 have h:=run_copy_row Tryz.prog wx 22 22 3 3 b o dL dC src sL sC zs16 3 (List.replicate n (.int .i64 0)) Tryz.underlying22 (by kernel_rfl) hb (by simp[hn]) (λj v hj=>by
  rw[List.getElem?_replicate] at hj
  split at hj
  ·cases hj;exact hs j (by assumption)
  ·cases hj) (by rw[List.length_replicate];exact hf) (λv hv=>by rw[List.mem_replicate] at hv;rw[hv.2];rfl)
 rw[List.length_replicate,hz,setRow_self _ _ _ _ _ hb] at h
 exact h
theorem repeat_any{g:Nat}(hb:w.heap[g]? =some (.cells #[.int .i64 0] 3 (0,0))):Calls Tryz.prog 181 #[.slice (some ⟨g,0,none⟩) 1 1,.int .i64 16] w (λe w'=>e= .returned (.slice (some ⟨w.heap.size,0,none⟩) 16 16)∧w'.heap[w.heap.size]? =some (.cells zs16 3 (0,0))∧Chg (λ_=>False) w w'):=by
 have H:=qQ (mul_any w)
 have hk:∀wx:World,(Instr.makeSlice 22 (.int .i64 16) (.int .i64 16)).run Tryz.prog wx= .ok (.slice (some ⟨wx.heap.size,0,none⟩) 16 16) (wx.alloc (.cells zs16 3)):=λwx=>by kernel_rfl
 have hN:=qV w (.cells zs16 3)
 have hG:=Chg.alloc (λ_=>False) w (.cells zs16 3)
 have hg:(w.alloc (.cells zs16 3)).cell? ⟨g,0,none⟩=some (.int .i64 0):=by rw[qJ (Chg.keep hG hb (λe=>e))];rfl
 have h0:=copy0 hN 0 1 16 16 1 1 ⟨g,0,none⟩ rfl (λj hj=>by rw[show j=0 from Nat.lt_one_iff.1 hj];exact hg) (by decide) (by rfl)
 have HX:=qQ (And.intro hN hG)
 clear hN hG hg hb
 go_enter Tryz.func181,Tryz.ntmps181
 go_wp2_with fail
 with_reducible refine H.out.mono ?_
 rintro en w1 ⟨rfl,rfl⟩
 clear H
 go_wp2_with fail
 generalize w1.alloc (.cells zs16 3)=W at *
 obtain⟨b,hbe⟩:=qZ w1.heap.size
 rw[←hbe] at HX ⊢
 have HBE:=qQ hbe
 clear hk h0 hbe
 go_loopw [8] (λi wr=>∃(n:Nat),(n=1∨n=2∨n=4∨n=8∨n=16)∧i= .int .i64 n∧wr.heap[b]? =some (.cells zs16 3 (0,0))∧Chg (λ_=>False) w1 wr) (λi _=>16-(intOf i).toNat)
 case atStart=>exact⟨1,.inl rfl,rfl,HX.out⟩
 case round=>
  obtain⟨n,hn,rfl,hb,hg⟩:=hrel
  have hbd:wr.drew.heap[b]? =some (.cells zs16 3 (0,0)):=hb
  have HG:=qQ (And.intro hbd (hg.trans (Chg.drew _ wr)))
  have HG0:=qQ (And.intro hb hg)
  have hz:∀j,j<16→wr.drew.cell? ((⟨b,0,none⟩:Addr).add j)=some (.int .i64 0):=λj hj=>by
   rw[show (⟨b,0,none⟩:Addr).add j=⟨b,0+j,none⟩ by unfold Addr.add;split <;> simp_all,qJ hbd]
   have hj:j=0∨j=1∨j=2∨j=3∨j=4∨j=5∨j=6∨j=7∨j=8∨j=9∨j=10∨j=11∨j=12∨j=13∨j=14∨j=15:=by omega
   rcases hj with rfl|rfl|rfl|rfl|rfl|rfl|rfl|rfl|rfl|rfl|rfl|rfl|rfl|rfl|rfl|rfl <;> rfl
  rcases hn with rfl|rfl|rfl|rfl|rfl
  ·have h1:=copy0 hbd 1 1 15 15 1 16 ⟨b,0,none⟩ rfl (λj hj=>hz j (by omega)) (by decide) rfl
   clear hz hb hg hbd
   go_wp2_with fail
   with_reducible refine wp_region_still_lit (by kernel_rfl) (by kernel_rfl) ?_
   repeat (with_reducible refine wpStill_step (λK hK=>?_);go_simp;with_reducible refine hK _ ?_;clear hK K)
   with_reducible refine wpStill_nil ?_
   change Exit.inBlock _ _ _ _ wr.drew
   go_roundw
   case measure=>simp[intOf];decide
   case rel=>exact⟨_,_,_,_,_,_,_,_,_,_,_,_,_,_,⟨2,by omega,by go_num,HG.out⟩,rfl⟩
  ·have h1:=copy0 hbd 2 2 14 14 2 16 ⟨b,0,none⟩ rfl (λj hj=>hz j (by omega)) (by decide) rfl
   clear hz hb hg hbd
   go_wp2_with fail
   with_reducible refine wp_region_still_lit (by kernel_rfl) (by kernel_rfl) ?_
   repeat (with_reducible refine wpStill_step (λK hK=>?_);go_simp;with_reducible refine hK _ ?_;clear hK K)
   with_reducible refine wpStill_nil ?_
   change Exit.inBlock _ _ _ _ wr.drew
   go_roundw
   case measure=>simp[intOf];decide
   case rel=>exact⟨_,_,_,_,_,_,_,_,_,_,_,_,_,_,⟨4,by omega,by go_num,HG.out⟩,rfl⟩
  ·have h1:=copy0 hbd 4 4 12 12 4 16 ⟨b,0,none⟩ rfl (λj hj=>hz j (by omega)) (by decide) rfl
   clear hz hb hg hbd
   go_wp2_with fail
   with_reducible refine wp_region_still_lit (by kernel_rfl) (by kernel_rfl) ?_
   repeat (with_reducible refine wpStill_step (λK hK=>?_);go_simp;with_reducible refine hK _ ?_;clear hK K)
   with_reducible refine wpStill_nil ?_
   change Exit.inBlock _ _ _ _ wr.drew
   go_roundw
   case measure=>simp[intOf];decide
   case rel=>exact⟨_,_,_,_,_,_,_,_,_,_,_,_,_,_,⟨8,by omega,by go_num,HG.out⟩,rfl⟩
  ·have h1:=copy0 hbd 8 8 8 8 8 16 ⟨b,0,none⟩ rfl (λj hj=>hz j (by omega)) (by decide) rfl
   clear hz hb hg hbd
   go_wp2_with fail
   with_reducible refine wp_region_still_lit (by kernel_rfl) (by kernel_rfl) ?_
   repeat (with_reducible refine wpStill_step (λK hK=>?_);go_simp;with_reducible refine hK _ ?_;clear hK K)
   with_reducible refine wpStill_nil ?_
   change Exit.inBlock _ _ _ _ wr.drew
   go_roundw
   case measure=>simp[intOf];decide
   case rel=>exact⟨_,_,_,_,_,_,_,_,_,_,_,_,_,_,⟨16,by omega,by go_num,HG.out⟩,rfl⟩
  ·clear hz hb hg hbd
   go_wp2_with fail
   go_ret
   rw[←HBE.out]
   exact⟨rfl,HG0.out⟩
theorem row_any(w:World):Calls Tryz.prog 131 #[.int .i64 16,.int .i64 0] w (λe w'=>∃b,e= .returned (.slice (some ⟨b,0,none⟩) 16 16)∧w'.heap[b]? =some (.cells zs16 3 (0,0))∧w.heap.size≤b∧Chg (λ_=>False) w w'):=by
 have H:=qQ (repeat_any (qV w (.cells #[.int .i64 0] 3)))
 have HG:=qQ (Chg.alloc (λ_=>False) w (.cells #[.int .i64 0] 3))
 go_enter Tryz.func131,Tryz.ntmps131
 go_wp2_with fail
 with_reducible refine H.out.mono ?_
 rintro en w1 ⟨rfl,hb,G⟩
 rw[show (w.alloc (.cells #[.int .i64 0] 3)).heap.size=w.heap.size+1 by simp] at hb
 have H1:=qQ (And.intro hb G)
 clear hb G H
 go_wp2_with fail
 go_ret
 refine⟨_,rfl,H1.out.1,by simp,HG.out.trans H1.out.2⟩
end
end Go.Proofs.YtnpihllannobgaaGreatDoor
