/- Texts of one proof, one behind the other: Args, Mem, Fault, Is. -/
import Derived.Test.YtakhkcaihhpehaaGreatDoorRows
import Derived.Test.YtakhkcaihhpehaaGreatDoorB02
import Derived.ChangeOld
import Derived.Deep.Grids
import Derived.SliceStrings
import Derived.Below
import Derived.OpenShut
import Derived.WalkKit
import Derived.ProofKit
import Derived.Test.YtakhkcaihhpehaaGreatDoorB03
import Derived.Lib.AppendStr
import Derived.OneCell
import Derived.Handy
import Derived.LaidEql
import Derived.Stop.Asserts
import Derived.RowKitTokens
namespace Go.Proofs.YtakhkcaihhpehaaGreatDoor
open Go.RowKit
open Lib (hid)
set_option linter.unusedVariables false
set_option maxRecDepth 100000
set_option maxHeartbeats 51200000
section
open Go.ChangeShapes Go.WideShapes Go.ChangeAt Go.Deep
def SliceIs(W:World)(v:Value)(k:Nat)(vals:List Value):Prop:=
 (v=.slice none 0 0∧vals=[])∨∃a len cap,v=.slice (some a) len cap∧len≤cap∧cap≤maxLen∧vals.length=len * k∧∀i u,vals[i]?=some u→W.cell? (a.add i)=some u
theorem SliceIs.below{W W':World}{v:Value}{k:Nat}{vals:List Value}(h:SliceIs W v k vals)(hb:Below W.heap.size W W'):SliceIs W' v k vals:=by
 rcases h with h|⟨a,len,cap,h1,h2,h3,h4,h5⟩
 ·exact .inl h
 ·refine .inr ⟨a,len,cap,h1,h2,h3,h4,fun i u hi=>?_⟩
  have:=h5 i u hi
  exact(hb.cell (p:=a.add i) (World.block_lt_of_cell? W _ this)).trans this
theorem SliceIs.get{W:World}{v:Value}{k:Nat}{vals:List Value}(h:SliceIs W v k vals):
  ∃s n c,v=.slice s n c∧vals.length=n * k∧n≤c∧c≤maxLen∧∀i u,vals[i]?=some u→∃a,s=some a∧W.cell? (a.add i)=some u:=by
 rcases h with⟨rfl,rfl⟩|⟨a,len,cap,rfl,h2,h3,h4,h5⟩
 ·exact⟨none,0,0,rfl,by simp,Nat.le_refl _,by unfold maxLen;omega,fun i u h=>by simp at h⟩
 ·exact⟨some a,len,cap,rfl,h4,h2,h3,fun i u h=>⟨a,rfl,h5 i u h⟩⟩
section
variable{H:Type}{enc:TypeId×Value→H}{P:Program}{W:World}{a0:Option Addr}{len0 cap0:Nat}{d:DataW H}{p:List MemPlace}{t e:TypeId}
theorem of_bools(ht:P.underlying t=some (.slice e))(he:P.underlying e=some .bool)(hc:P.cellsOf e=1)(h:DataW.Trod enc P W 0 (fun _=>true) true t (.slice a0 len0 cap0) d p):
  ∃l:List Bool,SliceIs W (.slice a0 len0 cap0) 1 (l.map .bool):=by
 obtain⟨fuel,hf⟩:=h
 rcases open_bools ht he hc hf with⟨hcs,_⟩|⟨a,len,cap,B,hcs,_,hl,hm,_,hcell⟩
 ·refine⟨[],.inl ⟨?_,rfl⟩⟩
  simp[Value.cells] at hcs
  obtain⟨rfl,rfl,rfl⟩:=hcs
  rfl
 ·refine⟨(List.range len).map B,.inr ⟨a,len,cap,?_,hl,hm,by simp,fun i u hi=>?_⟩⟩
  ·simp[Value.cells] at hcs
   obtain⟨rfl,rfl,rfl⟩:=hcs
   rfl
  ·simp only[List.getElem?_map,Option.map_eq_some_iff] at hi
   obtain⟨_,⟨j,hj,rfl⟩,rfl⟩:=hi
   have hi':=List.getElem?_eq_some_iff.1 hj
   obtain⟨hlt,rfl⟩:=hi'
   simp at hlt ⊢
   exact hcell i (by omega)
theorem yag(ht:P.underlying t=some (.slice e))(he:P.underlying e=some .string)(hc:P.cellsOf e=1)(h:DataW.Trod enc P W 0 (fun _=>true) true t (.slice a0 len0 cap0) d p):
  ∃l:List ByteArray,SliceIs W (.slice a0 len0 cap0) 1 (l.map .string)∧∀s∈l,s.size≤maxLen:=by
 obtain⟨fuel,hf⟩:=h
 rcases open_strings ht he hc hf with⟨hcs,_⟩|⟨a,len,cap,zs,hcs,_,hl,hm,hz,_,hcell,hw⟩
 ·refine⟨[],.inl ⟨?_,rfl⟩,by simp⟩
  simp[Value.cells] at hcs
  obtain⟨rfl,rfl,rfl⟩:=hcs
  rfl
 ·simp at hz
  refine⟨zs.take len,.inr ⟨a,len,cap,?_,hl,hm,by simp;omega,fun i u hi=>?_⟩,fun n hn=>hw n (List.mem_of_mem_take hn)⟩
  ·simp[Value.cells] at hcs
   obtain⟨rfl,rfl,rfl⟩:=hcs
   rfl
  ·simp only[List.getElem?_map,Option.map_eq_some_iff] at hi
   obtain⟨n,hn,rfl⟩:=hi
   obtain⟨h1,rfl⟩:=List.getElem?_eq_some_iff.1 hn
   simp at h1
   rw[hcell i (by omega)]
   simp[List.getD,show i<zs.length by omega]
end
end
theorem za2{w:World}{b k:Nat}{cs:Array Value}{t:TypeId}{fr:Nat×Nat}{u:Value}(h:w.heap[b]?=some (.cells cs t fr)):(w.setCell ⟨b,k,none⟩ u).heap[b]?=some (.cells (cs.setIfInBounds k u) t fr):=by
 have hlt:=lt_of_block h
 have h':w.heap[b]=.cells cs t fr:=by simpa [Array.getElem?_eq_getElem hlt] using h
 show(w.heap.modify b _)[b]?=_
 rw[Array.getElem?_eq_getElem (by simpa using hlt),Array.getElem_modify_self,h']
 rfl
theorem zap(W:World)(b k:Nat)(v:Value):W.grownBy (W.setCell ⟨b,k,none⟩ v) (some b):=
 ⟨rfl,rfl,rfl,by simp[World.setCell],fun j _ hne=>Below.heap_setCell W ⟨b,k,none⟩ v j (fun e=>hne (by rw[e]))⟩
theorem zam{a b c:World}{k:Nat}(h:a.grownBy b (some k))(h':b.grownBy c (some k)):a.grownBy c (some k):=
 ⟨h'.os.trans h.os,h'.tape.trans h.tape,h'.output.trans h.output,Nat.le_trans h.size h'.size,fun j hj hne=>(h'.block j (Nat.lt_of_lt_of_le hj h.size) hne).trans (h.block j hj hne)⟩
theorem zc5{a b:World}{r:Option Nat}(h:a.grownBy b r)(n:Nat):a.grownBy (b.drewN n) r:=⟨h.os,h.tape,h.output,h.size,h.block⟩
theorem zdt{w w':World}{r:Option Nat}(h:Below w.heap.size w w'):w.grownBy w' r:=⟨h.os,h.tape,h.output,h.size,fun k hk _=>h.block k hk⟩
theorem zgq(l:List UInt8):Lib.strCells (bs l)=l.map bv:=by simp[Lib.strCells,bv]
theorem zdo{W:World}{base k:Nat}{e:TypeId}{v:Value}{n:Nat}{vals:List Value}(h:W.ownsRow base e k v n vals):∃A cap,v=.slice A n cap:=by
 obtain⟨h1,h2⟩:=h
 rcases h2 with⟨rfl,rfl⟩|⟨g,cap,cur,rfl,_⟩
 ·exact⟨none,0,rfl⟩
 ·exact⟨_,cap,rfl⟩
theorem zx3:(Tryz.prog.info? 5).map (fun i=>(i.zero,i.size,i.bytes))=some (some (.int .u8 0),1,1):=by kernel_rfl
def FErr(E:Nat→Addr)(w:World)(v:Value)(c:Nat)(at':Int):Prop:=
 (c=0∧at'=-1∧v=.nilIface)∨(c≠0∧at'=-1∧v=za0 (E c))∨
 (c≠0∧0≤at'∧∃fb,v=.iface 119 (.pointer (some ⟨fb,0,none⟩))∧w.heap[fb]?=some (.cells #[.int .i64 at',za0 (E c)] 123 (0,0)))
theorem FErr.nil(E:Nat→Addr)(w:World):FErr E w .nilIface 0 (-1):=.inl ⟨rfl,rfl,rfl⟩
theorem FErr.bare(E:Nat→Addr)(w:World){c:Nat}(h:c≠0):FErr E w (za0 (E c)) c (-1):=.inr (.inl ⟨h,rfl,rfl⟩)
theorem FErr.ev(E:Nat→Addr)(w:World)(c:Nat):FErr E w (ev E c) c (-1):=by
 by_cases h:c=0
 ·subst h;rw[zaj];exact .nil E w
 ·rw[za9 E h];exact .bare E w h
theorem FErr.at(E:Nat→Addr){w:World}{c:Nat}(h:c≠0)(k fb:Nat)(hb:w.heap[fb]?=some (.cells #[.int .i64 k,za0 (E c)] 123 (0,0))):FErr E w (.iface 119 (.pointer (some ⟨fb,0,none⟩))) c k:=
 .inr (.inr ⟨h,by omega,fb,rfl,hb⟩)
theorem FErr.new(E:Nat→Addr)(w:World)(c:Nat)(h:c≠0)(k fb:Nat)(h2:fb=w.heap.size)(p:Nat×Int)(hp:p=(c,(k:Int))):
  FErr E (w.alloc (.cells #[.int .i64 k,.iface 338 (.pointer (some (E c)))] 123)) (.iface 119 (.pointer (some ⟨fb,0,none⟩))) p.1 p.2:=by
 subst hp h2
 exact FErr.at E h _ _ (by unfold za0;exact heap_alloc_new _ _)
theorem FErr.zero{E:Nat→Addr}{w:World}{v:Value}{a:Int}(h:FErr E w v 0 a):v=.nilIface:=by
 rcases h with⟨_,_,h⟩|⟨h,_⟩|⟨h,_⟩
 ·exact h
 ·exact absurd rfl h
 ·exact absurd rfl h
theorem FErr.some{E:Nat→Addr}{w:World}{v:Value}{c:Nat}{a:Int}(h:FErr E w v c a)(hc:c≠0):∃t p,v=.iface t (.pointer (some p)):=by
 rcases h with⟨h,_⟩|⟨_,_,h⟩|⟨_,_,fb,h,_⟩
 ·exact absurd h hc
 ·exact⟨_,_,by rw[h];unfold za0;rfl⟩
 ·exact⟨_,_,h⟩
theorem ypp(w:World):(Instr.typeAssert .nilIface 41 119 true).run Tryz.prog w=.ok (.tuple #[.pointer none,.bool false]) w:=by kernel_rfl
theorem yrv(v:Value)(w:World):(Instr.typeAssert (.iface 338 v) 41 119 true).run Tryz.prog w=.ok (.tuple #[.pointer none,.bool false]) w:=by kernel_rfl
theorem ypo(v:Value)(w:World):(Instr.typeAssert (.iface 119 v) 41 119 true).run Tryz.prog w=.ok (.tuple #[v,.bool true]) w:=by kernel_rfl
theorem zrl(E:Nat→Addr)(v:Value)(c:Nat)(a:Int)(w:World)(h:FErr E w v c a):
  Calls Tryz.prog 244 #[v] w fun e w'=>e=.returned (ev E c)∧w=w':=by
 rcases h with⟨h1,h2,h3⟩|⟨h1,h2,h3⟩|⟨h1,h2,fb,h3,h4⟩
 ·subst h1 h3
  rw[zaj]
  have tas:=ypp
  go_enter Tryz.func244,Tryz.ntmps244
  go_wp2_with fail
  go_ret
  exact⟨rfl,rfl⟩
 ·subst h3
  rw[za9 E h1]
  unfold za0
  clear h1 h2
  have tas:=yrv
  go_enter Tryz.func244,Tryz.ntmps244
  go_wp2_with fail
  go_ret
  exact⟨rfl,rfl⟩
 ·subst h3
  rw[za9 E h1]
  have c1:w.cell? ⟨fb,1,none⟩=some (za0 (E c)):=by simp[World.cell?,h4]
  unfold za0 at c1 ⊢
  clear h1 h2 h4
  have tas:=ypo
  go_enter Tryz.func244,Tryz.ntmps244
  go_wp2_with fail
  go_ret
  exact⟨rfl,rfl⟩
section
open Go.Extern.Stop Go.Stop Go.Extern
theorem yfr(v:Value)(w:World):(Extern.ReflectliteType.typeOf #[.iface 338 v]).run Tryz.prog w=.ok (.iface 205 (.agg #[.pointer (some ⟨25,338,none⟩)])) w:=by kernel_rfl
theorem ye3(v:Value)(xT:TypeId)(w:World):(Instr.typeAssert (.iface 338 v) xT 213 true).run Tryz.prog w=.ok (.tuple #[.nilIface,.bool false]) w:=run_typeAssert_lacksB Tryz.underlying213 (by kernel_rfl) (by kernel_rfl) v xT w
theorem yai(v:Value)(xT:TypeId)(w:World):(Instr.typeAssert (.iface 338 v) xT 215 true).run Tryz.prog w=.ok (.tuple #[.nilIface,.bool false]) w:=run_typeAssert_lacksB Tryz.underlying215 (by kernel_rfl) (by kernel_rfl) v xT w
end
end Go.Proofs.YtakhkcaihhpehaaGreatDoor
