/- Texts of one proof, one behind the other: Lib, ConvB. -/
import Derived.Test.YtakhkcaihhpehaaGreatDoorB01
import Derived.Laws.IdiomStrings
import Derived.Deep.Draws
import Derived.Deep.QuietTactic
import Derived.BigQuiet
import Derived.StillTailTactics
import Derived.OwnWalk
import Derived.Deep.RegionLaw
namespace Go.Proofs.YtakhkcaihhpehaaGreatDoor
open Go.RowKit
open Lib (hid)
set_option linter.unusedVariables false
set_option maxRecDepth 100000
set_option maxHeartbeats 51200000
theorem zyn{P:Program}(w:World)(S D E:TypeId)(hs:P.underlying S=some (.slice E))(he:P.underlying E=some (.int .u8))(hd:P.underlying D=some .string)
  (b cap:Nat) (c:UInt8) (hc:w.cell? ⟨b,0,none⟩=some (.int .u8 c.toNat)) :
  (convert S D (.slice (some ⟨b,0,none⟩) 1 cap)).run P w=.ok (.string ⟨#[c]⟩) w:=
 run_convert_bytes_back w S D E ⟨b,0,none⟩ cap [c] hs he hd (fun j hj=>by
  have:j=0:=by simpa using hj
  subst this
  simpa [Addr.add] using hc)
theorem zaa{w w1 w2:World}(h:Below w.heap.size w w1)(k:Below w1.heap.size w1 w2):Below w.heap.size w w2:=h.trans (k.mono h.size)
theorem zac{B:Nat}{a w:World}(h:Below B a w)(n:Nat):Below B a (w.drewN n):=⟨h.os,h.tape,h.output,h.size,h.block⟩
theorem zgc{w:World}{base:Nat}{e:TypeId}{size:Nat}{v:Value}{n:Nat}{xs:List Value}(h:w.ownsRow base e size v n xs)(hn:0<n):
  ∃g cap,v=.slice (some ⟨g,0,none⟩) n cap∧base≤g∧g<w.heap.size∧n≤cap∧cap≤maxLen∧(∀j u,xs[j]?=some u→w.cell? ⟨g,j,none⟩=some u)∧(∀j,w.frozen? ⟨g,j,none⟩=false):=by
 have h0:=h
 obtain⟨_,h2⟩:=h
 rcases h2 with⟨_,h2⟩|⟨g,cap,cur,hv,hg,hh,h3,h4,_⟩
 ·omega
 ·subst hv
  have hl:=h0.lt g rfl
  refine⟨g,cap,rfl,hg,hl.2,h3,h4,fun j u hj=>?_,fun j=>h0.frozenAt j⟩
  rw[h0.cellAt j (by
   have:=(List.getElem?_eq_some_iff.1 hj).1
   rw[h0.1] at this;exact this)]
  exact hj
theorem za7{P:Program}{ops:Array Oper}{o:Oper}{a:Act}{w:World}{K:Act→World→Prop}{Q:Exit→Act→World→Prop}{E:Prop}
  (hg:o.guard=none) (s x:Operand) (t:TypeId) (ho:o.op=.call {callee:=.builtin .append,args:=#[s,x],argTypes:=#[t,t]})
  (base:Nat) (e:TypeId) (i:TypeInfo) (z:Value) (size bytes:Nat) (ht:P.underlying t=some (.slice e)) (hi:P.info? e=some i) (hz:i.zero=some z)
  (hsize:i.size=size) (hby:i.bytes=bytes) (hzs:z.cells.size=size) (hsz:0<size)
  (v:Value) (n:Nat) (xs:List Value) (hs:a.eval s=v) (hown:w.ownsRow base e size v n xs)
  (ad:Addr) (m c:Nat) (news:List Value) (hx:a.eval x=.slice (some ad) m c) (hl:news.length=m * size) (hnews:∀j u,news[j]?=some u→w.cell? (ad.add j)=some u) (h1:∀u∈news,u.oneCell'=true)
  (h63:n+m≤maxLen) (hbytes:(n+m) * bytes≤140737488355328) (hbase:base≤w.heap.size)
  (h:∀v' w',w'.ownsRow base e size v' (n+m) (xs++news)→w.grownBy w' v.ownBlock→(v'=.slice none 0 0↔v=.slice none 0 0∧m=0)→K (a.put o.dst v') w') :
  if Region.wanted o (yielded ops a.tmps)=true then Oper.wp P o a w K Q else E:=by
 have hw:Region.wanted o (yielded ops a.tmps)=true:=by simp[Region.wanted,hg]
 rw[if_pos hw]
 exact wp_append_own w s x t ho base e i z size bytes ht hi hz hsize hby hzs hsz v n xs hs hown ad m c news hx hl hnews h1 h63 hbytes hbase h
theorem zc4{w:World}{b:Nat}{u:Value}(h:w.cell? ⟨b,0,none⟩=some u):∀j u',[u][j]?=some u'→w.cell? ((⟨b,0,none⟩:Addr).add j)=some u':=by
 intro j u' hj
 match j,hj with
 | 0,hj=>simp at hj;subst hj;simpa [Addr.add] using h
theorem zbs{u:Value}(h:u.oneCell'=true):∀x∈[u],x.oneCell'=true:=by
 intro x hx;simp at hx;subst hx;exact h
def Drew(w w':World):Prop:=∃m,w'=w.drewN m
theorem Drew.refl(w:World):Drew w w:=⟨0,rfl⟩
theorem Drew.drewN(w:World)(m:Nat):Drew w (w.drewN m):=⟨m,rfl⟩
theorem Drew.trans{a b c:World}(h:Drew a b)(k:Drew b c):Drew a c:=by
 obtain⟨m,rfl⟩:=h;obtain⟨n,rfl⟩:=k;exact⟨m+n,by rw[World.drewN_drewN]⟩
theorem Drew.below{w w':World}(h:Drew w w')(B:Nat):Below B w w':=by
 obtain⟨m,rfl⟩:=h;exact zac (Below.refl _ _) m
theorem ze9{P:Program}{f:FuncId}{args:Array Value}{w:World}{n:Nat}{v:Value}
  (h:Calls P f args (w.drewN n) fun e w'=>e=.returned v∧w.drewN n=w'):Calls P f args (w.drewN n) fun e w''=>e=.returned v∧∃m,w''=w.drewN m:=
 h.mono fun _ _ ⟨he,hm⟩=>⟨he,n,hm.symm⟩
theorem zcq{P:Program}{f:FuncId}{args:Array Value}{w:World}{a n:Nat}{v:Value}
  (h:Calls P f args (w.drewN (a+n)) fun e w'=>e=.returned v∧w.drewN (a+n)=w') :
  Calls P f args (w.drewN (a+n)) fun e w''=>e=.returned v∧∃m,w''=w.drewN (a+m):=
 h.mono fun _ _ ⟨he,hm⟩=>⟨he,n,hm.symm⟩
theorem ybn{P:Program}(w:World)(src dst e:TypeId)(s:ByteArray)(hs:P.underlying src=some .string)(hd:P.underlying dst=some (.slice e))(he:P.underlying e=some (.int .u8)):
  ∃(cap:Nat)(o:Obj),(convert src dst (.string s)).run P w=.ok (.slice (some ⟨w.heap.size,0,none⟩) s.size cap) ((w.alloc o).drew)∧s.size≤cap∧
   (∀i (h:i<s.size),(w.alloc o).cell? ⟨w.heap.size,i,none⟩=some (.int .u8 s[i].toNat))∧∀i,i<s.size→(w.alloc o).frozen? ⟨w.heap.size,i,none⟩=false:=by
 have hcap:=grownCap_ge w s.size 0 e
 have hsz:(bytesRow s (grownCap w s.size 0 e)).size=grownCap w s.size 0 e:=by
  simp[bytesRow];show s.size+_=_;omega
 refine⟨_,_,run_bytes_of_string w src dst e s hs hd he,hcap,fun i h=>?_,fun i h=>?_⟩
 ·simp only[World.cell?]
  rw[heap_alloc_new]
  simp only[]
  have:(bytesRow s (grownCap w s.size 0 e))[i]?=some (.int .u8 s[i].toNat):=by
   unfold bytesRow
   rw[Array.getElem?_append_left (by simpa using h)]
   rw[Array.getElem?_map,Array.getElem?_eq_getElem (show i<s.data.size from h)]
   rfl
  simpa using this
 ·simp only[World.frozen?]
  rw[heap_alloc_new]
  simp
  omega
theorem ybo{P:Program}(w:World)(src dst e:TypeId)(g cap p:Nat)(s:ByteArray)(y:UInt8)(hs:P.underlying src=some (.slice e))(he:P.underlying e=some (.int .u8))(hd:P.underlying dst=some .string)(hp:p<s.size)
  (hc:∀i (h:i<s.size),w.cell? ⟨g,i,none⟩=some (.int .u8 s[i].toNat)) :
  (convert src dst (.slice (some ⟨g,0,none⟩) s.size cap)).run P ((w.setCell ⟨g,p,none⟩ (.int .u8 y.toNat)).drew)=.ok (.string ⟨(s.data.toList.set p y).toArray⟩) ((w.setCell ⟨g,p,none⟩ (.int .u8 y.toNat)).drew):=by
 have hl:(s.data.toList.set p y).length=s.size:=by simp
 have:=run_convert_bytes_back (P:=P) ((w.setCell ⟨g,p,none⟩ (.int .u8 y.toNat)).drew) src dst e ⟨g,0,none⟩ cap (s.data.toList.set p y) hs he hd (fun j hj=>by
  have hadd:(⟨g,0,none⟩:Addr).add j=⟨g,j,none⟩:=by unfold Addr.add;split<;>simp_all
  rw[hadd]
  show(w.setCell ⟨g,p,none⟩ (.int .u8 y.toNat)).cell? _=_
  have hj2:j<s.size:=by rw[hl] at hj;exact hj
  by_cases hpj:p=j
  ·subst hpj
   rw[World.cell?_setCell_same _ _ _ (hc p hp)]
   simp
  ·rw[World.cell?_setCell_other _ _ _ _ (by simp only[ne_eq,Addr.mk.injEq,not_and];intro _ h;exact absurd h hpj),hc j hj2]
   simp[hpj]
   rfl)
 rwa [hl] at this
end Go.Proofs.YtakhkcaihhpehaaGreatDoor
