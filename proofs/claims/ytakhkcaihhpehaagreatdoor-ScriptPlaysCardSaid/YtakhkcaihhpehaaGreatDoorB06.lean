/- Texts of one proof, one behind the other: Code, Hand, NumRW, WText, Aids, AppIs, RowCopy, FramePlain, FrVal, Frame, FrEnc. -/
import Derived.Test.YtakhkcaihhpehaaGreatDoorB05
import Derived.Test.YtakhkcaihhpehaaGreatDoorB03
import Derived.Handy
import Derived.Test.YtakhkcaihhpehaaGreatDoorB04
import Derived.Lib.AppendStr
import Derived.OneCell
import Derived.Maps.AppendAt
import Derived.Deep.RegionLaw
import Derived.Laws.CopyRow
import Derived.Lib.AppendZerosOnto
import Derived.Lib.Overlaps
import Derived.Laws.OwnMore
import Derived.Test.YtakhkcaihhpehaaGreatDoorB01
namespace Go.Proofs.YtakhkcaihhpehaaGreatDoor
open Go.RowKit
open Lib (hid)
set_option linter.unusedVariables false
set_option maxRecDepth 100000
set_option maxHeartbeats 51200000
theorem ypn(e t:Addr)(old:Value)(w:World)(hg:Hand w)(ht0:w.cell? t=some old)(hf0:w.frozen? t=false)(hts:t=⟨t.block,0,none⟩):
  Calls Tryz.prog 47 #[.iface 119 (.pointer (some e)),.iface 121 (.pointer (some t))] w fun ev w'=>ev=.returned (.bool true)∧w'.cell? t=some (.pointer (some e))∧w.grownBy w' (some t.block):=by
 refine(yru e t old w hg ht0 hf0).mono ?_
 rintro ev w'⟨rfl,rfl⟩
 have htl:t.block<w.heap.size:=World.block_lt_of_cell? w _ ht0
 have b4:∀a b c d:Obj,Below w.heap.size w ((((w.alloc a).alloc b).alloc c).alloc d):=fun a b c d=>((((Below.refl _ w).alloc (Nat.le_refl _) a).alloc (by simp) b).alloc (by simp;omega) c).alloc (by simp;omega) d
 refine⟨rfl,?_,?_⟩
 ·exact World.cell?_setCell_same (h:=((b4 _ _ _ _).cell htl).trans ht0) ..
 ·rw[hts]
  exact zam (zdt (b4 _ _ _ _)) (zap _ _ _ _)
theorem ylo(w:World)(o:Obj):Below w.heap.size w (w.alloc o):=(Below.refl _ w).alloc (Nat.le_refl _) o
section
open Go.ChangeShapes
def yop:DataW Unit:=.iface "internal/reflectlite.rtype" (.agg [.ptr (.lit (.string [101,114,114,111,114]))])
theorem h_et:Tryz.prog.globalNamed "errors.errorType"=some 2:=by kernel_rfl
theorem h_rt:(Tryz.prog.cutTypes.find? (·.1== "internal/reflectlite.rtype")).map (·.2)=some 205:=by kernel_rfl
theorem h_row:((List.range 385).filter fun t=>Tryz.prog.rowNamed t [101,114,114,111,114])=[41]:=by kernel_rfl
theorem yre:Tryz.prog.types.size=385:=by kernel_rfl
theorem yfx(c:Nat):(zka c).2.handleName?=none:=by unfold zka;rfl
theorem yoq{W:World}(h:handlesMet Tryz.prog [("errors.errorType",yop)] W):Hand W:=by
 obtain⟨name,u,ty,e1,e2,e3,e4,e5⟩:=h _ (List.mem_singleton.2 rfl)
 have en:name=[101,114,114,111,114]:=(Option.some.inj e1).symm
 subst en
 obtain rfl:=Option.some.inj (h_rt.symm.trans e2)
 have hm:ty∈(List.range 385).filter fun t=>Tryz.prog.rowNamed t [101,114,114,111,114]:=List.mem_filter.2 ⟨List.mem_range.2 (by rw[←yre];exact e3),e4⟩
 rw[h_row] at hm
 obtain rfl:=List.mem_singleton.1 hm
 have hh:typeHandle Tryz.prog 41=.pointer (some ⟨25,41,none⟩):=by kernel_rfl
 rw[hh] at e5
 have:=World.var?_cell h_et e5 0
 unfold Hand
 simpa using this
theorem yrg(l:List Nat):(l.map zka).filter (fun x=>x.2.handleName?.isSome)=[]:=by
 rw[List.filter_eq_nil_iff]
 intro x hx
 obtain⟨c,_,rfl⟩:=List.mem_map.1 hx
 rw[yfx];simp
theorem f_all(l:List Nat):(l.map zka).filter (fun x=>x.2.handleName?.isNone)=l.map zka:=by
 rw[List.filter_eq_self]
 intro x hx
 obtain⟨c,_,rfl⟩:=List.mem_map.1 hx
 rw[yfx];rfl
theorem zs3{L:List (String×DataW Unit)}{l:List Nat}{W:World}(e:L=("errors.errorType",yop)::l.map zka)(h:laidMetH Tryz.prog L W):laidMet Tryz.prog (l.map zka) W∧Hand W:=by
 subst e
 have hs:(("errors.errorType",yop)::l.map zka).filter (fun x=>x.2.handleName?.isSome)=[("errors.errorType",yop)]:=by
  rw[List.filter_cons_of_pos (by rfl),yrg]
 have hn:(("errors.errorType",yop)::l.map zka).filter (fun x=>x.2.handleName?.isNone)=l.map zka:=by
  rw[List.filter_cons_of_neg (by simp[yop,DataW.handleName?]),f_all]
 unfold laidMetH at h
 rw[hs] at h
 simp only[hn] at h
 exact⟨h.1,yoq h.2⟩
end
def zo8(c d:Nat):Nat:=if c=0 then d else c
theorem zd9(d:Nat):zo8 0 d=d:=rfl
theorem ztf{c:Nat}(h:c≠0)(d:Nat):zo8 c d=c:=by simp[zo8,h]
attribute [irreducible] zo8
def WAt(E:Nat→Addr)(w:World)(b:Nat)(l:List UInt8)(c:Nat):Prop:=
 ∃v,w.heap[b]?=some (.cells #[v,ev E c] 305 (0,0))∧w.ownsRow (b+1) 5 1 v l.length (l.map bv)
structure KeepW(b:Nat)(w w':World):Prop where
 os:w'.os=w.os
 tape:w'.tape=w.tape
 output:w'.output=w.output
 size:w.heap.size≤w'.heap.size
 block:∀k,k<w.heap.size→k≠b→(k<b∨∀cur,w.heap[k]?≠some (.cells cur 5 (0,0)))→w'.heap[k]?=w.heap[k]?
theorem KeepW.trans{b:Nat}{x y z:World}(h:KeepW b x y)(k:KeepW b y z):KeepW b x z:=
 ⟨k.os.trans h.os,k.tape.trans h.tape,k.output.trans h.output,Nat.le_trans h.size k.size,fun i hi hne hc=>by
  have e:=h.block i hi hne hc
  exact(k.block i (Nat.lt_of_lt_of_le hi h.size) hne (by
   rcases hc with hc|hc
   ·exact .inl hc
   ·exact .inr (by rw[e];exact hc))).trans e⟩
theorem KeepW.of_below{b:Nat}{w w':World}(h:Below w.heap.size w w'):KeepW b w w':=⟨h.os,h.tape,h.output,h.size,fun k hk _ _=>h.block k hk⟩
theorem KeepW.old{b B:Nat}{x w w':World}(h:KeepW b w w')(hx:Below B x w)(hb:B≤b)(hw:b<w.heap.size):Below B x w':=
 ⟨h.os.trans hx.os,h.tape.trans hx.tape,h.output.trans hx.output,Nat.le_trans hx.size h.size,fun k hk=>(h.block k (by omega) (by omega) (.inl (by omega))).trans (hx.block k hk)⟩
theorem KeepW.set{b k:Nat}(w:World)(v:Value):KeepW b w (w.setCell ⟨b,k,none⟩ v):=
 ⟨rfl,rfl,rfl,by simp[World.setCell],fun j _ hne _=>Below.heap_setCell w ⟨b,k,none⟩ v j (fun e=>hne e)⟩
theorem KeepW.grown{b:Nat}{w w':World}{v:Value}{n:Nat}{xs:List Value}(ho:w.ownsRow (b+1) 5 1 v n xs)(h:w.grownBy w' v.ownBlock):KeepW b w w':=
 ⟨h.os,h.tape,h.output,h.size,fun k hk _ hc=>h.block k hk (fun e=>by
  have hl:=ho.lt k e.symm
  rcases hc with hc|hc
  ·omega
  ·obtain⟨_,h2⟩:=ho
   rcases h2 with⟨rfl,_⟩|⟨g,cap,cur,rfl,_,hh,_⟩
   ·simp[Value.ownBlock] at e
   ·simp[Value.ownBlock] at e;subst e;exact hc cur hh)⟩
def WRaw(w:World)(b:Nat)(v x:Value)(l:List UInt8):Prop:=w.heap[b]?=some (.cells #[v,x] 305 (0,0))∧w.ownsRow (b+1) 5 1 v l.length (l.map bv)
theorem WRaw.c0{w:World}{b:Nat}{v x:Value}{l:List UInt8}(h:WRaw w b v x l):w.cell? ⟨b,0,none⟩=some v:=by have:=h.1;simp[World.cell?,this]
theorem WRaw.c1{w:World}{b:Nat}{v x:Value}{l:List UInt8}(h:WRaw w b v x l):w.cell? ⟨b,1,none⟩=some x:=by have:=h.1;simp[World.cell?,this]
theorem WRaw.fz{w:World}{b:Nat}{v x:Value}{l:List UInt8}(h:WRaw w b v x l)(k:Nat):w.frozen? ⟨b,k,none⟩=false:=by have:=h.1;simp[World.frozen?,this]
theorem WRaw.lt{w:World}{b:Nat}{v x:Value}{l:List UInt8}(h:WRaw w b v x l):b<w.heap.size:=lt_of_block h.1
theorem WRaw.s1{w:World}{b:Nat}{v x:Value}{l:List UInt8}(h:WRaw w b v x l)(y:Value):WRaw (w.setCell ⟨b,1,none⟩ y) b v y l:=
 ⟨za2 h.1,ownsRow_setCell_below h.2 (Nat.lt_succ_self b) y⟩
theorem WRaw.below{w w':World}{b:Nat}{v x:Value}{l:List UInt8}(h:WRaw w b v x l)(hb:Below w.heap.size w w'):WRaw w' b v x l:=
 ⟨(hb.block b h.lt).trans h.1,h.2.kept (zdt (r:=none) hb) (by
  rcases v.ownBlock with _|j
  ·exact .inl rfl
  ·exact .inr (by simp))⟩
theorem WRaw.grown{w w':World}{b:Nat}{v x:Value}{l:List UInt8}(h:WRaw w b v x l)(hg:w.grownBy w' v.ownBlock):w'.heap[b]?=some (.cells #[v,x] 305 (0,0)):=
 (hg.block b h.lt (fun e=>by have:=h.2.lt b e.symm;omega)).trans h.1
theorem WRaw.fzg{w w':World}{b:Nat}{v x:Value}{l:List UInt8}(h:WRaw w b v x l)(hg:w.grownBy w' v.ownBlock):w'.frozen? ⟨b,0,none⟩=false:=by simp[World.frozen?,h.grown hg]
theorem WRaw.c0g{w w':World}{b:Nat}{v x:Value}{l:List UInt8}(h:WRaw w b v x l)(hg:w.grownBy w' v.ownBlock):w'.cell? ⟨b,0,none⟩=some v:=by simp[World.cell?,h.grown hg]
theorem WRaw.tail{w w':World}{b:Nat}{v v' x:Value}{l m:List UInt8}(h:WRaw w b v x l)(h1:w'.ownsRow (b+1) 5 1 v' (l.length+(bs m).size) (l.map bv++Lib.strCells (bs m)))(hg:w.grownBy w' v.ownBlock):
  WRaw (w'.setCell ⟨b,0,none⟩ v') b v' x (l++m)∧KeepW b w (w'.setCell ⟨b,0,none⟩ v'):=by
 have hb:w'.heap[b]?=some (.cells #[v,x] 305 (0,0)):=(hg.block b h.lt (fun e=>by have:=h.2.lt b e.symm;omega)).trans h.1
 refine⟨⟨za2 hb,?_⟩,(KeepW.grown h.2 hg).trans (KeepW.set w' v')⟩
 have:=ownsRow_setCell_below h1 (a:=⟨b,0,none⟩) (Nat.lt_succ_self b) v'
 rw[zgq,zae] at this
 simpa using this
theorem yjd(n:Int):(ydy n).length≤7:=by
 by_cases h:0≤n∧n≤1099511627776
 ·rw[(zh5 h).2];exact zar _
 ·rw[(zu6 h).2];simp
theorem ynw(l:List UInt8):(ptL l).length≤20007:=by
 by_cases h:l.length≤20000
 ·rw[(zqk h).2];have:=zar l.length;simp;omega
 ·rw[(ymj h).2];simp
theorem yh7(E:Nat→Addr)(b:Nat)(l:List UInt8)(c:Nat)(n:Int)(w:World)(hl:l.length≤1000000000)(h:WAt E w b l c)(hB:Has E w 2):
  Calls Tryz.prog 241 #[.pointer (some ⟨b,0,none⟩),.int .i64 n] w fun e w'=>e=.returned (.tuple #[])∧WAt E w' b (l++ydy n) (zo8 c (ymh n))∧KeepW b w w':=by
 obtain⟨i0,hi,hz0,hz1,hz2⟩:=info_parts zx3
 obtain⟨v,hv⟩:=h
 have hv:WRaw w b v (ev E c) l:=hv
 have hpl:=yjd n
 have hp:=ydx E n w hB
 have HPL:=hid hpl
 have HL:=hid hl
 have HRES:Hid (∀w' v' x c',WRaw w' b v' x (l++ydy n)→x=ev E c'→WAt E w' b (l++ydy n) c'):=fun w' v' x c' h e=>⟨v',by rw[←e];exact h⟩
 generalize ydy n=m at *
 generalize ymh n=d at *
 have HA1:Hid (l.length+(bs m).size≤maxLen):=by show _≤_;rw[zae];unfold maxLen;omega
 have HA2:Hid (l.length+(bs m).size≤140737488355328):=by show _≤_;rw[zae];omega
 have HP:=hid hp
 have HV:=hid hv
 clear hp hv hB hpl hl
 by_cases hc:c=0
 ·subst hc
  rw[zaj] at HV
  by_cases hd:d=0
  ·subst hd
   rw[zaj] at HP
   go_enter Tryz.func241,Tryz.ntmps241
   go_wp2_with (first|(go_at_call 258;refine HP.out.mono ?_;rintro e w1⟨rfl,b1⟩;have V1:=HV.out.below b1;have c1:=V1.c1;have f1:=V1.fz 1;have WV:=V1.s1 .nilIface;have c0:=WV.c0)|(at_builtin;refine Lib.wpList_append_own_string _ rfl _ _ 105 9 rfl (b+1) 5 i0 Tryz.underlying105 Tryz.underlying9 hi hz0 hz1 hz2 _ _ _ rfl WV.2 (bs m) rfl HA1.out HA2.out WV.lt ?_;intro v' w3 hown' hgrow _;obtain⟨A',q',rfl⟩:=zdo hown';have T:=WV.tail hown' hgrow;have fb:=WV.fzg hgrow;have cb:=WV.c0g hgrow))
   rw[zae] at T
   go_returns
   exact⟨rfl,HRES.out _ _ _ _ T.1 (by rw[zd9,zaj]),(KeepW.of_below b1).trans ((KeepW.set _ _).trans T.2)⟩
  ·have HD:=hid hd
   have hev:=za9 E hd
   rw[hev] at HP
   have HEV:=hid hev
   unfold za0 at HP
   unfold za0 at HEV
   clear hd hev
   go_enter Tryz.func241,Tryz.ntmps241
   go_wp2_with (first|(go_at_call 258;refine HP.out.mono ?_;rintro e w1⟨rfl,b1⟩;have V1:=HV.out.below b1;have c1:=V1.c1;have f1:=V1.fz 1;have WV:=V1.s1 (.iface 338 (.pointer (some (E d))));have c0:=WV.c0)|(at_builtin;refine Lib.wpList_append_own_string _ rfl _ _ 105 9 rfl (b+1) 5 i0 Tryz.underlying105 Tryz.underlying9 hi hz0 hz1 hz2 _ _ _ rfl WV.2 (bs m) rfl HA1.out HA2.out WV.lt ?_;intro v' w3 hown' hgrow _;obtain⟨A',q',rfl⟩:=zdo hown';have T:=WV.tail hown' hgrow;have fb:=WV.fzg hgrow;have cb:=WV.c0g hgrow))
   rw[zae] at T
   go_returns
   exact⟨rfl,HRES.out _ _ _ _ T.1 (by rw[zd9,HEV.out]),(KeepW.of_below b1).trans ((KeepW.set _ _).trans T.2)⟩
 ·have HC:=hid hc
  have hev:=za9 E hc
  rw[hev] at HV
  unfold za0 at HV
  have HEV:=hid hev
  unfold za0 at HEV
  clear hc hev
  go_enter Tryz.func241,Tryz.ntmps241
  go_wp2_with (first|(go_at_call 258;refine HP.out.mono ?_;rintro e w1⟨rfl,b1⟩;have WV:=HV.out.below b1;have c1:=WV.c1;have c0:=WV.c0)|(at_builtin;refine Lib.wpList_append_own_string _ rfl _ _ 105 9 rfl (b+1) 5 i0 Tryz.underlying105 Tryz.underlying9 hi hz0 hz1 hz2 _ _ _ rfl WV.2 (bs m) rfl HA1.out HA2.out WV.lt ?_;intro v' w3 hown' hgrow _;obtain⟨A',q',rfl⟩:=zdo hown';have T:=WV.tail hown' hgrow;have fb:=WV.fzg hgrow;have cb:=WV.c0g hgrow))
  rw[zae] at T
  go_returns
  exact⟨rfl,HRES.out _ _ _ _ T.1 (by rw[ztf HC.out,HEV.out]),(KeepW.of_below b1).trans T.2⟩
theorem yb7(E:Nat→Addr)(b:Nat)(l:List UInt8)(c:Nat)(s:ByteArray)(w:World)(hs:s.size≤1000000000)(hl:l.length≤1000000000)(h:WAt E w b l c)(hB:Has E w 2):
  Calls Tryz.prog 220 #[.pointer (some ⟨b,0,none⟩),.string s] w fun e w'=>e=.returned (.tuple #[])∧WAt E w' b (l++ptL s.data.toList) (zo8 c (ptC s.data.toList))∧KeepW b w w':=by
 obtain⟨i0,hi,hz0,hz1,hz2⟩:=info_parts zx3
 obtain⟨v,hv⟩:=h
 have hv:WRaw w b v (ev E c) l:=hv
 have hpl:=ynw s.data.toList
 have hp:=yd1 E s w hs hB
 have HPL:=hid hpl
 have HL:=hid hl
 have HRES:Hid (∀w' v' x c',WRaw w' b v' x (l++ptL s.data.toList)→x=ev E c'→WAt E w' b (l++ptL s.data.toList) c'):=fun w' v' x c' h e=>⟨v',by rw[←e];exact h⟩
 generalize ptL s.data.toList=m at *
 generalize ptC s.data.toList=d at *
 have HA1:Hid (l.length+(bs m).size≤maxLen):=by show _≤_;rw[zae];unfold maxLen;omega
 have HA2:Hid (l.length+(bs m).size≤140737488355328):=by show _≤_;rw[zae];omega
 have HP:=hid hp
 have HV:=hid hv
 clear hp hv hB hpl hl
 by_cases hc:c=0
 ·subst hc
  rw[zaj] at HV
  by_cases hd:d=0
  ·subst hd
   rw[zaj] at HP
   go_enter Tryz.func220,Tryz.ntmps220
   go_wp2_with (first|(go_at_call 246;refine HP.out.mono ?_;rintro e w1⟨rfl,b1⟩;have V1:=HV.out.below b1;have c1:=V1.c1;have f1:=V1.fz 1;have WV:=V1.s1 .nilIface;have c0:=WV.c0)|(at_builtin;refine Lib.wpList_append_own_string _ rfl _ _ 105 9 rfl (b+1) 5 i0 Tryz.underlying105 Tryz.underlying9 hi hz0 hz1 hz2 _ _ _ rfl WV.2 (bs m) rfl HA1.out HA2.out WV.lt ?_;intro v' w3 hown' hgrow _;obtain⟨A',q',rfl⟩:=zdo hown';have T:=WV.tail hown' hgrow;have fb:=WV.fzg hgrow;have cb:=WV.c0g hgrow))
   rw[zae] at T
   go_returns
   exact⟨rfl,HRES.out _ _ _ _ T.1 (by rw[zd9,zaj]),(KeepW.of_below b1).trans ((KeepW.set _ _).trans T.2)⟩
  ·have HD:=hid hd
   have hev:=za9 E hd
   rw[hev] at HP
   have HEV:=hid hev
   unfold za0 at HP
   unfold za0 at HEV
   clear hd hev
   go_enter Tryz.func220,Tryz.ntmps220
   go_wp2_with (first|(go_at_call 246;refine HP.out.mono ?_;rintro e w1⟨rfl,b1⟩;have V1:=HV.out.below b1;have c1:=V1.c1;have f1:=V1.fz 1;have WV:=V1.s1 (.iface 338 (.pointer (some (E d))));have c0:=WV.c0)|(at_builtin;refine Lib.wpList_append_own_string _ rfl _ _ 105 9 rfl (b+1) 5 i0 Tryz.underlying105 Tryz.underlying9 hi hz0 hz1 hz2 _ _ _ rfl WV.2 (bs m) rfl HA1.out HA2.out WV.lt ?_;intro v' w3 hown' hgrow _;obtain⟨A',q',rfl⟩:=zdo hown';have T:=WV.tail hown' hgrow;have fb:=WV.fzg hgrow;have cb:=WV.c0g hgrow))
   rw[zae] at T
   go_returns
   exact⟨rfl,HRES.out _ _ _ _ T.1 (by rw[zd9,HEV.out]),(KeepW.of_below b1).trans ((KeepW.set _ _).trans T.2)⟩
 ·have HC:=hid hc
  have hev:=za9 E hc
  rw[hev] at HV
  unfold za0 at HV
  have HEV:=hid hev
  unfold za0 at HEV
  clear hc hev
  go_enter Tryz.func220,Tryz.ntmps220
  go_wp2_with (first|(go_at_call 246;refine HP.out.mono ?_;rintro e w1⟨rfl,b1⟩;have WV:=HV.out.below b1;have c1:=WV.c1;have c0:=WV.c0)|(at_builtin;refine Lib.wpList_append_own_string _ rfl _ _ 105 9 rfl (b+1) 5 i0 Tryz.underlying105 Tryz.underlying9 hi hz0 hz1 hz2 _ _ _ rfl WV.2 (bs m) rfl HA1.out HA2.out WV.lt ?_;intro v' w3 hown' hgrow _;obtain⟨A',q',rfl⟩:=zdo hown';have T:=WV.tail hown' hgrow;have fb:=WV.fzg hgrow;have cb:=WV.c0g hgrow))
  rw[zae] at T
  go_returns
  exact⟨rfl,HRES.out _ _ _ _ T.1 (by rw[ztf HC.out,HEV.out]),(KeepW.of_below b1).trans T.2⟩
def yg3(c:Nat)(l:List UInt8):List UInt8:=if c=0 then l else []
theorem zeb(l:List UInt8):yg3 0 l=l:=rfl
theorem yg2{c:Nat}(h:c≠0)(l:List UInt8):yg3 c l=[]:=by simp[yg3,h]
attribute [irreducible] yg3
theorem zf4(E:Nat→Addr)(b:Nat)(l:List UInt8)(c:Nat)(w:World)(hl:c=0→0<l.length)(h:WAt E w b l c):
  Calls Tryz.prog 221 #[.pointer (some ⟨b,0,none⟩)] w fun e w'=>e=.returned (.tuple #[.string (bs (yg3 c l)),ev E c])∧Drew w w':=by
 obtain⟨v,hv⟩:=h
 have hv:WRaw w b v (ev E c) l:=hv
 have c0:=hv.c0
 have c1:=hv.c1
 by_cases hc:c=0
 ·subst hc
  rw[zaj] at c1
  have hown:=hv.2
  have hpos:=hl rfl
  have hD:=zeb l
  have HD:=hid hD
  have HZ:=hid (zaj E)
  obtain⟨g,cap,rfl,_,_,_,_,_,_⟩:=zgc hown (by omega)
  have hcv:=zpg (T:=105) (D:=9) hown Tryz.underlying105 Tryz.underlying5 Tryz.underlying9
  clear hown hpos hl hD hv
  go_enter Tryz.func221,Tryz.ntmps221
  go_wp2_with fail
  go_ret2
  exact⟨zqb (by rw[HD.out];rfl) (by rw[HZ.out];rfl),Drew.refl _⟩
 ·have hev:=za9 E hc
  rw[hev] at c1
  unfold za0 at c1
  have HD:=hid (yg2 hc l)
  have HEV:=hid hev
  unfold za0 at HEV
  clear hev hc hl hv
  go_enter Tryz.func221,Tryz.ntmps221
  go_wp2_with fail
  go_quiet (fail)
  go_wp2_with fail
  go_ret2
  exact⟨zqb (by rw[HD.out,bs_nil];rfl) (by rw[HEV.out];rfl),Drew.drewN _ _⟩
def RAt(E:Nat→Addr)(w:World)(b:Nat)(l:List UInt8)(c:Nat):Prop:=w.heap[b]?=some (.cells #[.string (bs l),ev E c] 297 (0,0))
theorem RAt.lt{E:Nat→Addr}{w:World}{b:Nat}{l:List UInt8}{c:Nat}(h:RAt E w b l c):b<w.heap.size:=lt_of_block h
theorem RAt.cs{E:Nat→Addr}{w:World}{b:Nat}{l:List UInt8}{c:Nat}(h:RAt E w b l c):w.cell? ⟨b,0,none⟩=some (.string (bs l))∧w.cell? ⟨b,1,none⟩=some (ev E c):=by unfold RAt at h;simp[World.cell?,h]
theorem RAt.fz{E:Nat→Addr}{w:World}{b:Nat}{l:List UInt8}{c:Nat}(h:RAt E w b l c)(k:Nat):w.frozen? ⟨b,k,none⟩=false:=by unfold RAt at h;simp[World.frozen?,h]
theorem RAt.set{E:Nat→Addr}{w:World}{b:Nat}{l:List UInt8}{c:Nat}(h:RAt E w b l c)(m:List UInt8)(d:Nat)(x:Value)(hx:x=ev E d):
  RAt E ((w.setCell ⟨b,0,none⟩ (.string (bs m))).setCell ⟨b,1,none⟩ x) b m d:=by subst hx;exact za2 (za2 h)
theorem RAt.set1{E:Nat→Addr}{w:World}{b:Nat}{l:List UInt8}{c:Nat}(h:RAt E w b l c)(d:Nat)(x:Value)(hx:x=ev E d):
  RAt E (w.setCell ⟨b,1,none⟩ x) b l d:=by subst hx;exact za2 h
theorem RAt.below{E:Nat→Addr}{w w':World}{b:Nat}{l:List UInt8}{c:Nat}(h:RAt E w b l c)(hb:Below w.heap.size w w'):RAt E w' b l c:=(hb.block b h.lt).trans h
theorem RAt.grown{E:Nat→Addr}{w w':World}{b:Nat}{l:List UInt8}{c:Nat}{r:Option Nat}(h:RAt E w b l c)(hg:w.grownBy w' r)(hr:some b≠r):RAt E w' b l c:=(hg.block b h.lt hr).trans h
theorem RAt.drewN{E:Nat→Addr}{w:World}{b:Nat}{l:List UInt8}{c:Nat}(h:RAt E w b l c)(n:Nat):RAt E (w.drewN n) b l c:=h
def rnN(l:List UInt8)(c:Nat):Nat:=if c=0 then gN l else 0
def rnR(l:List UInt8)(c:Nat):List UInt8:=if c=0 then gR l else l
def rnC(l:List UInt8)(c:Nat):Nat:=if c=0 then gC l else c
def rtT(l:List UInt8)(c:Nat):List UInt8:=if c=0 then tT l else []
def rtR(l:List UInt8)(c:Nat):List UInt8:=if c=0 then tR l else l
def rtC(l:List UInt8)(c:Nat):Nat:=if c=0 then tC l else c
def zg6(l:List UInt8)(c:Nat):Nat:=if c=0∧l≠[] then 1 else c
theorem zhf(l:List UInt8):rnN l 0=gN l∧rnR l 0=gR l∧rnC l 0=gC l:=⟨rfl,rfl,rfl⟩
theorem yl9(l:List UInt8){c:Nat}(h:c≠0):rnN l c=0∧rnR l c=l∧rnC l c=c:=by simp[rnN,rnR,rnC,h]
theorem zc7(l:List UInt8):rtT l 0=tT l∧rtR l 0=tR l∧rtC l 0=tC l:=⟨rfl,rfl,rfl⟩
theorem yl7(l:List UInt8){c:Nat}(h:c≠0):rtT l c=[]∧rtR l c=l∧rtC l c=c:=by simp[rtT,rtR,rtC,h]
theorem ydo{l:List UInt8}(h:l≠[]):zg6 l 0=1:=by simp[zg6,h]
theorem ze0:zg6 [] 0=0:=by simp[zg6]
theorem yi4(l:List UInt8){c:Nat}(h:c≠0):zg6 l c=c:=by simp[zg6,h]
theorem zb5(l:List UInt8)(c:Nat):(rnR l c).length≤l.length:=by have:=yga l;unfold rnR;split<;>omega
theorem zuv(l:List UInt8)(c:Nat):(rtR l c).length≤l.length:=by have:=(yl3 l).2.2;unfold rtR;split<;>omega
theorem zw7(l:List UInt8)(c:Nat):rnN l c≤1099511627776:=by have:=gN_le l;unfold rnN;split<;>omega
attribute [irreducible] rnN rnR rnC rtT rtR rtC zg6
theorem zcx(E:Nat→Addr)(b:Nat)(l:List UInt8)(c:Nat)(w:World)(hl:l.length≤1000000000)(h:RAt E w b l c)(hT:Has E w 1)(hB:Has E w 2):
  Calls Tryz.prog 213 #[.pointer (some ⟨b,0,none⟩)] w fun e w'=>e=.returned (.int .i64 (rnN l c))∧RAt E w' b (rnR l c) (rnC l c)∧w.grownBy w' (some b):=by
 obtain⟨c0,c1⟩:=h.cs
 by_cases hc:c=0
 ·subst hc
  rw[zaj] at c1
  have GET:=yf7 E (bs l) w (by simpa using hl) hT hB
  rw[zai] at GET
  obtain⟨h1,h2,h3⟩:=zhf l
  have F:∀n x,x=ev E (gC l)→RAt E (((w.drewN n).setCell ⟨b,0,none⟩ (.string (bs (gR l)))).setCell ⟨b,1,none⟩ x) b (gR l) (gC l)∧w.grownBy (((w.drewN n).setCell ⟨b,0,none⟩ (.string (bs (gR l)))).setCell ⟨b,1,none⟩ x) (some b):=fun n x hx=>
   ⟨(h.drewN n).set _ _ x hx,zam (zam (zc5 (World.grownBy.refl w _) n) (zap _ _ _ _)) (zap _ _ _ _)⟩
  rw[h1,h2,h3]
  clear h1 h2 h3
  have f0:=h.fz 0
  have f1:=h.fz 1
  have FF:=hid F
  clear F h hl hT hB
  generalize gN l=n at *
  generalize gR l=r at *
  by_cases hd:gC l=0
  ·rw[hd,zaj] at GET
   have HEV:=hid (show Value.nilIface=ev E (gC l) by rw[hd,zaj])
   have HG:=hid GET
   clear GET hd
   go_enter Tryz.func213,Tryz.ntmps213
   go_wp2_with (go_at_call 242;refine HG.out.mono ?_;rintro e w1⟨rfl,b1⟩;obtain⟨m,rfl⟩:=b1)
   go_ret
   exact⟨rfl,FF.out _ _ HEV.out⟩
  ·have hev:=za9 E hd
   rw[hev] at GET
   unfold za0 at GET
   have HEV:=hid hev.symm
   unfold za0 at HEV
   have HG:=hid GET
   clear GET hd hev
   go_enter Tryz.func213,Tryz.ntmps213
   go_wp2_with (go_at_call 242;refine HG.out.mono ?_;rintro e w1⟨rfl,b1⟩;obtain⟨m,rfl⟩:=b1)
   go_ret
   exact⟨rfl,FF.out _ _ HEV.out⟩
 ·obtain⟨h1,h2,h3⟩:=yl9 l hc
  rw[h1,h2,h3]
  rw[za9 E hc] at c1
  unfold za0 at c1
  have H:=hid h
  clear h1 h2 h3 hc h
  go_enter Tryz.func213,Tryz.ntmps213
  go_wp2_with fail
  go_ret
  exact⟨rfl,H.out,World.grownBy.refl _ _⟩
theorem zfj(E:Nat→Addr)(b:Nat)(l:List UInt8)(c:Nat)(w:World)(hl:l.length≤1000000000)(h:RAt E w b l c)(hT:Has E w 1)(hB:Has E w 2):
  Calls Tryz.prog 214 #[.pointer (some ⟨b,0,none⟩)] w fun e w'=>e=.returned (.string (bs (rtT l c)))∧RAt E w' b (rtR l c) (rtC l c)∧w.grownBy w' (some b):=by
 obtain⟨c0,c1⟩:=h.cs
 by_cases hc:c=0
 ·subst hc
  rw[zaj] at c1
  have GET:=yfy E (bs l) w (by simpa using hl) hT hB
  rw[zai] at GET
  obtain⟨h1,h2,h3⟩:=zc7 l
  have F:∀n x,x=ev E (tC l)→RAt E (((w.drewN n).setCell ⟨b,0,none⟩ (.string (bs (tR l)))).setCell ⟨b,1,none⟩ x) b (tR l) (tC l)∧w.grownBy (((w.drewN n).setCell ⟨b,0,none⟩ (.string (bs (tR l)))).setCell ⟨b,1,none⟩ x) (some b):=fun n x hx=>
   ⟨(h.drewN n).set _ _ x hx,zam (zam (zc5 (World.grownBy.refl w _) n) (zap _ _ _ _)) (zap _ _ _ _)⟩
  rw[h1,h2,h3]
  clear h1 h2 h3
  have f0:=h.fz 0
  have f1:=h.fz 1
  have FF:=hid F
  clear F h hl hT hB
  generalize tT l=n at *
  generalize tR l=r at *
  by_cases hd:tC l=0
  ·rw[hd,zaj] at GET
   have HEV:=hid (show Value.nilIface=ev E (tC l) by rw[hd,zaj])
   have HG:=hid GET
   clear GET hd
   go_enter Tryz.func214,Tryz.ntmps214
   go_wp2_with (go_at_call 243;refine HG.out.mono ?_;rintro e w1⟨rfl,b1⟩;obtain⟨m,rfl⟩:=b1)
   go_ret
   exact⟨rfl,FF.out _ _ HEV.out⟩
  ·have hev:=za9 E hd
   rw[hev] at GET
   unfold za0 at GET
   have HEV:=hid hev.symm
   unfold za0 at HEV
   have HG:=hid GET
   clear GET hd hev
   go_enter Tryz.func214,Tryz.ntmps214
   go_wp2_with (go_at_call 243;refine HG.out.mono ?_;rintro e w1⟨rfl,b1⟩;obtain⟨m,rfl⟩:=b1)
   go_ret
   exact⟨rfl,FF.out _ _ HEV.out⟩
 ·obtain⟨h1,h2,h3⟩:=yl7 l hc
  rw[h1,h2,h3]
  rw[za9 E hc] at c1
  unfold za0 at c1
  have H:=hid h
  clear h1 h2 h3 hc h
  go_enter Tryz.func214,Tryz.ntmps214
  go_wp2_with fail
  go_ret
  exact⟨by rw[bs_nil];rfl,H.out,World.grownBy.refl _ _⟩
theorem zh1(E:Nat→Addr)(b:Nat)(l:List UInt8)(c:Nat)(w:World)(h:RAt E w b l c)(hT:Has E w 1):
  Calls Tryz.prog 215 #[.pointer (some ⟨b,0,none⟩)] w fun e w'=>e=.returned (ev E (zg6 l c))∧RAt E w' b l (zg6 l c)∧w.grownBy w' (some b):=by
 obtain⟨c0,c1⟩:=h.cs
 have t1:w.cell? ⟨1,0,none⟩=some (za0 (E 1)):=hT
 have f1:=h.fz 1
 have H:=hid h
 have HT:=hid hT
 clear h hT
 by_cases hc:c=0
 ·subst hc
  rw[zaj] at c1
  by_cases hl:l=[]
  ·subst hl
   rw[ze0,zaj]
   have hb0:(bs []).toList=[]:=by simp[ByteArray.toList_eq]
   go_enter Tryz.func215,Tryz.ntmps215
   go_wp2_with fail
   go_ret
   exact⟨rfl,H.out,World.grownBy.refl _ _⟩
  ·have hb0:((bs l).toList==[])=false:=by simp[ByteArray.toList_eq,hl]
   have hb1:(bs l).toList.isEmpty=false:=by simp[ByteArray.toList_eq,hl]
   rw[ydo hl]
   have HEV:=hid (za9 E (c:=1) (by decide))
   unfold za0 at t1
   have F:=hid (H.out.set1 1 (za0 (E 1)) (za9 E (by decide)).symm)
   rw[HEV.out]
   unfold za0 at F ⊢
   clear hl
   go_enter Tryz.func215,Tryz.ntmps215
   go_wp2_with fail
   go_ret
   exact⟨rfl,F.out,zap _ _ _ _⟩
 ·rw[yi4 l hc]
  have HEV:=hid (za9 E hc)
  rw[HEV.out] at c1 ⊢
  unfold za0 at c1 ⊢
  clear hc
  go_enter Tryz.func215,Tryz.ntmps215
  go_wp2_with fail
  go_ret
  exact⟨rfl,H.out,World.grownBy.refl _ _⟩
theorem zdd(E:Nat→Addr)(b:Nat)(l:List UInt8)(n:Int)(w:World)(hl:l.length≤1000000000)(h:WAt E w b l 0)(hB:Has E w 2)(hn:0≤n)(hn2:n≤1099511627776):
  Calls Tryz.prog 241 #[.pointer (some ⟨b,0,none⟩),.int .i64 n] w fun e w'=>e=.returned (.tuple #[])∧WAt E w' b (l++num n.toNat) 0∧KeepW b w w':=by
 have:=yh7 E b l 0 n w hl h hB
 rw[(zh5 ⟨hn,hn2⟩).1,(zh5 ⟨hn,hn2⟩).2,zd9] at this
 exact this
theorem zgo(E:Nat→Addr)(b:Nat)(l:List UInt8)(s:ByteArray)(w:World)(hl:l.length≤1000000000)(h:WAt E w b l 0)(hB:Has E w 2)(hs:s.size≤20000):
  Calls Tryz.prog 220 #[.pointer (some ⟨b,0,none⟩),.string s] w fun e w'=>e=.returned (.tuple #[])∧WAt E w' b (l++(num s.size++s.data.toList)) 0∧KeepW b w w':=by
 have:=yb7 E b l 0 s w (by omega) hl h hB
 have e:s.data.toList.length=s.size:=by simp
 rw[(zqk (by omega)).1,(zqk (by omega)).2,zd9,e] at this
 exact this
theorem KeepW.obj{b g:Nat}{w w':World}{cs:Array Value}{t:TypeId}{fr:Nat×Nat}(h:KeepW b w w')(hg:w.heap[g]?=some (.cells cs t fr))(hne:g≠b)(ht:t≠5):w'.heap[g]?=some (.cells cs t fr):=
 (h.block g (lt_of_block hg) hne (.inr (fun cur e=>by rw[hg] at e;injection e with e;injection e with _ e _;exact ht e))).trans hg
theorem WAt.lt{E:Nat→Addr}{w:World}{b:Nat}{l:List UInt8}{c:Nat}(h:WAt E w b l c):b<w.heap.size:=by obtain⟨v,h1,_⟩:=h;exact lt_of_block h1
theorem WAt.below{E:Nat→Addr}{w w':World}{b:Nat}{l:List UInt8}{c:Nat}(h:WAt E w b l c)(hb:Below w.heap.size w w'):WAt E w' b l c:=by
 obtain⟨v,h⟩:=h
 exact⟨v,WRaw.below (x:=ev E c) h hb⟩
theorem WAt.new(E:Nat→Addr)(w:World):WAt E (w.alloc (.cells #[.slice none 0 0,.nilIface] 305)) w.heap.size [] 0:=
 ⟨.slice none 0 0,by rw[zaj];exact heap_alloc_new _ _,World.ownsRow_nil _ _ _ _⟩
theorem zaf(w:World)(o:Obj):Below w.heap.size w (w.alloc o):=(Below.refl _ w).alloc (Nat.le_refl _) o
theorem ya2(k:Nat):∀i acc l,(zir k i acc l).2.2=0→(zir k i acc l).2.1.length<l.length:=by
 induction k with
 | zero=>intro i acc l h;simp[zx8] at h
 | succ k ih=>
  intro i acc l h
  cases l with
  | nil=>simp[zx7] at h
  | cons c l=>
   by_cases h1:128≤c.toNat
   ·rw[znh h1] at h ⊢
    have:=ih _ _ _ h
    simp only[List.length_cons];omega
   ·by_cases h2:c.toNat=0∧0<i
    ·rw[ztd h2.1 h2.2] at h;simp at h
    ·by_cases h3:1099511627776<acc+c.toNat % 128 * 128 ^ i
     ·rw[zte (by omega) h2 h3] at h;simp at h
     ·rw[zj5 (by omega) h2 h3];simp
theorem zq5(l:List UInt8)(h:gC l=0):(gR l).length<l.length:=by
 unfold gR gC yh3 at *;exact ya2 6 0 0 l h
theorem zh0{l:List UInt8}{c:Nat}(h:rnC l c=0):c=0∧gC l=0:=by
 by_cases hc:c=0
 ·subst hc;rw[(zhf l).2.2] at h;exact⟨rfl,h⟩
 ·rw[(yl9 l hc).2.2] at h;exact absurd h hc
theorem yiu{l:List UInt8}{c:Nat}(h:rtC l c=0):c=0∧tC l=0:=by
 by_cases hc:c=0
 ·subst hc;rw[(zc7 l).2.2] at h;exact⟨rfl,h⟩
 ·rw[(yl7 l hc).2.2] at h;exact absurd h hc
theorem zhj{w:World}{base base':Nat}{e:TypeId}{size:Nat}{v:Value}{n:Nat}{xs:List Value}(h:w.ownsRow base e size v n xs)(hb:base'≤base):w.ownsRow base' e size v n xs:=by
 obtain⟨h1,h2⟩:=h
 refine⟨h1,?_⟩
 rcases h2 with h2|⟨g,cap,cur,hv,hg,r⟩
 ·exact .inl h2
 ·exact .inr ⟨g,cap,cur,hv,by omega,r⟩
theorem zbp{w w':World}{base b:Nat}{e:TypeId}{size:Nat}{v:Value}{n:Nat}{xs:List Value}(h:w.ownsRow base e size v n xs)(hb:b<base)(hg:w.grownBy w' (some b)):w'.ownsRow base e size v n xs:=
 h.kept hg (by
  rcases hx:v.ownBlock with _|j
  ·exact .inl rfl
  ·exact .inr (by have:=h.lt j hx;simp;omega))
theorem zeq{w w':World}{a:Addr}{v:Value}(h:w.cell? a=some v)(hb:Below w.heap.size w w'):w'.cell? a=some v:=(hb.cell (World.block_lt_of_cell? w _ h)).trans h
theorem zf9(n:Nat)(more:List UInt8)(h:n≤1099511627776):rnN (num n++more) 0=n∧rnR (num n++more) 0=more∧rnC (num n++more) 0=0:=by
 rw[(zhf _).1,(zhf _).2.1,(zhf _).2.2]
 exact⟨ygb n more h,yf9 n more h,ygc n more h⟩
theorem zrk{w w':World}(h:Below w.heap.size w w'):w.grownBy w' none:=⟨h.os,h.tape,h.output,h.size,fun k hk _=>h.block k hk⟩
theorem zad{w w':World}{base:Nat}{e:TypeId}{size:Nat}{v:Value}{n:Nat}{xs:List Value}(h:w.ownsRow base e size v n xs)(hb:Below w.heap.size w w'):w'.ownsRow base e size v n xs:=
 h.kept (zrk hb) (by
  rcases v.ownBlock with _|j
  ·exact .inl rfl
  ·exact .inr (by simp))
theorem zao{w:World}{a:Addr}{i j:Nat}{v:Value}(h:w.cell? (a.add (i+(j+1)))=some v):w.cell? ⟨(a.add i).block,(a.add i).off+(j+1),none⟩=some v:=by
 rw[←Addr.add_succ',Addr.add_add];exact h
theorem SliceIs.ownedK{W:World}{base k:Nat}{e:TypeId}{v:Value}{n:Nat}{vals:List Value}(h:W.ownsRow base e k v n vals):SliceIs W v k vals:=by
 have h0:=h
 obtain⟨h1,h2⟩:=h
 rcases h2 with⟨rfl,h2⟩|⟨g,cap,cur,rfl,hg,hh,h3,h4,h5⟩
 ·exact .inl ⟨rfl,List.eq_nil_of_length_eq_zero (by subst h2;simpa using h1)⟩
 ·refine .inr ⟨⟨g,0,none⟩,n,cap,rfl,h3,h4,h1,fun i u hi=>?_⟩
  exact h0.cells (g:=g) rfl i u hi
theorem zab{W:World}{base k:Nat}{e:TypeId}{v:Value}{n:Nat}{vals:List Value}(h:W.ownsRow base e k v n vals):∃A cap,v=.slice A n cap:=by
 obtain⟨h1,h2⟩:=h
 rcases h2 with⟨rfl,rfl⟩|⟨g,cap,cur,rfl,_⟩
 ·exact⟨none,0,rfl⟩
 ·exact⟨_,cap,rfl⟩
theorem za1{w:World}{base base':Nat}{e:TypeId}{size:Nat}{v:Value}{n:Nat}{xs:List Value}(h:w.ownsRow base e size v n xs)(hb:base'≤base):w.ownsRow base' e size v n xs:=by
 obtain⟨h1,h2⟩:=h
 refine⟨h1,?_⟩
 rcases h2 with h2|⟨g,cap,cur,hv,hg,r⟩
 ·exact .inl h2
 ·exact .inr ⟨g,cap,cur,hv,by omega,r⟩
theorem zbu{w w':World}{r:Option Nat}(h:w.drew.grownBy w' r):w.grownBy w' r:=⟨h.os,h.tape,h.output,h.size,h.block⟩
theorem zp7{P:Program}{w:World}{base:Nat}{t ty e:TypeId}{i:TypeInfo}{z:Value}{size bytes:Nat}(ht:P.underlying t=some (.slice e))(hi:P.info? e=some i)(hz:i.zero=some z)
  (hsize:i.size=size) (hby:i.bytes=bytes) (hzs:z.cells.size=size) (hsz:0<size) {v:Value} {n:Nat} {xs:List Value} (hown:w.ownsRow base e size v n xs)
  {x:Value} {m:Nat} {news:List Value} (hx:SliceIs w x size news) (hl:news.length=m * size) (h1:∀u∈news,u.oneCell'=true) (h63:n+m≤maxLen) (hbytes:(n+m) * bytes≤140737488355328) (hbase:base≤w.heap.size) :
  ∃v' w',(Builtin.append_ #[t,t] ty #[v,x]).run P w=.ok v' w'∧w'.ownsRow base e size v' (n+m) (xs++news)∧w.grownBy w' v.ownBlock∧(v'.ownBlock=v.ownBlock∨v'.ownBlock=some w.heap.size):=by
 rcases hx with⟨rfl,rfl⟩|⟨a,len,cap,rfl,h2,h3,h4,h5⟩
 ·have hm:m=0:=by
   rcases Nat.eq_zero_or_pos m with h|h
   ·exact h
   ·have:0<m * size:=Nat.mul_pos h hsz
    simp at hl;omega
  subst hm
  refine⟨v,w,?_,by simpa using hown,⟨rfl,rfl,rfl,Nat.le_refl _,fun _ _ _=>rfl⟩,.inl rfl⟩
  rcases hown.2 with⟨rfl,rfl⟩|⟨g,c,cur,rfl,_,_,hnc,_⟩
  ·simp[Builtin.append_,run_underlying ht,sizeOf,typeInfo,hi,Builtin.lenOf,Builtin.firstCells]
  ·simp[Builtin.append_,run_underlying ht,sizeOf,typeInfo,hi,Builtin.lenOf,Builtin.firstCells,hnc,storeCells]
 ·have hm:len=m:=Nat.eq_of_mul_eq_mul_right hsz (h4.symm.trans hl)
  subst hm
  obtain⟨v',w',hr,k1,k2,_,k3⟩:=run_append_own_at (P:=P) w base t ty e i z size bytes ht hi hz hsize hby hzs hsz v n xs hown a len cap news hl h5 h1 h63 hbytes hbase
  exact⟨v',w',hr,k1,k2,k3⟩
theorem zak{P:Program}{w:World}{ops:Array Oper}{rest:List Oper}{o:Oper}{a:Act}{Q:Exit→Act→World→Prop}(hgd:o.guard=none)(s x:Operand)(t:TypeId)
  (ho:o.op=.call {callee:=.builtin .append,args:=#[s,x],argTypes:=#[t,t]})
  (base:Nat) (e:TypeId) (i:TypeInfo) (z:Value) (size bytes:Nat) (ht:P.underlying t=some (.slice e)) (hi:P.info? e=some i) (hz:i.zero=some z)
  (hsize:i.size=size) (hby:i.bytes=bytes) (hzs:z.cells.size=size) (hsz:0<size)
  (v:Value) (n:Nat) (xs:List Value) (hs:a.eval s=v) (hown:w.ownsRow base e size v n xs)
  (xv:Value) (m:Nat) (news:List Value) (hx:a.eval x=xv) (hsl:SliceIs w xv size news) (hl:news.length=m * size) (h1:∀u∈news,u.oneCell'=true)
  (h63:n+m≤maxLen) (hbytes:(n+m) * bytes≤140737488355328) (hbase:base≤w.heap.size)
  (h:∀v' w',w'.ownsRow base e size v' (n+m) (xs++news)→w.grownBy w' v.ownBlock→(v'.ownBlock=v.ownBlock∨v'.ownBlock=some w.heap.size)→wpList P ops Q rest (a.put o.dst v') w') :
  wpList P ops Q (o::rest) a w:=by
 refine wpList_plain hgd fun K hK=>?_
 obtain⟨v',w',hr,h2,h3,h5⟩:=zp7 (P:=P) (t:=t) (ty:=o.type) ht hi hz hsize hby hzs hsz hown hsl hl h1 h63 hbytes hbase
 unfold Oper.wp execOp
 simp only[ho,resolve,invoke,builtin,Sem.run_bind,Sem.run_pure,Result.andThen_ok,List.map_toArray,List.map_cons,List.map_nil,hs,hx,hr]
 exact hK _ _ (h v' w' h2 h3 h5)
theorem yaf{w:World}{base g cap n size:Nat}{e:TypeId}{xs:List Value}(h:w.ownsRow base e size (.slice (some ⟨g,0,none⟩) n cap) n xs){k:Nat}(hk:n≤k)(hc:k≤cap):
  ∃ys,ys.length=(k - n) * size∧w.ownsRow base e size (.slice (some ⟨g,0,none⟩) k cap) k (xs++ys):=by
 obtain⟨h1,h2⟩:=h
 rcases h2 with⟨h2,_⟩|⟨g',cap',cur,hv,hg,hh,h3,h4,h5,h6⟩
 ·cases h2
 ·cases hv
  have hkm:=Nat.mul_le_mul_right size hk
  have hcm:=Nat.mul_le_mul_right size hc
  have hsub:(k - n) * size=k * size - n * size:=Nat.sub_mul _ _ _
  refine⟨(cur.toList.take (k * size)).drop (n * size),by rw[List.length_drop,List.length_take,Array.length_toList,h5];omega,?_,.inr ⟨g,cap,cur,rfl,hg,hh,hc,h4,h5,?_⟩⟩
  ·rw[List.length_append,h1,List.length_drop,List.length_take,Array.length_toList,h5];omega
  ·rw[←h6]
   have:cur.toList.take (n * size)=(cur.toList.take (k * size)).take (n * size):=by rw[List.take_take,Nat.min_eq_left hkm]
   rw[this,List.take_append_drop]
theorem zfw{P:Program}{w:World}{base g cap n size:Nat}{dT sT e:TypeId}{xs:List Value}(h:w.ownsRow base e size (.slice (some ⟨g,0,none⟩) n cap) n xs)(ht:P.underlying dT=some (.slice e))(hs:(P.info? e).map (·.size)=some size)
  {o m:Nat} {cs:List Value} (hcl:cs.length=m * size) (hom:o+m≤n) (h1:∀u∈cs,u.oneCell'=true) :
  ∃w',(∀ty dLen dCap a sLen sCap,Nat.min sLen dLen=m→(∀j v,cs[j]?=some v→w.cell? (a.add j)=some v)→(Builtin.copy_ #[dT,sT] ty #[.slice (some ⟨g,o * size,none⟩) dLen dCap,.slice (some a) sLen sCap]).run P w=.ok (goInt m) w')∧
   w'.ownsRow base e size (.slice (some ⟨g,0,none⟩) n cap) n (xs.take (o * size)++cs++xs.drop ((o+m) * size))∧w.grownBy w' (some g):=by
 obtain⟨h1',h2⟩:=h
 rcases h2 with⟨h2,_⟩|⟨g',cap',cur,hv,hg,hh,h3,h4,h5,h6⟩
 ·cases h2
 ·cases hv
  have hnm:=Nat.mul_le_mul_right size h3
  have hom':=Nat.mul_le_mul_right size hom
  rw[Nat.add_mul] at hom'
  have hst:=run_storeCells_at P g (o * size) e cs 0 cur w hh (by rw[h5];omega) h1
  simp only[Nat.add_zero] at hst
  generalize hR:(cur.toList.take (o * size)++cs++cur.toList.drop (o * size+cs.length)).toArray=R at hst
  refine⟨w.setRow g R,?_,⟨?_,.inr ⟨g,cap,R,rfl,hg,setRow_heap w g cur _ e _ hh,h3,h4,?_,?_⟩⟩,⟨rfl,rfl,rfl,by simp,fun x _ hx=>setRow_other w g x _ (fun e=>hx (by rw[e]))⟩⟩
  ·intro ty dLen dCap a sLen sCap hmin hsrc
   cases hq:P.info? e with
   | none=>simp[hq] at hs
   | some i=>
    have hi:i.size=size:=by simpa [hq] using hs
    have hf:=run_firstCells_some (P:=P) w size m a sLen sCap cs hcl hsrc
    simp[Builtin.copy_,run_underlying ht,Builtin.lenOf,sizeOf,typeInfo,hq,hi,hmin,hf,hst]
  ·rw[List.length_append,List.length_append,List.length_take,List.length_drop,h1',hcl,Nat.add_mul];omega
  ·rw[←hR]
   simp only[List.size_toArray,List.length_append,List.length_take,List.length_drop,Array.length_toList]
   omega
  ·rw[←hR,←h6,List.take_take,Nat.min_eq_left (by omega),List.drop_take,Nat.add_mul]
   have e1:(cur.toList.take (o * size)++cs).length=o * size+m * size:=by rw[List.length_append,List.length_take,Array.length_toList,hcl];omega
   rw[hcl,List.take_append,e1,List.take_of_length_le (by omega)]
theorem zin{P:Program}{w:World}{base g cap n size bytes:Nat}{t tn e:TypeId}{i0:TypeInfo}{z:Value}{xs:List Value}(h:w.ownsRow base e size (.slice (some ⟨g,0,none⟩) n cap) n xs)(ht:P.underlying t=some (.slice e))(htn:P.underlying tn=some (.int .i64))
  (hi:P.info? e=some i0) (hz:i0.zero=some z) (hsize:i0.size=size) (hby:i0.bytes=bytes) (hzs:z.cells.size=size) (hsz:0<size) {i k:Nat} (hin:i≤n) (hk:0<k) (hg:cap<i+k) (h63:i+k≤maxLen) (hbytes:(i+k) * bytes≤140737488355328) (hbase:base≤w.heap.size) :
  ∃w' G,(∀ty,(Builtin.append_ #[t,tn] ty #[.slice (some ⟨g,0,none⟩) i cap,.int .i64 k]).run P w=.ok (.slice (some ⟨w.heap.size,0,none⟩) (i+k) G) w')∧
   w'.ownsRow base e size (.slice (some ⟨w.heap.size,0,none⟩) (i+k) G) (i+k) (xs.take (i * size)++(Builtin.zeroCells z.cells k).toList)∧Below w.heap.size w w':=by
 subst hsize
 subst hby
 have hle:(i+k) * i0.bytes≤140737488355328:=hbytes
 have hkb:k * i0.bytes≤281474976710656:=Nat.le_trans (Nat.mul_le_mul_right _ (Nat.le_add_left k i)) (by omega)
 have hlen:=h.1
 have him:=Nat.mul_le_mul_right i0.size hin
 have hold:(Builtin.firstCells i0.size i (.slice (some ⟨g,0,none⟩) i cap)).run P w.drew=.ok (xs.take (i * i0.size)).toArray w.drew:=
  run_firstCells_some w.drew i0.size i ⟨g,0,none⟩ i cap (xs.take (i * i0.size)) (by rw[List.length_take];omega) (fun j v hj=>by
   rw[List.getElem?_take] at hj
   split at hj
   ·exact h.cells (g:=g) rfl j v hj
   ·cases hj)
 have hzl:(Builtin.zeroCells z.cells k).toList.length=k * i0.size:=by rw[Array.length_toList,size_zeroCells,hzs]
 have hh63:i+k≤9223372036854775807:=by unfold maxLen at h63;omega
 refine⟨_,_,fun ty=>Lib.run_append_grow_zeros w t tn ty e i0 z .i64 .i64 ht htn hi hz (some ⟨g,0,none⟩) i cap _ hold k hk hsz hg (by omega) hkb (growslice_fits (by omega) hle),⟨?_,.inr ⟨w.heap.size,_,_,rfl,hbase,heap_alloc_new w.drew _,grownCap_ge w _ _ _,grownCap_le_maxLen w _ _ _ h63,?_,?_⟩⟩,?_⟩
 ·rw[List.length_append,List.length_take,hzl,hlen,Nat.add_mul];omega
 ·have:=grownCap_ge w (i+k) cap e
  simp only[Array.size_append,List.size_toArray,size_zeroCells,hzs,List.length_take,hlen]
  have h7:(grownCap w (i+k) cap e - (i+k)) * i0.size=grownCap w (i+k) cap e * i0.size - (i+k) * i0.size:=Nat.sub_mul _ _ _
  have h8:=Nat.mul_le_mul_right i0.size this
  rw[Nat.add_mul] at h7 h8
  rw[h7];omega
 ·simp only[Array.toList_append]
  have e1:((xs.take (i * i0.size)).toArray.toList++(Builtin.zeroCells z.cells k).toList).length=(i+k) * i0.size:=by
   rw[List.length_append,hzl,Nat.add_mul];simp only[List.length_take,hlen];omega
  rw[←e1,List.take_left]
 ·exact(Below.refl w.heap.size w.drew).alloc (Nat.le_refl _) _ |> fun b=>⟨b.os,b.tape,b.output,b.size,b.block⟩
theorem zg9{P:Program}{w:World}{ops:Array Oper}{rest:List Oper}{o:Oper}{a:Act}{Q:Exit→Act→World→Prop}(hgd:o.guard=none)(d s:Operand)(t t':TypeId)
  (ho:o.op=.call {callee:=.builtin .copy,args:=#[d,s],argTypes:=#[t,t']}) (v u:Value) (hd:a.eval d=v) (hs:a.eval s=u) {v':Value} {w':World}
  (hr:(Builtin.copy_ #[t,t'] o.type #[v,u]).run P w=.ok v' w') (h:wpList P ops Q rest (a.put o.dst v') w'):wpList P ops Q (o::rest) a w:=by
 refine wpList_plain hgd fun K hK=>?_
 unfold Oper.wp execOp
 simp only[ho,resolve,invoke,builtin,Sem.run_bind,Sem.run_pure,Result.andThen_ok,List.map_toArray,List.map_cons,List.map_nil,hd,hs,hr]
 exact hK _ _ h
theorem zkj{P:Program}{w:World}{ops:Array Oper}{rest:List Oper}{o:Oper}{a:Act}{Q:Exit→Act→World→Prop}(hgd:o.guard=none)(d s:Operand)(t t':TypeId)
  (ho:o.op=.call {callee:=.builtin .append,args:=#[d,s],argTypes:=#[t,t']}) (v u:Value) (hd:a.eval d=v) (hs:a.eval s=u) {v':Value} {w':World}
  (hr:(Builtin.append_ #[t,t'] o.type #[v,u]).run P w=.ok v' w') (h:wpList P ops Q rest (a.put o.dst v') w'):wpList P ops Q (o::rest) a w:=by
 refine wpList_plain hgd fun K hK=>?_
 unfold Oper.wp execOp
 simp only[ho,resolve,invoke,builtin,Sem.run_bind,Sem.run_pure,Result.andThen_ok,List.map_toArray,List.map_cons,List.map_nil,hd,hs,hr]
 exact hK _ _ h
theorem zjg{P:Program}{ops:Array Oper}{o:Oper}{a:Act}{w:World}{K:Act→World→Prop}{Q:Exit→Act→World→Prop}{E:Prop}
  (hg:o.guard=none) (d x:Operand) (dT sT:TypeId) (hop:o.op=Op.call {callee:=Callee.builtin Builtin.copy,args:=#[d,x],argTypes:=#[dT,sT]})
  (v u:Value) (hd:a.eval d=v) (hx:a.eval x=u) {v':Value} {w':World} (hr:(Builtin.copy_ #[dT,sT] o.type #[v,u]).run P w=.ok v' w') (hK:K (a.put o.dst v') w') :
  if Region.wanted o (yielded ops a.tmps)=true then Oper.wp P o a w K Q else E:=by
 have hw:Region.wanted o (yielded ops a.tmps)=true:=by simp[Region.wanted,hg]
 rw[if_pos hw]
 unfold Oper.wp execOp
 simp only[hop,resolve,invoke,builtin,Sem.run_bind,Sem.run_pure,Result.andThen_ok,List.map_toArray,List.map_cons,List.map_nil,hd,hx,hr]
 exact hK
structure PFr where
 k:UInt8
 e:Int
 q:Int
 d:List UInt8
deriving DecidableEq
def zfr:PFr:=⟨0,0,0,[]⟩
def frC(f:PFr):Nat:=if ¬(97≤f.k.toNat∧f.k.toNat≤122) then 4 else if (0≤f.e∧f.e≤2147483648)∧(0≤f.q∧f.q<65536)∧f.d.length≤20000 then 0 else 2
theorem zx9{f:PFr}(h:¬(97≤f.k.toNat∧f.k.toNat≤122)):frC f=4:=by unfold frC;rw[if_pos h]
theorem zj6{f:PFr}(h:97≤f.k.toNat∧f.k.toNat≤122)(h2:(0≤f.e∧f.e≤2147483648)∧(0≤f.q∧f.q<65536)∧f.d.length≤20000):frC f=0:=by unfold frC;rw[if_neg (by simpa using h),if_pos h2]
theorem zth{f:PFr}(h:97≤f.k.toNat∧f.k.toNat≤122)(h2:¬((0≤f.e∧f.e≤2147483648)∧(0≤f.q∧f.q<65536)∧f.d.length≤20000)):frC f=2:=by unfold frC;rw[if_neg (by simpa using h),if_neg h2]
theorem zq6{f:PFr}(h:frC f=0):(97≤f.k.toNat∧f.k.toNat≤122)∧(0≤f.e∧f.e≤2147483648)∧(0≤f.q∧f.q<65536)∧f.d.length≤20000:=by
 by_cases h1:97≤f.k.toNat∧f.k.toNat≤122
 ·by_cases h2:(0≤f.e∧f.e≤2147483648)∧(0≤f.q∧f.q<65536)∧f.d.length≤20000
  ·exact⟨h1,h2⟩
  ·rw[zth h1 h2] at h;simp at h
 ·rw[zx9 h1] at h;simp at h
def zkh(v:Nat):List UInt8:=[UInt8.ofNat (v % 256),UInt8.ofNat (v / 256 % 256),UInt8.ofNat (v / 65536 % 256),UInt8.ofNat (v / 16777216 % 256)]
theorem zia(v:Nat):(zkh v).length=4:=rfl
theorem zjw{a b:Nat}(ha:a<256)(hb:b<256)(h:UInt8.ofNat a=UInt8.ofNat b):a=b:=by
 have:=congrArg UInt8.toNat h
 rw[zcs a ha,zcs b hb] at this
 exact this
theorem yjy{a b:Nat}(ha:a<4294967296)(hb:b<4294967296)(h:zkh a=zkh b):a=b:=by
 unfold zkh at h
 simp only[List.cons.injEq,and_true] at h
 obtain⟨h0,h1,h2,h3⟩:=h
 have h0:=zjw (by omega) (by omega) h0
 have h1:=zjw (by omega) (by omega) h1
 have h2:=zjw (by omega) (by omega) h2
 have h3:=zjw (by omega) (by omega) h3
 omega
def frB(f:PFr):List UInt8:=f.k::(num f.e.toNat++num f.q.toNat++(num f.d.length++f.d))
def frT(f:PFr):List UInt8:=frB f++zkh (za5 (frB f))
theorem yge(f:PFr):frB f=f.k::(num f.e.toNat++num f.q.toNat++(num f.d.length++f.d)):=rfl
theorem ziw(f:PFr):frT f=frB f++zkh (za5 (frB f)):=rfl
def rdF(k:UInt8)(l:List UInt8):PFr×Nat:=
 let l1:=rnR l 0;let c1:=rnC l 0;let l2:=rnR l1 c1;let c2:=rnC l1 c1
 (⟨k,rnN l 0,rnN l1 c1,rtT l2 c2⟩,zg6 (rtR l2 c2) (rtC l2 c2))
theorem ymf(k:UInt8){l l1 l2 l3:List UInt8}{c1 c2 c3:Nat}(h1:rnR l 0=l1)(h2:rnC l 0=c1)(h3:rnR l1 c1=l2)(h4:rnC l1 c1=c2)(h5:rtR l2 c2=l3)(h6:rtC l2 c2=c3):rdF k l=(⟨k,rnN l 0,rnN l1 c1,rtT l2 c2⟩,zg6 l3 c3):=by
 subst h1 h2 h3 h4 h5 h6;rfl
def zfe(L:List UInt8):PFr×Nat:=
 if L.length<4 then (zfr,1)
 else if zkh (za5 (L.take (L.length - 4)))≠L.drop (L.length - 4) then (zfr,10)
 else match L.take (L.length - 4) with
  | []=>(zfr,1)
  | k::l=>if (rdF k l).2≠0 then (zfr,(rdF k l).2) else if frC (rdF k l).1≠0 then (zfr,frC (rdF k l).1) else ((rdF k l).1,0)
theorem ybg{L:List UInt8}(h:L.length<4):zfe L=(zfr,1):=by unfold zfe;rw[if_pos h]
theorem zyl{L:List UInt8}(h:¬L.length<4)(h2:zkh (za5 (L.take (L.length - 4)))≠L.drop (L.length - 4)):zfe L=(zfr,10):=by unfold zfe;rw[if_neg h,if_pos h2]
theorem yg8{L:List UInt8}(h:L.length=4)(h2:zkh (za5 (L.take (L.length - 4)))=L.drop (L.length - 4)):zfe L=(zfr,1):=by
 unfold zfe
 rw[if_neg (by omega),if_neg (by simpa using h2)]
 have e:L.take (L.length - 4)=[]:=by rw[h];rfl
 rw[e]
theorem yk8{L l:List UInt8}{k:UInt8}{f:PFr}{c:Nat}(h:¬L.length<4)(h2:zkh (za5 (L.take (L.length - 4)))=L.drop (L.length - 4))(h3:L.take (L.length - 4)=k::l)(hr:rdF k l=(f,c))(hc:c≠0):zfe L=(zfr,c):=by
 unfold zfe
 rw[if_neg h,if_neg (by simpa using h2),h3]
 simp only[hr]
 rw[if_pos hc]
theorem yk9{L l:List UInt8}{k:UInt8}{f:PFr}{c:Nat}(h:¬L.length<4)(h2:zkh (za5 (L.take (L.length - 4)))=L.drop (L.length - 4))(h3:L.take (L.length - 4)=k::l)(hr:rdF k l=(f,c))(hc:c=0)(hf:frC f≠0):zfe L=(zfr,frC f):=by
 unfold zfe
 rw[if_neg h,if_neg (by simpa using h2),h3]
 simp only[hr]
 rw[if_neg (by simp[hc]),if_pos hf]
theorem ztr{L l:List UInt8}{k:UInt8}{f:PFr}{c:Nat}(h:¬L.length<4)(h2:zkh (za5 (L.take (L.length - 4)))=L.drop (L.length - 4))(h3:L.take (L.length - 4)=k::l)(hr:rdF k l=(f,c))(hc:c=0)(hf:frC f=0):zfe L=(f,0):=by
 unfold zfe
 rw[if_neg h,if_neg (by simpa using h2),h3]
 simp only[hr]
 rw[if_neg (by simp[hc]),if_neg (by simp[hf])]
theorem yc8(n:Nat)(more:List UInt8)(h:n≤1099511627776):rnN (num n++more) 0=n∧rnR (num n++more) 0=more∧rnC (num n++more) 0=0:=by
 obtain⟨a,b,c⟩:=zhf (num n++more)
 rw[a,b,c,ygb n more h,yf9 n more h,ygc n more h]
 exact⟨rfl,rfl,rfl⟩
theorem zi3(f:PFr)(h:frC f=0):zfe (frT f)=(f,0):=by
 obtain⟨hk,⟨he1,he2⟩,⟨hq1,hq2⟩,hd⟩:=zq6 h
 have hl:(frT f).length=(frB f).length+4:=by rw[ziw,List.length_append,zia]
 have ht:(frT f).take ((frT f).length - 4)=frB f:=by rw[hl,ziw];simp
 have hdp:(frT f).drop ((frT f).length - 4)=zkh (za5 (frB f)):=by rw[hl,ziw];simp
 obtain⟨a1,a2,a3⟩:=yc8 f.e.toNat (num f.q.toNat++(num f.d.length++f.d)) (by omega)
 obtain⟨b1,b2,b3⟩:=yc8 f.q.toNat (num f.d.length++f.d) (by omega)
 obtain⟨c1,c2,c3⟩:=zrv f.d [] hd
 rw[List.append_nil] at c1 c2 c3
 have d1:=(zc7 (num f.d.length++f.d)).1.trans c2
 have d2:=(zc7 (num f.d.length++f.d)).2.1.trans c3
 have d3:=(zc7 (num f.d.length++f.d)).2.2.trans c1
 have hr:=ymf f.k a2 a3 b2 b3 d2 d3
 rw[a1,b1,d1,ze0] at hr
 refine ztr (l:=num f.e.toNat++(num f.q.toNat++(num f.d.length++f.d))) (k:=f.k) (c:=0) (by omega) (by rw[ht,hdp]) (by rw[ht,yge,List.append_assoc]) ?_ rfl h
 rw[hr]
 have e1:((f.e.toNat:Nat):Int)=f.e:=by omega
 have e2:((f.q.toNat:Nat):Int)=f.q:=by omega
 rw[e1,e2]
def PFr.val(f:PFr):Value:=.agg #[.int .u8 f.k.toNat,.int .i64 f.e,.int .i64 f.q,.string (bs f.d)]
theorem PFr.val_is(f:PFr):f.val=.agg #[.int .u8 f.k.toNat,.int .i64 f.e,.int .i64 f.q,.string (bs f.d)]:=rfl
theorem zpe(E:Nat→Addr)(f:PFr)(w:World)(h2:Has E w 2)(h4:Has E w 4):Calls Tryz.prog 216 #[f.val] w fun e w'=>e=.returned (ev E (frC f))∧Below w.heap.size w w':=by
 have z2:0<w.heap.size:=World.block_lt_of_cell? w _ h2
 have z4:17<w.heap.size:=World.block_lt_of_cell? w _ h4
 have c2:w.cell? ⟨0,0,none⟩=some (za0 (E 2)):=h2
 have c4:w.cell? ⟨17,0,none⟩=some (za0 (E 4)):=h4
 have HA:=hid (fun o=>zaf w o)
 have V0:=hid (zaj E)
 have V2:=hid (za9 E (c:=2) (by decide))
 have V4:=hid (za9 E (c:=4) (by decide))
 have K:=hid (zx9 (f:=f))
 have F:=hid (zj6 (f:=f))
 have B:=hid (zth (f:=f))
 rw[PFr.val_is]
 obtain⟨k,e,q,d⟩:=f
 simp only[] at K F B ⊢
 have hk:=k.toNat_lt
 clear h2 h4
 rcases(show((k.toNat:Int)<97∨¬(k.toNat:Int)<97∧(122:Int)<k.toNat)∨(¬(k.toNat:Int)<97∧¬(122:Int)<k.toNat) by omega) with(h|⟨h,h'⟩)|⟨h,h'⟩
 ·have HC:=hid (K.out (by omega))
  clear K F B
  go_enter Tryz.func216,Tryz.ntmps216
  go_wp2_with fail
  go_ret
  exact⟨by rw[HC.out,V4.out];rfl,HA.out _⟩
 ·have HC:=hid (K.out (by omega))
  clear K F B
  go_enter Tryz.func216,Tryz.ntmps216
  go_wp2_with fail
  go_ret
  exact⟨by rw[HC.out,V4.out];rfl,HA.out _⟩
 ·by_cases hf:(0≤e∧e≤2147483648)∧(0≤q∧q<65536)∧d.length≤20000
  ·have HC:=hid (F.out (by omega) hf)
   obtain⟨⟨f1,f2⟩,⟨f3,f4⟩,f5⟩:=hf
   have f6:¬(20000:Int)<d.length:=by omega
   clear K F B
   go_enter Tryz.func216,Tryz.ntmps216
   go_wp2_with fail
   go_ret
   exact⟨by rw[HC.out,V0.out];rfl,HA.out _⟩
  ·have HC:=hid (B.out (by omega) hf)
   clear K F B
   rcases(show e<0∨¬e<0∧2147483648<e∨(¬e<0∧¬2147483648<e)∧q<0∨(¬e<0∧¬2147483648<e)∧¬q<0∧65536≤q∨(¬e<0∧¬2147483648<e)∧(¬q<0∧¬65536≤q)∧(20000:Int)<d.length by omega) with g|⟨g,g1⟩|⟨⟨g,g1⟩,g2⟩|⟨⟨g,g1⟩,g2,g3⟩|⟨⟨g,g1⟩,⟨g2,g3⟩,g4⟩
   all_goals
    clear hf
    go_enter Tryz.func216,Tryz.ntmps216
    go_wp2_with fail
    go_ret
    exact⟨by rw[HC.out,V2.out];rfl,HA.out _⟩
theorem yhb{P:Program}(w:World)(S D E:TypeId)(hs:P.underlying S=some (.slice E))(he:P.underlying E=some (.int .u8))(hd:P.underlying D=some .string)
  (b cap:Nat) (c0 c1 c2 c3:UInt8) (h0:w.cell? ⟨b,0,none⟩=some (.int .u8 c0.toNat)) (h1:w.cell? ⟨b,1,none⟩=some (.int .u8 c1.toNat)) (h2:w.cell? ⟨b,2,none⟩=some (.int .u8 c2.toNat)) (h3:w.cell? ⟨b,3,none⟩=some (.int .u8 c3.toNat)) :
  (convert S D (.slice (some ⟨b,0,none⟩) 4 cap)).run P w=.ok (.string ⟨#[c0,c1,c2,c3]⟩) w:=
 run_convert_bytes_back w S D E ⟨b,0,none⟩ cap [c0,c1,c2,c3] hs he hd (fun j hj=>by
  match j,hj with
  | 0,_=>simpa [Addr.add] using h0
  | 1,_=>simpa [Addr.add] using h1
  | 2,_=>simpa [Addr.add] using h2
  | 3,_=>simpa [Addr.add] using h3)
theorem yff(v:Nat)(w:World)(hv:v<4294967296):Calls Tryz.prog 212 #[.int .u32 v] w fun e w'=>e=.returned (.string (bs (zkh v)))∧Below w.heap.size w w':=by
 have HLW:=hid (show bs (zkh v)=⟨#[UInt8.ofNat (v % 256),UInt8.ofNat (v / 256 % 256),UInt8.ofNat (v / 65536 % 256),UInt8.ofNat (v / 16777216 % 256)]⟩ by unfold bs zkh;rfl)
 have m0:=zcs (v % 256) (by omega)
 have m1:=zcs (v / 256 % 256) (by omega)
 have m2:=zcs (v / 65536 % 256) (by omega)
 have m3:=zcs (v / 16777216 % 256) (by omega)
 have CV:=fun (w':World) (b:Nat) h0 h1 h2 h3=>yhb (P:=Tryz.prog) w' 105 9 5 Tryz.underlying105 Tryz.underlying5 Tryz.underlying9 b 4 (UInt8.ofNat (v % 256)) (UInt8.ofNat (v / 256 % 256)) (UInt8.ofNat (v / 65536 % 256)) (UInt8.ofNat (v / 16777216 % 256)) h0 h1 h2 h3
 rw[m0,m1,m2,m3] at CV
 have HCV:=hid CV
 clear CV m0 m1 m2 m3
 have hcv:=HCV.out (w.alloc (.cells #[.int .u8 ((v:Int) % 256),.int .u8 ((v:Int) / 256 % 256),.int .u8 ((v:Int) / 65536 % 256),.int .u8 ((v:Int) / 16777216)] 5)) w.heap.size (by simp) (by simp) (by simp) (by simp;omega)
 go_enter Tryz.func212,Tryz.ntmps212
 go_wp2_with fail
 go_ret
 exact⟨by rw[HLW.out];rfl,zaf _ _⟩
section
theorem yrq(a b:List UInt8):bs a++bs b=bs (a++b):=zg0 (by simp)
def yp1(f:PFr):List UInt8:=if frC f=0 then frT f else []
theorem zyi{f:PFr}(h:frC f=0):yp1 f=frT f:=by simp[yp1,h]
theorem yov{f:PFr}(h:frC f≠0):yp1 f=[]:=by simp[yp1,h]
attribute [irreducible] yp1
attribute [local irreducible] frB frT frC zkh
theorem yrf(f:PFr):frB f=[f.k]++(num f.e.toNat++num f.q.toNat++(num f.d.length++f.d)):=by rw[yge];rfl
theorem ykx(E:Nat→Addr)(f:PFr)(w:World)(h2:Has E w 2)(h4:Has E w 4):Calls Tryz.prog 211 #[f.val] w fun e w'=>e=.returned (.tuple #[.string (bs (yp1 f)),ev E (frC f)])∧Below w.heap.size w w':=by
 have CH:=hid (fun(w':World)(b:Below w.heap.size w w')=>zpe E f w' (h2.below b) (h4.below b))
 have HB:=hid h2
 have HEZ:=hid (zaj E)
 have HEV:=hid (zep E (c:=frC f))
 have YES:=hid (zyi (f:=f))
 have NO:=hid (yov (f:=f))
 have ZERO:=hid (zq6 (f:=f))
 have HBE:=hid (yrf f)
 have HTE:=hid (ziw f)
 clear h2 h4
 rw[PFr.val_is] at CH ⊢
 by_cases hc:frC f=0
 ·obtain⟨hk,⟨he1,he2⟩,⟨hq1,hq2⟩,hd⟩:=ZERO.out hc
  rw[YES.out hc,hc,HEZ.out]
  rw[hc,HEZ.out] at CH
  obtain⟨k,e,q,d⟩:=f
  simp only[] at CH HBE HTE hk he1 he2 hq1 hq2 hd ⊢
  have HF2:=hid HTE.out
  generalize frB ⟨k,e,q,d⟩=B at *
  generalize frT ⟨k,e,q,d⟩=T at *
  have hk256:=k.toNat_lt
  have n1:=zar e.toNat
  have n2:=zar q.toNat
  have n3:=zar d.length
  obtain⟨X,hX⟩:∃X,X=num e.toNat++num q.toNat++(num d.length++d):=⟨_,rfl⟩
  have HXP:Hid (0<X.length):=by show _<_;rw[hX];have:=zkp e.toNat;simp only[List.length_append];omega
  have hXl:X.length≤20021:=by rw[hX];simp only[List.length_append];omega
  have HX:=hid hX
  rw[←hX] at HBE
  have hBl:B.length≤20022:=by rw[HBE.out];simp;omega
  have hkB:bs [k]++bs X=bs B:=by rw[HBE.out];exact yrq _ _
  have SU:=hid (fun w'=>zhc (bs B) w' (by rw[zae];omega))
  rw[zai] at SU
  have LW:=hid (fun w'=>yff (za5 B) w' (zdv B))
  have hTB:bs B++bs (zkh (za5 B))=bs T:=by rw[HTE.out];exact yrq _ _
  have hll:=zia (za5 B)
  have hcat:¬9223372036854775807<B.length+(zkh (za5 B)).length:=by omega
  have hcat2:¬9223372036854775807<[k].length+X.length:=by simp;omega
  have CV:=hid (fun (w':World) (b:Nat) h=>zyn (P:=Tryz.prog) w' 105 9 5 Tryz.underlying105 Tryz.underlying5 Tryz.underlying9 b 1 k h)
  have HK1:=hid (show(⟨#[k]⟩:ByteArray)=bs [k] by unfold bs;rfl)
  simp only[HK1.out] at CV
  generalize zkh (za5 B)=LO at *
  clear YES NO ZERO HEV hc HF2 hX
  have b0:=zaf w (.cells #[.int .u8 k.toNat,.int .i64 e,.int .i64 q,.string (bs d)] 241)
  have G0:(w.alloc (.cells #[.int .u8 k.toNat,.int .i64 e,.int .i64 q,.string (bs d)] 241)).heap[w.heap.size]?=some (.cells #[.int .u8 k.toNat,.int .i64 e,.int .i64 q,.string (bs d)] 241 (0,0)):=heap_alloc_new _ _
  go_enter Tryz.func211,Tryz.ntmps211
  go_wp2_with fail
  refine(CH.out _ b0).mono ?_
  rintro e' w1⟨rfl,b1⟩
  have G1:=(b1.block w.heap.size (lt_of_block G0)).trans G0
  have b01:=zaa b0 b1
  have hgb:w.heap.size<w1.heap.size:=lt_of_block G1
  have HW0:=hid (Nat.le_refl w.heap.size)
  have f1':w1.cell? ⟨w.heap.size,1,none⟩=some (.int .i64 e):=by simp[World.cell?,G1]
  clear b0 b1 G0
  go_wp2_with fail
  clear f1'
  have W2:=WAt.new E w1
  have b02:=b01.alloc b01.size (.cells #[.slice none 0 0,.nilIface] 305)
  have G2:=((zaf w1 (.cells #[.slice none 0 0,.nilIface] 305)).block w.heap.size hgb).trans G1
  have hb:w.heap.size≤w1.heap.size:=b01.size
  generalize w1.alloc (.cells #[.slice none 0 0,.nilIface] 305)=w2 at *
  have f1:w2.cell? ⟨w.heap.size,1,none⟩=some (.int .i64 e):=by simp[World.cell?,G2]
  generalize w1.heap.size=b at *
  clear b01 G1
  refine(zdd E b _ _ _ (by simp) W2 (HB.out.below b02) (by omega) (by omega)).mono ?_
  rintro e' w3⟨rfl,W3,K3⟩
  have b03:=K3.old b02 hb W2.lt
  have G3:=K3.obj G2 (by omega) (by decide)
  rw[List.nil_append] at W3
  clear b02 K3 W2 G2 f1
  have f2:w3.cell? ⟨w.heap.size,2,none⟩=some (.int .i64 q):=by simp[World.cell?,G3]
  go_wp2_with fail
  refine(zdd E b _ _ _ (by omega) W3 (HB.out.below b03) (by omega) (by omega)).mono ?_
  rintro e' w4⟨rfl,W4,K4⟩
  have b04:=K4.old b03 hb W3.lt
  have G4:=K4.obj G3 (by omega) (by decide)
  clear b03 K4 W3 G3 f2
  have f3:w4.cell? ⟨w.heap.size,3,none⟩=some (.string (bs d)):=by simp[World.cell?,G4]
  go_wp2_with fail
  refine(zgo E b _ _ _ (by simp only[List.length_append];omega) W4 (HB.out.below b04) (by rw[zae];omega)).mono ?_
  rintro e' w5⟨rfl,W5,K5⟩
  have b05:=K5.old b04 hb W4.lt
  have G5:=K5.obj G4 (by omega) (by decide)
  rw[zae,zai,←HX.out] at W5
  clear b04 K5 W4 G4 f3
  go_wp2_with fail
  have DN:=zf4 E b X 0 w5 (fun _=>HXP.out) W5
  rw[zeb,HEZ.out] at DN
  refine DN.mono ?_
  rintro e' w6⟨rfl,b6⟩
  have b6:=b6.below w5.heap.size
  have b06:=zaa b05 b6
  have G6:=(b6.block w.heap.size (lt_of_block G5)).trans G5
  have f0:w6.cell? ⟨w.heap.size,0,none⟩=some (.int .u8 k.toNat):=by simp[World.cell?,G6]
  have hcv:=CV.out (w6.alloc (.cells #[.int .u8 k.toNat] 5)) w6.heap.size (by simp)
  clear b05 b6 G5 DN W5 G6
  go_wp2_with (go_at_call 114;refine(SU.out _).mono ?_;rintro e' w7⟨rfl,rfl⟩)
  refine(LW.out _).mono ?_
  rintro e' w8⟨rfl,b8⟩
  go_wp2_with fail
  go_ret2
  exact⟨zqb (by first|rfl|(rw[←hTB];done)|(rw[hTB];done)) (by first|rfl|trivial),zaa (b06.alloc b06.size _) b8⟩
 ·rw[NO.out hc,HEV.out hc]
  rw[HEV.out hc] at CH
  have b0:=zaf w (.cells #[.int .u8 f.k.toNat,.int .i64 f.e,.int .i64 f.q,.string (bs f.d)] 241)
  clear YES NO ZERO HEV HBE HTE hc
  go_enter Tryz.func211,Tryz.ntmps211
  go_wp2_with fail
  refine(CH.out _ b0).mono ?_
  rintro e' w1⟨rfl,b1⟩
  go_wp2_with fail
  go_ret2
  exact⟨zqb (by rw[bs_nil];rfl) rfl,zaa b0 b1⟩
end
end Go.Proofs.YtakhkcaihhpehaaGreatDoor
