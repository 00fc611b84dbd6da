/- Texts of one proof, one behind the other: ScrPre, TapRec, TapApp, TapS, ScrAt, ScrDo, ScrJoin, ScrDo2, ScrPut, ScrList, ScrPlan. -/
import Derived.Test.YtakhkcaihhpehaaGreatDoorB09
import Derived.Test.YtakhkcaihhpehaaGreatDoorB24
import Derived.Test.YtakhkcaihhpehaaGreatDoorB04
import Derived.Test.YtakhkcaihhpehaaGreatDoorB12
import Derived.Test.YtakhkcaihhpehaaGreatDoorB29
import Derived.Deep.RegionHeld3
import Derived.Test.YtakhkcaihhpehaaGreatDoorB26
import Derived.Test.YtakhkcaihhpehaaGreatDoorB19
import Derived.Test.YtakhkcaihhpehaaGreatDoorB34
import Derived.Test.YtakhkcaihhpehaaGreatDoorB23
import Derived.Test.YtakhkcaihhpehaaGreatDoorB18
namespace Go.Proofs.YtakhkcaihhpehaaGreatDoor
open Go.RowKit
open Lib (hid)
set_option linter.unusedVariables false
set_option maxRecDepth 100000
set_option maxHeartbeats 51200000
section
theorem zmp(l:List UInt8):SP.wPut.isPrefixOf l=true↔l.take 4=[112,117,116,32]:=by
 rw[List.isPrefixOf_iff_prefix,List.prefix_iff_eq_take]
 exact⟨fun h=>h.symm,fun h=>h.symm⟩
theorem zsd{l:List UInt8}(h:l.length<4):SP.wPut.isPrefixOf l=false:=by
 cases e:SP.wPut.isPrefixOf l with
 | false=>rfl
 | true=>
  have:=(zmp l).1 e
  have h2:=congrArg List.length this
  rw[List.length_take] at h2
  simp at h2
  omega
attribute [local irreducible] SP.wPut
theorem yaw(l:List UInt8)(w:World)(hl:l.length≤1000000):
  Calls Tryz.prog 87 #[.string (bs l),.string ⟨#[112,117,116,32]⟩] w fun e w'=>e=.returned (.bool (SP.wPut.isPrefixOf l))∧w=w':=by
 by_cases h4:4≤l.length
 ·have hI:(4:Int)≤l.length:=by omega
  have EX:(bs l).extract 0 4=bs (l.take 4):=by rw[zcv,zai]
  cases hb:SP.wPut.isPrefixOf l with
  | true=>
   have k1:=zc3 (l.take 4) [112,117,116,32] ((zmp l).1 hb)
   clear hb
   go_enter Tryz.func87,Tryz.ntmps87
   go_wp2_with fail
   go_ret
   exact⟨rfl,rfl⟩
  | false=>
   have k1:=zbj (l.take 4) [112,117,116,32] (fun h=>by rw[(zmp l).2 h] at hb;cases hb)
   clear hb
   go_enter Tryz.func87,Tryz.ntmps87
   go_wp2_with fail
   go_ret
   exact⟨rfl,rfl⟩
 ·have hI:¬(4:Int)≤l.length:=by omega
  rw[zsd (by omega)]
  go_enter Tryz.func87,Tryz.ntmps87
  go_wp2_with fail
  go_ret
  exact⟨rfl,rfl⟩
theorem zvm(l:List UInt8)(w:World)(hl:l.length≤1000000):
  Calls Tryz.prog 63 #[.string (bs l),.string ⟨#[112,117,116,32]⟩] w fun e w'=>e=.returned (.tuple #[.string (bs (if SP.wPut.isPrefixOf l then l.drop 4 else l)),.bool (SP.wPut.isPrefixOf l)])∧w=w':=by
 have HP:=hid (yaw l w hl)
 have EX:(bs l).extract 4 l.length=bs (l.drop 4):=by have:=zhv (bs l) 4;rwa [zai,zae] at this
 cases hb:SP.wPut.isPrefixOf l with
 | true=>
  have hI:(4:Int)≤l.length:=by
   rcases Nat.lt_or_ge l.length 4 with h|h
   ·rw[zsd h] at hb;cases hb
   ·omega
  rw[hb] at HP
  simp only[if_true]
  clear hb
  go_enter Tryz.func63,Tryz.ntmps63
  go_wp2_with fail
  refine HP.out.mono ?_
  rintro e w1⟨rfl,rfl⟩
  go_wp2_with fail
  go_ret2
  exact⟨rfl,rfl⟩
 | false=>
  rw[hb] at HP
  simp only[Bool.false_eq_true,if_false]
  clear hb
  go_enter Tryz.func63,Tryz.ntmps63
  go_wp2_with fail
  refine HP.out.mono ?_
  rintro e w1⟨rfl,rfl⟩
  go_wp2_with fail
  go_ret2
  exact⟨rfl,rfl⟩
theorem zih(l:List UInt8)(w:World)(hl:l.length≤1000000):
  Calls Tryz.prog 43 #[.string (bs l),.string ⟨#[112,117,116,32]⟩] w fun e w'=>e=.returned (.tuple #[.string (bs (if SP.wPut.isPrefixOf l then l.drop 4 else l)),.bool (SP.wPut.isPrefixOf l)])∧w=w':=by
 have HP:=hid (zvm l w hl)
 generalize SP.wPut.isPrefixOf l=b at *
 generalize bs (if b=true then l.drop 4 else l)=r at *
 go_enter Tryz.func43,Tryz.ntmps43
 go_wp2_with fail
 refine HP.out.mono ?_
 rintro e w1⟨rfl,rfl⟩
 go_wp2_with fail
 go_ret2
 exact⟨rfl,rfl⟩
def Cmd.fn:Cmd→Nat
 | .drop=>68|.list=>69|.plan=>70|.size=>71|.send=>72|.open=>73|.admits=>74|.mark=>75|.far=>76|.cut=>77|.again=>78
def Cmd.num(c:Cmd):Int:=match c.words with|none=>-1|some n=>n
def Cmd.val(c:Cmd):Value:=.agg #[.int .i64 c.num,.func (.func c.fn) #[] #[]]
theorem yrr(a b:List UInt8):bs a=⟨b.toArray⟩↔a=b:=by
 constructor
 ·intro h
  have:=congrArg (fun x:ByteArray=>x.data.toList) h
  simpa [zai] using this
 ·rintro rfl;unfold bs;rfl
theorem ypa(x:List UInt8):zfl (bs x) cmEs=(zci x).map Cmd.val:=by
 unfold cmEs zci
 simp only[zfl,zis,zjb,zk0,zlu,zn9,zro,zwa,yby,ylh,yp2,ypb,yrr]
 simp only[apply_ite (Option.map Cmd.val),Option.map_some,Option.map_none]
 rfl
theorem yo9:zmn cmEs:=by
 intro e he
 unfold cmEs at he
 simp only[List.mem_cons,List.not_mem_nil,or_false] at he
 rcases he with rfl|rfl|rfl|rfl|rfl|rfl|rfl|rfl|rfl|rfl|rfl<;>exact⟨_,rfl⟩
end
theorem ypf{w:World}{base:Nat}{s:Option Addr}{n c:Nat}{xs:List Value}(h:BufIs w base 5 (.slice s n c) xs)(k:Nat)(hk:k≤xs.length):
  (∀w':World,(Instr.slice 105 (.slice s n c) none (some (.int .i64 k)) (some (.int .i64 k))).run Tryz.prog w'=.ok (.slice s k k) w')∧BufIs w base 5 (.slice s k k) (xs.take k):=by
 have hu:Tryz.prog.underlying 105=some (.slice (Tryz.prog.elem 105)):=by kernel_rfl
 have hz:∀w':World,(sizeOf (Tryz.prog.elem 105)).run Tryz.prog w'=.ok 1 w':=fun w'=>by kernel_rfl
 obtain⟨a',c',hv⟩:=h.val
 cases hv
 have hkc:k≤c:=by
  rcases h with⟨h,rfl⟩|⟨g,cap,cur,fr,hv,_,_,_,h1,_⟩
  ·cases h;simpa using hk
  ·cases hv;omega
 refine⟨fun w'=>?_,?_⟩
 ·rw[run_slice_hm w' 105 s xs.length c hu .i64 .i64 k k (by omega) (by omega) (by omega),hz]
  simp only[Result.andThen,sliced,Int.toNat_natCast,Nat.zero_mul,Nat.sub_zero]
  congr 2
  rcases s with _|a
  ·simp
  ·split
   ·rfl
   ·obtain⟨b,o,sp⟩:=a
    obtain⟨_,ho,hs,_⟩:=h.cells rfl
    simp only at ho hs
    subst ho hs
    simp[Addr.add]
 ·rcases s with _|a
  ·rcases h with⟨h,rfl⟩|⟨g,cap,cur,fr,hv,_⟩
   ·cases h
    obtain rfl:k=0:=by simpa using hk
    exact .inl ⟨rfl,rfl⟩
   ·cases hv
  ·exact h.cut k hk
theorem yia(E:Nat→Addr)(base db:Nat)(v:Value)(d:TP)(w:World)(h:DiskAt w base db v d)(hw:∀w',Chg w w' (ypy db v)→LibW E w')(hb:d.b.length≤100000000):
  Calls Tryz.prog 121 #[.pointer (some ⟨db,0,none⟩)] w fun e w'=>∃r,e=.returned (.tuple #[r,.nilIface])∧w'.ownsRow w.heap.size 9 1 r (zas d.b).1.length (zbw (zas d.b).1)∧DiskTo w w' base db v (rcT d):=by
 have ON:=hid (yox base db v d w h)
 have HD:=hid h
 clear h
 go_enter Tryz.func121,Tryz.ntmps121
 go_wp2_with fail
 refine ON.out.mono ?_
 rintro e w1⟨rfl,v1,h1,hc1,ha1⟩
 have hs1:=hc1.size
 have RD:=hid (zw8 E d.b w1 (hw w1 hc1) (by omega))
 have hcv:=zjj h1.buf
 obtain⟨c0,_,_⟩:=h1.cs.1
 obtain⟨va,vc,rfl⟩:=h1.val
 have hl:=zfk d.b
 obtain⟨hsl,HB⟩:=ypf h1.buf (zas d.b).2 (by rw[List.length_map];exact hl)
 have H1:=hid h1
 have HB:=hid HB
 have CC:=hid (fun(w':World)(b:Below w1.heap.size w1 w')=>(h1.below b).cs)
 have T1:=hid (show DiskTo w w1 base db v (onT d) from⟨_,h1,hc1,ha1⟩)
 clear h1 hc1 ha1 hl hw
 simp only[onT] at hcv hsl c0
 go_wp2_with fail
 refine RD.out.mono ?_
 rintro e w2⟨r,rfl,hown,b2⟩
 obtain⟨⟨c0',_,_⟩,cf⟩:=CC.out w2 b2
 have f0:=cf 0
 have B2:=hid b2
 obtain⟨ra,rc,rfl⟩:=zab hown
 have HO:=hid hown
 clear b2 cf c0 CC hown RD hcv
 simp only[onT] at c0'
 have T2:Hid (DiskTo w (w2.setCell ⟨db,0,none⟩ (.slice va (zas d.b).2 (zas d.b).2)) base db v (rcT d)):=by
  refine hid (T1.out.trans fun v' hv'=>?_)
  have e:=hv'.cells
  rw[H1.out.cells] at e
  obtain rfl:_=v':=by simpa using e
  have hk:=hv'.below B2.out
  have:=hk.setbuf (w1:=w2) (l:=d.b.take (zas d.b).2) (v':=.slice va (zas d.b).2 (zas d.b).2) (by
   have:=HB.out.below B2.out
   rwa [←List.map_take] at this) ⟨rfl,rfl,rfl,Nat.le_refl _,fun _ _ _=>rfl⟩ (.inl (by cases va<;>rfl))
  exact(DiskTo.same hv' B2.out).trans fun v2 h2=>by
   have e:=h2.cells
   rw[hk.cells] at e
   obtain rfl:_=v2:=by simpa using e
   exact this
 have HR:Hid ((w2.setCell ⟨db,0,none⟩ (.slice va (zas d.b).2 (zas d.b).2)).ownsRow w.heap.size 9 1 (.slice ra (zas d.b).1.length rc) (zas d.b).1.length (zbw (zas d.b).1)):=by
  refine hid (za1 (ownsRow_setCell_below HO.out (a:=⟨db,0,none⟩) ?_ _) hs1)
  show db<_
  have:=HD.out.lt
  omega
 clear HO H1 HB T1 B2
 go_wp2_with fail
 go_ret2
 exact⟨_,rfl,HR.out,T2.out⟩
section
attribute [local irreducible] zc9
theorem yie(E:Nat→Addr)(base db:Nat)(v:Value)(d:TP)(s:List UInt8)(w:World)(h:DiskAt w base db v d)(hw:LibW E w)(hs:s.length≤1000000)(hb:d.b.length≤100000000)(hB:Has E w 2)(hF:Has E w 8)(hO:Has E w 12)(hg12:gOf 12<base)(hbase:base≤w.heap.size):
  Calls Tryz.prog 115 #[.pointer (some ⟨db,0,none⟩),.string (bs s)] w fun e w'=>e=.returned (ev E (apC d s))∧DiskTo w w' base db v (apT d s):=by
 have HD:=hid h
 have RW:=hid (fun(w':World)(b:Below w.heap.size w w')=>ydc E s w' (hw.below b) (by omega))
 have CB:=hid (fun(w':World)(b:Below w.heap.size w w')=>show w'.cell? ⟨0,0,none⟩=some (za0 (E 2)) from hB.below b)
 have CF:=hid (fun(w':World)(b:Below w.heap.size w w')=>show w'.cell? ⟨7,0,none⟩=some (za0 (E 8)) from hF.below b)
 have HO:=hid hO
 have hsz:(bs s).size=s.length:=zae s
 obtain⟨va,vc,hv⟩:=h.val
 have DD:Hid (∀w':World,Below w.heap.size w w'→(w'.cell? ⟨db,0,none⟩=some (.slice va d.b.length vc))∧Below w.heap.size w w'):=fun w' b=>⟨by rw[←hv];exact(h.below b).cs.1.1,b⟩
 have BR:=Below.refl w.heap.size w
 clear h hw hF hO
 by_cases h1:20000<s.length
 ·have e1:apC d s=2:=by unfold apC;rw[if_pos h1]
  have e2:apT d s=d:=by unfold apT;rw[if_pos h1]
  rw[e1,e2,za9 E (by decide)]
  have hI:(20000:Int)<s.length:=by omega
  have cB:=CB.out w BR
  clear e1 e2 hB
  go_enter Tryz.func115,Tryz.ntmps115
  go_wp2_with fail
  go_ret
  exact⟨rfl,DiskTo.same HD.out BR⟩
 ·have hI:¬(20000:Int)<s.length:=by omega
  have hrl:=ydd (s:=s) (by omega)
  have hbw:IntKind.i64.wrap (1048576 - (d.b.length:Int))=1048576 - (d.b.length:Int):=IntWalk.i64_in _ (by omega)
  have hrs:(bs (zc9 s)).size=(zc9 s).length:=zae _
  have DW:=hid (fun(w':World)(b:Below w.heap.size w w')=>ybc E base db v d (zc9 s) w' (HD.out.below b) (by omega) (by omega) (HO.out.below b) hg12 (Nat.le_trans hbase b.size))
  have S0:=DD.out w BR
  by_cases h2:1048576<d.b.length+(zc9 s).length
  ·have e1:apC d s=8:=by unfold apC;rw[if_neg h1,if_pos h2]
   have e2:apT d s=d:=by unfold apT;rw[if_neg h1,if_pos h2]
   rw[e1,e2,za9 E (by decide)]
   have hJ:1048576 - (d.b.length:Int)<(zc9 s).length:=by omega
   clear e1 e2 hB DW
   generalize zc9 s=R at *
   go_enter Tryz.func115,Tryz.ntmps115
   go_wp2_with fail
   go_region_held3 (fun w'=>(w'.cell? ⟨db,0,none⟩=some (.slice va d.b.length vc))∧Below w.heap.size w w') (first|assumption|exact S0|exact DD.out _ (by assumption)|exact DD.out _ (Below.drew BR))
    (first
    | (go_at_call 158;(with_reducible refine(RW.out _ ?_).mono ?_);(first|assumption|exact Below.drew BR);rintro e v1⟨rfl,b1⟩;have bel1:=zaa (by first|assumption|exact Below.drew BR) b1;have S1:=DD.out _ bel1))
   all_goals
    have cF:=CF.out _ (by assumption)
    go_wp2_with fail
    go_ret
    exact⟨rfl,DiskTo.same HD.out (by assumption)⟩
  ·have e1:apC d s=wrC d (zc9 s):=by unfold apC;rw[if_neg h1,if_neg h2]
   have e2:apT d s=wrT d (zc9 s):=by unfold apT;rw[if_neg h1,if_neg h2]
   rw[e1,e2]
   have hJ:¬1048576 - (d.b.length:Int)<(zc9 s).length:=by omega
   clear e1 e2 hB
   generalize zc9 s=R at *
   go_enter Tryz.func115,Tryz.ntmps115
   go_wp2_with fail
   go_region_held3 (fun w'=>(w'.cell? ⟨db,0,none⟩=some (.slice va d.b.length vc))∧Below w.heap.size w w') (first|assumption|exact S0|exact DD.out _ (by assumption)|exact DD.out _ (Below.drew BR))
    (first
    | (go_at_call 158;(with_reducible refine(RW.out _ ?_).mono ?_);(first|assumption|exact Below.drew BR);rintro e v1⟨rfl,b1⟩;have bel1:=zaa (by first|assumption|exact Below.drew BR) b1;have S1:=DD.out _ bel1))
   all_goals
    have HB1:Hid (Below w.heap.size w _):=(by assumption)
    go_wp2_with fail
    refine(RW.out _ HB1.out).mono ?_
    rintro e v2⟨rfl,b2⟩
    have bel2:=hid (zaa HB1.out b2)
    clear b2
    go_wp2_with fail
    refine(DW.out _ bel2.out).mono ?_
    rintro e v3⟨rfl,h3⟩
    go_wp2_with fail
    go_ret
    refine⟨rfl,(DiskTo.same HD.out bel2.out).trans fun v' hv'=>?_⟩
    have e:=hv'.cells
    rw[(HD.out.below bel2.out).cells] at e
    obtain rfl:v=v':=by simpa using e
    exact h3
end
def zui(w w':World)(F F':Nat→Prop):Prop:=Chg w w' F∧∀x,F' x→F x∨w.heap.size≤x
structure TpS(w0 w:World)(F:Nat→Prop)(db:Nat)(d:TP):Prop where
 dk:∃v,DiskAt w w0.heap.size db v d∧∀x,v.ownBlock=some x→F x
 fd:F db
 lo:∀x,F x→w0.heap.size≤x∧x<w.heap.size
 bel:Below w0.heap.size w0 w
theorem BufIs.mono{w:World}{base base':Nat}{e:TypeId}{v:Value}{xs:List Value}(h:BufIs w base e v xs)(hb:base'≤base):BufIs w base' e v xs:=by
 rcases h with h|⟨g,cap,cur,fr,hv,h1,h2⟩
 ·exact .inl h
 ·exact .inr ⟨g,cap,cur,fr,hv,by omega,h2⟩
theorem DiskAt.mono{w:World}{base base' db:Nat}{v:Value}{d:TP}(h:DiskAt w base db v d)(hb:base'≤base):DiskAt w base' db v d:=⟨h.cells,h.buf.mono hb,h.ne,by have:=h.lo;omega,h.cut⟩
section
variable{E:Nat→Addr}{w0 w w':World}{F:Nat→Prop}{db:Nat}{d:TP}
theorem TpS.kept{S:Nat→Prop}(h:TpS w0 w F db d)(hc:Chg w w' S)(hS:∀x,F x→¬S x)(hb:Below w0.heap.size w0 w'):TpS w0 w' F db d:=by
 obtain⟨v,h1,h2⟩:=h.dk
 exact⟨⟨v,h1.kept hc (hS db h.fd) (fun x hx=>hS x (h2 x hx)),h2⟩,h.fd,fun x hx=>⟨(h.lo x hx).1,Nat.lt_of_lt_of_le (h.lo x hx).2 hc.size⟩,hb⟩
theorem TpS.below(h:TpS w0 w F db d)(hb:Below w.heap.size w w'):TpS w0 w' F db d:=
 h.kept (Chg.of_below hb (fun _=>False)) (fun _ _ h=>h) (zaa h.bel hb)
theorem TpS.to{v:Value}{d':TP}(h:TpS w0 w F db d)(h1:DiskAt w w0.heap.size db v d)(h2:∀x,v.ownBlock=some x→F x)(ht:DiskTo w w' w0.heap.size db v d'):∃F',TpS w0 w' F' db d'∧zui w w' F F':=by
 obtain⟨v',k1,kc,ka⟩:=ht
 have hcF:Chg w w' F:=kc.more (fun x _ hx=>by rcases hx with rfl|hx;exact h.fd;exact h2 x hx)
 refine⟨fun x=>F x∨v'.ownBlock=some x,⟨⟨v',k1,fun x hx=>.inr hx⟩,.inl h.fd,fun x hx=>?_,hcF.below h.bel (fun x hx=>(h.lo x hx).1)⟩,hcF,fun x hx=>?_⟩
 ·rcases hx with hx|hx
  ·exact⟨(h.lo x hx).1,Nat.lt_of_lt_of_le (h.lo x hx).2 hcF.size⟩
  ·exact k1.buf.at hx
 ·rcases hx with hx|hx
  ·exact .inl hx
  ·exact(ka x hx).imp (h2 x) id
structure TEnv(E:Nat→Addr)(w:World):Prop where
 lib:LibW E w
 e2:Has E w 2
 e8:Has E w 8
 e12:Has E w 12
theorem TEnv.below(h:TEnv E w)(hb:Below w.heap.size w w'):TEnv E w':=⟨h.lib.below hb,h.e2.below hb,h.e8.below hb,h.e12.below hb⟩
theorem TEnv.g12(h:TEnv E w):gOf 12<w.heap.size:=World.block_lt_of_cell? w _ h.e12
theorem yqf(s:ByteArray)(hb:Below w0.heap.size w0 w)(hs:s.size≤1048576):
  Calls Tryz.prog 16 #[.string s] w fun e w'=>∃db,e=.returned (.tuple #[.pointer (some ⟨db,0,none⟩),.nilIface])∧(∃F,TpS w0 w' F db ⟨s.data.toList,false,-1⟩∧∀x,F x→w.heap.size≤x)∧Below w.heap.size w w':=by
 refine(zvg s w hs).mono ?_
 rintro e w'⟨db,rfl,⟨v,h⟩,b⟩
 have hb':=zaa hb b
 refine⟨db,rfl,⟨fun x=>w.heap.size≤x∧x<w'.heap.size,⟨⟨v,h.mono hb.size,fun x hx=>h.buf.at hx⟩,⟨h.lo,h.lt⟩,fun x hx=>⟨Nat.le_trans hb.size hx.1,hx.2⟩,hb'⟩,fun x hx=>hx.1⟩,b⟩
theorem yqi(s:List UInt8)(h:TpS w0 w F db d)(hE:TEnv E w0)(hs:s.length≤1000000)(hb:d.b.length≤100000000):
  Calls Tryz.prog 115 #[.pointer (some ⟨db,0,none⟩),.string (bs s)] w fun e w'=>e=.returned (ev E (apC d s))∧∃F',TpS w0 w' F' db (apT d s)∧zui w w' F F':=by
 obtain⟨v,h1,h2⟩:=h.dk
 have hE':=hE.below h.bel
 refine(yie E w0.heap.size db v d s w h1 hE'.lib hs hb hE'.e2 hE'.e8 hE'.e12 hE.g12 h.bel.size).mono ?_
 rintro e w'⟨he,ht⟩
 exact⟨he,h.to h1 h2 ht⟩
theorem yqh(n:Int)(h:TpS w0 w F db d)(hE:TEnv E w0)(hn:n≤9223372036854775807):
  Calls Tryz.prog 120 #[.pointer (some ⟨db,0,none⟩),.int .i64 n] w fun e w'=>e=.returned (ev E (ctC d n))∧∃F',TpS w0 w' F' db (ctT d n)∧zui w w' F F':=by
 obtain⟨v,h1,h2⟩:=h.dk
 have hE':=hE.below h.bel
 refine(ylb E w0.heap.size db v d n w h1 hn hE'.e2 hE'.e12).mono ?_
 rintro e w'⟨he,ht⟩
 exact⟨he,h.to h1 h2 ht⟩
theorem yid(h:TpS w0 w F db d):
  Calls Tryz.prog 117 #[.pointer (some ⟨db,0,none⟩)] w fun e w'=>e=.returned (.string (bs d.b))∧w'=w:=by
 obtain⟨v,h1,h2⟩:=h.dk
 exact ybh w0.heap.size db v d w h1
theorem yqe(h:TpS w0 w F db d)(hE:TEnv E w0)(hb:d.b.length≤100000000):
  Calls Tryz.prog 121 #[.pointer (some ⟨db,0,none⟩)] w fun e w'=>∃r,e=.returned (.tuple #[r,.nilIface])∧w'.ownsRow w.heap.size 9 1 r (zas d.b).1.length (zbw (zas d.b).1)∧∃F',TpS w0 w' F' db (rcT d)∧zui w w' F F':=by
 obtain⟨v,h1,h2⟩:=h.dk
 refine(yia E w0.heap.size db v d w h1 (fun w' hc=>?_) hb).mono ?_
 ·refine hE.lib.below (hc.below h.bel (fun x hx=>?_))
  rcases hx with rfl|hx
  ·exact h1.lo
  ·exact(h1.buf.at hx).1
 ·rintro e w'⟨r,he,ho,ht⟩
  exact⟨r,he,ho,h.to h1 h2 ht⟩
end
structure PlA where
 vf:Value
 vt:Value
 gb:Nat
 mb:Nat
 db:Nat
 F:Nat→Prop
structure Guest where
 q:Nat→Obj→Prop
 n:Nat
def Apt(Q:Guest)(A:PlA)(r:Value):Prop:=(∀x,A.F x→r.ownBlock≠some x)∧∀x o,Q.q x o→r.ownBlock≠some x
structure PlAt(Q:Guest)(w0 w:World)(pb:Nat)(A:PlA)(s:SP)(n:Nat):Prop where
 cells:w.heap[pb]?=some (.cells #[A.vf,A.vt,.pointer (some ⟨A.gb,0,none⟩),.pointer (some ⟨A.db,0,none⟩)] 56 (0,0))
 fr:w.ownsRow w0.heap.size 126 2 A.vf s.fr.length (zah s.fr)
 tt:w.ownsRow w0.heap.size 126 2 A.vt s.tt.length (zah s.tt)
 gt:GtAt w A.gb A.mb n s.gm
 tp:TpS w0 w A.F A.db s.tp
 nf:∀x,A.F x→x≠pb∧x≠A.gb∧x≠A.mb∧A.vf.ownBlock≠some x∧A.vt.ownBlock≠some x
 lp:w0.heap.size≤pb
 lg:w0.heap.size≤A.gb
 lm:w0.heap.size≤A.mb
 bel:Below w0.heap.size w0 w
 gs:∀x o,Q.q x o→w.heap[x]?=some o
 gn:∀x o,Q.q x o→x≠pb∧x≠A.gb∧x≠A.mb∧¬A.F x∧A.vf.ownBlock≠some x∧A.vt.ownBlock≠some x
 gz:Q.n≤w.heap.size
section
variable{Q:Guest}{w0 w w':World}{pb n:Nat}{A:PlA}{s:SP}
theorem PlAt.cs(h:PlAt Q w0 w pb A s n):(w.cell? ⟨pb,0,none⟩=some A.vf∧w.cell? ⟨pb,1,none⟩=some A.vt∧w.cell? ⟨pb,2,none⟩=some (.pointer (some ⟨A.gb,0,none⟩))∧w.cell? ⟨pb,3,none⟩=some (.pointer (some ⟨A.db,0,none⟩)))∧∀k,w.frozen? ⟨pb,k,none⟩=false:=by
 refine⟨⟨?_,?_,?_,?_⟩,fun k=>?_⟩<;>simp[World.cell?,World.frozen?,h.cells]
theorem PlAt.lt(h:PlAt Q w0 w pb A s n):pb<w.heap.size:=lt_of_block h.cells
theorem PlAt.mapObj(h:PlAt Q w0 w pb A s n):∃es c,w.heap[A.mb]?=some (.map es c):=h.gt.mapObj
theorem PlAt.below(h:PlAt Q w0 w pb A s n)(b:Below w.heap.size w w'):PlAt Q w0 w' pb A s n:=
 ⟨(b.block _ h.lt).trans h.cells,zad h.fr b,zad h.tt b,h.gt.below b,h.tp.below b,h.nf,h.lp,h.lg,h.lm,zaa h.bel b,fun x o hq=>(b.block _ (lt_of_block (h.gs x o hq))).trans (h.gs x o hq),h.gn,Nat.le_trans h.gz b.size⟩
theorem PlAt.gate(h:PlAt Q w0 w pb A s n){m:Nat}{g:GM}(hc:Chg w w' (fun x=>x=A.mb))(hg:GtAt w' A.gb A.mb m g):PlAt Q w0 w' pb A {s with gm:=g} m:=by
 obtain⟨es,c,hm⟩:=h.mapObj
 have hb:=hc.below h.bel (fun z hz=>by subst hz;exact h.lm)
 exact⟨(hc.block pb h.lt (fun e=>zcp h.cells hm e)).trans h.cells,zan h.fr hc (fun z hz e=>zbl h.fr hm (by rw[hz,e])),zan h.tt hc (fun z hz e=>zbl h.tt hm (by rw[hz,e])),hg,
  h.tp.kept hc (fun x hx e=>(h.nf x hx).2.2.1 e) hb,h.nf,h.lp,h.lg,h.lm,hb,fun x o hq=>(hc.block x (lt_of_block (h.gs x o hq)) (h.gn x o hq).2.2.1).trans (h.gs x o hq),h.gn,Nat.le_trans h.gz hc.size⟩
theorem PlAt.tape(h:PlAt Q w0 w pb A s n){F':Nat→Prop}{d:TP}(hl:zui w w' A.F F')(ht:TpS w0 w' F' A.db d):PlAt Q w0 w' pb {A with F:=F'} {s with tp:=d} n:=by
 obtain⟨es,c,hm⟩:=h.mapObj
 have hc:=hl.1
 refine⟨(hc.block pb h.lt (fun e=>(h.nf pb e).1 rfl)).trans h.cells,zan h.fr hc (fun z hz e=>(h.nf z e).2.2.2.1 hz),zan h.tt hc (fun z hz e=>(h.nf z e).2.2.2.2 hz),h.gt.kept hc (fun e=>(h.nf A.gb e).2.1 rfl) (fun e=>(h.nf A.mb e).2.2.1 rfl),ht,fun x hx=>?_,h.lp,h.lg,h.lm,ht.bel,fun x o hq=>(hc.block x (lt_of_block (h.gs x o hq)) (h.gn x o hq).2.2.2.1).trans (h.gs x o hq),fun x o hq=>⟨(h.gn x o hq).1,(h.gn x o hq).2.1,(h.gn x o hq).2.2.1,fun hx=>?_,(h.gn x o hq).2.2.2.2⟩,Nat.le_trans h.gz hc.size⟩
 rotate_left
 ·rcases hl.2 x hx with h1|h1
  ·exact(h.gn x o hq).2.2.2.1 h1
  ·have:=lt_of_block (h.gs x o hq);omega
 rcases hl.2 x hx with h1|h1
 ·exact h.nf x h1
 ·have a1:=h.lt
  have a2:=lt_of_block h.gt.cells
  have a3:=lt_of_block hm
  refine⟨by omega,by show x≠A.gb;omega,by show x≠A.mb;omega,fun e=>?_,fun e=>?_⟩
  ·have:=(h.fr.lt x e).2;omega
  ·have:=(h.tt.lt x e).2;omega
theorem PlAt.setFr(h:PlAt Q w0 w pb A s n){b:Nat}{r:Value}{l:List PF}(hr:w.ownsRow b 126 2 r l.length (zah l))(hb:w0.heap.size≤b)(hn:Apt Q A r):
  PlAt Q w0 (w.setCell ⟨pb,0,none⟩ r) pb {A with vf:=r} {s with fr:=l} n:=by
 obtain⟨es,c,hm⟩:=h.mapObj
 have hc:Chg w (w.setCell ⟨pb,0,none⟩ r) (fun x=>x=pb):=(Chg.refl w (fun x=>x=pb)).set ⟨pb,0,none⟩ (.inl rfl) r
 have hbel:=hc.below h.bel (fun z hz=>by subst hz;exact h.lp)
 refine⟨?_,zan (za1 hr hb) hc (fun z hz e=>zcj hr h.cells (by decide) (by rw[hz,e])),zan h.tt hc (fun z hz e=>zcj h.tt h.cells (by decide) (by rw[hz,e])),h.gt.kept hc (fun e=>zb2 h.gt.cells h.cells (by decide) e) (fun e=>zcp h.cells hm e.symm),h.tp.kept hc (fun x hx e=>(h.nf x hx).1 e) hbel,fun x hx=>?_,h.lp,h.lg,h.lm,hbel,fun x o hq=>(hc.block x (lt_of_block (h.gs x o hq)) (h.gn x o hq).1).trans (h.gs x o hq),fun x o hq=>⟨(h.gn x o hq).1,(h.gn x o hq).2.1,(h.gn x o hq).2.2.1,(h.gn x o hq).2.2.2.1,hn.2 x o hq,(h.gn x o hq).2.2.2.2.2⟩,Nat.le_trans h.gz hc.size⟩
 ·have:=za2 (k:=0) (u:=r) h.cells
  simpa using this
 ·have:=h.nf x hx
  exact⟨this.1,this.2.1,this.2.2.1,hn.1 x hx,this.2.2.2.2⟩
theorem PlAt.setTo(h:PlAt Q w0 w pb A s n){b:Nat}{r:Value}{l:List PF}(hr:w.ownsRow b 126 2 r l.length (zah l))(hb:w0.heap.size≤b)(hn:Apt Q A r):
  PlAt Q w0 (w.setCell ⟨pb,1,none⟩ r) pb {A with vt:=r} {s with tt:=l} n:=by
 obtain⟨es,c,hm⟩:=h.mapObj
 have hc:Chg w (w.setCell ⟨pb,1,none⟩ r) (fun x=>x=pb):=(Chg.refl w (fun x=>x=pb)).set ⟨pb,1,none⟩ (.inl rfl) r
 have hbel:=hc.below h.bel (fun z hz=>by subst hz;exact h.lp)
 refine⟨?_,zan h.fr hc (fun z hz e=>zcj h.fr h.cells (by decide) (by rw[hz,e])),zan (za1 hr hb) hc (fun z hz e=>zcj hr h.cells (by decide) (by rw[hz,e])),h.gt.kept hc (fun e=>zb2 h.gt.cells h.cells (by decide) e) (fun e=>zcp h.cells hm e.symm),h.tp.kept hc (fun x hx e=>(h.nf x hx).1 e) hbel,fun x hx=>?_,h.lp,h.lg,h.lm,hbel,fun x o hq=>(hc.block x (lt_of_block (h.gs x o hq)) (h.gn x o hq).1).trans (h.gs x o hq),fun x o hq=>⟨(h.gn x o hq).1,(h.gn x o hq).2.1,(h.gn x o hq).2.2.1,(h.gn x o hq).2.2.2.1,(h.gn x o hq).2.2.2.2.1,hn.2 x o hq⟩,Nat.le_trans h.gz hc.size⟩
 ·have:=za2 (k:=1) (u:=r) h.cells
  simpa using this
 ·have:=h.nf x hx
  exact⟨this.1,this.2.1,this.2.2.1,this.2.2.2.1,hn.1 x hx⟩
theorem PlAt.fresh(h:PlAt Q w0 w pb A s n){r:Value}{b:Nat}{e:TypeId}{size m:Nat}{xs:List Value}(hr:w'.ownsRow b e size r m xs)(hb:w.heap.size≤b):Apt Q A r:=by
 refine⟨fun x hx e=>?_,fun x o hq e=>?_⟩
 ·have h1:=ze1 hr e
  have h2:=(h.tp.lo x hx).2
  omega
 ·have h1:=ze1 hr e
  have h2:=lt_of_block (h.gs x o hq)
  omega
theorem PlAt.host(h:PlAt Q w0 w pb A s n){Q':Guest}(h1:∀x o,Q'.q x o→w.heap[x]?=some o)(h2:∀x o,Q'.q x o→x≠pb∧x≠A.gb∧x≠A.mb∧¬A.F x∧A.vf.ownBlock≠some x∧A.vt.ownBlock≠some x)(h3:Q'.n≤w.heap.size):PlAt Q' w0 w pb A s n:=
 ⟨h.cells,h.fr,h.tt,h.gt,h.tp,h.nf,h.lp,h.lg,h.lm,h.bel,h1,h2,h3⟩
theorem PlAt.other(h:PlAt Q w0 w pb A s n){S:Nat→Prop}(hc:Chg w w' S)(hS:∀x,S x→w0.heap.size≤x∧x≠pb∧x≠A.gb∧x≠A.mb∧¬A.F x∧A.vf.ownBlock≠some x∧A.vt.ownBlock≠some x):PlAt ⟨fun _ _=>False,0⟩ w0 w' pb A s n:=by
 have hb:=hc.below h.bel (fun z hz=>(hS z hz).1)
 exact⟨(hc.block pb h.lt (fun e=>(hS _ e).2.1 rfl)).trans h.cells,zan h.fr hc (fun z hz e=>(hS z e).2.2.2.2.2.1 hz),zan h.tt hc (fun z hz e=>(hS z e).2.2.2.2.2.2 hz),h.gt.kept hc (fun e=>(hS _ e).2.2.1 rfl) (fun e=>(hS _ e).2.2.2.1 rfl),h.tp.kept hc (fun x hx e=>(hS x e).2.2.2.2.1 hx) hb,h.nf,h.lp,h.lg,h.lm,hb,fun _ _ h=>h.elim,fun _ _ h=>h.elim,Nat.zero_le _⟩
end
theorem zgp(l:List (List UInt8))(k:Nat)(h:k<l.length):(zbw l)[k]?=some (.string (bs l[k])):=by
 unfold zbw
 rw[List.getElem?_map,List.getElem?_eq_getElem h]
 rfl
theorem ybr:(⟨#[58]⟩:ByteArray)=bs [58]:=by unfold bs;rfl
theorem sp32:(⟨#[32]⟩:ByteArray)=bs [32]:=by unfold bs;rfl
theorem zlc(a:Addr):a.add 1=⟨a.block,a.off+1,none⟩:=rfl
theorem zdy(a:Addr):a.add 0=a:=by obtain⟨b,o,s⟩:=a;unfold Addr.add;cases s<;>rfl
structure SEnv(E:Nat→Addr)(w:World):Prop where
 err:XErr E w
 lib:LibW E w
 e12:Has E w 12
theorem SEnv.below{E:Nat→Addr}{w w':World}(h:SEnv E w)(b:Below w.heap.size w w'):SEnv E w':=⟨h.err.below b,h.lib.below b,h.e12.below b⟩
theorem SEnv.tap{E:Nat→Addr}{w:World}(h:SEnv E w):TEnv E w:=⟨h.lib,h.err.e2,h.err.e8,h.e12⟩
def Told(E:Nat→Addr)(w:World)(v:Value)(c:Nat):Prop:=∃at',FErr E w v c at'
theorem zl5(E:Nat→Addr)(w:World)(c:Nat):Told E w (ev E c) c:=⟨-1,FErr.ev E w c⟩
theorem zfv(E:Nat→Addr)(w:World):Told E w .nilIface 0:=⟨-1,FErr.nil E w⟩
theorem zb1(E:Nat→Addr)(w:World){c:Nat}(h:c≠0):Told E w (za0 (E c)) c:=⟨-1,FErr.bare E w h⟩
theorem yic(E:Nat→Addr)(w:World){c:Nat}(h:c≠0):Told E w (.iface 338 (.pointer (some (E c)))) c:=by have:=zb1 E w h;unfold za0 at this;exact this
def Ans(Q:Guest)(E:Nat→Addr)(w0:World)(pb k:Nat)(p:SP×An)(e:Ending)(w':World):Prop:=
 ∃r A' k',e=.returned (.tuple #[.string (bs p.2.1),r])∧Told E w' r p.2.2∧PlAt Q w0 w' pb A' p.1 k'∧k'≤k+1
def ypz(b:Bool):Nat:=if b then 0 else 1
def PlA.fv(A:PlA)(b:Bool):Value:=if b then A.vf else A.vt
section
variable{Q:Guest}{E:Nat→Addr}{w0 w w':World}{pb k:Nat}{A:PlA}{s:SP}
theorem PlAt.atF(h:PlAt Q w0 w pb A s k)(b:Bool):w.cell? ⟨pb,ypz b,none⟩=some (A.fv b)∧w.frozen? ⟨pb,ypz b,none⟩=false∧w.ownsRow w0.heap.size 126 2 (A.fv b) (s.files b).length (zah (s.files b)):=by
 cases b
 ·exact⟨h.cs.1.2.1,h.cs.2 1,h.tt⟩
 ·exact⟨h.cs.1.1,h.cs.2 0,h.fr⟩
theorem PlAt.putF(h:PlAt Q w0 w pb A s k)(b:Bool){base:Nat}{r:Value}{l:List PF}(hr:w.ownsRow base 126 2 r l.length (zah l))(hb:w0.heap.size≤base)(hn:Apt Q A r):
  ∃A',PlAt Q w0 (w.setCell ⟨pb,ypz b,none⟩ r) pb A' (s.setF b l) k:=by
 cases b
 ·exact⟨_,h.setTo hr hb hn⟩
 ·exact⟨_,h.setFr hr hb hn⟩
theorem zmq(a:List UInt8)(pb:Nat)(w:World):
  Calls Tryz.prog 65 #[.pointer (some ⟨pb,0,none⟩),.string (bs a)] w fun e w'=>e=.returned (.pointer ((zbx a).map fun b=>⟨pb,ypz b,none⟩))∧w=w':=by
 by_cases h1:a=zpu
 ·have k1:=zc3 a [102,114,111,109] (by rw[h1];rfl)
  have e1:zbx a=some true:=by unfold zbx;rw[if_pos h1]
  rw[e1]
  clear h1 e1
  go_enter Tryz.func65,Tryz.ntmps65
  go_wp2_with fail
  go_ret
  exact⟨rfl,rfl⟩
 ·have k1:=zbj a [102,114,111,109] h1
  by_cases h2:a=wTo
  ·have k2:=zc3 a [116,111] (by rw[h2];rfl)
   have e1:zbx a=some false:=by unfold zbx;rw[if_neg h1,if_pos h2]
   rw[e1]
   clear h1 h2 e1
   go_enter Tryz.func65,Tryz.ntmps65
   go_wp2_with fail
   go_ret
   exact⟨rfl,rfl⟩
  ·have k2:=zbj a [116,111] h2
   have e1:zbx a=none:=by unfold zbx;rw[if_neg h1,if_neg h2]
   rw[e1]
   clear h1 h2 e1
   go_enter Tryz.func65,Tryz.ntmps65
   go_wp2_with fail
   go_ret
   exact⟨rfl,rfl⟩
theorem yei(a n:List UInt8)(v:Value)(h:PlAt Q w0 w pb A s k)(hI:SInv s)(hE:SEnv E w0)(hv:SliceIs w v 1 [.string (bs a),.string (bs n)]):
  Calls Tryz.prog 68 #[.pointer (some ⟨pb,0,none⟩),v] w (Ans Q E w0 pb k (s.drop a n)):=by
 obtain⟨s0,m0,c0,rfl,hm0,hm1,hm2,g1⟩:=hv.get
 obtain⟨ad,rfl,d0⟩:=g1 0 _ rfl
 rw[zdy] at d0
 obtain⟨ad',e',d1⟩:=g1 1 _ rfl
 cases e'
 rw[zlc] at d1
 have hm0:m0=2:=by simpa using hm0.symm
 subst hm0
 have HX:=hid h
 have SD:=hid (fun w'=>zmq a pb w')
 have c1:w.cell? ⟨1,0,none⟩=some (za0 (E 1)):=hE.err.e1.below h.bel
 have c6:w.cell? ⟨3,0,none⟩=some (za0 (E 6)):=hE.err.e6.below h.bel
 have E6:=hid (fun(w':World)(b:Below w.heap.size w w')=>show w'.cell? ⟨3,0,none⟩=some (za0 (E 6)) from hE.err.e6.below (zaa h.bel b))
 have HI:=hid hI
 clear hv g1 hI hE
 cases hs:zbx a with
 | none=>
  have hq:s.drop a n=(s,[],1):=by unfold SP.drop;rw[hs]
  rw[hs] at SD
  rw[hq]
  clear h hs hq
  go_enter Tryz.func68,Tryz.ntmps68
  go_wp2_with fail
  refine(SD.out _).mono ?_
  rintro e w1⟨rfl,rfl⟩
  simp only[Option.map_none]
  go_wp2_with fail
  go_quiet (fail)
  go_wp2_with fail
  go_ret2
  exact⟨_,A,k,by rw[bs_nil];rfl,zb1 E _ (by simp),HX.out.below (zac (Below.refl _ _) nq),by omega⟩
 | some b=>
  obtain⟨F1,F2,F3⟩:=h.atF b
  have LEN:=hid (HI.out.files b).wf.few
  have B0:=hid (Below.drew (Below.refl w.heap.size w))
  have GT:=hid (zen (s.files b) (A.fv b) n w.drew ((SliceIs.ownedK F3).below B0.out))
  have DR:=hid (fun(w':World)(bb:Below w.heap.size w w')=>zpa (s.files b) (A.fv b) n w' ((SliceIs.ownedK F3).below bb) (by have:=LEN.out;omega))
  have PF:=hid (fun(w':World)(bb:Below w.heap.size w w')=>(h.below bb).atF b)
  obtain⟨g,cap,hlv⟩:=zab F3
  rw[hs] at SD
  have hq:s.drop a n=if (zaq (s.files b) n).isSome then (s.setF b (zda (s.files b) n),zg2,0) else (s,[],6):=by unfold SP.drop;rw[hs]
  rw[hq]
  have D1:=hid (fun(w':World)(bb:Below w.heap.size w w')=>(bb.cell (World.block_lt_of_cell? w _ d1)).trans d1)
  generalize A.fv b=fv at *
  subst hlv
  cases hg:(zaq (s.files b) n).isSome with
  | false=>
   rw[hg] at GT
   simp only[Bool.false_eq_true,if_false]
   clear h hs hq F3 DR
   go_enter Tryz.func68,Tryz.ntmps68
   go_wp2_with fail
   refine(SD.out _).mono ?_
   rintro e w1⟨rfl,rfl⟩
   simp only[Option.map_some]
   go_wp2_with fail
   have S0:=And.intro F1 d1
   have S1:=And.intro (PF.out _ B0.out).1 (D1.out _ B0.out)
   have KS:=hid (fun(W:World)(bb:Below w.drew.heap.size w.drew W)=>And.intro (PF.out _ (zaa B0.out bb)).1 (D1.out _ (zaa B0.out bb)))
   go_region_held3 (fun X=>X.cell? ⟨pb,ypz b,none⟩=some (.slice g (s.files b).length cap)∧X.cell? ⟨ad.block,ad.off+1,none⟩=some (.string (bs n))) (first|exact S1|exact S0|exact KS.out _ (by assumption)) ((go_at_call 96;refine GT.out.mono ?_;rintro e w1⟨rfl,bb⟩))
   have bb:=zaa B0.out bb
   have ce:=E6.out _ bb
   go_wp2_with fail
   go_quiet (fail)
   go_wp2_with fail
   go_ret2
   exact⟨_,A,k,by rw[bs_nil];rfl,zb1 E _ (by simp),HX.out.below (zac bb nq),by omega⟩
  | true=>
   rw[hg] at GT
   simp only[if_true]
   clear h hs hq F3
   go_enter Tryz.func68,Tryz.ntmps68
   go_wp2_with fail
   refine(SD.out _).mono ?_
   rintro e w1⟨rfl,rfl⟩
   simp only[Option.map_some]
   go_wp2_with fail
   have S0:=And.intro F1 d1
   have S1:=And.intro (PF.out _ B0.out).1 (D1.out _ B0.out)
   have KS:=hid (fun(W:World)(bb:Below w.drew.heap.size w.drew W)=>And.intro (PF.out _ (zaa B0.out bb)).1 (D1.out _ (zaa B0.out bb)))
   go_region_held3 (fun X=>X.cell? ⟨pb,ypz b,none⟩=some (.slice g (s.files b).length cap)∧X.cell? ⟨ad.block,ad.off+1,none⟩=some (.string (bs n))) (first|exact S1|exact S0|exact KS.out _ (by assumption)) ((go_at_call 96;refine GT.out.mono ?_;rintro e w1⟨rfl,bb⟩))
   have BB:=hid (zaa B0.out bb)
   clear bb S0 S1 KS F1 F2 d1
   obtain⟨f1,f2,f3⟩:=PF.out _ BB.out
   have d1':=D1.out _ BB.out
   have BD:=hid (Below.drew BB.out)
   have DR1:=hid (DR.out _ BD.out)
   have S0:=And.intro f1 d1'
   have S1:=And.intro (PF.out _ BD.out).1 (D1.out _ BD.out)
   go_wp2_with fail
   go_region_law (go_simp;go_at_call 97;refine DR1.out.mono ?_;rintro e w2⟨r,rfl,hr,b2⟩;obtain⟨e1,e2,e3⟩:=PF.out _ (zaa BD.out b2);have HP:=hid ((HX.out.below (zaa BD.out b2)).putF b hr (zaa HX.out.bel BD.out).size (HX.out.fresh hr BD.out.size));obtain⟨ra,rc,rfl⟩:=zab hr;clear hr b2)
   all_goals
    go_wp2_with fail
    go_ret2
    obtain⟨A',hA⟩:=HP.out
    exact⟨_,A',k,by unfold zg2 bs;rfl,zfv E _,hA,by omega⟩
end
theorem yf4:∀l:List (List UInt8),l.length≤(zcu l).length+1
 | []=>by simp
 | [a]=>by simp
 | a::b::l=>by
  have:=yf4 (b::l)
  show(a::b::l).length≤(a++32::zcu (b::l)).length+1
  simp only[List.length_append,List.length_cons] at this ⊢
  omega
theorem ypv(g j:Nat):(⟨g,0,none⟩:Addr).add j=⟨g,0+j,none⟩:=by cases j<;>rfl
theorem zo4(l:List (List UInt8))(base:Nat)(v:Value)(w:World)(hown:w.ownsRow base 9 1 v l.length (zbw l))(hl:(zcu l).length≤1000000000):
  Calls Tryz.prog 101 #[v] w fun e w'=>e=.returned (.string (bs (zfo l)))∧Below w.heap.size w w':=by
 rcases hown.2 with⟨rfl,hz⟩|⟨g,cap,cur,rfl,hbase,hb,h1,h2,h3,h4⟩
 ·have hz:l=[]:=List.eq_nil_of_length_eq_zero hz
  subst hz
  go_enter Tryz.func101,Tryz.ntmps101
  go_wp2_with fail
  go_ret
  exact⟨by unfold zfo zru bs;rfl,Below.refl _ _⟩
 ·by_cases h0:l=[]
  ·subst h0
   go_enter Tryz.func101,Tryz.ntmps101
   go_wp2_with fail
   go_ret
   exact⟨by unfold zfo zru bs;rfl,Below.refl _ _⟩
  ·have hge:=yf4 l
   have hlen:0<l.length:=by cases l with|nil=>exact absurd rfl h0|cons=>simp
   have hlt:¬((l.length:Nat):Int)=0:=by omega
   have JN:=hid (Tryz.strings_Join g 0 cap (l.map bs) ⟨#[32]⟩ w (fun j x hx=>by
    have hx':(zbw l)[j]?=some (.string x):=by
     unfold zbw
     rw[List.getElem?_map] at hx ⊢
     cases hl:l[j]? with
     | none=>rw[hl] at hx;cases hx
     | some y=>rw[hl] at hx;cases hx;rfl
    have:=hown.cells (g:=g) rfl j _ hx'
    rwa [ypv] at this) (Array.getElem?_eq_some_iff.1 hb).1 (by simp;omega) (by simp;omega) (by rw[List.map_map,show((fun x:ByteArray=>x.data.toList) ∘ bs)=id from funext fun x=>zai x,List.map_id,show(ByteArray.mk #[32]).data.toList=[32] from rfl,yf3];omega))
   have eJ:(l.map bs).length=l.length:=by simp
   rw[eJ,List.map_map,show((fun x:ByteArray=>x.data.toList) ∘ bs)=id from funext fun x=>zai x,List.map_id,show(ByteArray.mk #[32]).data.toList=[32] from rfl,yf3] at JN
   have HQ:zfo l=zcu l:=by unfold zfo;rw[if_neg h0]
   rw[HQ]
   clear hb h3 h4 HQ eJ hge
   go_enter Tryz.func101,Tryz.ntmps101
   go_wp2_with fail
   refine JN.out.mono ?_
   rintro e w1⟨rfl,b1⟩
   have B1:=hid b1
   go_wp2_with fail
   go_ret
   exact⟨by unfold bs;rfl,B1.out⟩
theorem ylm{w w':World}{a:Addr}{v:Value}{m:Nat}{es:Array MapEntry}{c:Nat}(hc:Chg w w' (fun x=>x=m))(hm:w.heap[m]?=some (.map es c))(h:w.cell? a=some v):w'.cell? a=some v:=by
 have hb:w'.heap[a.block]?=w.heap[a.block]?:=hc.block _ (World.block_lt_of_cell? w _ h) (fun e=>by
  unfold World.cell? at h
  rw[e,hm] at h
  cases h)
 unfold World.cell? at h ⊢
 rw[hb]
 exact h
section
variable{Q:Guest}{E:Nat→Addr}{w0 w w':World}{pb k:Nat}{A:PlA}{s:SP}
theorem yd8(nm:List UInt8)(v:Value)(h:PlAt Q w0 w pb A s k)(hI:SInv s)(hE:SEnv E w0)(hv:SliceIs w v 1 [.string (bs nm)])(hn:nm.length≤1000000)(hk:k<1000000):
  Calls Tryz.prog 73 #[.pointer (some ⟨pb,0,none⟩),v] w (Ans Q E w0 pb k (s.opens nm)):=by
 obtain⟨s0,m0,c0,rfl,hm0,hm1,hm2,g1⟩:=hv.get
 obtain⟨ad,rfl,d0⟩:=g1 0 _ rfl
 rw[zdy] at d0
 have hm0:m0=1:=by simpa using hm0.symm
 subst hm0
 have HX:=hid h
 have c2:=h.cs.1.2.2.1
 have B0:=hid (Below.drew (Below.refl w.heap.size w))
 have OP:=hid (zta (E:=E) nm (h.below B0.out).gt (by omega) (by omega) (hE.err.e2.below (zaa h.bel B0.out)) (hE.err.e5.below (zaa h.bel B0.out)) (hE.err.e8.below (zaa h.bel B0.out)))
 have HX1:=hid (h.below B0.out)
 have S0:=And.intro c2 d0
 have S1:=And.intro (h.below B0.out).cs.1.2.2.1 ((B0.out.cell (World.block_lt_of_cell? w _ d0)).trans d0)
 have IT:=hid (fun(w':World)(b:Below w0.heap.size w0 w')=>ze4 E (opN s.gm nm) w' (hE.lib.below b) (by have:=yes hI nm;omega))
 have MC:=hid (fun(W:World)(hc:Chg w.drew W (fun x=>x=A.mb))=>show W.cell? ad=some (.string (bs nm)) from by
  obtain⟨es,cc,hm⟩:=HX.out.mapObj
  exact ylm hc hm d0)
 clear h hI hE hv g1
 go_enter Tryz.func73,Tryz.ntmps73
 go_wp2_with fail
 go_region_held3 (fun X=>X.cell? ⟨pb,2,none⟩=some (.pointer (some ⟨A.gb,0,none⟩))∧X.cell? ad=some (.string (bs nm))) (first|exact S1|exact S0|exact S2) ((go_at_call 111;refine OP.out.mono ?_;rintro e w1⟨rfl,hg,hc⟩;have S2:=And.intro (HX1.out.gate hc hg).cs.1.2.2.1 (MC.out w1 hc)))
 have HP:=hid (HX1.out.gate hc hg)
 have IT1:=hid (IT.out _ HP.out.bel)
 clear OP hg hc
 go_wp2_with fail
 refine IT1.out.mono ?_
 rintro e w2⟨rfl,b2⟩
 have HP2:=hid (HP.out.below b2)
 clear b2
 go_wp2_with fail
 go_ret2
 exact⟨_,A,k+1,rfl,zl5 _ _ _,HP2.out,by omega⟩
theorem yae(nm d:List UInt8)(v:Value)(h:PlAt Q w0 w pb A s k)(hE:SEnv E w0)(hv:SliceIs w v 1 [.string (bs nm),.string (bs d)])(hn:nm.length≤1000000)(hd:d.length≤1000000):
  Calls Tryz.prog 74 #[.pointer (some ⟨pb,0,none⟩),v] w (Ans Q E w0 pb k (s.admits nm d)):=by
 obtain⟨s0,m0,c0,rfl,hm0,hm1,hm2,g1⟩:=hv.get
 obtain⟨ad,rfl,d0⟩:=g1 0 _ rfl
 rw[zdy] at d0
 obtain⟨ad',e',d1⟩:=g1 1 _ rfl
 cases e'
 rw[zlc] at d1
 have hm0:m0=2:=by simpa using hm0.symm
 subst hm0
 have HX:=hid h
 have NU:=hid (zd4 E 6 d w (hE.lib.below h.bel) (by omega) (by omega))
 have E1:=hid (fun(w':World)(b:Below w.heap.size w w')=>show w'.cell? ⟨1,0,none⟩=some (za0 (E 1)) from hE.err.e1.below (zaa h.bel b))
 have AD:=hid (fun(x:Int)(w':World)(b:Below w.heap.size w w')=>(zo7 (E:=E) nm x (h.below b).gt (by omega) (hE.err.e6.below (zaa h.bel b)) (hE.err.e11.below (zaa h.bel b))).mono (fun e w2 h=>And.intro h.1 h.2.symm))
 have CS:=hid (fun(w':World)(b:Below w.heap.size w w')=>(h.below b).cs.1.2.2.1)
 have D0:=hid (fun(w':World)(b:Below w.heap.size w w')=>(b.cell (World.block_lt_of_cell? w _ d0)).trans d0)
 clear h hE hv g1
 cases hx:nmL 6 d with
 | none=>
  have hq:s.admits nm d=(s,[],1):=by unfold SP.admits;rw[hx]
  rw[hq]
  simp only[zn4,hx] at NU
  clear hq hx AD
  go_enter Tryz.func74,Tryz.ntmps74
  go_wp2_with fail
  refine NU.out.mono ?_
  rintro e w1⟨⟨v,rfl,hv⟩,b1⟩
  have ce:=E1.out _ b1
  go_wp2_with fail
  go_quiet (fail)
  go_wp2_with fail
  go_ret2
  exact⟨_,A,k,by rw[bs_nil];rfl,zb1 E _ (by simp),HX.out.below (zac b1 nq),by omega⟩
 | some n=>
  have hq:s.admits nm d=(s,zg2,adC s.gm nm n):=by unfold SP.admits;rw[hx]
  rw[hq]
  simp only[zn4,hx] at NU
  clear hq hx
  go_enter Tryz.func74,Tryz.ntmps74
  go_wp2_with fail
  refine NU.out.mono ?_
  rintro e w1⟨⟨v,rfl,hv⟩,b1⟩
  obtain rfl:=hv n rfl
  have cs:=CS.out _ b1
  have d0':=D0.out _ b1
  have AD1:=hid (fun m=>AD.out n _ (zac b1 m))
  have B1:=hid b1
  clear b1 NU AD hv
  go_wp2_with fail
  go_quiet ((go_at_call 112;exact Calls.quiet_of_same (AD1.out _)))
  go_wp2_with fail
  go_ret2
  exact⟨_,A,k,by unfold zg2 bs;rfl,zl5 _ _ _,HX.out.below (zac B1.out nq),by omega⟩
theorem yjl(d:List UInt8)(v:Value)(h:PlAt Q w0 w pb A s k)(hE:SEnv E w0)(hv:SliceIs w v 1 [.string (bs d)])(hd:d.length≤1000000)(hlt:∀n,nmL 6 d=some n→n≤1000000):
  Calls Tryz.prog 77 #[.pointer (some ⟨pb,0,none⟩),v] w (Ans Q E w0 pb k (s.cut d)):=by
 obtain⟨s0,m0,c0,rfl,hm0,hm1,hm2,g1⟩:=hv.get
 obtain⟨ad,rfl,d0⟩:=g1 0 _ rfl
 rw[zdy] at d0
 have hm0:m0=1:=by simpa using hm0.symm
 subst hm0
 have HX:=hid h
 have NU:=hid (zd4 E 6 d w (hE.lib.below h.bel) (by omega) (by omega))
 have E1:=hid (fun(w':World)(b:Below w.heap.size w w')=>show w'.cell? ⟨1,0,none⟩=some (za0 (E 1)) from hE.err.e1.below (zaa h.bel b))
 have CT:=hid (fun(x:Int)(hx:x≤9223372036854775807)(w':World)(b:Below w.heap.size w w')=>yqh (E:=E) x (h.below b).tp hE.tap hx)
 have CS:=hid (fun(w':World)(b:Below w.heap.size w w')=>(h.below b).cs.1.2.2.2)
 clear h hE hv g1
 cases hx:nmL 6 d with
 | none=>
  have hq:s.cut d=(s,[],1):=by unfold SP.cut;rw[hx]
  rw[hq]
  simp only[zn4,hx] at NU
  clear hq hx CT hlt
  go_enter Tryz.func77,Tryz.ntmps77
  go_wp2_with fail
  refine NU.out.mono ?_
  rintro e w1⟨⟨v,rfl,hv⟩,b1⟩
  have ce:=E1.out _ b1
  go_wp2_with fail
  go_quiet (fail)
  go_wp2_with fail
  go_ret2
  exact⟨_,A,k,by rw[bs_nil];rfl,zb1 E _ (by simp),HX.out.below (zac b1 nq),by omega⟩
 | some n=>
  have hq:s.cut d=({s with tp:=ctT s.tp n},zg2,ctC s.tp n):=by unfold SP.cut;rw[hx]
  rw[hq]
  have hnn:=hlt n hx
  simp only[zn4,hx] at NU
  clear hq hx hlt
  go_enter Tryz.func77,Tryz.ntmps77
  go_wp2_with fail
  refine NU.out.mono ?_
  rintro e w1⟨⟨v,rfl,hv⟩,b1⟩
  obtain rfl:=hv n rfl
  have cs:=CS.out _ b1
  have CT1:=hid (CT.out n (by omega) _ b1)
  have B1:=hid b1
  clear b1 NU CT hv
  go_wp2_with fail
  refine CT1.out.mono ?_
  rintro e w2⟨rfl,F',hT,hL⟩
  have HP:=hid ((HX.out.below B1.out).tape hL hT)
  clear hT hL
  go_wp2_with fail
  go_ret2
  exact⟨_,_,k,by unfold zg2 bs;rfl,zl5 _ _ _,HP.out,by omega⟩
theorem yad(v:Value)(h:PlAt Q w0 w pb A s k)(hI:SInv s)(hE:SEnv E w0)(hb:(zas s.tp.b).1.length≤100000000):
  Calls Tryz.prog 78 #[.pointer (some ⟨pb,0,none⟩),v] w (Ans Q E w0 pb k s.again):=by
 have HX:=hid h
 have CT:=hid (yqe (E:=E) h.tp hE.tap (by have:=hI.tpb;omega))
 have cs:=h.cs.1.2.2.2
 have IT:=hid (fun(w':World)(b:Below w0.heap.size w0 w')=>ze4 E (zas s.tp.b).1.length w' (hE.lib.below b) (by omega))
 clear h hI hE hb
 go_enter Tryz.func78,Tryz.ntmps78
 go_wp2_with fail
 refine CT.out.mono ?_
 rintro e w1⟨r,rfl,ho,F',hT,hL⟩
 have HP:=hid (HX.out.tape hL hT)
 have IT1:=hid (IT.out _ HP.out.bel)
 obtain⟨ra,rc,rfl⟩:=zab ho
 clear hT hL ho CT IT
 go_wp2_with fail
 refine IT1.out.mono ?_
 rintro e w2⟨rfl,b2⟩
 have HP2:=hid (HP.out.below b2)
 clear b2
 go_wp2_with fail
 go_ret2
 exact⟨_,_,k,rfl,zfv E _,HP2.out,by omega⟩
end
theorem Told.zero{E:Nat→Addr}{w:World}{v:Value}(h:Told E w v 0):v=.nilIface:=by
 obtain⟨at',h⟩:=h
 rcases h with⟨_,_,h⟩|⟨h,_⟩|⟨h,_⟩
 ·exact h
 ·exact absurd rfl h
 ·exact absurd rfl h
theorem Told.two{E:Nat→Addr}{w:World}{v:Value}{c:Nat}(h:Told E w v c)(hc:c≠0):v=.iface 338 (.pointer (some (E c)))∨∃fb,v=.iface 119 (.pointer (some ⟨fb,0,none⟩)):=by
 obtain⟨at',h⟩:=h
 rcases h with⟨h,_⟩|⟨_,_,h⟩|⟨_,_,fb,h,_⟩
 ·exact absurd h hc
 ·unfold za0 at h;exact .inl h
 ·exact .inr ⟨fb,h⟩
theorem ya7(E:Nat→Addr)(l:List PF)(v:Value)(n d:List UInt8)(w:World)(hl:SliceIs w v 2 (zah l))(hf:FWF l)(hd:d.length≤maxLen)(hn:n.length≤maxLen)(hE:XErr E w):
  Calls Tryz.prog 66 #[v,.string (bs n),.string (bs d)] w fun e w'=>∃r er,e=.returned (.tuple #[r,er])∧Told E w' er (putF l n d).1∧((putF l n d).1=0→w'.ownsRow w.heap.size 126 2 r (zal l n d).length (zah (zal l n d)))∧((putF l n d).1≠0→r=.slice none 0 0)∧Below w.heap.size w w':=by
 rw[zqj ((zbd l).2 hf)]
 cases hg:zaq l n with
 | none=>
  refine(ztk E l v n d w hl hf.okx hd hn hE.e2 hE.e5 hE.e8 hE.e9 hf hg).mono ?_
  rintro e w'⟨r,er,rfl,h1,h2,h3,h4⟩
  exact⟨r,er,rfl,⟨_,h1⟩,h2,h3,h4⟩
 | some x=>
  refine(znj E l v n d w hl hf.okx hd hn hE.e2 hE.e5 hE.e8 hE.e9 hf (by rw[hg];rfl)).mono ?_
  rintro e w'⟨r,er,rfl,h1,h2,h3,h4⟩
  exact⟨r,er,rfl,⟨_,h1⟩,h2,h3,h4⟩
section
variable{Q:Guest}{E:Nat→Addr}{w0 w w':World}{pb k:Nat}{A:PlA}{s:SP}
attribute [local irreducible] putF zal zec zcc zdu zbx SP.put
theorem yjf(rest:List UInt8)(h:PlAt Q w0 w pb A s k)(hI:SInv s)(hE:SEnv E w0)(hr:rest.length≤1000):
  Calls Tryz.prog 44 #[.pointer (some ⟨pb,0,none⟩),.string (bs rest)] w (Ans Q E w0 pb k (s.put rest)):=by
 have hB:=zgg 32 rest
 have hA:=zii 32 rest
 have hBB:=zgg 32 (zcc 32 rest)
 have hBA:=zii 32 (zcc 32 rest)
 have HX:=hid h
 have HI:=hid hI
 have C1:=hid (zp3 E 32 ⟨#[32]⟩ (by rfl) rest w (by omega) (hE.lib.below h.bel))
 have C2:=hid (fun(w':World)(b:Below w.heap.size w w')=>zp3 E 32 ⟨#[32]⟩ (by rfl) (zcc 32 rest) w' (by omega) (hE.lib.below (zaa h.bel b)))
 have SD:=hid (fun w'=>zmq (zec 32 rest) pb w')
 have E1:=hid (fun(w':World)(b:Below w.heap.size w w')=>show w'.cell? ⟨1,0,none⟩=some (za0 (E 1)) from hE.err.e1.below (zaa h.bel b))
 have PU:=hid (fun(b:Bool)(w':World)(bb:Below w.heap.size w w')=>ya7 E (s.files b) (A.fv b) (zec 32 (zcc 32 rest)) (zcc 32 (zcc 32 rest)) w' (SliceIs.ownedK ((h.below bb).atF b).2.2) (hI.files b).wf (by unfold maxLen;omega) (by unfold maxLen;omega) (hE.err.below (zaa h.bel bb)))
 have PFF:=hid (fun(b:Bool)(w':World)(bb:Below w.heap.size w w')=>(h.below bb).atF b)
 have Q1:=hid (fun h=>zwy (s:=s) (r:=rest) h)
 have Q2:=hid (fun h=>zwx (s:=s) (r:=rest) h)
 have Q3:=hid (fun h=>zrz (s:=s) (r:=rest) h)
 have Q4:=hid (fun b h h1 h2 hp=>zww (s:=s) (r:=rest) (b:=b) h h1 h2 hp)
 have Q5:=hid (fun b h h1 h2 hp=>ycm (s:=s) (r:=rest) (b:=b) h h1 h2 hp)
 clear h hI hE hB hA hBB hBA hr
 cases h1:(zdu 32 rest).isSome with
 | false=>
  rw[h1] at C1
  rw[Q1.out h1]
  clear Q1 Q2 Q3 Q4 Q5 PU PFF h1
  go_enter Tryz.func44,Tryz.ntmps44
  go_wp2_with fail
  refine C1.out.mono ?_
  rintro e w1⟨rfl,b1⟩
  have C21:=hid (C2.out _ b1)
  have B1:=hid b1
  clear C1 C2 b1
  go_wp2_with fail
  refine C21.out.mono ?_
  rintro e w2⟨rfl,b2⟩
  have B2:=hid (zaa B1.out b2)
  clear C21 b2
  go_wp2_with fail
  refine(SD.out _).mono ?_
  rintro e w3⟨rfl,rfl⟩
  have ce:=E1.out _ B2.out
  go_wp2_with fail
  go_quiet (fail)
  go_wp2_with fail
  go_ret2
  exact⟨_,A,k,by rw[bs_nil];rfl,zb1 E _ (by simp),HX.out.below (zac B2.out nq),by omega⟩
 | true=>
  rw[h1] at C1
  cases h2:(zdu 32 (zcc 32 rest)).isSome with
  | false=>
   simp only[h2] at C2
   rw[Q2.out h2]
   clear Q1 Q2 Q3 Q4 Q5 PU PFF h1 h2
   go_enter Tryz.func44,Tryz.ntmps44
   go_wp2_with fail
   refine C1.out.mono ?_
   rintro e w1⟨rfl,b1⟩
   have C21:=hid (C2.out _ b1)
   have B1:=hid b1
   clear C1 C2 b1
   go_wp2_with fail
   refine C21.out.mono ?_
   rintro e w2⟨rfl,b2⟩
   have B2:=hid (zaa B1.out b2)
   clear C21 b2
   go_wp2_with fail
   refine(SD.out _).mono ?_
   rintro e w3⟨rfl,rfl⟩
   have ce:=E1.out _ B2.out
   go_wp2_with fail
   go_quiet (fail)
   go_wp2_with fail
   go_ret2
   exact⟨_,A,k,by rw[bs_nil];rfl,zb1 E _ (by simp),HX.out.below (zac B2.out nq),by omega⟩
  | true=>
   simp only[h2] at C2
   cases hs:zbx (zec 32 rest) with
   | none=>
    rw[Q3.out hs]
    rw[hs] at SD
    clear Q1 Q2 Q3 Q4 Q5 PU PFF h1 h2 hs
    go_enter Tryz.func44,Tryz.ntmps44
    go_wp2_with fail
    refine C1.out.mono ?_
    rintro e w1⟨rfl,b1⟩
    have C21:=hid (C2.out _ b1)
    have B1:=hid b1
    clear C1 C2 b1
    go_wp2_with fail
    refine C21.out.mono ?_
    rintro e w2⟨rfl,b2⟩
    have B2:=hid (zaa B1.out b2)
    clear C21 b2
    go_wp2_with fail
    refine(SD.out _).mono ?_
    rintro e w3⟨rfl,rfl⟩
    have ce:=E1.out _ B2.out
    go_wp2_with fail
    go_quiet (fail)
    go_wp2_with fail
    go_ret2
    exact⟨_,A,k,by rw[bs_nil];rfl,zb1 E _ (by simp),HX.out.below (zac B2.out nq),by omega⟩
   | some b=>
    rw[hs] at SD
    have PU:=hid (PU.out b)
    have PFF:=hid (PFF.out b)
    have HP:=hid (fun(w':World)(A:PlA)(h:PlAt Q w0 w' pb A s k)(l:List PF)(base:Nat)(r:Value)(hr:w'.ownsRow base 126 2 r l.length (zah l))(hb:w0.heap.size≤base)(hn:Apt Q A r)=>h.putF b hr hb hn)
    generalize A.fv b=fv at *
    obtain⟨g,cap,hlv⟩:=zab (PFF.out _ (Below.refl _ w)).2.2
    subst hlv
    by_cases hp:(putF (s.files b) (zec 32 (zcc 32 rest)) (zcc 32 (zcc 32 rest))).1=0
    ·rw[Q4.out b hs h1 h2 hp]
     clear Q1 Q2 Q3 Q4 Q5 h1 h2 hs
     go_enter Tryz.func44,Tryz.ntmps44
     go_wp2_with fail
     refine C1.out.mono ?_
     rintro e w1⟨rfl,b1⟩
     have C21:=hid (C2.out _ b1)
     have B1:=hid b1
     clear C1 C2 b1
     go_wp2_with fail
     refine C21.out.mono ?_
     rintro e w2⟨rfl,b2⟩
     have B2:=hid (zaa B1.out b2)
     clear C21 b2
     go_wp2_with fail
     refine(SD.out _).mono ?_
     rintro e w3⟨rfl,rfl⟩
     simp only[Option.map_some]
     obtain⟨f1,f2,f3⟩:=PFF.out _ B2.out
     have PU1:=hid (PU.out _ B2.out)
     go_wp2_with fail
     refine PU1.out.mono ?_
     rintro e w4⟨r,er,rfl,t1,t2,t3,b4⟩
     rw[hp] at t1
     obtain rfl:=t1.zero
     have hr:=t2 hp
     have BB:=hid (zaa B2.out b4)
     have HP1:=hid (HP.out _ _ (HX.out.below BB.out) _ _ _ hr (zaa HX.out.bel B2.out).size (HX.out.fresh hr B2.out.size))
     obtain⟨f1,f2,f3⟩:=PFF.out _ BB.out
     obtain⟨ra,rc,rfl⟩:=zab hr
     clear t1 t2 t3 b4 hr PU1 PU
     go_wp2_with fail
     go_ret2
     obtain⟨A',hA⟩:=HP1.out
     exact⟨_,A',k,by unfold zg2 bs;rfl,zfv E _,hA,by omega⟩
    ·rw[Q5.out b hs h1 h2 hp]
     clear Q1 Q2 Q3 Q4 Q5 h1 h2 hs
     go_enter Tryz.func44,Tryz.ntmps44
     go_wp2_with fail
     refine C1.out.mono ?_
     rintro e w1⟨rfl,b1⟩
     have C21:=hid (C2.out _ b1)
     have B1:=hid b1
     clear C1 C2 b1
     go_wp2_with fail
     refine C21.out.mono ?_
     rintro e w2⟨rfl,b2⟩
     have B2:=hid (zaa B1.out b2)
     clear C21 b2
     go_wp2_with fail
     refine(SD.out _).mono ?_
     rintro e w3⟨rfl,rfl⟩
     simp only[Option.map_some]
     obtain⟨f1,f2,f3⟩:=PFF.out _ B2.out
     have PU1:=hid (PU.out _ B2.out)
     go_wp2_with fail
     refine PU1.out.mono ?_
     rintro e w4⟨r,er,rfl,t1,t2,t3,b4⟩
     have T1:=hid t1
     have hr:=t3 hp
     subst hr
     have BB:=hid (zaa B2.out b4)
     rcases t1.two hp with rfl|⟨fb,rfl⟩
     all_goals
      clear t1 t2 t3 b4 PU1 PU hp
      go_wp2_with fail
      go_ret2
      exact⟨_,A,k,by unfold zg2 bs;rfl,T1.out,HX.out.below BB.out,by omega⟩
end
theorem zq0(m:Nat):∀l:List (List UInt8),(∀x∈l,x.length≤m)→(zcu l).length≤(m+1) * l.length
 | [],_=>by simp[zcu]
 | [a],h=>by have:=h a (by simp);simp only[zcu,List.length_singleton];omega
 | a::b::l,h=>by
  have h1:=h a (by simp)
  have h2:=zq0 m (b::l) (fun x hx=>h x (List.mem_cons_of_mem _ hx))
  show(a++32::zcu (b::l)).length≤_
  rw[List.length_append,List.length_cons,List.length_cons (a:=a),Nat.mul_add]
  omega
theorem yj5{x:PL}(h1:x.n.length≤12)(h2:0≤x.N∧x.N≤4000)(h3:x.S<4294967296):(SP.lineT x).length≤60:=by
 unfold SP.lineT
 have a:=zay (n:=x.N.toNat) (k:=9) (by omega)
 have b:=zay (n:=x.S) (k:=9) (by omega)
 simp only[List.length_append,List.length_cons]
 omega
theorem zxz(x:PL):SP.lineT x=x.n++[58]++Lib.decDigits x.N.toNat++[58]++Lib.decDigits x.S:=by unfold SP.lineT;simp
theorem zo1{l:List PF}(h:FWF l)(k:Nat):(zcu ((l.take k).map fun f=>SP.lineT f.line)).length≤1300:=by
 have h1:=zq0 60 ((l.take k).map fun f=>SP.lineT f.line) (fun x hx=>by
  obtain⟨f,hf,rfl⟩:=List.mem_map.1 hx
  obtain⟨a,b⟩:=h.each f (List.mem_of_mem_take hf)
  exact yj5 (((zbi _).1 a).2.1) ⟨by show(0:Int)≤f.d.length;omega,by show(f.d.length:Int)≤4000;omega⟩ (zdv _))
 have h2:=h.few
 rw[List.length_map,List.length_take] at h1
 omega
section
variable{Q:Guest}{E:Nat→Addr}{w0 w w':World}{pb k:Nat}{A:PlA}{s:SP}
attribute [local irreducible] SP.lineT zcu zfo
theorem yea(a:List UInt8)(v:Value)(h:PlAt Q w0 w pb A s k)(hI:SInv s)(hE:SEnv E w0)(hv:SliceIs w v 1 [.string (bs a)]):
  Calls Tryz.prog 69 #[.pointer (some ⟨pb,0,none⟩),v] w (Ans Q E w0 pb k (s.list a)):=by
 obtain⟨s0,m0,c0,rfl,hm0,hm1,hm2,g1⟩:=hv.get
 obtain⟨ad,rfl,d0⟩:=g1 0 _ rfl
 rw[zdy] at d0
 have hm0:m0=1:=by simpa using hm0.symm
 subst hm0
 have HX:=hid h
 have SD:=hid (fun w'=>zmq a pb w')
 have c1:w.cell? ⟨1,0,none⟩=some (za0 (E 1)):=hE.err.e1.below h.bel
 cases hs:zbx a with
 | none=>
  have hq:s.list a=(s,[],1):=by unfold SP.list;rw[hs]
  rw[hs] at SD
  rw[hq]
  clear h hs hq hv g1 hI hE
  go_enter Tryz.func69,Tryz.ntmps69
  go_wp2_with fail
  refine(SD.out _).mono ?_
  rintro e w1⟨rfl,rfl⟩
  simp only[Option.map_none]
  go_wp2_with fail
  go_quiet (fail)
  go_wp2_with fail
  go_ret2
  exact⟨_,A,k,by rw[bs_nil];rfl,zb1 E _ (by simp),HX.out.below (zac (Below.refl _ _) nq),by omega⟩
 | some b=>
  have hq:s.list a=(s,zfo ((s.files b).map fun f=>SP.lineT f.line),0):=by unfold SP.list;rw[hs]
  rw[hs] at SD
  rw[hq]
  obtain⟨F1,F2,F3⟩:=h.atF b
  have hW:=(hI.files b).wf
  have HE:=hE.err.below h.bel
  have LS:=hid (zgf E (s.files b) (A.fv b) w (SliceIs.ownedK F3) hW.okx HE.e2 HE.e5 HE.e8 HE.e9 hW)
  have HLB:=hid (fun(w':World)(b:Below w.heap.size w w')=>hE.lib.below (zaa h.bel b))
  have HFEW:=hW.few
  have HEA:=hid hW.each
  have GL:=hid (fun k=>zo1 hW k)
  obtain⟨g,cap,hlv⟩:=zab F3
  obtain⟨i0,hi,hz0,hz1,hz2⟩:=info_parts zgw
  generalize A.fv b=fv at *
  subst hlv
  generalize s.files b=L at *
  clear h hs hq hv g1 hI hE F3 F2 HE hW c1
  go_enter Tryz.func69,Tryz.ntmps69
  go_wp2_with fail
  refine(SD.out _).mono ?_
  rintro e w1⟨rfl,rfl⟩
  simp only[Option.map_some]
  go_wp2_with fail
  refine LS.out.mono ?_
  rintro e w2⟨r,rfl,hr,b2⟩
  have B2:=hid b2
  have HR:=hid hr
  obtain⟨ra,rc,rfl⟩:=zab hr
  clear LS F1 b2 hr
  go_wp2_with fail
  go_loopw [9,11,29] (fun o _ i wr=>∃j:Nat,i=.int .i64 j∧j≤L.length∧wr.ownsRow w2.heap.size 9 1 o j (zbw ((L.take j).map fun f=>SP.lineT f.line))∧Below w2.heap.size w2 wr) (fun _ _ i _=>L.length - (intOf i).toNat)
  case atStart=>exact⟨0,rfl,by omega,World.ownsRow_nil _ _ _ _,Below.refl _ _⟩
  case round=>
   obtain⟨j,rfl,hj,hown,bel⟩:=hrel
   by_cases hlt:j<L.length
   ·have hltI:(j:Int)<L.length:=by omega
    obtain⟨s0',n0',c0',e1,_,_,_,g1⟩:=((SliceIs.ownedK HR.out).below bel).get
    cases e1
    have hlt':j<(L.map PF.line).length:=by rw[List.length_map];exact hlt
    obtain⟨g2,g3,g4⟩:=zd8 (L.map PF.line) j hlt'
    rw[List.getElem_map] at g2 g3 g4
    obtain⟨ad,rfl,d0⟩:=g1 _ _ g2
    obtain⟨a',e',d1⟩:=g1 _ _ g3
    cases e'
    obtain⟨a',e',d2⟩:=g1 _ _ g4
    cases e'
    clear g1 g2 g3 g4
    have NX:=hid (show zbw ((L.take (j+1)).map fun f=>SP.lineT f.line)=zbw ((L.take j).map fun f=>SP.lineT f.line)++[.string (bs (SP.lineT L[j].line))] by
     rw[List.take_succ_eq_append_getElem hlt,List.map_append];exact zcz _ _)
    obtain⟨p1,p2⟩:=HEA.out L[j] (List.getElem_mem _)
    have p1:=((zbi _).1 p1).2.1
    have hS:=zdv (L[j]).d
    have ES:=hid (zxz (L[j]).line)
    have hN0:(L[j]).line.N=((L[j]).d.length:Nat):=rfl
    have hn0:(L[j]).line.n=(L[j]).n:=rfl
    have hS0:(L[j]).line.S=za5 (L[j]).d:=rfl
    rw[hN0,hn0,hS0] at ES
    rw[hn0] at d0
    rw[hN0] at d1
    rw[hS0] at d2
    rw[Int.toNat_natCast] at ES
    have KK:=hid (show j+1≤L.length by omega)
    have x1:(0:Int)≤j:=by omega
    have x2:(j:Int).toNat=j:=by omega
    generalize SP.lineT (L[j]).line=T at *
    generalize za5 (L[j]).d=S at *
    generalize (L[j]).d.length=N at *
    generalize (L[j]).n=nm at *
    have d1:=zao d1
    have d2:=zao d2
    have HIT:=hid (fun(w':World)(b:Below w.heap.size w w')=>ze4 E N w' (HLB.out _ b) (by omega))
    have HFU:=hid (fun(w':World)(b:Below w.heap.size w w')=>zni E S w' (HLB.out _ b) (by omega))
    have q1:(Lib.decDigits N).length≤10:=zay (k:=9) (by omega)
    have q2:(Lib.decDigits S).length≤10:=zay (k:=9) (by omega)
    generalize Lib.decDigits N=dN at *
    generalize Lib.decDigits S=dS at *
    obtain⟨Y1,hY1⟩:∃Y,Y=nm++[58]:=⟨_,rfl⟩
    obtain⟨Y2,hY2⟩:∃Y,Y=Y1++dN:=⟨_,rfl⟩
    obtain⟨Y3,hY3⟩:∃Y,Y=Y2++[58]:=⟨_,rfl⟩
    have hA1:bs nm++⟨#[58]⟩=bs Y1:=by rw[ybr,hY1];exact zc6 nm [58]
    have hA2:bs Y1++bs dN=bs Y2:=by rw[hY2];exact zc6 _ _
    have hA3:bs Y2++⟨#[58]⟩=bs Y3:=by rw[ybr,hY3];exact zc6 Y2 [58]
    have hA4:bs Y3++bs dS=bs T:=by rw[ES.out,hY3,hY2,hY1];exact(zc6 _ _).trans (by simp)
    have l1:Y1.length≤13:=by rw[hY1,List.length_append];simp;omega
    have l2:Y2.length≤23:=by rw[hY2,List.length_append];omega
    have l3:Y3.length≤24:=by rw[hY3,List.length_append];simp;omega
    have hc1:¬9223372036854775807<nm.length+1:=by omega
    have hc2:¬9223372036854775807<Y1.length+dN.length:=by omega
    have hc3:¬9223372036854775807<Y2.length+1:=by omega
    have hc4:¬9223372036854775807<Y3.length+dS.length:=by omega
    have HN1:Hid (j+1≤maxLen):=by show _≤_;unfold maxLen;omega
    have HN2:Hid ((j+1) * 16≤140737488355328):=by show _≤_;omega
    have s1:(0:Int)≤(S:Int):=by omega
    have s2:(S:Int)≤4294967295:=by omega
    have HO:=hid hown
    have BW:=hid bel
    obtain⟨va,vc,rfl⟩:=zab hown
    have BA:=hid (bel.alloc bel.size (.cells #[.string (bs nm),.int .i64 (N:Nat),.int .u32 (S:Nat)] 173))
    have HOA:=hid (HO.out.alloc (.cells #[.string (bs nm),.int .i64 (N:Nat),.int .u32 (S:Nat)] 173))
    have OB:Hid (∀x,(Value.slice va j vc).ownBlock=some x→w2.heap.size≤x∧x<wr.heap.size):=hid fun x hx=>HO.out.lt x hx
    clear hown bel hY1 hY2 hY3 ES l1 l2 l3 q1 q2 hN0 hn0 hS0
    go_wp2_with fail
    have q0:(wr.alloc (.cells #[.string (bs nm),.int .i64 (N:Nat),.int .u32 (S:Nat)] 173)).cell? ⟨wr.heap.size,0,none⟩=some (.string (bs nm)):=by simp
    have q1:(wr.alloc (.cells #[.string (bs nm),.int .i64 (N:Nat),.int .u32 (S:Nat)] 173)).cell? ⟨wr.heap.size,1,none⟩=some (.int .i64 (N:Nat)):=by simp
    have q2:(wr.alloc (.cells #[.string (bs nm),.int .i64 (N:Nat),.int .u32 (S:Nat)] 173)).cell? ⟨wr.heap.size,2,none⟩=some (.int .u32 (S:Nat)):=by simp
    have hws:wr.heap.size<(wr.alloc (.cells #[.string (bs nm),.int .i64 (N:Nat),.int .u32 (S:Nat)] 173)).heap.size:=by simp
    generalize wr.alloc (.cells #[.string (bs nm),.int .i64 (N:Nat),.int .u32 (S:Nat)] 173)=W0 at *
    generalize wr.heap.size=wb at *
    have BD:=hid (Below.drew (Below.refl W0.heap.size W0))
    have BAw:=hid (zaa B2.out BA.out)
    have DD:=hid (fun(X:World)(b:Below W0.heap.size W0 X)=>(show X.cell? ⟨wb,0,none⟩=some (.string (bs nm))∧X.cell? ⟨wb,1,none⟩=some (.int .i64 (N:Nat))∧X.cell? ⟨wb,2,none⟩=some (.int .u32 (S:Nat)) from⟨(b.cell hws).trans q0,(b.cell hws).trans q1,(b.cell hws).trans q2⟩))
    have S0:=And.intro q0 (And.intro q1 q2)
    have S1:=DD.out _ BD.out
    have IT2:=hid (fun(X:World)(b:Below W0.heap.size W0 X)=>HIT.out X (zaa BAw.out b))
    have FU2:=hid (fun(X:World)(b:Below W0.heap.size W0 X)=>HFU.out X (zaa BAw.out b))
    have BG:=hid (fun(X:World)(o:Obj)(w5:World)(b:Below W0.heap.size W0 X)(g:(X.alloc o).grownBy w5 (Value.slice va j vc).ownBlock)=>show Below w2.heap.size w2 w5 from((zaa BA.out b).alloc (zaa BA.out b).size o).grown g (by have:=(zaa BA.out b).size;simp;omega) (fun k hk=>(OB.out k hk).1))
    have NB:=hid (fun(X:World)(o:Obj)(b:Below W0.heap.size W0 X)=>show w2.heap.size≤(X.alloc o).heap.size by have:=(zaa BA.out b).size;simp;omega)
    have KG:=hid (fun(X:World)(o:Obj)(w5:World)(b:Below W0.heap.size W0 X)(g:(X.alloc o).grownBy w5 (Value.slice va j vc).ownBlock)=>(show w5.cell? ⟨wb,0,none⟩=some (.string (bs nm))∧w5.cell? ⟨wb,1,none⟩=some (.int .i64 (N:Nat))∧w5.cell? ⟨wb,2,none⟩=some (.int .u32 (S:Nat)) from by
     have hb:w5.heap[wb]?=W0.heap[wb]?:=(g.block wb (by have:=b.size;simp;omega) (fun e=>by have:=(OB.out wb e.symm).2;omega)).trans ((Below.heap_alloc X o wb (by have:=b.size;omega)).trans (b.block wb hws))
     have ck:∀k,w5.cell? ⟨wb,k,none⟩=W0.cell? ⟨wb,k,none⟩:=fun k=>by unfold World.cell?;rw[hb]
     exact⟨(ck 0).trans q0,(ck 1).trans q1,(ck 2).trans q2⟩))
    have AL:=hid (fun(X:World)(o:Obj)(b:Below W0.heap.size W0 X)=>b.alloc b.size o)
    have hw64:IntKind.u64.wrap (S:Int)=S:=IntWalk.u64_in _ (by omega)
    clear HIT HFU d0 d1 d2 q0 q1 q2
    go_region_held3 (fun X=>X.cell? ⟨wb,0,none⟩=some (.string (bs nm))∧X.cell? ⟨wb,1,none⟩=some (.int .i64 (N:Nat))∧X.cell? ⟨wb,2,none⟩=some (.int .u32 (S:Nat))) (first|exact S0|exact S1|exact DD.out _ (by assumption)|exact DD.out _ (AL.out _ _ (by assumption))|assumption)
     (first
     | (go_at_call 99;refine(IT2.out _ BD.out).mono ?_;rintro e v1⟨rfl,b1⟩;have c1:=zaa BD.out b1)
     | (go_at_call 100;refine(FU2.out _ (by assumption)).mono ?_;rintro e v2⟨rfl,b2⟩;have c2:=zaa (by assumption) b2)
     | (refine za7 rfl (.tmp 33) (.tmp 47) 22 rfl w2.heap.size 9 i0 _ 1 16 Tryz.underlying22 hi hz0 hz1 hz2 rfl (by decide) (.slice va j vc) j _ rfl ((zad HOA.out (by assumption)).alloc _) ⟨_,0,none⟩ 1 1 [.string (bs T)] rfl rfl (zc4 (by simp)) (zbs rfl) HN1.out HN2.out (NB.out _ _ (by assumption)) ?_;intro v' w5 hown5 hgrow _;have HO5:=hid hown5;have HG5:=hid (BG.out _ _ _ (by assumption) hgrow);have S5:=KG.out _ _ _ (by assumption) hgrow))
    go_wp2_with fail
    go_roundw
    case rel=>exact⟨j+1,by go_num,KK.out,by rw[NX.out];exact HO5.out,HG5.out⟩
    case measure=>have:=KK.out;simp[intOf];omega
   ·have hltI:¬(j:Int)<L.length:=by omega
    obtain rfl:j=L.length:=by omega
    have HJ:=hid (zo4 (L.map fun f=>SP.lineT f.line) w2.heap.size _ wr (by rw[List.length_map];rw[List.take_length] at hown;exact hown) (by have:=GL.out L.length;rw[List.take_length] at this;omega))
    obtain⟨va,vc,rfl⟩:=zab hown
    have BW:=hid (zaa B2.out bel)
    clear hown bel
    go_wp2_with fail
    refine HJ.out.mono ?_
    rintro e w3⟨rfl,b3⟩
    have B3:=hid (zaa BW.out b3)
    clear b3 HJ
    go_wp2_with fail
    go_ret2
    exact⟨_,A,k,rfl,zfv E _,HX.out.below B3.out,by omega⟩
end
theorem zmr{l m:List PF}(hl:FWF l)(hm:FWF m):∀x∈zb3 (l.map PF.line) (m.map PF.line),x.k.length=4∧x.n.length≤12:=by
 intro x hx
 have N1:∀u,zaq l x.n=some u→x.n.length≤12:=fun u h=>((zbi _).1 (hl.each _ (zbn h)).1).2.1
 have N2:∀u,zaq m x.n=some u→x.n.length≤12:=fun u h=>((zbi _).1 (hm.each _ (zbn h)).1).2.1
 rcases zyy hl hm x hx with⟨h1,u,h2,_⟩|⟨h1,u,_,h2,_⟩|⟨h1,_,u,h2⟩
 ·exact⟨by rw[h1];rfl,N1 u h2⟩
 ·exact⟨by rw[h1];rfl,N1 u h2⟩
 ·exact⟨by rw[h1];rfl,N2 u h2⟩
theorem zsh{l m:List PF}(hl:FWF l)(hm:FWF m):(zcu ((zb3 (l.map PF.line) (m.map PF.line)).map SP.stepT)).length≤1000:=by
 have h1:=zq0 20 ((zb3 (l.map PF.line) (m.map PF.line)).map SP.stepT) (fun x hx=>by
  obtain⟨f,hf,rfl⟩:=List.mem_map.1 hx
  obtain⟨a,b⟩:=zmr hl hm f hf
  unfold SP.stepT
  simp only[List.length_append,List.length_cons]
  omega)
 have h2:=zh6 (l.map PF.line) (m.map PF.line)
 rw[List.length_map,List.length_map] at h2
 have a:=hl.few
 have b:=hm.few
 rw[List.length_map] at h1
 omega
section
variable{Q:Guest}{E:Nat→Addr}{w0 w w':World}{pb k:Nat}{A:PlA}{s:SP}
attribute [local irreducible] SP.stepT zcu zfo zb3
theorem yd7(v:Value)(h:PlAt Q w0 w pb A s k)(hI:SInv s)(hE:SEnv E w0):
  Calls Tryz.prog 70 #[.pointer (some ⟨pb,0,none⟩),v] w (Ans Q E w0 pb k s.plan):=by
 have HX:=hid h
 have hWf:=hI.fr.wf
 have hWt:=hI.tt.wf
 have HEr:=hid (fun(w':World)(b:Below w.heap.size w w')=>hE.err.below (zaa h.bel b))
 have HE:=hE.err.below h.bel
 have L1:=hid (zgf E s.fr A.vf w (SliceIs.ownedK h.fr) hWf.okx HE.e2 HE.e5 HE.e8 HE.e9 hWf)
 have L2:=hid (fun(w':World)(b:Below w.heap.size w w')=>zgf E s.tt A.vt w' (SliceIs.ownedK (h.below b).tt) hWt.okx (HEr.out _ b).e2 (HEr.out _ b).e5 (HEr.out _ b).e8 (HEr.out _ b).e9 hWt)
 have LP:=hid (fun (w':World) (b:Below w.heap.size w w') v1 v2 h1 h2=>zo9 E (s.fr.map PF.line) (s.tt.map PF.line) v1 v2 w' h1 h2 hWf.lines hWt.lines (HEr.out _ b).e2 (HEr.out _ b).e5 (HEr.out _ b).e8 (HEr.out _ b).e9)
 have CS:=hid (fun(w':World)(b:Below w.heap.size w w')=>(h.below b).cs)
 have PL:=hid (zh6 (s.fr.map PF.line) (s.tt.map PF.line))
 have PS:=hid (zmr hWf hWt)
 have PG:=hid (zsh hWf hWt)
 have LN:(zb3 (s.fr.map PF.line) (s.tt.map PF.line)).length≤40:=by
  have:=PL.out
  have a:=hWf.few
  have b:=hWt.few
  rw[List.length_map,List.length_map] at this
  omega
 obtain⟨ga,gc,ha⟩:=zab h.fr
 obtain⟨ta,tc,ht⟩:=zab h.tt
 have HQ:Hid (s.plan=(s,zfo ((zb3 (s.fr.map PF.line) (s.tt.map PF.line)).map SP.stepT),0)):=hid rfl
 rw[HQ.out]
 obtain⟨⟨c1,c2,c3,c4⟩,cf⟩:=h.cs
 obtain⟨i0,hi,hz0,hz1,hz2⟩:=info_parts zgw
 generalize zb3 (s.fr.map PF.line) (s.tt.map PF.line)=L at *
 generalize A.vf=vf at *
 generalize A.vt=vt at *
 subst ha
 subst ht
 clear h hI hE HE hWf hWt HQ cf c2 c3 c4 PL HEr
 go_enter Tryz.func70,Tryz.ntmps70
 go_wp2_with fail
 refine L1.out.mono ?_
 rintro e w1⟨r,rfl,hr,b1⟩
 have B1:=hid b1
 have HR:=hid hr
 have c2:=(CS.out _ b1).1.2.1
 obtain⟨ra,rc,rfl⟩:=zab hr
 have L21:=hid (L2.out _ b1)
 clear L1 L2 c1 b1 hr
 go_wp2_with fail
 refine L21.out.mono ?_
 rintro e w2⟨r2,rfl,hr2,b2⟩
 have B2:=hid (zaa B1.out b2)
 have HR1:=hid (zad HR.out b2)
 have HR2:=hid hr2
 have LP1:=hid (LP.out _ B2.out _ _ (SliceIs.ownedK HR1.out) (SliceIs.ownedK HR2.out))
 obtain⟨sa,sc,rfl⟩:=zab hr2
 clear L21 HR LP c2 b2 hr2
 go_wp2_with fail
 refine LP1.out.mono ?_
 rintro e w3⟨r3,rfl,hr3,b3⟩
 have B3:=hid (zaa B2.out b3)
 have HR3:=hid hr3
 obtain⟨pa,pc,rfl⟩:=zab hr3
 clear LP1 HR1 HR2 b3 hr3
 go_wp2_with fail
 go_loopw [10,12,43] (fun o _ i wr=>∃j:Nat,i=.int .i64 j∧j≤L.length∧wr.ownsRow w3.heap.size 9 1 o j (zbw ((L.take j).map SP.stepT))∧Below w3.heap.size w3 wr) (fun _ _ i _=>L.length - (intOf i).toNat)
 case atStart=>exact⟨0,rfl,by omega,World.ownsRow_nil _ _ _ _,Below.refl _ _⟩
 case round=>
  obtain⟨j,rfl,hj,hown,bel⟩:=hrel
  by_cases hlt:j<L.length
  ·have hltI:(j:Int)<L.length:=by omega
   obtain⟨s0',n0',c0',e1,_,_,_,g1⟩:=((SliceIs.ownedK HR3.out).below bel).get
   cases e1
   obtain⟨g2,g3⟩:=zf5 L j hlt
   obtain⟨ad,rfl,d0⟩:=g1 _ _ g2
   obtain⟨a',e',d1⟩:=g1 _ _ g3
   cases e'
   clear g1 g2 g3
   have NX:=hid (show zbw ((L.take (j+1)).map SP.stepT)=zbw ((L.take j).map SP.stepT)++[.string (bs (SP.stepT L[j]))] by
    rw[List.take_succ_eq_append_getElem hlt,List.map_append];exact zcz _ _)
   obtain⟨p1,p2⟩:=PS.out L[j] (List.getElem_mem _)
   have KK:=hid (show j+1≤L.length by omega)
   have x1:(0:Int)≤j:=by omega
   have x2:(j:Int).toNat=j:=by omega
   have ES:=hid (show SP.stepT L[j]=L[j].k++[58]++L[j].n by unfold SP.stepT;simp)
   generalize SP.stepT L[j]=T at *
   generalize L[j]=x at d0 d1 p1 p2 ES
   have d1:=zao d1
   obtain⟨Y1,hY1⟩:∃Y,Y=x.k++[58]:=⟨_,rfl⟩
   have hA1:bs x.k++⟨#[58]⟩=bs Y1:=by rw[ybr,hY1];exact zc6 x.k [58]
   have hA2:bs Y1++bs x.n=bs T:=by rw[ES.out,hY1];exact zc6 _ _
   have hl1:Y1.length≤5:=by rw[hY1,List.length_append];simp;omega
   have HN1:Hid (j+1≤maxLen):=by show _≤_;unfold maxLen;omega
   have HN2:Hid ((j+1) * 16≤140737488355328):=by show _≤_;omega
   have hc1:¬9223372036854775807<x.k.length+1:=by omega
   have hc2:¬9223372036854775807<Y1.length+x.n.length:=by omega
   have BW:=hid bel
   have HO:=hid hown
   have HSZ:=hid bel.size
   obtain⟨va,vc,rfl⟩:=zab hown
   clear hown bel hY1 ES
   go_wp2_with (at_builtin;refine wpList_append_own _ rfl _ _ 22 rfl w3.heap.size 9 i0 _ 1 16 Tryz.underlying22 hi hz0 hz1 hz2 rfl (by decide) _ _ _ rfl ((HO.out.alloc _).alloc _) ⟨wr.heap.size+1,0,none⟩ 1 1 [.string (bs T)] rfl rfl (zc4 (by simp)) (zbs rfl) HN1.out HN2.out (by have:=HSZ.out;simp;omega) ?_;intro v' w5 hown5 hgrow _;have HO5:=hid hown5;have B5:=hid (((BW.out.alloc HSZ.out _).alloc (by have:=HSZ.out;simp;omega) _).grown hgrow (by have:=HSZ.out;simp;omega) (fun j hj=>(HO.out.lt j hj).1));clear hown5 hgrow)
   go_wp2_with fail
   go_roundw
   case rel=>exact⟨j+1,by go_num,KK.out,by rw[NX.out];exact HO5.out,B5.out⟩
   case measure=>have:=KK.out;simp[intOf];omega
  ·have hltI:¬(j:Int)<L.length:=by omega
   obtain rfl:j=L.length:=by omega
   have HJ:=hid (zo4 (L.map SP.stepT) w3.heap.size _ wr (by rw[List.length_map];rw[List.take_length] at hown;exact hown) (by have:=PG.out;omega))
   obtain⟨va,vc,rfl⟩:=zab hown
   have BW:=hid (zaa B3.out bel)
   clear hown bel
   go_wp2_with fail
   refine HJ.out.mono ?_
   rintro e w4⟨rfl,b4⟩
   have B4:=hid (zaa BW.out b4)
   clear b4 HJ
   go_wp2_with fail
   go_ret2
   exact⟨_,A,k,rfl,zfv E _,HX.out.below B4.out,by omega⟩
end
end Go.Proofs.YtakhkcaihhpehaaGreatDoor
