/- Texts of one proof, one behind the other: Cells4, XferAnsL, XferAnsG, XferCome, XferCome2, XferClos, XferIx, XferPut2. -/
import Derived.Test.YtakhkcaihhpehaaGreatDoorB19
import Derived.Test.YtakhkcaihhpehaaGreatDoorB30
import Derived.Test.YtakhkcaihhpehaaGreatDoorB16
import Derived.Test.YtakhkcaihhpehaaGreatDoorB25
import Derived.Test.YtakhkcaihhpehaaGreatDoorB21
import Derived.Test.YtakhkcaihhpehaaGreatDoorB09
import Derived.Test.YtakhkcaihhpehaaGreatDoorB18
import Derived.Test.YtakhkcaihhpehaaGreatDoorB15
namespace Go.Proofs.YtakhkcaihhpehaaGreatDoor
open Go.RowKit
open Lib (hid)
set_option linter.unusedVariables false
set_option maxRecDepth 100000
set_option maxHeartbeats 51200000
theorem zrh{v:World}{g:Nat}{x0 x1 x2 x3:Value}{t:TypeId}(h:v.heap[g]?=some (.cells #[x0,x1,x2,x3] t (0,0))):
  (v.cell? ⟨g,0,none⟩=some x0∧v.cell? ⟨g,1,none⟩=some x1∧v.cell? ⟨g,2,none⟩=some x2∧v.cell? ⟨g,3,none⟩=some x3)∧∀k,v.frozen? ⟨g,k,none⟩=false:=by
 refine⟨⟨?_,?_,?_,?_⟩,fun k=>?_⟩<;>simp[World.cell?,World.frozen?,h]
section
variable{E:Nat→Addr}{w0 w:World}{xb:Nat}{A:XA}{x:XS}
theorem yb5(fe fq:Int)(d:List UInt8)(h:XAt w0 w xb A x)(hfr:FWF x.fr)(hn:x.net.length≤1000000000)(hS:∀b∈x.fr.map PF.line,b.S<4294967296)(h2:Has E w0 2)(h4:Has E w0 4)(h5:Has E w0 5)(h8:Has E w0 8)(h9:Has E w0 9):
  Calls Tryz.prog 188 #[.pointer (some ⟨xb,0,none⟩),.agg #[.int .u8 108,.int .i64 fe,.int .i64 fq,.string (bs d)]] w fun e w'=>e=.returned (.tuple #[])∧∃A',XAt w0 w' xb A' (x.put ⟨109,fe,fq,zey (x.fr.map PF.line)⟩):=by
 have HX:=hid h
 have HS:=hid (fun(c:Nat)(w':World)(b:Below w.heap.size w w')(hh:Has E w0 c)=>hh.below (zaa h.rest.bel b))
 have LI:=hid (fun(w':World)(b:Below w.heap.size w w')=>zgf E x.fr A.vf w' ((SliceIs.ownedK h.rest.fr).below b) hfr.okx (HS.out 2 w' b h2) (HS.out 5 w' b h5) (HS.out 8 w' b h8) (HS.out 9 w' b h9) hfr)
 have TX:=hid (fun(w':World)(b:Below w.heap.size w w')(v:Value)(hv:SliceIs w' v 3 (zau (x.fr.map PF.line)))=>ya3 E (x.fr.map PF.line) v w' hv hS (HS.out 2 w' b h2) (HS.out 5 w' b h5) (HS.out 8 w' b h8) (HS.out 9 w' b h9) hfr.lines)
 have PT:=hid (fun(w':World)(b:Below w.heap.size w w')=>zld (E:=E) ⟨109,fe,fq,zey (x.fr.map PF.line)⟩ (h.below b) hn (HS.out 2 w' b h2) (HS.out 4 w' b h4))
 simp only[PFr.val_is] at PT
 rw[show(((109:UInt8).toNat:Nat):Int)=109 from rfl] at PT
 obtain⟨r,hr⟩:∃r,XS.put ⟨109,fe,fq,zey (x.fr.map PF.line)⟩ x=r:=⟨_,rfl⟩
 rw[hr] at PT ⊢
 generalize zey (x.fr.map PF.line)=tx at *
 have B1:=hid (zag w (.cells #[.int .u8 108,.int .i64 fe,.int .i64 fq,.string (bs d)] 241))
 have B2:=hid (B1.out.alloc B1.out.size (.cells #[.int .u8 109,.int .i64 fe,.int .i64 fq,.string ⟨#[]⟩] 241))
 have CF:=hid (fun(w':World)(b:Below w.heap.size w w')=>(h.below b).cells.cs.1)
 have c0:=CF.out _ B2.out
 have HXB:=hid (lt_of_block h.cells)
 have NB:=hid (heap_alloc_new (w.alloc (.cells #[.int .u8 108,.int .i64 fe,.int .i64 fq,.string (bs d)] 241)) (.cells #[.int .u8 109,.int .i64 fe,.int .i64 fq,.string ⟨#[]⟩] 241))
 clear h hfr hn hS h2 h4 h5 h8 h9 HS hr
 go_enter Tryz.func188,Tryz.ntmps188
 go_wp2_with fail
 have LI2:=hid (LI.out _ B2.out)
 have hsz2:((w.alloc (.cells #[.int .u8 108,.int .i64 fe,.int .i64 fq,.string (bs d)] 241)).alloc (.cells #[.int .u8 109,.int .i64 fe,.int .i64 fq,.string ⟨#[]⟩] 241)).heap.size=w.heap.size+2:=by simp
 have NB2:((w.alloc (.cells #[.int .u8 108,.int .i64 fe,.int .i64 fq,.string (bs d)] 241)).alloc (.cells #[.int .u8 109,.int .i64 fe,.int .i64 fq,.string ⟨#[]⟩] 241)).heap[w.heap.size+1]?=some (.cells #[.int .u8 109,.int .i64 fe,.int .i64 fq,.string ⟨#[]⟩] 241):=by
  have:=NB.out
  rw[show(w.alloc (.cells #[.int .u8 108,.int .i64 fe,.int .i64 fq,.string (bs d)] 241)).heap.size=w.heap.size+1 by simp] at this
  exact this
 generalize (w.alloc (.cells #[.int .u8 108,.int .i64 fe,.int .i64 fq,.string (bs d)] 241)).alloc (.cells #[.int .u8 109,.int .i64 fe,.int .i64 fq,.string ⟨#[]⟩] 241)=wa at *
 have NB2:=hid NB2
 have HSZ:=hid hsz2
 clear LI c0 NB CF hsz2
 refine LI2.out.mono ?_
 rintro e w1⟨r1,rfl,o1,b1⟩
 have B3:=hid (zaa B2.out b1)
 have TX3:=hid (TX.out _ B3.out _ (SliceIs.ownedK o1))
 have NB3:=hid ((b1.block _ (by have:=HSZ.out;omega)).trans NB2.out)
 have hs3:w.heap.size+2≤w1.heap.size:=by have:=HSZ.out;have:=b1.size;omega
 clear o1 b1 LI2 TX NB2 B2 B1
 go_wp2_with fail
 refine TX3.out.mono ?_
 rintro e w2⟨rfl,b2⟩
 have NB4:=(b2.block _ (by omega)).trans NB3.out
 have B4:=hid (zaa B3.out b2)
 obtain⟨⟨d0,d1,d2,d3⟩,_⟩:=zrh NB4
 have q3:w2.frozen? ⟨w.heap.size+1,3,none⟩=false:=by simp[World.frozen?,NB4]
 have B5:=hid (Below.setCell B4.out (p:=⟨w.heap.size+1,3,none⟩) (by show w.heap.size≤w.heap.size+1;omega) (.string (bs tx)))
 have PT5:=hid (PT.out _ B5.out)
 clear b2 NB4 NB3 B3 TX3 PT B4 B5
 go_wp2_with fail
 refine PT5.out.mono ?_
 rintro e w3⟨rfl,A',hA⟩
 have HA:=hid hA
 clear hA PT5
 go_wp2_with fail
 go_returns
 exact⟨rfl,A',HA.out⟩
end
theorem zi6{w w1 w2:World}{b:Nat}(h:Below w.heap.size w w1)(g:w1.grownBy w2 (some b))(hb:w.heap.size≤b):Below w.heap.size w w2:=
 (Chg.of_grown g).below h (fun z hz=>by subst hz;exact hb)
section
variable{E:Nat→Addr}{w0 w:World}{xb:Nat}{A:XA}{x:XS}
theorem yb6(fe fq:Int)(d n t l1 l2 data:List UInt8)(c1 c2:Nat)(bl:List Blk)(z:Nat)(ops:List POp)(h:XAt w0 w xb A x)(hfr:FWF x.fr)(hn:x.net.length≤1000000000)
  (hd:d.length≤1000000) (hl1:l1.length≤1000000) (ht:t.length≤1000000) (e1:rtT d 0=n) (e2:rtR d 0=l1) (e3:rtC d 0=c1) (e4:rtT l1 c1=t) (e5:rtR l1 c1=l2) (e6:rtC l1 c1=c2) (e7:zg6 l2 c2=0)
  (s1:zem t=(bl,z,0)) (s2:(chk bl z).1=0) (hg:zaq x.fr n=some data) (hdata:data.length≤4000) (ho:zc1 bl z data=ops) (hc:(dtC ops).1=0) (ho1:ops.length≤1000000) (ho2:(zmu ops).length≤100000000) (hnl:n.length≤1000) (hol:(dtL ops).length≤20000)
  (h1:Has E w0 1) (h2:Has E w0 2) (h3:Has E w0 3) (h4:Has E w0 4) (h8:Has E w0 8) :
  Calls Tryz.prog 188 #[.pointer (some ⟨xb,0,none⟩),.agg #[.int .u8 103,.int .i64 fe,.int .i64 fq,.string (bs d)]] w fun e w'=>e=.returned (.tuple #[])∧∃A',XAt w0 w' xb A' (x.put ⟨111,fe,fq,num n.length++(n++(num (dtL ops).length++dtL ops))⟩):=by
 have HX:=hid h
 have HS:=hid (fun(c:Nat)(w':World)(b:Below w.heap.size w w')(hh:Has E w0 c)=>hh.below (zaa h.rest.bel b))
 have H1:=hid (fun w' b=>HS.out 1 w' b h1)
 have H2:=hid (fun w' b=>HS.out 2 w' b h2)
 have H3:=hid (fun w' b=>HS.out 3 w' b h3)
 have H4:=hid (fun w' b=>HS.out 4 w' b h4)
 have H8:=hid (fun w' b=>HS.out 8 w' b h8)
 have GT:=hid (fun(w':World)(b:Below w.heap.size w w')=>zen x.fr A.vf n w' ((SliceIs.ownedK h.rest.fr).below b))
 rw[hg] at GT
 have PT:=hid (fun(w':World)(b:Below w.heap.size w w')=>zld (E:=E) ⟨111,fe,fq,num n.length++(n++(num (dtL ops).length++dtL ops))⟩ (h.below b) hn (H2.out w' b) (H4.out w' b))
 simp only[PFr.val_is] at PT
 rw[show(((111:UInt8).toNat:Nat):Int)=111 from rfl] at PT
 obtain⟨r,hr⟩:∃r,XS.put ⟨111,fe,fq,num n.length++(n++(num (dtL ops).length++dtL ops))⟩ x=r:=⟨_,rfl⟩
 rw[hr] at PT ⊢
 have B1:=hid (zag w (.cells #[.int .u8 103,.int .i64 fe,.int .i64 fq,.string (bs d)] 241))
 have B2:=hid (B1.out.alloc B1.out.size (.cells #[.int .u8 109,.int .i64 fe,.int .i64 fq,.string ⟨#[]⟩] 241))
 have B3:=hid (B2.out.alloc B2.out.size (.cells #[.string (bs d),.nilIface] 297))
 have CF:=hid (fun(w':World)(b:Below w.heap.size w w')=>(h.below b).cells.cs.1)
 have NB:=hid (heap_alloc_new (w.alloc (.cells #[.int .u8 103,.int .i64 fe,.int .i64 fq,.string (bs d)] 241)) (.cells #[.int .u8 109,.int .i64 fe,.int .i64 fq,.string ⟨#[]⟩] 241))
 clear h hfr hn h1 h2 h3 h4 h8 HS hr hg
 go_enter Tryz.func188,Tryz.ntmps188
 go_wp2_with fail
 have RA:RAt E (((w.alloc (.cells #[.int .u8 103,.int .i64 fe,.int .i64 fq,.string (bs d)] 241)).alloc (.cells #[.int .u8 109,.int .i64 fe,.int .i64 fq,.string ⟨#[]⟩] 241)).alloc (.cells #[.string (bs d),.nilIface] 297)) (w.heap.size+1+1) d 0:=by
  have:=heap_alloc_new ((w.alloc (.cells #[.int .u8 103,.int .i64 fe,.int .i64 fq,.string (bs d)] 241)).alloc (.cells #[.int .u8 109,.int .i64 fe,.int .i64 fq,.string ⟨#[]⟩] 241)) (.cells #[.string (bs d),.nilIface] 297)
  rw[show((w.alloc (.cells #[.int .u8 103,.int .i64 fe,.int .i64 fq,.string (bs d)] 241)).alloc (.cells #[.int .u8 109,.int .i64 fe,.int .i64 fq,.string ⟨#[]⟩] 241)).heap.size=w.heap.size+1+1 by simp] at this
  unfold RAt
  rw[zaj]
  exact this
 have OA:(((w.alloc (.cells #[.int .u8 103,.int .i64 fe,.int .i64 fq,.string (bs d)] 241)).alloc (.cells #[.int .u8 109,.int .i64 fe,.int .i64 fq,.string ⟨#[]⟩] 241)).alloc (.cells #[.string (bs d),.nilIface] 297)).heap[w.heap.size+1]?=some (.cells #[.int .u8 109,.int .i64 fe,.int .i64 fq,.string ⟨#[]⟩] 241):=by
  have h0:=NB.out
  rw[show(w.alloc (.cells #[.int .u8 103,.int .i64 fe,.int .i64 fq,.string (bs d)] 241)).heap.size=w.heap.size+1 by simp] at h0
  exact((zag ((w.alloc (.cells #[.int .u8 103,.int .i64 fe,.int .i64 fq,.string (bs d)] 241)).alloc (.cells #[.int .u8 109,.int .i64 fe,.int .i64 fq,.string ⟨#[]⟩] 241)) (.cells #[.string (bs d),.nilIface] 297)).block _ (by simp)).trans h0
 generalize ((w.alloc (.cells #[.int .u8 103,.int .i64 fe,.int .i64 fq,.string (bs d)] 241)).alloc (.cells #[.int .u8 109,.int .i64 fe,.int .i64 fq,.string ⟨#[]⟩] 241)).alloc (.cells #[.string (bs d),.nilIface] 297)=wa at *
 have OA:=hid OA
 have RA:=hid RA
 have hb1:=hid (show w.heap.size≤w.heap.size+1+1 by omega)
 have hb2:=hid (show w.heap.size≤w.heap.size+1 by omega)
 have hb3:=hid (show w.heap.size+1≠w.heap.size+1+1 by omega)
 generalize w.heap.size+1+1=rb at *
 generalize w.heap.size+1=ob at *
 have X1:=hid (zfj E rb d 0 wa (by omega) RA.out (H1.out _ B3.out) (H2.out _ B3.out))
 rw[e1,e2,e3] at X1
 clear B1 B2 NB
 refine X1.out.mono ?_
 rintro e w1⟨rfl,R1,g1⟩
 have b1:=zi6 B3.out g1 hb1.out
 have X2:=hid (zfj E rb l1 c1 w1 (by omega) R1 (H1.out _ b1) (H2.out _ b1))
 rw[e4,e5,e6] at X2
 have OA1:=hid ((g1.block _ (lt_of_block OA.out) (fun e=>hb3.out (Option.some.inj e))).trans OA.out)
 have B4:=hid b1
 clear R1 g1 b1 X1 B3 OA RA
 go_wp2_with fail
 refine X2.out.mono ?_
 rintro e w2⟨rfl,R2,g2⟩
 have b2:=zi6 B4.out g2 hb1.out
 have OA2:=hid ((g2.block _ (lt_of_block OA1.out) (fun e=>hb3.out (Option.some.inj e))).trans OA1.out)
 have SR:=ycl E (bs t) w2 (by rw[zae];omega) (H1.out _ b2) (H2.out _ b2) (H8.out _ b2)
 rw[zai,s1] at SR
 simp only[zaj] at SR
 have SR:=hid SR
 have R2:=hid R2
 have B5:=hid b2
 clear g2 b2 X2 OA1 B4
 go_wp2_with fail
 refine SR.out.mono ?_
 rintro e w3⟨v3,rfl,o3,b3⟩
 have O3:=hid o3
 obtain⟨va,vc,rfl⟩:=zab o3
 have R3:=hid (R2.out.below b3)
 have OA3:=hid ((b3.block _ (lt_of_block OA2.out)).trans OA2.out)
 have B6:=hid (zaa B5.out b3)
 have c0:=CF.out _ B6.out
 have G3:=hid (GT.out _ B6.out)
 clear o3 b3 SR R2 OA2 B5 GT
 go_wp2_with fail
 refine G3.out.mono ?_
 rintro e w4⟨rfl,b4⟩
 have R4:=R3.out.below b4
 have OA4:=hid ((b4.block _ (lt_of_block OA3.out)).trans OA3.out)
 have B7:=hid (zaa B6.out b4)
 have O4:=hid (zad O3.out b4)
 have R4b:=hid (show w4.heap[rb]?=some (.cells #[.string (bs l2),ev E c2] 297 (0,0)) from R4)
 have EN:=zh1 E rb l2 c2 w4 R4 (H1.out _ B7.out)
 rw[e7,zaj] at EN
 have EN:=hid EN
 clear b4 R3 R4 OA3 O3 B6 G3 c0
 go_wp2_with fail
 refine EN.out.mono ?_
 rintro e w5⟨rfl,R5,g5⟩
 have b5:=zi6 B7.out g5 hb1.out
 have OA5:=hid ((g5.block _ (lt_of_block OA4.out) (fun e=>hb3.out (Option.some.inj e))).trans OA4.out)
 have O5:=zan O4.out (Chg.of_grown g5) (fun y hy e=>zcj O4.out R4b.out (by decide) (by rw[hy,e]))
 have MK:=zxy E va bl.length vc bl (z:Int) (bs data) w5 (SliceIs.ownedK O5) (H2.out _ b5) (H8.out _ b5) s2 (by rw[zae];exact hdata)
 rw[zai,Int.toNat_natCast,ho] at MK
 have MK:=hid MK
 have B8:=hid b5
 clear g5 b5 R5 O5 O4 OA4 EN B7 R4b
 go_wp2_with fail
 refine MK.out.mono ?_
 rintro e w6⟨v6,rfl,o6,b6⟩
 have B9:=hid (zaa B8.out b6)
 have OA6:=hid ((b6.block _ (lt_of_block OA5.out)).trans OA5.out)
 obtain⟨ua,uc,rfl⟩:=zab o6
 have TX:=hid (ygx E ua ops.length uc ops w6 (SliceIs.ownedK o6) (H2.out _ B9.out) (H3.out _ B9.out) (H4.out _ B9.out) ho1 ho2)
 clear o6 b6 MK OA5 B8
 go_wp2_with fail
 refine TX.out.mono ?_
 rintro e w7⟨v7,rfl,fe7,b7⟩
 rw[hc] at fe7
 obtain rfl:=fe7.zero
 have B10:=hid (zaa B9.out b7)
 have OA7:=hid ((b7.block _ (lt_of_block OA6.out)).trans OA6.out)
 clear fe7 b7 TX B9 OA6
 generalize hdt:dtL ops=dt at *
 go_wp2_with fail
 have W0:=WAt.new E w7
 have B11:=hid (B10.out.alloc B10.out.size (.cells #[.slice none 0 0,.nilIface] 305))
 have hl4:w7.heap.size<(w7.alloc (.cells #[.slice none 0 0,.nilIface] 305)).heap.size:=by simp
 have hw3:w.heap.size≤w7.heap.size:=B10.out.size
 have OA8:=hid (((zag w7 (.cells #[.slice none 0 0,.nilIface] 305)).block _ (lt_of_block OA7.out)).trans OA7.out)
 have hob:ob<w7.heap.size:=lt_of_block OA7.out
 generalize w7.alloc (.cells #[.slice none 0 0,.nilIface] 305)=w8 at *
 generalize w7.heap.size=wb at *
 refine(zgo E wb [] (bs n) w8 (by simp) W0 (H2.out _ B11.out) (by rw[zae];omega)).mono ?_
 rintro e w9⟨rfl,W5,k5⟩
 have B12:=hid (k5.old B11.out hw3 hl4)
 have OA9:=hid (k5.obj OA8.out (by omega) (by decide))
 rw[zae,zai,List.nil_append] at W5
 clear W0 k5 B11 hl4 OA8 OA7 B10
 go_wp2_with fail
 refine(zgo E wb _ (bs dt) w9 (by rw[List.length_append];have:=zar n.length;omega) W5 (H2.out _ B12.out) (by rw[zae];exact hol)).mono ?_
 rintro e w10⟨rfl,W6,k6⟩
 have B13:=hid (k6.old B12.out hw3 W5.lt)
 have OA10:=hid (k6.obj OA9.out (by omega) (by decide))
 rw[zae,zai] at W6
 clear W5 k6 B12 OA9
 go_wp2_with fail
 refine(zf4 E wb _ 0 w10 (fun _=>by rw[List.length_append,List.length_append];have:=zkp n.length;omega) W6).mono ?_
 rintro e w11⟨rfl,d7⟩
 rw[zeb,zaj]
 have b11:=d7.below w10.heap.size
 have OA11:=(b11.block _ (lt_of_block OA10.out)).trans OA10.out
 have B14:=hid (zaa B13.out b11)
 obtain⟨⟨d0,d1,d2,d3⟩,q⟩:=zrh OA11
 have q0:=q 0
 have q3:=q 3
 rw[List.append_assoc]
 generalize num n.length++(n++(num dt.length++dt))=tx at *
 have B15:=hid ((Below.setCell B14.out (p:=⟨ob,0,none⟩) hb2.out (.int .u8 111)).setCell (p:=⟨ob,3,none⟩) hb2.out (.string (bs tx)))
 have PT5:=hid (PT.out _ B15.out)
 clear W6 d7 OA11 OA10 B13 B14 B15 PT q b11
 go_wp2_with fail
 refine PT5.out.mono ?_
 rintro e w12⟨rfl,A',hA⟩
 have HA:=hid hA
 clear hA PT5
 go_wp2_with fail
 go_returns
 exact⟨rfl,A',HA.out⟩
end
section
variable{E:Nat→Addr}{w0 w:World}{xb:Nat}{A:XA}{x:XS}
theorem yb3(k:Nat)(h:XAt w0 w xb A x)(hk:k<x.net.length)(hn:x.net.length≤1000000000)(hs:(x.net[k]'hk).1.length≤100000)(hb:(zfe (x.net[k]'hk).1).2≠0)(h1:Has E w0 1)(h2:Has E w0 2)(h4:Has E w0 4)(h10:Has E w0 10):
  Calls Tryz.prog 152 #[.pointer (some ⟨xb,0,none⟩),.int .i64 k] w fun e w'=>e=.returned (.tuple #[])∧∃A',XAt w0 w' xb A' {x with net:=x.net.eraseIdx k}:=by
 have HX:=hid h
 have c3:=h.cells.cs.2.2.2.1
 obtain⟨g,cap,hv,hc1,hc2⟩:=zjs h.rest.nt (by omega)
 have HO:=h.rest.nt
 rw[hv] at HO c3
 have d0:=HO.cellAt (k * 2) (by omega)
 have d1:=HO.cellAt (k * 2+1) (by omega)
 rw[(zb8 x.net k hk).1] at d0
 rw[(zb8 x.net k hk).2] at d1
 have D:=hid (fun(w':World)(b:Below w.heap.size w w')=>zjc x.net w0.heap.size k A.vn w' (zad h.rest.nt b) hk hn)
 rw[hv] at D
 have hw:IntKind.i64.wrap ((k:Int)+1)=(k:Int)+1:=IntWalk.i64_in _ (by omega)
 have DC:=hid (fun(w':World)(b:Below w0.heap.size w0 w')=>zls E (bs (x.net[k]'hk).1) w' (by rw[zae];exact hs) (h1.below b) (h2.below b) (h4.below b) (h10.below b))
 have HB:=hid hb
 rw[zai] at DC
 generalize hp:x.net[k]'hk=p at *
 have y1:(0:Int)≤k:=by omega
 have y2:(k:Int).toNat=k:=by omega
 have y3:(k:Int)<x.net.length:=by omega
 have HV:=hid hv
 clear h h1 h2 h4 h10 hs hb HO hp
 have X1:=hid (HX.out.below (zag w (.cells #[.string (bs p.1),.bool p.2] 248)))
 have c3b:=X1.out.cells.cs.2.2.2.1
 rw[HV.out] at c3b
 have D1:=hid (D.out _ (zag w (.cells #[.string (bs p.1),.bool p.2] 248)))
 have BX:=hid (heap_alloc_new w (.cells #[.string (bs p.1),.bool p.2] 248))
 have HXB:=hid (lt_of_block HX.out.cells)
 have HGL:=hid (show A.vn.ownBlock≠some w.heap.size from fun e=>by have:=(HX.out.rest.nt.lt _ e).2;omega)
 clear D HX
 go_enter Tryz.func152,Tryz.ntmps152
 go_wp2_with fail
 generalize (w.alloc (.cells #[.string (bs p.1),.bool p.2] 248))=wa at *
 generalize hbx:w.heap.size=bx at *
 refine D1.out.mono ?_
 rintro e w2⟨r2,rfl,o2,g2⟩
 rw[←HV.out] at g2
 have q3:=X1.out.netCell g2
 have qa:=q3.1
 have qb:=q3.2
 have X2:=X1.out.netTo g2 o2
 have BX2:=(g2.block _ (lt_of_block BX.out) (fun e=>HGL.out e.symm)).trans BX.out
 obtain⟨va,vc,rfl⟩:=zab o2
 have BX3:(w2.setCell ⟨xb,3,none⟩ (.slice va (x.net.eraseIdx k).length vc)).heap[bx]?=some (.cells #[.string (bs p.1),.bool p.2] 248 (0,0)):=
  ((XCell.chg w2 xb 3 (.slice va (x.net.eraseIdx k).length vc)).block bx (lt_of_block BX2) (by have:=HXB.out;omega)).trans BX2
 have z0:(w2.setCell ⟨xb,3,none⟩ (.slice va (x.net.eraseIdx k).length vc)).cell? ⟨bx,0,none⟩=some (.string (bs p.1)):=by simp[World.cell?,BX3]
 have DC3:=DC.out _ X2.rest.bel
 rw[zep E HB.out,PFr.val_is] at DC3
 generalize (zfe p.1).1=fr at *
 have DC3:=hid DC3
 have X3:=hid X2
 clear X2 BX2 BX3 g2 q3 D1 DC o2 X1 c3 c3b d0 d1
 go_wp2_with fail
 refine DC3.out.mono ?_
 rintro e w4⟨rfl,b4⟩
 have X4:=hid (X3.out.below b4)
 clear b4 DC3 X3
 go_wp2_with fail
 go_returns
 exact⟨rfl,_,X4.out.below (zag w4 _)⟩
end
section
variable{E:Nat→Addr}{w0 w:World}{xb:Nat}{A:XA}{x:XS}
theorem zrr(k:Nat)(h:XAt w0 w xb A x)(hk:k<x.net.length)(hn:x.net.length≤1000000000)(hs:(x.net[k]'hk).1.length≤100000)(fe fq:Int)(fd:List UInt8)(kk:UInt8)(y:XS)(hb:zfe (x.net[k]'hk).1=(⟨kk,fe,fq,fd⟩,0))(h8:kk≠108)(h3:kk≠103)(HC:∀w' A',XAt w0 w' xb A' {x with net:=x.net.eraseIdx k}→Calls Tryz.prog 189 #[.pointer (some ⟨xb,0,none⟩),.agg #[.int .u8 kk.toNat,.int .i64 fe,.int .i64 fq,.string (bs fd)]] w' fun e w''=>e=.returned (.tuple #[])∧∃A'',XAt w0 w'' xb A'' y)(h1:Has E w0 1)(h2:Has E w0 2)(h4:Has E w0 4)(h10:Has E w0 10):
  Calls Tryz.prog 152 #[.pointer (some ⟨xb,0,none⟩),.int .i64 k] w fun e w'=>e=.returned (.tuple #[])∧∃A',XAt w0 w' xb A' y:=by
 have HX:=hid h
 have c3:=h.cells.cs.2.2.2.1
 obtain⟨g,cap,hv,hc1,hc2⟩:=zjs h.rest.nt (by omega)
 have HO:=h.rest.nt
 rw[hv] at HO c3
 have d0:=HO.cellAt (k * 2) (by omega)
 have d1:=HO.cellAt (k * 2+1) (by omega)
 rw[(zb8 x.net k hk).1] at d0
 rw[(zb8 x.net k hk).2] at d1
 have D:=hid (fun(w':World)(b:Below w.heap.size w w')=>zjc x.net w0.heap.size k A.vn w' (zad h.rest.nt b) hk hn)
 rw[hv] at D
 have hw:IntKind.i64.wrap ((k:Int)+1)=(k:Int)+1:=IntWalk.i64_in _ (by omega)
 have DC:=hid (fun(w':World)(b:Below w0.heap.size w0 w')=>zls E (bs (x.net[k]'hk).1) w' (by rw[zae];exact hs) (h1.below b) (h2.below b) (h4.below b) (h10.below b))
 rw[zai,hb] at DC
 obtain⟨kI,hkI⟩:∃kI:Int,((kk.toNat:Nat):Int)=kI:=⟨_,rfl⟩
 have HCC:=hid HC
 rw[hkI] at HCC
 have hkI:=hid hkI
 clear HC
 have k8:(kI==108)=false:=by rw[beq_eq_false_iff_ne];intro e;exact h8 (UInt8.toNat_inj.1 (by have:=hkI.out;show kk.toNat=108;omega))
 have k3:(kI==103)=false:=by rw[beq_eq_false_iff_ne];intro e;exact h3 (UInt8.toNat_inj.1 (by have:=hkI.out;show kk.toNat=103;omega))
 generalize hp:x.net[k]'hk=p at *
 have y1:(0:Int)≤k:=by omega
 have y2:(k:Int).toNat=k:=by omega
 have y3:(k:Int)<x.net.length:=by omega
 have HV:=hid hv
 clear h h1 h2 h4 h10 hs hb HO hp
 have X1:=hid (HX.out.below (zag w (.cells #[.string (bs p.1),.bool p.2] 248)))
 have c3b:=X1.out.cells.cs.2.2.2.1
 rw[HV.out] at c3b
 have D1:=hid (D.out _ (zag w (.cells #[.string (bs p.1),.bool p.2] 248)))
 have BX:=hid (heap_alloc_new w (.cells #[.string (bs p.1),.bool p.2] 248))
 have HXB:=hid (lt_of_block HX.out.cells)
 have HGL:=hid (show A.vn.ownBlock≠some w.heap.size from fun e=>by have:=(HX.out.rest.nt.lt _ e).2;omega)
 clear D HX
 go_enter Tryz.func152,Tryz.ntmps152
 go_wp2_with fail
 generalize (w.alloc (.cells #[.string (bs p.1),.bool p.2] 248))=wa at *
 generalize hbx:w.heap.size=bx at *
 refine D1.out.mono ?_
 rintro e w2⟨r2,rfl,o2,g2⟩
 rw[←HV.out] at g2
 have q3:=X1.out.netCell g2
 have qa:=q3.1
 have qb:=q3.2
 have X2:=X1.out.netTo g2 o2
 have BX2:=(g2.block _ (lt_of_block BX.out) (fun e=>HGL.out e.symm)).trans BX.out
 obtain⟨va,vc,rfl⟩:=zab o2
 have BX3:(w2.setCell ⟨xb,3,none⟩ (.slice va (x.net.eraseIdx k).length vc)).heap[bx]?=some (.cells #[.string (bs p.1),.bool p.2] 248 (0,0)):=
  ((XCell.chg w2 xb 3 (.slice va (x.net.eraseIdx k).length vc)).block bx (lt_of_block BX2) (by have:=HXB.out;omega)).trans BX2
 have z0:(w2.setCell ⟨xb,3,none⟩ (.slice va (x.net.eraseIdx k).length vc)).cell? ⟨bx,0,none⟩=some (.string (bs p.1)):=by simp[World.cell?,BX3]
 have DC3:=DC.out _ X2.rest.bel
 rw[zaj,PFr.val_is] at DC3
 simp only[] at DC3
 rw[hkI.out] at DC3
 have DC3:=hid DC3
 have X3:=hid X2
 clear X2 BX2 BX3 g2 q3 D1 DC o2 X1 c3 c3b d0 d1
 go_wp2_with fail
 refine DC3.out.mono ?_
 rintro e w4⟨rfl,b4⟩
 have X4:=hid (X3.out.below b4)
 clear b4 DC3 X3
 go_wp2_with fail
 refine(HCC.out _ _ (X4.out.below (zag w4 _))).mono ?_
 rintro e w5⟨rfl,A',hA⟩
 have HA:=hid hA
 clear hA
 go_wp2_with fail
 go_returns
 exact⟨rfl,A',HA.out⟩
theorem zy6(k:Nat)(h:XAt w0 w xb A x)(hk:k<x.net.length)(hn:x.net.length≤1000000000)(hs:(x.net[k]'hk).1.length≤100000)(fe fq:Int)(fd:List UInt8)(kk:UInt8)(y:XS)(hb:zfe (x.net[k]'hk).1=(⟨kk,fe,fq,fd⟩,0))(h8:kk=108)(HC:∀w' A',XAt w0 w' xb A' {x with net:=x.net.eraseIdx k}→Calls Tryz.prog 188 #[.pointer (some ⟨xb,0,none⟩),.agg #[.int .u8 kk.toNat,.int .i64 fe,.int .i64 fq,.string (bs fd)]] w' fun e w''=>e=.returned (.tuple #[])∧∃A'',XAt w0 w'' xb A'' y)(h1:Has E w0 1)(h2:Has E w0 2)(h4:Has E w0 4)(h10:Has E w0 10):
  Calls Tryz.prog 152 #[.pointer (some ⟨xb,0,none⟩),.int .i64 k] w fun e w'=>e=.returned (.tuple #[])∧∃A',XAt w0 w' xb A' y:=by
 have HX:=hid h
 have c3:=h.cells.cs.2.2.2.1
 obtain⟨g,cap,hv,hc1,hc2⟩:=zjs h.rest.nt (by omega)
 have HO:=h.rest.nt
 rw[hv] at HO c3
 have d0:=HO.cellAt (k * 2) (by omega)
 have d1:=HO.cellAt (k * 2+1) (by omega)
 rw[(zb8 x.net k hk).1] at d0
 rw[(zb8 x.net k hk).2] at d1
 have D:=hid (fun(w':World)(b:Below w.heap.size w w')=>zjc x.net w0.heap.size k A.vn w' (zad h.rest.nt b) hk hn)
 rw[hv] at D
 have hw:IntKind.i64.wrap ((k:Int)+1)=(k:Int)+1:=IntWalk.i64_in _ (by omega)
 have DC:=hid (fun(w':World)(b:Below w0.heap.size w0 w')=>zls E (bs (x.net[k]'hk).1) w' (by rw[zae];exact hs) (h1.below b) (h2.below b) (h4.below b) (h10.below b))
 rw[zai,hb] at DC
 have hkI:=hid (show((kk.toNat:Nat):Int)=108 by rw[h8];rfl)
 have HCC:=hid HC
 rw[hkI.out] at HCC
 clear HC
 generalize hp:x.net[k]'hk=p at *
 have y1:(0:Int)≤k:=by omega
 have y2:(k:Int).toNat=k:=by omega
 have y3:(k:Int)<x.net.length:=by omega
 have HV:=hid hv
 clear h h1 h2 h4 h10 hs hb HO hp
 have X1:=hid (HX.out.below (zag w (.cells #[.string (bs p.1),.bool p.2] 248)))
 have c3b:=X1.out.cells.cs.2.2.2.1
 rw[HV.out] at c3b
 have D1:=hid (D.out _ (zag w (.cells #[.string (bs p.1),.bool p.2] 248)))
 have BX:=hid (heap_alloc_new w (.cells #[.string (bs p.1),.bool p.2] 248))
 have HXB:=hid (lt_of_block HX.out.cells)
 have HGL:=hid (show A.vn.ownBlock≠some w.heap.size from fun e=>by have:=(HX.out.rest.nt.lt _ e).2;omega)
 clear D HX
 go_enter Tryz.func152,Tryz.ntmps152
 go_wp2_with fail
 generalize (w.alloc (.cells #[.string (bs p.1),.bool p.2] 248))=wa at *
 generalize hbx:w.heap.size=bx at *
 refine D1.out.mono ?_
 rintro e w2⟨r2,rfl,o2,g2⟩
 rw[←HV.out] at g2
 have q3:=X1.out.netCell g2
 have qa:=q3.1
 have qb:=q3.2
 have X2:=X1.out.netTo g2 o2
 have BX2:=(g2.block _ (lt_of_block BX.out) (fun e=>HGL.out e.symm)).trans BX.out
 obtain⟨va,vc,rfl⟩:=zab o2
 have BX3:(w2.setCell ⟨xb,3,none⟩ (.slice va (x.net.eraseIdx k).length vc)).heap[bx]?=some (.cells #[.string (bs p.1),.bool p.2] 248 (0,0)):=
  ((XCell.chg w2 xb 3 (.slice va (x.net.eraseIdx k).length vc)).block bx (lt_of_block BX2) (by have:=HXB.out;omega)).trans BX2
 have z0:(w2.setCell ⟨xb,3,none⟩ (.slice va (x.net.eraseIdx k).length vc)).cell? ⟨bx,0,none⟩=some (.string (bs p.1)):=by simp[World.cell?,BX3]
 have DC3:=DC.out _ X2.rest.bel
 rw[zaj,PFr.val_is] at DC3
 simp only[] at DC3
 rw[hkI.out] at DC3
 have DC3:=hid DC3
 have X3:=hid X2
 clear X2 BX2 BX3 g2 q3 D1 DC o2 X1 c3 c3b d0 d1
 go_wp2_with fail
 refine DC3.out.mono ?_
 rintro e w4⟨rfl,b4⟩
 have X4:=hid (X3.out.below b4)
 clear b4 DC3 X3
 go_wp2_with fail
 refine(HCC.out _ _ (X4.out.below (zag w4 _))).mono ?_
 rintro e w5⟨rfl,A',hA⟩
 have HA:=hid hA
 clear hA
 go_wp2_with fail
 go_returns
 exact⟨rfl,A',HA.out⟩
theorem zy7(k:Nat)(h:XAt w0 w xb A x)(hk:k<x.net.length)(hn:x.net.length≤1000000000)(hs:(x.net[k]'hk).1.length≤100000)(fe fq:Int)(fd:List UInt8)(kk:UInt8)(y:XS)(hb:zfe (x.net[k]'hk).1=(⟨kk,fe,fq,fd⟩,0))(h3:kk=103)(HC:∀w' A',XAt w0 w' xb A' {x with net:=x.net.eraseIdx k}→Calls Tryz.prog 188 #[.pointer (some ⟨xb,0,none⟩),.agg #[.int .u8 kk.toNat,.int .i64 fe,.int .i64 fq,.string (bs fd)]] w' fun e w''=>e=.returned (.tuple #[])∧∃A'',XAt w0 w'' xb A'' y)(h1:Has E w0 1)(h2:Has E w0 2)(h4:Has E w0 4)(h10:Has E w0 10):
  Calls Tryz.prog 152 #[.pointer (some ⟨xb,0,none⟩),.int .i64 k] w fun e w'=>e=.returned (.tuple #[])∧∃A',XAt w0 w' xb A' y:=by
 have HX:=hid h
 have c3:=h.cells.cs.2.2.2.1
 obtain⟨g,cap,hv,hc1,hc2⟩:=zjs h.rest.nt (by omega)
 have HO:=h.rest.nt
 rw[hv] at HO c3
 have d0:=HO.cellAt (k * 2) (by omega)
 have d1:=HO.cellAt (k * 2+1) (by omega)
 rw[(zb8 x.net k hk).1] at d0
 rw[(zb8 x.net k hk).2] at d1
 have D:=hid (fun(w':World)(b:Below w.heap.size w w')=>zjc x.net w0.heap.size k A.vn w' (zad h.rest.nt b) hk hn)
 rw[hv] at D
 have hw:IntKind.i64.wrap ((k:Int)+1)=(k:Int)+1:=IntWalk.i64_in _ (by omega)
 have DC:=hid (fun(w':World)(b:Below w0.heap.size w0 w')=>zls E (bs (x.net[k]'hk).1) w' (by rw[zae];exact hs) (h1.below b) (h2.below b) (h4.below b) (h10.below b))
 rw[zai,hb] at DC
 have hkI:=hid (show((kk.toNat:Nat):Int)=103 by rw[h3];rfl)
 have HCC:=hid HC
 rw[hkI.out] at HCC
 clear HC
 generalize hp:x.net[k]'hk=p at *
 have y1:(0:Int)≤k:=by omega
 have y2:(k:Int).toNat=k:=by omega
 have y3:(k:Int)<x.net.length:=by omega
 have HV:=hid hv
 clear h h1 h2 h4 h10 hs hb HO hp
 have X1:=hid (HX.out.below (zag w (.cells #[.string (bs p.1),.bool p.2] 248)))
 have c3b:=X1.out.cells.cs.2.2.2.1
 rw[HV.out] at c3b
 have D1:=hid (D.out _ (zag w (.cells #[.string (bs p.1),.bool p.2] 248)))
 have BX:=hid (heap_alloc_new w (.cells #[.string (bs p.1),.bool p.2] 248))
 have HXB:=hid (lt_of_block HX.out.cells)
 have HGL:=hid (show A.vn.ownBlock≠some w.heap.size from fun e=>by have:=(HX.out.rest.nt.lt _ e).2;omega)
 clear D HX
 go_enter Tryz.func152,Tryz.ntmps152
 go_wp2_with fail
 generalize (w.alloc (.cells #[.string (bs p.1),.bool p.2] 248))=wa at *
 generalize hbx:w.heap.size=bx at *
 refine D1.out.mono ?_
 rintro e w2⟨r2,rfl,o2,g2⟩
 rw[←HV.out] at g2
 have q3:=X1.out.netCell g2
 have qa:=q3.1
 have qb:=q3.2
 have X2:=X1.out.netTo g2 o2
 have BX2:=(g2.block _ (lt_of_block BX.out) (fun e=>HGL.out e.symm)).trans BX.out
 obtain⟨va,vc,rfl⟩:=zab o2
 have BX3:(w2.setCell ⟨xb,3,none⟩ (.slice va (x.net.eraseIdx k).length vc)).heap[bx]?=some (.cells #[.string (bs p.1),.bool p.2] 248 (0,0)):=
  ((XCell.chg w2 xb 3 (.slice va (x.net.eraseIdx k).length vc)).block bx (lt_of_block BX2) (by have:=HXB.out;omega)).trans BX2
 have z0:(w2.setCell ⟨xb,3,none⟩ (.slice va (x.net.eraseIdx k).length vc)).cell? ⟨bx,0,none⟩=some (.string (bs p.1)):=by simp[World.cell?,BX3]
 have DC3:=DC.out _ X2.rest.bel
 rw[zaj,PFr.val_is] at DC3
 simp only[] at DC3
 rw[hkI.out] at DC3
 have DC3:=hid DC3
 have X3:=hid X2
 clear X2 BX2 BX3 g2 q3 D1 DC o2 X1 c3 c3b d0 d1
 go_wp2_with fail
 refine DC3.out.mono ?_
 rintro e w4⟨rfl,b4⟩
 have X4:=hid (X3.out.below b4)
 clear b4 DC3 X3
 go_wp2_with fail
 refine(HCC.out _ _ (X4.out.below (zag w4 _))).mono ?_
 rintro e w5⟨rfl,A',hA⟩
 have HA:=hid hA
 clear hA
 go_wp2_with fail
 go_returns
 exact⟨rfl,A',HA.out⟩
end
theorem yk1:∀args w,(callFunc 250 args).run Tryz.prog w=.ok (.enter 250 args) w:=enters_of Tryz.func250 (by kernel_rfl) rfl
theorem ya0(y:PL)(n:List UInt8)(b:Nat)(w:World)(hc:w.cell? ⟨b,0,none⟩=some (.string (bs n))):
  Calls Tryz.prog 250 #[.agg #[.string (bs y.n),.int .i64 y.N,.int .u32 y.S],.pointer (some ⟨b,0,none⟩)] w fun e w'=>e=.returned (.bool (y.n==n))∧Below w.heap.size w w':=by
 have hb:b<w.heap.size:=World.block_lt_of_cell? w _ hc
 have hne:b≠w.heap.size:=by omega
 have HB:=hid (zag w (.cells #[.string (bs y.n),.int .i64 y.N,.int .u32 y.S] 173))
 have HE:=hid (show((bs y.n).toList==(bs n).toList)=(y.n==n) by rw[za4,za4])
 go_enter Tryz.func250,Tryz.ntmps250
 go_wp2_with fail
 go_ret
 exact⟨by rw[←HE.out];rfl,HB.out⟩
theorem ygt:∀args w,(callFunc 264 args).run Tryz.prog w=.ok (.enter 264 args) w:=enters_of Tryz.func264 (by kernel_rfl) rfl
theorem zz6(y:PL)(n:List UInt8)(b:Nat)(w:World)(hc:w.cell? ⟨b,0,none⟩=some (.string (bs n))):
  Calls Tryz.prog 264 #[.agg #[.string (bs y.n),.int .i64 y.N,.int .u32 y.S],.pointer (some ⟨b,0,none⟩)] w fun e w'=>e=.returned (.bool (y.n==n))∧Below w.heap.size w w':=by
 have hb:b<w.heap.size:=World.block_lt_of_cell? w _ hc
 have hne:b≠w.heap.size:=by omega
 have HB:=hid (zag w (.cells #[.string (bs y.n),.int .i64 y.N,.int .u32 y.S] 173))
 have HE:=hid (show((bs y.n).toList==(bs n).toList)=(y.n==n) by rw[za4,za4])
 go_enter Tryz.func264,Tryz.ntmps264
 go_wp2_with fail
 go_ret
 exact⟨by rw[←HE.out];rfl,HB.out⟩
theorem zo5(p:PL→Bool)(fn:Nat)(lb:Array Value)(eg:∀args w,(callFunc fn args).run Tryz.prog w=.ok (.enter fn args) w)(s:Option Addr)(n c:Nat)(l:List PL)(w:World)
  (hl:SliceIs w (.slice s n c) 3 (zau l)) (hp:∀(W:World)(x:PL),x∈l→Below w.heap.size w W→Calls Tryz.prog fn (#[.agg #[.string (bs x.n),.int .i64 x.N,.int .u32 x.S]]++lb) W fun e w'=>e=.returned (.bool (p x))∧Below W.heap.size W w') :
  Calls Tryz.prog 249 #[.slice s n c,.func (.func fn) #[] lb] w fun e w'=>e=.returned (.int .i64 (ixI 0 p l))∧Below w.heap.size w w':=by
 have hlen:l.length=n∧c≤maxLen∧n≤c:=by
  obtain⟨s0',n0',c0',e1,e2,e3,e4,_⟩:=hl.get
  cases e1
  rw[zcf] at e2
  exact⟨by omega,e4,e3⟩
 obtain⟨rfl,hc0,hc1⟩:=hlen
 unfold maxLen at hc0
 have HLS:=hid hl
 have HP:=hid hp
 have HI:=hid (zs5 p l)
 generalize ixI 0 p l=r at *
 clear hl hp
 go_enter Tryz.func249,Tryz.ntmps249
 go_wp2_with fail
 go_loopw [8,5] (fun i _ wr=>∃k:Nat,i=.int .i64 k∧k≤l.length∧r=ixI k p (l.drop k)∧Below w.heap.size w wr) (fun i _ _=>l.length - (intOf i).toNat)
 case atStart=>exact⟨0,rfl,by omega,HI.out,Below.refl _ _⟩
 case round=>
  obtain⟨k,rfl,hk,hr,bel⟩:=hrel
  have HR:=hid hr
  clear hr
  by_cases hlt:k<l.length
  ·have hltI:(k:Int)<l.length:=by omega
   obtain⟨s0',n0',c0',e1,_,_,_,g1⟩:=(HLS.out.below bel).get
   cases e1
   obtain⟨g2,g3,g4⟩:=zd8 l k hlt
   obtain⟨ad,rfl,d0⟩:=g1 _ _ g2
   obtain⟨a',e',d1⟩:=g1 _ _ g3
   cases e'
   obtain⟨a'',e'',d2⟩:=g1 _ _ g4
   cases e''
   clear g1 g2 g3 g4
   have YES:=hid (fun h=>HR.out.trans (yfp (p:=p) hlt h))
   have NO:=hid (fun h=>HR.out.trans (ymq (p:=p) hlt h))
   have KK:=hid (show k+1≤l.length by omega)
   have x1:(0:Int)≤k:=by omega
   have x2:(k:Int).toNat=k:=by omega
   have HC:=hid (HP.out wr l[k] (List.getElem_mem _) bel)
   generalize l[k]=x at d0 d1 d2 YES NO HC
   have d1:=zao d1
   have d2:=zao d2
   cases hpx:p x with
   | true=>
    rw[hpx] at HC
    have Y:=hid (YES.out hpx)
    clear YES NO hpx
    go_wp2_with fail
    refine HC.out.mono ?_
    rintro e w1⟨rfl,b1⟩
    go_wp2_with fail
    go_ret
    exact⟨by rw[Y.out];rfl,zaa bel b1⟩
   | false=>
    rw[hpx] at HC
    have Y:=hid (NO.out hpx)
    clear YES NO hpx
    go_wp2_with fail
    refine HC.out.mono ?_
    rintro e w1⟨rfl,b1⟩
    go_wp2_with fail
    go_roundw
    case rel=>exact⟨k+1,by go_num,KK.out,Y.out,zaa bel b1⟩
    case measure=>simp[intOf];omega
  ·have hltI:¬(k:Int)<l.length:=by omega
   have Y:=hid (HR.out.trans (yfq (p:=p) (by omega:l.length≤k)))
   go_wp2_with fail
   go_ret
   exact⟨by rw[Y.out];rfl,bel⟩
theorem yq9{α:Type}(p:α→Bool)(l:List α):decide (0≤ixI 0 p l)=l.any p:=by
 rcases zqx p l with⟨h,h2⟩|⟨j,hj,h,h2,_⟩
 ·rw[h]
  symm
  simpa using h2
 ·rw[h]
  have:l.any p=true:=List.any_eq_true.2 ⟨_,List.getElem_mem hj,h2⟩
  rw[this]
  simp
theorem zvn(p:PL→Bool)(fn:Nat)(lb:Array Value)(eg:∀args w,(callFunc fn args).run Tryz.prog w=.ok (.enter fn args) w)(s:Option Addr)(n c:Nat)(l:List PL)(w:World)
  (hl:SliceIs w (.slice s n c) 3 (zau l)) (hp:∀(W:World)(x:PL),x∈l→Below w.heap.size w W→Calls Tryz.prog fn (#[.agg #[.string (bs x.n),.int .i64 x.N,.int .u32 x.S]]++lb) W fun e w'=>e=.returned (.bool (p x))∧Below W.heap.size W w') :
  Calls Tryz.prog 263 #[.slice s n c,.func (.func fn) #[] lb] w fun e w'=>e=.returned (.bool (l.any p))∧Below w.heap.size w w':=by
 have IX:=hid (zo5 p fn lb eg s n c l w hl hp)
 have HA:=hid (yq9 p l)
 generalize ixI 0 p l=r at *
 clear hl hp
 go_enter Tryz.func263,Tryz.ntmps263
 go_wp2_with fail
 refine IX.out.mono ?_
 rintro e w1⟨rfl,b1⟩
 have B1:=hid b1
 clear b1 IX
 go_wp2_with fail
 go_ret
 exact⟨by rw[←HA.out];rfl,B1.out⟩
theorem ybb:∀args w,(callFunc 262 args).run Tryz.prog w=.ok (.enter 262 args) w:=enters_of Tryz.func262 (by kernel_rfl) rfl
theorem ydz(f:PF)(pb xb:Nat)(vl:Value)(ln:List PL)(w:World)(hp:w.cell? ⟨pb,0,none⟩=some (.pointer (some ⟨xb,0,none⟩)))(hc:w.cell? ⟨xb,12,none⟩=some vl)(hl:SliceIs w vl 3 (zau ln)):
  Calls Tryz.prog 262 #[.agg #[.string (bs f.n),.string (bs f.d)],.pointer (some ⟨pb,0,none⟩)] w fun e w'=>e=.returned (.bool (!(ln.any fun y=>y.n==f.n)))∧Below w.heap.size w w':=by
 obtain⟨s,n,c,rfl,_⟩:=hl.get
 have hpb:pb<w.heap.size:=World.block_lt_of_cell? w _ hp
 have hxb:xb<w.heap.size:=World.block_lt_of_cell? w _ hc
 have HB:=hid (zag w (.cells #[.string (bs f.n),.string (bs f.d)] 126))
 have hcell:(w.alloc (.cells #[.string (bs f.n),.string (bs f.d)] 126)).cell? ⟨w.heap.size,0,none⟩=some (.string (bs f.n)):=by simp
 have CF:=hid (zvn (fun y=>y.n==f.n) 264 #[.pointer (some ⟨w.heap.size,0,none⟩)] ygt s n c ln (w.alloc (.cells #[.string (bs f.n),.string (bs f.d)] 126)) (hl.below HB.out) (fun W x _ hb=>zz6 x f.n w.heap.size W ((hb.cell (by simp)).trans hcell)))
 generalize (ln.any fun y=>y.n==f.n)=r at *
 clear hl hcell
 go_enter Tryz.func262,Tryz.ntmps262
 go_wp2_with fail
 refine CF.out.mono ?_
 rintro e w1⟨rfl,b1⟩
 have B1:=hid (zaa HB.out b1)
 clear b1 CF HB
 go_wp2_with fail
 go_ret
 exact⟨rfl,B1.out⟩
theorem ya6(E:Nat→Addr)(l:List PF)(v:Value)(n d:List UInt8)(w:World)(hl:SliceIs w v 2 (zah l))(hf:FWF l)(hok:FWF (zal l n d))(hd:d.length≤4000)(hn:n.length≤1000)(hB:Has E w 2)(hN:Has E w 5)(hF:Has E w 8)(hO:Has E w 9):
  Calls Tryz.prog 66 #[v,.string (bs n),.string (bs d)] w fun e w'=>∃r,e=.returned (.tuple #[r,.nilIface])∧w'.ownsRow w.heap.size 126 2 r (zal l n d).length (zah (zal l n d))∧Below w.heap.size w w':=by
 have h0:=(zbd _).2 hok
 have h1:d.length≤maxLen:=by unfold maxLen;omega
 have h2:n.length≤maxLen:=by unfold maxLen;omega
 cases hg:zaq l n with
 | none=>
  refine(ztk E l v n d w hl hf.okx h1 h2 hB hN hF hO hf hg).mono ?_
  rintro e w1⟨r,er,rfl,fe,ho,_,b1⟩
  rw[h0] at fe
  rw[fe.zero]
  exact⟨r,rfl,ho h0,b1⟩
 | some d0=>
  refine(znj E l v n d w hl hf.okx h1 h2 hB hN hF hO hf (by rw[hg];rfl)).mono ?_
  rintro e w1⟨r,er,rfl,fe,ho,_,b1⟩
  rw[h0] at fe
  rw[fe.zero]
  exact⟨r,rfl,ho h0,b1⟩
section
variable{E:Nat→Addr}{w0 w:World}{xb:Nat}{A:XA}{x:XS}
theorem yb1(n d:List UInt8)(h:XAt w0 w xb A x)(htt:FWF x.tt)(hok:FWF (zal x.room n d))(hd:d.length≤4000)(hn:n.length≤1000)(h2:Has E w0 2)(h5:Has E w0 5)(h8:Has E w0 8)(h9:Has E w0 9):
  Calls Tryz.prog 252 #[.pointer (some ⟨xb,0,none⟩),.string (bs n),.string (bs d)] w fun e w'=>∃r,e=.returned (.tuple #[r,.nilIface])∧w'.ownsRow w.heap.size 126 2 r (zal x.room n d).length (zah (zal x.room n d))∧Below w.heap.size w w':=by
 have HS:=hid (fun(c:Nat)(w':World)(b:Below w.heap.size w w')(hh:Has E w0 c)=>hh.below (zaa h.rest.bel b))
 have PT:=hid (fun(l:List PF)(v:Value)(w':World)(b:Below w.heap.size w w')(hl:SliceIs w' v 2 (zah l))(hf:FWF l)(hok:FWF (zal l n d))=>ya6 E l v n d w' hl hf hok hd hn (HS.out 2 w' b h2) (HS.out 5 w' b h5) (HS.out 8 w' b h8) (HS.out 9 w' b h9))
 have c1:=h.cells.cs.2.1
 have hlx:=lt_of_block h.cells
 have HX:=hid h
 have hfew:=htt.few
 obtain⟨va,vc,hv⟩:=zab h.rest.tt
 have HO:=hid h.rest.tt
 rw[hv] at HO c1
 have B0:=hid (zag w (.cells #[.pointer (some ⟨xb,0,none⟩)] 186))
 clear h2 h5 h8 h9 HS
 by_cases h20:20≤x.tt.length
 ·have hroom:x.room=x.tt.filter fun f=>x.ln.any fun y=>y.n==f.n:=by unfold XS.room;rw[if_pos h20]
  rw[hroom] at hok ⊢
  have h20I:decide ((20:Int)≤x.tt.length)=true:=by simp;omega
  have CL:=hid (zde x.tt (.slice va x.tt.length vc) (w.alloc (.cells #[.pointer (some ⟨xb,0,none⟩)] 186)) (SliceIs.ownedK (zad HO.out B0.out)) (by omega))
  have hpc:(w.alloc (.cells #[.pointer (some ⟨xb,0,none⟩)] 186)).cell? ⟨w.heap.size,0,none⟩=some (.pointer (some ⟨xb,0,none⟩)):=by simp
  have HPC:=hid hpc
  have HOK:=hid hok
  have HTT:=hid (htt.filter fun f=>x.ln.any fun y=>y.n==f.n)
  have HRM:=hid hroom
  have hsz:w.heap.size<(w.alloc (.cells #[.pointer (some ⟨xb,0,none⟩)] 186)).heap.size:=by simp
  clear h htt hok hpc hd hn hroom HO
  go_enter Tryz.func252,Tryz.ntmps252
  go_wp2_with fail
  generalize (w.alloc (.cells #[.pointer (some ⟨xb,0,none⟩)] 186))=w1 at *
  refine CL.out.mono ?_
  rintro e w2⟨r2,rfl,o2,b2⟩
  have B2:=hid (zaa B0.out b2)
  have hpw:w2.cell? ⟨w.heap.size,0,none⟩=some (.pointer (some ⟨xb,0,none⟩)):=(b2.cell hsz).trans HPC.out
  have X2:=hid (HX.out.below B2.out)
  have DL:=znp fn0 fn1 (fun _=>⟨rfl,rfl⟩) (fun f:PF=>!(x.ln.any fun y=>y.n==f.n)) 262 #[.pointer (some ⟨w.heap.size,0,none⟩)] ybb w1.heap.size r2 x.tt w2 o2 (fun W f _ hc=>by
   have hx:∀b,b<w1.heap.size→¬zi9 r2 b:=fun b hb e=>by have:=ze1 o2 e;omega
   have hpx:=World.block_lt_of_cell? w2 _ hpw
   have k1:W.cell? ⟨w.heap.size,0,none⟩=some (.pointer (some ⟨xb,0,none⟩)):=by
    have:=hc.block w.heap.size hpx (hx _ hsz)
    simpa [World.cell?,this] using hpw
   have k2:=hc.block xb (lt_of_block X2.out.cells) (hx _ (by omega))
   have k3:W.cell? ⟨xb,12,none⟩=some A.vl:=by
    have:=X2.out.cells.cs.2.2.2.2.2.2.2.2.2.2.2.2.1
    simpa [World.cell?,k2] using this
   exact ydz f w.heap.size xb A.vl x.ln W k1 k3 (SliceIs.ownedK (zan X2.out.rest.ln hc (fun z hz=>hx z (by have:=(HX.out.rest.ln.lt z hz).2;omega)))))
  have DL:=hid DL
  have O2:=hid o2
  obtain⟨ua,uc,rfl⟩:=zab o2
  clear o2 b2 CL hpw
  go_wp2_with fail
  refine DL.out.mono ?_
  rintro e w3⟨r3,rfl,o3,_,c3⟩
  have e3:(x.tt.filter fun f=>!!(x.ln.any fun y=>y.n==f.n))=x.tt.filter fun f=>x.ln.any fun y=>y.n==f.n:=by simp
  rw[e3] at o3
  have B3:=hid (c3.below B2.out (fun z hz=>by have:=ze1 O2.out hz;omega))
  have P3:=hid (PT.out _ r3 w3 B3.out (SliceIs.ownedK o3) HTT.out HOK.out)
  obtain⟨ta,tc,rfl⟩:=zab o3
  clear o3 c3 DL O2 X2 PT e3
  go_wp2_with fail
  refine P3.out.mono ?_
  rintro e w4⟨r4,rfl,o4,b4⟩
  have O4:=hid (za1 o4 B3.out.size)
  have B4:=hid (zaa B3.out b4)
  obtain⟨sa,sc,rfl⟩:=zab o4
  clear o4 b4 P3
  go_wp2_with fail
  go_ret2
  exact⟨_,rfl,O4.out,B4.out⟩
 ·have hroom:x.room=x.tt:=by unfold XS.room;rw[if_neg h20]
  rw[hroom] at hok ⊢
  have h20I:decide ((20:Int)≤x.tt.length)=false:=by simp;omega
  have P1:=hid (PT.out x.tt (.slice va x.tt.length vc) _ B0.out (SliceIs.ownedK (zad HO.out B0.out)) htt hok)
  clear h htt hok hd hn hroom HO PT HX
  go_enter Tryz.func252,Tryz.ntmps252
  go_wp2_with fail
  refine P1.out.mono ?_
  rintro e w4⟨r4,rfl,o4,b4⟩
  have O4:=hid (za1 o4 B0.out.size)
  have B4:=hid (zaa B0.out b4)
  obtain⟨sa,sc,rfl⟩:=zab o4
  clear o4 b4 P1
  go_wp2_with fail
  go_ret2
  exact⟨_,rfl,O4.out,B4.out⟩
end
end Go.Proofs.YtakhkcaihhpehaaGreatDoor
