/- Texts of one proof, one behind the other: XferGiv, XferAnsd, XferCame, XferNewNo. -/
import Derived.Test.YtakhkcaihhpehaaGreatDoorB32
import Derived.Test.YtakhkcaihhpehaaGreatDoorB30
import Derived.Test.YtakhkcaihhpehaaGreatDoorB24
import Derived.Test.YtakhkcaihhpehaaGreatDoorB29
namespace Go.Proofs.YtakhkcaihhpehaaGreatDoor
open Go.RowKit
open Lib (hid)
set_option linter.unusedVariables false
set_option maxRecDepth 100000
set_option maxHeartbeats 51200000
theorem zhw{w w1 w2:World}{b:Nat}(h:Below w.heap.size w w1)(g:w1.grownBy w2 (some b))(hb:w.heap.size≤b):Below w.heap.size w w2:=
 (Chg.of_grown g).below h (fun z hz=>by subst hz;exact hb)
section
variable{E:Nat→Addr}{w0 w:World}{xb:Nat}{A:XA}{x:XS}
theorem zy9{w w':World}{b:Nat}(h:w.mapTurned w' b):Chg w w' (fun x=>x=b):=Chg.of_grown h.grown
theorem XAt.addFu(h:XAt w0 w xb A x){w':World}{n:List UInt8}(hm:FMapIs w' A.ub (x.fu.length+1) (n::x.fu))(ht:w.mapTurned w' A.ub):XAt w0 w' xb A {x with fu:=n::x.fu}:=by
 have hc:=zy9 ht
 obtain⟨es,c,hmm⟩:=h.fu.isMap
 have hr:=h.rest.mapAt hc hmm h.ne h.lu
 exact⟨(hc.block xb (lt_of_block h.cells) (fun e=>zcp h.cells hmm e)).trans h.cells,⟨hr.fr,hr.tt,hr.nt,hr.ln,hr.gt,hr.lm,hr.bel⟩,(hc.block A.fb h.fl.lt (fun e=>zcp h.fl hmm e)).trans h.fl,hm,h.ne,h.lx,h.lf,h.lu⟩
theorem XS.gave_bad{n:List UInt8}{ops:List POp}{y:PL}(h:(whC (x.old n) (za8 (x.old n).length) ops y.N y.S).1≠0):x.gave n ops y={x with fu:=n::x.fu}:=by unfold XS.gave;rw[if_pos h]
theorem XS.gave_put{n:List UInt8}{ops:List POp}{y:PL}(h:(whC (x.old n) (za8 (x.old n).length) ops y.N y.S).1=0)(h2:(putF x.room n (whL (x.old n) (za8 (x.old n).length) ops y.N y.S)).1=0):x.gave n ops y={x with tt:=zal x.room n (whL (x.old n) (za8 (x.old n).length) ops y.N y.S)}:=by
 unfold XS.gave;rw[if_neg (by simp[h]),if_pos h2]
theorem zy5(d n t l1 l2:List UInt8)(c1 c2:Nat)(ops:List POp)(k:Nat)(hk:k<x.ln.length)(h:XAt w0 w xb A x)(hfu:x.fu.length≤1000000)(hix:ixI 0 (fun y:PL=>y.n==n) x.ln=k)
  (hd:d.length≤1000000) (hl1:l1.length≤1000000) (ht:t.length≤1000000) (e1:rtT d 0=n) (e2:rtR d 0=l1) (e3:rtC d 0=c1) (e4:rtT l1 c1=t) (e5:rtR l1 c1=l2) (e6:rtC l1 c1=c2) (e7:zg6 l2 c2=0)
  (ho:zhh t=(ops,0)) (hnl:n.length≤1000) (hold:(x.old n).length≤4000) (htt:FWF x.tt) (hln:x.ln.length≤1000000)
  (hput:(whC (x.old n) (za8 (x.old n).length) ops (x.ln[k]'hk).N (x.ln[k]'hk).S).1=0→FWF (zal x.room n (whL (x.old n) (za8 (x.old n).length) ops (x.ln[k]'hk).N (x.ln[k]'hk).S))∧(putF x.room n (whL (x.old n) (za8 (x.old n).length) ops (x.ln[k]'hk).N (x.ln[k]'hk).S)).1=0∧(whL (x.old n) (za8 (x.old n).length) ops (x.ln[k]'hk).N (x.ln[k]'hk).S).length≤4000)
  (h1:Has E w0 1) (h2:Has E w0 2) (h3:Has E w0 3) (h4:Has E w0 4) (h5:Has E w0 5) (h6:Has E w0 6) (h8:Has E w0 8) (h9:Has E w0 9) (h10:Has E w0 10) :
  Calls Tryz.prog 224 #[.pointer (some ⟨xb,0,none⟩),.string (bs d)] w fun e w'=>e=.returned (.tuple #[])∧∃A',XAt w0 w' xb A' (x.gave n ops (x.ln[k]'hk)):=by
 have HX:=hid h
 have HS:=hid (fun(c:Nat)(w':World)(b:Below w.heap.size w w')(hh:Has E w0 c)=>hh.below (zaa h.rest.bel b))
 have H1:=hid (fun w' b=>HS.out 1 w' b h1)
 have H2:=hid (fun w' b=>HS.out 2 w' b h2)
 have H3:=hid (fun w' b=>HS.out 3 w' b h3)
 have H4:=hid (fun w' b=>HS.out 4 w' b h4)
 have H6:=hid (fun w' b=>HS.out 6 w' b h6)
 have H8:=hid (fun w' b=>HS.out 8 w' b h8)
 have H10:=hid (fun w' b=>HS.out 10 w' b h10)
 obtain⟨o,hoe⟩:∃o,x.old n=o:=⟨_,rfl⟩
 obtain⟨z,hz⟩:∃z,za8 (o.length:Int)=z:=⟨_,rfl⟩
 have hold2:x.old n=if x.fu.contains n then [] else (zaq x.tt n).getD []:=rfl
 rw[hoe] at hold hold2 hput
 rw[hz] at hput
 have GT:=hid (fun(w':World)(b:Below w.heap.size w w')=>zen x.tt A.vt n w' ((SliceIs.ownedK h.rest.tt).below b))
 have LK:=hid (fun(w':World)(b:Below w.heap.size w w')=>(h.below b).fu.look (k:=n) (by unfold maxLen;omega))
 have CS:=hid (fun(w':World)(b:Below w.heap.size w w')=>(h.below b).cells.cs)
 have SZ:=hid (fun w'=>zw0 (o.length:Int) w')
 rw[hz] at SZ
 have GB:=hid (fun h=>XS.gave_bad (x:=x) (n:=n) (ops:=ops) (y:=x.ln[k]'hk) h)
 have GP:=hid (fun h h'=>XS.gave_put (x:=x) (n:=n) (ops:=ops) (y:=x.ln[k]'hk) h h')
 rw[hoe,hz] at GB GP
 obtain⟨g,cap,hlv,hc1,hc2⟩:=zjs h.rest.ln (by omega)
 have HO:=h.rest.ln
 rw[hlv] at HO
 obtain⟨k0,k1,k2⟩:=zd8 x.ln k hk
 have hlen3:=zcf x.ln
 have d0:=HO.cellAt (k * 3) (by omega)
 have d1:=HO.cellAt (k * 3+1) (by omega)
 have d2:=HO.cellAt (k * 3+2) (by omega)
 rw[k0] at d0
 rw[k1] at d1
 rw[k2] at d2
 have HLN:=hid (fun(w':World)(b:Below w.heap.size w w')=>(SliceIs.ownedK HO).below b)
 have y1:(0:Int)≤k:=by omega
 have y2:(k:Int).toNat=k:=by omega
 have y3:(k:Int)<x.ln.length:=by omega
 obtain⟨y,hy⟩:∃y,x.ln[k]'hk=y:=⟨_,rfl⟩
 rw[hy] at d0 d1 d2 GB GP hput ⊢
 have DC:=hid (fun(w':World)(b:Below w.heap.size w w')=>(⟨(b.cell (World.block_lt_of_cell? w _ d1)).trans d1,(b.cell (World.block_lt_of_cell? w _ d2)).trans d2⟩:w'.cell? ⟨g,k * 3+1,none⟩=some (.int .i64 y.N)∧w'.cell? ⟨g,k * 3+2,none⟩=some (.int .u32 y.S)))
 have CL:=hid (fun(w':World)(b:Below w.heap.size w w')=>(h.below b).cells.cs.2.2.2.2.2.2.2.2.2.2.2.2.1)
 rw[hlv] at CL
 have PT:=hid (fun(w':World)(v:List UInt8)(b:Below w.heap.size w w')(hok:FWF (zal x.room n v))(hv:v.length≤4000)=>yb1 (E:=E) n v (h.below b) htt hok hv hnl h2 h5 h8 h9)
 have ST:=hid (fun(w':World)(b:Below w.heap.size w w')=>(h.below b).fu.store (k:=n) (by unfold maxLen;omega) (by unfold maxLen;omega))
 have hoz:(bs o).size=o.length:=zae o
 have hob:x.fu.contains n=true∧bs o=⟨#[]⟩∨x.fu.contains n=false∧bs o=bs ((zaq x.tt n).getD []):=by
  cases hc:x.fu.contains n with
  | true=>rw[hc,if_pos rfl] at hold2;exact .inl ⟨rfl,by rw[hold2,bs_nil]⟩
  | false=>rw[hc,if_neg (by simp)] at hold2;exact .inr ⟨rfl,by rw[hold2]⟩
 have WH:=hid (fun(w':World)(b:Below w.heap.size w w')(s0:Option Addr)(n0 c0:Nat)(hl:SliceIs w' (.slice s0 n0 c0) 4 (za3 ops))=>yb9 E o z s0 n0 c0 ops y.N y.S w' hl (H2.out w' b) (H3.out w' b) (H4.out w' b) (H6.out w' b) (H8.out w' b) (H10.out w' b))
 have HPUT:=hid hput
 have B0:=hid (zag w (.cells #[.string (bs d),.nilIface] 297))
 have RA:RAt E (w.alloc (.cells #[.string (bs d),.nilIface] 297)) w.heap.size d 0:=by
  have:=heap_alloc_new w (.cells #[.string (bs d),.nilIface] 297)
  unfold RAt
  rw[zaj]
  exact this
 have X1:=hid (zfj E w.heap.size d 0 (w.alloc (.cells #[.string (bs d),.nilIface] 297)) (by omega) RA (H1.out _ B0.out) (H2.out _ B0.out))
 rw[e1,e2,e3] at X1
 have FL:=hid hix
 clear h h1 h2 h3 h4 h5 h6 h8 h9 h10 HS htt hput hoe hz hold2 hlv HO k0 k1 k2 hlen3 d0 d1 d2 hy RA e1 e2 e3 hix
 go_enter Tryz.func224,Tryz.ntmps224
 go_wp2_with fail
 generalize w.alloc (.cells #[.string (bs d),.nilIface] 297)=wa at *
 refine X1.out.mono ?_
 rintro e w1⟨rfl,R1,g1⟩
 have b1:=zhw B0.out g1 (Nat.le_refl _)
 have X2:=hid (zfj E w.heap.size l1 c1 w1 (by omega) R1 (H1.out _ b1) (H2.out _ b1))
 rw[e4,e5,e6] at X2
 have B1:=hid b1
 clear R1 g1 b1 X1 B0
 go_wp2_with fail
 refine X2.out.mono ?_
 rintro e w2⟨rfl,R2,g2⟩
 have b2:=zhw B1.out g2 (Nat.le_refl _)
 have B2:=hid b2
 have R2:=hid R2
 clear g2 b2 X2 B1
 go_wp2_with fail
 have B3:=hid (B2.out.alloc B2.out.size (.cells #[.string (bs n)] 9))
 have R3:=hid (R2.out.below (zag w2 (.cells #[.string (bs n)] 9)))
 have N3:=hid (heap_alloc_new w2 (.cells #[.string (bs n)] 9))
 have HNB:=hid (show w.heap.size<w2.heap.size from lt_of_block R2.out)
 have HNB2:=hid B2.out.size
 generalize w2.alloc (.cells #[.string (bs n)] 9)=w3 at *
 generalize w2.heap.size=nb at *
 have DR:=yg1 E (bs t) w3 (by rw[zae];omega) (H1.out _ B3.out) (H2.out _ B3.out) (H3.out _ B3.out) (H4.out _ B3.out)
 rw[zai,ho] at DR
 simp only[zaj] at DR
 have DR:=hid DR
 clear B2 R2
 refine DR.out.mono ?_
 rintro e w4⟨v4,rfl,o4,b4⟩
 have B4:=hid (zaa B3.out b4)
 have R4:=hid (R3.out.below b4)
 have N4:=hid ((b4.block nb (lt_of_block N3.out)).trans N3.out)
 have O4:=hid o4
 obtain⟨oa,oc,rfl⟩:=zab o4
 have c12:=CL.out _ B4.out
 have IX:=zo5 (fun y=>y.n==n) 250 #[.pointer (some ⟨nb,0,none⟩)] yk1 (some ⟨g,0,none⟩) x.ln.length cap x.ln w4 (HLN.out _ B4.out) (fun W y _ hb=>ya0 y n nb W (by
  have h1:=(hb.block nb (lt_of_block N4.out)).trans N4.out
  simp[World.cell?,h1]))
 rw[FL.out] at IX
 have IX:=hid IX
 clear DR o4 b4 R3 N3 B3
 go_wp2_with fail
 refine IX.out.mono ?_
 rintro e w5⟨rfl,b5⟩
 have B5:=hid (zaa B4.out b5)
 have R5:=R4.out.below b5
 have R5b:=hid (show w5.heap[w.heap.size]?=some (.cells #[.string (bs l2),ev E c2] 297 (0,0)) from R5)
 have N5:=hid ((b5.block nb (lt_of_block N4.out)).trans N4.out)
 have O5:=hid (zad O4.out b5)
 have EN:=zh1 E w.heap.size l2 c2 w5 R5 (H1.out _ B5.out)
 rw[e7,zaj] at EN
 have EN:=hid EN
 clear b5 R4 R5 N4 O4 B4 IX c12
 go_wp2_with fail
 refine EN.out.mono ?_
 rintro e w6⟨rfl,R6,g6⟩
 have B6:=hid (zhw B5.out g6 (Nat.le_refl _))
 have N6:=hid ((g6.block nb (lt_of_block N5.out) (fun e=>by have:=HNB.out;have:=Option.some.inj e;omega)).trans N5.out)
 have O6:=hid (zan O5.out (Chg.of_grown g6) (fun y hy e=>zcj O5.out R5b.out (by decide) (by rw[hy,e])))
 clear R6 g6 R5b N5 O5 B5 EN
 go_wp2_with fail
 have c1:=(CS.out _ B6.out).2.1
 have n0:w6.cell? ⟨nb,0,none⟩=some (.string (bs n)):=by have:=N6.out;simp[World.cell?,this]
 have S0:=And.intro c1 n0
 have S1:w6.drew.cell? ⟨xb,1,none⟩=some A.vt∧w6.drew.cell? ⟨nb,0,none⟩=some (.string (bs n)):=S0
 have GT6:=hid (GT.out _ (Below.drew B6.out))
 have hxb6:=lt_of_block (HX.out.below B6.out).cells
 have KS:=hid (fun(W:World)(b:Below w6.drew.heap.size w6.drew W)=>(⟨(b.cell hxb6).trans S1.1,(b.cell (lt_of_block N6.out)).trans S1.2⟩:W.cell? ⟨xb,1,none⟩=some A.vt∧W.cell? ⟨nb,0,none⟩=some (.string (bs n))))
 clear GT
 go_region_held3 (fun X=>X.cell? ⟨xb,1,none⟩=some A.vt∧X.cell? ⟨nb,0,none⟩=some (.string (bs n))) (first|exact S1|exact S0|exact KS.out _ (by assumption)) ((go_at_call 96;refine GT6.out.mono ?_;rintro e w7⟨rfl,b7⟩))
 have B7:=hid (zaa (Below.drew B6.out) b7)
 have N7:=hid ((b7.block nb (lt_of_block N6.out)).trans N6.out)
 have O7:=hid (zad O6.out ((Below.drew (Below.refl _ w6)).trans b7))
 have lkN:=fun m=>LK.out _ (zac B7.out m)
 have c14:=(CS.out _ B7.out).2.2.2.2.2.2.2.2.2.2.2.2.2.2.1
 have n0:w7.cell? ⟨nb,0,none⟩=some (.string (bs n)):=by have:=N7.out;simp[World.cell?,this]
 clear b7 KS S0 S1 GT6 B6 N6 O6 c1 LK
 generalize bs o=ob at *
 generalize bs ((zaq x.tt n).getD [])=gb at *
 generalize (zaq x.tt n).isSome=gi at *
 generalize x.fu.contains n=fc at *
 rcases hob with⟨rfl,rfl⟩|⟨rfl,rfl⟩
 all_goals
  go_wp2_with fail
  go_quiet (fail)
  go_wp2_with fail
  have B8:=hid (zac B7.out nq)
  have N8:=hid (show(w7.drewN nq).heap[nb]?=some (.cells #[.string (bs n)] 9 (0,0)) from N7.out)
  have O8:=hid (zad O7.out (zac (Below.refl _ w7) nq))
  clear B7 N7 O7 lkN c14 n0
  generalize w7.drewN nq=w8 at *
  have c12:=CL.out _ B8.out
  have DC8:=DC.out _ B8.out
  have S0:=And.intro c12 DC8
  have S1:w8.drew.cell? ⟨xb,12,none⟩=some (.slice (some ⟨g,0,none⟩) x.ln.length cap)∧w8.drew.cell? ⟨g,k * 3+1,none⟩=some (.int .i64 y.N)∧w8.drew.cell? ⟨g,k * 3+2,none⟩=some (.int .u32 y.S):=S0
  have KS:=hid (fun(W:World)(b:Below w8.drew.heap.size w8.drew W)=>(⟨(b.cell (World.block_lt_of_cell? w8 _ S0.1)).trans S1.1,(b.cell (World.block_lt_of_cell? w8 _ S0.2.1)).trans S1.2.1,(b.cell (World.block_lt_of_cell? w8 _ S0.2.2)).trans S1.2.2⟩:W.cell? ⟨xb,12,none⟩=some (.slice (some ⟨g,0,none⟩) x.ln.length cap)∧W.cell? ⟨g,k * 3+1,none⟩=some (.int .i64 y.N)∧W.cell? ⟨g,k * 3+2,none⟩=some (.int .u32 y.S)))
  have WH8:=hid (WH.out _ (Below.drew B8.out) oa ops.length oc ((SliceIs.ownedK O8.out).below (Below.drew (Below.refl _ w8))))
  clear WH CL DC DC8 c12
  go_region_held3 (fun X=>X.cell? ⟨xb,12,none⟩=some (.slice (some ⟨g,0,none⟩) x.ln.length cap)∧X.cell? ⟨g,k * 3+1,none⟩=some (.int .i64 y.N)∧X.cell? ⟨g,k * 3+2,none⟩=some (.int .u32 y.S)) (first|exact S1|exact S0|exact KS.out _ (by assumption)|assumption) ((first|(go_at_call 239;refine(SZ.out _).mono ?_;rintro e w7⟨rfl,rfl⟩)|(go_at_call 251;refine WH8.out.mono ?_;rintro e w9⟨v9,rfl,fe9,b9⟩)))
  have B9:=hid (zaa (Below.drew B8.out) b9)
  have N9:=hid ((b9.block nb (lt_of_block N8.out)).trans N8.out)
  have n0:w9.cell? ⟨nb,0,none⟩=some (.string (bs n)):=by have:=N9.out;simp[World.cell?,this]
  clear b9 KS S0 S1 WH8 B8 N8 O8
  by_cases hw:(whC o z ops y.N y.S).1=0
  ·rw[hw] at fe9
   obtain rfl:=fe9.zero
   obtain⟨hp1,hp2,hp3⟩:=HPUT.out hw
   have GV:=hid (GP.out hw hp2)
   have P9:=hid (PT.out w9 _ B9.out hp1 hp3)
   generalize whL o z ops y.N y.S=v at *
   clear fe9 hw hp1 hp2 hp3 HPUT GP GB PT ST
   go_wp2_with fail
   refine P9.out.mono ?_
   rintro e w10⟨r10,rfl,o10,b10⟩
   have X10:=HX.out.below (zaa B9.out b10)
   have X11:=hid (X10.setTo o10 (Nat.le_trans HX.out.rest.bel.size B9.out.size))
   have f1:=X10.cells.fz 1
   have c1:=X10.cells.cs.2.1
   obtain⟨va,vc,rfl⟩:=zab o10
   clear o10 b10 P9 X10 n0
   go_wp2_with fail
   go_returns
   exact⟨rfl,_,by rw[GV.out];exact X11.out⟩
  ·have GV:=hid (GB.out hw)
   obtain⟨vt,vp,rfl⟩:=fe9.some hw
   obtain⟨w10,st,hm10,ht10⟩:=ST.out _ (Below.drew B9.out)
   have X10:=hid ((HX.out.below (Below.drew B9.out)).addFu hm10 ht10)
   have c14:=(CS.out _ B9.out).2.2.2.2.2.2.2.2.2.2.2.2.2.2.1
   clear fe9 hw HPUT GP GB PT ST hm10 ht10
   go_wp2_with fail
   go_region_law (fail)
   all_goals
    go_wp2_with fail
    go_returns
    exact⟨rfl,_,by rw[GV.out];exact X10.out⟩
end
theorem zwe:bs zrn=⟨#[120]⟩:=by unfold bs zrn;rfl
theorem ym1{n:Nat}(h:n≠0):adC (zuj n) zrn (n:Int)=0:=by unfold adC;rw[zj4,if_neg h,if_pos rfl]
theorem yrz{n:Nat}{e:Int}(h:e≠n):adC (zuj n) zrn e≠0:=by
 unfold adC
 rw[zj4]
 by_cases h0:n=0
 ·rw[if_pos h0];decide
 ·rw[if_neg h0,if_neg (fun e=>h e.symm)];decide
theorem zq4{E:Nat→Addr}{w:World}{gb mb n:Nat}{m:GM}(k:List UInt8)(x:Int)(h:GtAt w gb mb n m)(hk:k.length≤1000000000)(h6:Has E w 6)(h11:Has E w 11):
  Calls Tryz.prog 112 #[.pointer (some ⟨gb,0,none⟩),.string (bs k),.int .i64 x] w fun e w'=>e=.returned (ev E (adC m k x))∧w'=w:=
 (zo7 k x h hk h6 h11).mono fun e w' ⟨h1,h2⟩=>⟨h1,h2.symm⟩
section
variable{E:Nat→Addr}{w0 w:World}{xb:Nat}{A:XA}{x:XS}
theorem zrs(kI fe fq:Int)(s:ByteArray)(h:XAt w0 w xb A x)(hd:x.dn=true):
  Calls Tryz.prog 189 #[.pointer (some ⟨xb,0,none⟩),.agg #[.int .u8 kI,.int .i64 fe,.int .i64 fq,.string s]] w fun e w'=>e=.returned (.tuple #[])∧∃A',XAt w0 w' xb A' x:=by
 have HX:=hid h
 have c15:=h.cells.cs.2.2.2.2.2.2.2.2.2.2.2.2.2.2.2
 rw[hd] at c15
 have hxb:=lt_of_block h.cells
 clear h hd
 have B1:=hid (zag w (.cells #[.int .u8 kI,.int .i64 fe,.int .i64 fq,.string s] 241))
 go_enter Tryz.func189,Tryz.ntmps189
 go_wp2_with fail
 go_quiet (fail)
 go_wp2_with fail
 go_returns
 exact⟨rfl,A,HX.out.below (zac B1.out _)⟩
theorem zps(kI fe fq:Int)(s:ByteArray)(h:XAt w0 w xb A x)(hd:x.dn=false)(hk:x.ask.k≠0)(hq:fq≠x.ask.q):
  Calls Tryz.prog 189 #[.pointer (some ⟨xb,0,none⟩),.agg #[.int .u8 kI,.int .i64 fe,.int .i64 fq,.string s]] w fun e w'=>e=.returned (.tuple #[])∧∃A',XAt w0 w' xb A' x:=by
 have HX:=hid h
 have c15:=h.cells.cs.2.2.2.2.2.2.2.2.2.2.2.2.2.2.2
 have c6:=h.cells.cs.2.2.2.2.2.2.1
 have c8:=h.cells.cs.2.2.2.2.2.2.2.2.1
 rw[hd] at c15
 have hxb:=lt_of_block h.cells
 have hkk:(((x.ask.k.toNat:Nat):Int)==0)=false:=by
  rw[beq_eq_false_iff_ne]
  intro e
  exact hk (UInt8.toNat_inj.1 (by simpa using e))
 have hqq:(fq != x.ask.q)=true:=by simpa using hq
 generalize ((x.ask.k.toNat:Nat):Int)=kA at *
 generalize x.ask.q=qA at *
 clear h hd hk hq
 have B1:=hid (zag w (.cells #[.int .u8 kI,.int .i64 fe,.int .i64 fq,.string s] 241))
 have q0:∀w,(binOp .eql 5 (.int .u8 kA) (.int .u8 0)).run Tryz.prog w=.ok (.bool false) w:=by intro w;simp[go_sem,hkk]
 have q1:∀w,(binOp .neq 3 (.int .i64 fq) (.int .i64 qA)).run Tryz.prog w=.ok (.bool true) w:=by intro w;simp[go_sem,hqq]
 go_enter Tryz.func189,Tryz.ntmps189
 go_wp2_with fail
 go_quiet (fail)
 go_wp2_with fail
 go_returns
 exact⟨rfl,A,HX.out.below (zac B1.out _)⟩
theorem zpt(kI fe fq:Int)(s:ByteArray)(h:XAt w0 w xb A x)(hd:x.dn=false)(hk:x.ask.k≠0)(hq:fq=x.ask.q)(he:fe≠x.ge)(h6:Has E w0 6)(h11:Has E w0 11):
  Calls Tryz.prog 189 #[.pointer (some ⟨xb,0,none⟩),.agg #[.int .u8 kI,.int .i64 fe,.int .i64 fq,.string s]] w fun e w'=>e=.returned (.tuple #[])∧∃A',XAt w0 w' xb A' x:=by
 have HX:=hid h
 have c15:=h.cells.cs.2.2.2.2.2.2.2.2.2.2.2.2.2.2.2
 have c2:=h.cells.cs.2.2.1
 have c6:=h.cells.cs.2.2.2.2.2.2.1
 have c8:=h.cells.cs.2.2.2.2.2.2.2.2.1
 rw[hd] at c15
 have hxb:=lt_of_block h.cells
 have hkk:(((x.ask.k.toNat:Nat):Int)==0)=false:=by
  rw[beq_eq_false_iff_ne]
  intro e
  exact hk (UInt8.toNat_inj.1 (by simpa using e))
 subst hq
 have B1:=hid (zag w (.cells #[.int .u8 kI,.int .i64 fe,.int .i64 x.ask.q,.string s] 241))
 have AD:=hid (fun n=>zq4 (E:=E) (w:=(w.alloc (.cells #[.int .u8 kI,.int .i64 fe,.int .i64 x.ask.q,.string s] 241)).drewN n) zrn fe (h.below (zac B1.out n)).rest.gt (by decide) (h6.below (h.below (zac B1.out n)).rest.bel) (h11.below (h.below (zac B1.out n)).rest.bel))
 rw[zep E (yrz he),zwe] at AD
 generalize ((x.ask.k.toNat:Nat):Int)=kA at *
 generalize x.ask.q=qA at *
 generalize adC (zuj x.ge) zrn fe=cc at *
 clear h hd hk h6 h11 he
 have q0:∀w,(binOp .eql 5 (.int .u8 kA) (.int .u8 0)).run Tryz.prog w=.ok (.bool false) w:=by intro w;simp[go_sem,hkk]
 have q1:∀w,(binOp .neq 3 (.int .i64 qA) (.int .i64 qA)).run Tryz.prog w=.ok (.bool false) w:=by intro w;simp[go_sem]
 go_enter Tryz.func189,Tryz.ntmps189
 go_wp2_with fail
 go_quiet ((go_at_call 112;exact Calls.quiet_of_same (AD.out _)))
 go_wp2_with fail
 go_returns
 exact⟨rfl,A,HX.out.below (zac B1.out _)⟩
theorem zl0(fe fq:Int)(s:ByteArray)(y1 y2:XS)(h:XAt w0 w xb A x)(ok:zgm x.W x.L x.T x.G)(hd:x.dn=false)(hk:x.ask.k≠0)(hq:fq=x.ask.q)(hg:x.ge≠0)(he:fe=x.ge)
  (LI:∀w' A',XAt w0 w' xb A' x.good→Calls Tryz.prog 223 #[.pointer (some ⟨xb,0,none⟩),.string s] w' fun e w''=>e=.returned (.tuple #[])∧∃A'',XAt w0 w'' xb A'' y1)
  (NX:∀w' A',XAt w0 w' xb A' y1→Calls Tryz.prog 183 #[.pointer (some ⟨xb,0,none⟩)] w' fun e w''=>e=.returned (.tuple #[])∧∃A'',XAt w0 w'' xb A'' y2) (h6:Has E w0 6) (h11:Has E w0 11) :
  Calls Tryz.prog 189 #[.pointer (some ⟨xb,0,none⟩),.agg #[.int .u8 109,.int .i64 fe,.int .i64 fq,.string s]] w fun e w'=>e=.returned (.tuple #[])∧∃A',XAt w0 w' xb A' y2:=by
 have HX:=hid h
 have c15:=h.cells.cs.2.2.2.2.2.2.2.2.2.2.2.2.2.2.2
 have c2:=h.cells.cs.2.2.1
 have c6:=h.cells.cs.2.2.2.2.2.2.1
 have c8:=h.cells.cs.2.2.2.2.2.2.2.2.1
 rw[hd] at c15
 have hxb:=lt_of_block h.cells
 have hkk:(((x.ask.k.toNat:Nat):Int)==0)=false:=by
  rw[beq_eq_false_iff_ne]
  intro e
  exact hk (UInt8.toNat_inj.1 (by simpa using e))
 subst hq he
 have B1:=hid (zag w (.cells #[.int .u8 109,.int .i64 x.ge,.int .i64 x.ask.q,.string s] 241))
 have N1:=hid (heap_alloc_new w (.cells #[.int .u8 109,.int .i64 x.ge,.int .i64 x.ask.q,.string s] 241))
 have AD:=hid (fun n=>zq4 (E:=E) (w:=(w.alloc (.cells #[.int .u8 109,.int .i64 x.ge,.int .i64 x.ask.q,.string s] 241)).drewN n) zrn x.ge (h.below (zac B1.out n)).rest.gt (by decide) (h6.below (h.below (zac B1.out n)).rest.bel) (h11.below (h.below (zac B1.out n)).rest.bel))
 rw[ym1 hg,zaj,zwe] at AD
 generalize ((x.ask.k.toNat:Nat):Int)=kA at *
 generalize x.ask.q=qA at *
 have q0:∀w,(binOp .eql 5 (.int .u8 kA) (.int .u8 0)).run Tryz.prog w=.ok (.bool false) w:=by intro w;simp[go_sem,hkk]
 have q1:∀w,(binOp .neq 3 (.int .i64 qA) (.int .i64 qA)).run Tryz.prog w=.ok (.bool false) w:=by intro w;simp[go_sem]
 have LIH:=hid LI
 have NXH:=hid NX
 have OK:=hid ok
 clear h hd hk h6 h11 LI NX ok
 generalize x.ge=gI at *
 go_enter Tryz.func189,Tryz.ntmps189
 go_wp2_with fail
 go_quiet ((go_at_call 112;exact Calls.quiet_of_same (AD.out _)))
 have X2:=hid (HX.out.below (zac B1.out nq))
 have N2:=hid (show((w.alloc (.cells #[.int .u8 109,.int .i64 gI,.int .i64 qA,.string s] 241)).drewN nq).heap[w.heap.size]?=some (.cells #[.int .u8 109,.int .i64 gI,.int .i64 qA,.string s] 241 (0,0)) from N1.out)
 clear AD q0 q1 c2 c6 c8 c15 B1 N1
 generalize (w.alloc (.cells #[.int .u8 109,.int .i64 gI,.int .i64 qA,.string s] 241)).drewN nq=w2 at *
 have c11:=X2.out.cells.cs.2.2.2.2.2.2.2.2.2.2.2.1
 go_wp2_with fail
 refine(yf0 A.fb x.W x.L x.T x.G _ X2.out.fl OK.out).mono ?_
 rintro e w3⟨rfl,hf,hg3⟩
 have X3:XAt w0 w3 xb A x.good:=X2.out.flow ⟨hg3.os,hg3.tape,hg3.output,hg3.size,fun k hk hn=>hg3.block k hk (fun e=>hn (by cases e;rfl))⟩ hf
 have N3:=(hg3.block w.heap.size (lt_of_block N2.out) (fun e=>zb2 N2.out X2.out.fl (by decide) (Option.some.inj e))).trans N2.out
 have L3:=hid (LIH.out w3 A X3)
 obtain⟨⟨d0,d1,d2,d3⟩,_⟩:=zrh N3
 clear hf hg3 X2 X3 N2 LIH c11
 go_wp2_with fail
 refine L3.out.mono ?_
 rintro e w4⟨rfl,A4,hA4⟩
 have N4:=hid (NXH.out w4 A4 hA4)
 clear hA4 L3 NXH d0 d1 d2 d3 N3
 go_wp2_with fail
 refine N4.out.mono ?_
 rintro e w5⟨rfl,A5,hA5⟩
 have HA:=hid hA5
 clear hA5 N4
 go_wp2_with fail
 go_returns
 exact⟨rfl,A5,HA.out⟩
theorem zn7(kI fe fq:Int)(s:ByteArray)(y1 y2:XS)(h:XAt w0 w xb A x)(ok:zgm x.W x.L x.T x.G)(hkI:(kI==109)=false)(hd:x.dn=false)(hk:x.ask.k≠0)(hq:fq=x.ask.q)(hg:x.ge≠0)(he:fe=x.ge)
  (LI:∀w' A',XAt w0 w' xb A' x.good→Calls Tryz.prog 224 #[.pointer (some ⟨xb,0,none⟩),.string s] w' fun e w''=>e=.returned (.tuple #[])∧∃A'',XAt w0 w'' xb A'' y1)
  (NX:∀w' A',XAt w0 w' xb A' y1→Calls Tryz.prog 183 #[.pointer (some ⟨xb,0,none⟩)] w' fun e w''=>e=.returned (.tuple #[])∧∃A'',XAt w0 w'' xb A'' y2) (h6:Has E w0 6) (h11:Has E w0 11) :
  Calls Tryz.prog 189 #[.pointer (some ⟨xb,0,none⟩),.agg #[.int .u8 kI,.int .i64 fe,.int .i64 fq,.string s]] w fun e w'=>e=.returned (.tuple #[])∧∃A',XAt w0 w' xb A' y2:=by
 have HX:=hid h
 have c15:=h.cells.cs.2.2.2.2.2.2.2.2.2.2.2.2.2.2.2
 have c2:=h.cells.cs.2.2.1
 have c6:=h.cells.cs.2.2.2.2.2.2.1
 have c8:=h.cells.cs.2.2.2.2.2.2.2.2.1
 rw[hd] at c15
 have hxb:=lt_of_block h.cells
 have hkk:(((x.ask.k.toNat:Nat):Int)==0)=false:=by
  rw[beq_eq_false_iff_ne]
  intro e
  exact hk (UInt8.toNat_inj.1 (by simpa using e))
 subst hq he
 have B1:=hid (zag w (.cells #[.int .u8 kI,.int .i64 x.ge,.int .i64 x.ask.q,.string s] 241))
 have N1:=hid (heap_alloc_new w (.cells #[.int .u8 kI,.int .i64 x.ge,.int .i64 x.ask.q,.string s] 241))
 have AD:=hid (fun n=>zq4 (E:=E) (w:=(w.alloc (.cells #[.int .u8 kI,.int .i64 x.ge,.int .i64 x.ask.q,.string s] 241)).drewN n) zrn x.ge (h.below (zac B1.out n)).rest.gt (by decide) (h6.below (h.below (zac B1.out n)).rest.bel) (h11.below (h.below (zac B1.out n)).rest.bel))
 rw[ym1 hg,zaj,zwe] at AD
 generalize ((x.ask.k.toNat:Nat):Int)=kA at *
 generalize x.ask.q=qA at *
 have q0:∀w,(binOp .eql 5 (.int .u8 kA) (.int .u8 0)).run Tryz.prog w=.ok (.bool false) w:=by intro w;simp[go_sem,hkk]
 have q1:∀w,(binOp .neq 3 (.int .i64 qA) (.int .i64 qA)).run Tryz.prog w=.ok (.bool false) w:=by intro w;simp[go_sem]
 have LIH:=hid LI
 have NXH:=hid NX
 have OK:=hid ok
 clear h hd hk h6 h11 LI NX ok
 generalize x.ge=gI at *
 go_enter Tryz.func189,Tryz.ntmps189
 go_wp2_with fail
 go_quiet ((go_at_call 112;exact Calls.quiet_of_same (AD.out _)))
 have X2:=hid (HX.out.below (zac B1.out nq))
 have N2:=hid (show((w.alloc (.cells #[.int .u8 kI,.int .i64 gI,.int .i64 qA,.string s] 241)).drewN nq).heap[w.heap.size]?=some (.cells #[.int .u8 kI,.int .i64 gI,.int .i64 qA,.string s] 241 (0,0)) from N1.out)
 clear AD q0 q1 c2 c6 c8 c15 B1 N1
 generalize (w.alloc (.cells #[.int .u8 kI,.int .i64 gI,.int .i64 qA,.string s] 241)).drewN nq=w2 at *
 have c11:=X2.out.cells.cs.2.2.2.2.2.2.2.2.2.2.2.1
 go_wp2_with fail
 refine(yf0 A.fb x.W x.L x.T x.G _ X2.out.fl OK.out).mono ?_
 rintro e w3⟨rfl,hf,hg3⟩
 have X3:XAt w0 w3 xb A x.good:=X2.out.flow ⟨hg3.os,hg3.tape,hg3.output,hg3.size,fun k hk hn=>hg3.block k hk (fun e=>hn (by cases e;rfl))⟩ hf
 have N3:=(hg3.block w.heap.size (lt_of_block N2.out) (fun e=>zb2 N2.out X2.out.fl (by decide) (Option.some.inj e))).trans N2.out
 have L3:=hid (LIH.out w3 A X3)
 obtain⟨⟨d0,d1,d2,d3⟩,_⟩:=zrh N3
 clear hf hg3 X2 X3 N2 LIH c11
 go_wp2_with fail
 refine L3.out.mono ?_
 rintro e w4⟨rfl,A4,hA4⟩
 have N4:=hid (NXH.out w4 A4 hA4)
 clear hA4 L3 NXH d0 d1 d2 d3 N3
 go_wp2_with fail
 refine N4.out.mono ?_
 rintro e w5⟨rfl,A5,hA5⟩
 have HA:=hid hA5
 clear hA5 N4
 go_wp2_with fail
 go_returns
 exact⟨rfl,A5,HA.out⟩
end
structure XErr(E:Nat→Addr)(w:World):Prop where
 e1:Has E w 1
 e2:Has E w 2
 e3:Has E w 3
 e4:Has E w 4
 e5:Has E w 5
 e6:Has E w 6
 e8:Has E w 8
 e9:Has E w 9
 e10:Has E w 10
 e11:Has E w 11
theorem XErr.below{E:Nat→Addr}{w w':World}(h:XErr E w)(b:Below w.heap.size w w'):XErr E w':=⟨h.e1.below b,h.e2.below b,h.e3.below b,h.e4.below b,h.e5.below b,h.e6.below b,h.e8.below b,h.e9.below b,h.e10.below b,h.e11.below b⟩
theorem ygd{f:PFr}(h:f.d.length≤20000):(frT f).length≤30000:=by
 have a:=zar f.e.toNat
 have b:=zar f.q.toNat
 have c:=zar f.d.length
 rw[ziw,yge]
 simp only[List.length_append,List.length_cons,zia];omega
theorem ykr(s:List UInt8)(q:Nat):(XS.flip s q).length=s.length:=by unfold XS.flip;simp
theorem yml{t0:List PF}{x:XS}(h:XInv t0 x){p:List UInt8×Bool}(hp:p∈x.net):0<p.1.length∧p.1.length≤100000:=by
 obtain⟨u,e,q,b,hu,h1,h2,_,h3⟩:=h.net p hp
 have hg:=h.g2
 have hc:=ztg h.fr (b:=b) hu (show e≤2147483648 by omega) h2
 have hd:=(zq6 hc).2.2.2
 have hl:=ygd hd
 have hl4:0<(frT (xfm x.fr b e q u)).length:=by rw[ziw,List.length_append,zia];omega
 rcases h3 with h3|⟨_,k,h3⟩
 ·rw[h3];exact⟨hl4,Nat.le_trans hl (by omega)⟩
 ·rw[h3,ykr];exact⟨hl4,by omega⟩
section
variable{E:Nat→Addr}{w0 w:World}{xb:Nat}{A:XA}{x:XS}{t0:List PF}
theorem zum(hI:XInv t0 x)(h:XAt w0 w xb A x)(hn:x.net.length≤1000000000){u:XW}(hu:u.ok x.fr)(e q:Nat)(HE:XErr E w0):
  Calls Tryz.prog 188 #[.pointer (some ⟨xb,0,none⟩),.agg #[.int .u8 (xrq e q u).k.toNat,.int .i64 (xrq e q u).e,.int .i64 (xrq e q u).q,.string (bs (xrq e q u).d)]] w fun e' w'=>e'=.returned (.tuple #[])∧∃A',XAt w0 w' xb A' (x.answer (xrq e q u)):=by
 rw[zuf hI.fr hu]
 cases u with
 | all=>exact yb5 e q [] h hI.fr.wf hn (znb _) HE.e2 HE.e4 HE.e5 HE.e8 HE.e9
 | one n o d=>
  obtain⟨h1,h2⟩:=hu
  have hnl:=hI.fr.name h1
  have hd:=hI.fr.len _ h1
  simp only[] at hnl hd
  have hsl:=zus h2
  have hdl:=zra h2 hd
  have hok:=zos h2 hd
  obtain⟨p1,p2,p3,q1,q2,q3⟩:=zle (a:=n) (b:=sgT o) (by omega) (by omega)
  have htl:=zpv n (sgT o)
  have hnn:=zar (sgT o).length
  have:=yb6 (E:=E) e q (XS.two n (sgT o)) n (sgT o) (num (sgT o).length++sgT o) [] d 0 0 (zeu (za8 o.length) o) (za8 o.length) (opO o d) h hI.fr.wf hn (by omega) (by rw[List.length_append];omega) (by omega) p1 p2 p3 q1 q2 q3 ze0 (zp2 h2).1 (zp2 h2).2 (zej hI.fr.wf.sorted h1) (by omega) rfl (by rw[(zxj h2 hd).1]) (by have:=hok.1;omega) (zmv h2 hd).2 (by omega) (by omega) HE.e1 HE.e2 HE.e3 HE.e4 HE.e8
  refine this.mono ?_
  rintro e' w'⟨rfl,A',hA⟩
  refine⟨rfl,A',?_⟩
  have e2:xan x.fr e q (.one n o d)=⟨111,e,q,num n.length++(n++(num (dtL (opO o d)).length++dtL (opO o d)))⟩:=by
   show(⟨111,e,q,XS.two n (dtL (opO o d))⟩:PFr)=_
   unfold XS.two
   rw[List.append_assoc]
  rw[e2]
  exact hA
theorem zjd(hI:XInv t0 x)(h:XAt w0 w xb A x)(hn:x.net.length≤1000000000){u:XW}{e q:Nat}(hu:u.ok x.fr)(hr:e=x.ge→q<x.sq∧(q+1=x.sq→x.dn=false→u=x.cur))(HE:XErr E w0):
  Calls Tryz.prog 189 #[.pointer (some ⟨xb,0,none⟩),.agg #[.int .u8 (xan x.fr e q u).k.toNat,.int .i64 (xan x.fr e q u).e,.int .i64 (xan x.fr e q u).q,.string (bs (xan x.fr e q u).d)]] w fun e' w'=>e'=.returned (.tuple #[])∧∃A',XAt w0 w' xb A' (x.answered (xan x.fr e q u)):=by
 rcases zn2 hI hr with⟨hc,e2⟩|⟨hd,hk,hq,hg,he,e6,e7,e8,e2⟩
 ·rw[e2]
  by_cases hd:x.dn=true
  ·exact zrs _ _ _ _ h hd
  ·have hd':x.dn=false:=by simpa using hd
   have hk:x.ask.k≠0:=by rw[(hI.ask hd').2];exact ym6 _ _ _
   by_cases hq:(xan x.fr e q u).q=x.ask.q
   ·have he:(xan x.fr e q u).e≠x.ge:=by
     rcases hc with h1|h1|h1|h1|h1
     ·exact absurd h1 hd
     ·exact absurd h1 hk
     ·exact absurd hq h1
     ·have:=hI.g1;omega
     ·exact h1
    exact zpt _ _ _ _ h hd' hk hq he HE.e6 HE.e11
   ·exact zps _ _ _ _ h hd' hk hq
 ·rw[e2]
  clear e2 hr hu
  subst e6 e7 e8
  obtain⟨m1,m2,m3,m4,m5⟩:=zl7 hI hd
  have hfew:=hI.fr.wf.few
  have hln:LWF x.took.ln:=by
   cases hkn:x.took.kn with
   | true=>rw[m1.ln hkn];exact m1.fr.wf.lines
   | false=>rw[m1.l0 hkn];exact⟨by simp,by simp,List.Pairwise.nil⟩
  have NX:∀w' A',XAt w0 w' xb A' x.took→_:=fun w' A' hA=>yb2 (E:=E) hA (by rw[m3];exact hn) (by have:=m1.sm;rw[m5] at this;omega) (fun n=>m1.tt.old4 n) hln m1.tt.wf HE.e2 HE.e4 HE.e5 HE.e8 HE.e9
  cases hkn:x.kn with
  | false=>
   have hcur:=zrc hkn
   have tk:x.took=XS.listed (zey (x.fr.map PF.line)) x.good:=by unfold XS.took;rw[hcur];rfl
   have LI:∀w' A',XAt w0 w' xb A' x.good→_:=fun w' A' hA=>zuk (E:=E) (zey (x.fr.map PF.line)) hA (by rw[zmf _ hI.fr.wf.lines (znb _)]) (by have:=zs4 hI.fr.wf.lines;omega) HE.e1 HE.e2 HE.e5 HE.e8 HE.e9
   rw[←tk] at LI
   rw[hcur] at hq he ⊢
   exact zl0 _ _ _ x.took x.took.next h hI.flow hd hk hq hg he LI NX HE.e6 HE.e11
  | true=>
   obtain⟨f0,hf0,hno,hcur,ht⟩:=zpw hI hd hkn
   have hnl:=hI.fr.name hf0
   have hdl:=hI.fr.len _ hf0
   have hol:=hI.tt.old (x:=x) f0.n
   have hlx:=hI.ln hkn
   have htl:=zra hol hdl
   obtain⟨p1,p2,p3,q1,q2,q3⟩:=zle (a:=f0.n) (b:=dtL (opO (x.old f0.n) f0.d)) (by omega) (by omega)
   have hml:f0.line∈x.ln:=by rw[hlx];exact List.mem_map_of_mem hf0
   obtain⟨k,hk2,hix,hkl⟩:∃k:Nat,∃hk:k<x.ln.length,ixI 0 (fun y:PL=>y.n==f0.n) x.ln=k∧x.ln[k]'hk=f0.line:=by
    rcases zqx (fun y:PL=>y.n==f0.n) x.ln with⟨_,hall⟩|⟨k,hk,h1,h2,_⟩
    ·exact absurd (hall _ hml) (by simp[PF.line])
    ·refine⟨k,hk,h1,?_⟩
     have hm:=List.getElem_mem hk
     refine Srt.inj (l:=x.ln) (by rw[hlx];exact hI.fr.wf.lines.sorted) hm hml ?_
     simpa [PF.line] using h2
   have htw:=zpv f0.n (dtL (opO (x.old f0.n) f0.d))
   have hnn:=zar (dtL (opO (x.old f0.n) f0.d)).length
   have hLW:LWF x.ln:=by rw[hlx];exact hI.fr.wf.lines
   have GI:∀w' A',XAt w0 w' xb A' x.good→_:=fun w' A' hA=>zy5 (x:=x.good) (E:=E) (XS.two f0.n (dtL (opO (x.old f0.n) f0.d))) f0.n (dtL (opO (x.old f0.n) f0.d)) (num (dtL (opO (x.old f0.n) f0.d)).length++dtL (opO (x.old f0.n) f0.d)) [] 0 0 (opO (x.old f0.n) f0.d) k hk2 hA (by have:=hI.fl hd;have:=hI.s2;show x.fu.length≤_;omega) hix (by omega) (by rw[List.length_append];omega) (by omega) p1 p2 p3 q1 q2 q3 ze0 (zxi hol hdl) (by omega) (by show(x.old f0.n).length≤_;omega) hI.tt.wf (by show x.ln.length≤_;rw[hlx,List.length_map];omega)
    (fun hw=>by
     have hw:(whC (x.old f0.n) (za8 (x.old f0.n).length) (opO (x.old f0.n) f0.d) (x.ln[k]'hk2).N (x.ln[k]'hk2).S).1=0:=hw
     show FWF (zal x.room f0.n (whL (x.old f0.n) (za8 (x.old f0.n).length) (opO (x.old f0.n) f0.d) (x.ln[k]'hk2).N (x.ln[k]'hk2).S))∧(putF x.room f0.n (whL (x.old f0.n) (za8 (x.old f0.n).length) (opO (x.old f0.n) f0.d) (x.ln[k]'hk2).N (x.ln[k]'hk2).S)).1=0∧(whL (x.old f0.n) (za8 (x.old f0.n).length) (opO (x.old f0.n) f0.d) (x.ln[k]'hk2).N (x.ln[k]'hk2).S).length≤4000
     rw[hkl] at hw ⊢
     rcases zwq (x.old f0.n) (za8 (x.old f0.n).length) (opO (x.old f0.n) f0.d) f0.line.N f0.line.S with hw2|⟨_,v1,_⟩
     ·exact absurd hw hw2
     ·have l1:(whL (x.old f0.n) (za8 (x.old f0.n).length) (opO (x.old f0.n) f0.d) f0.line.N f0.line.S).length≤4000:=by
       have:((whL (x.old f0.n) (za8 (x.old f0.n).length) (opO (x.old f0.n) f0.d) f0.line.N f0.line.S).length:Int)=(f0.d.length:Nat):=v1
       omega
      obtain⟨r1,r2⟩:=zw4 (x:=x) hI.tt.wf hLW ⟨f0.line,hml,rfl⟩ l1
      exact⟨r1,r2,l1⟩) HE.e1 HE.e2 HE.e3 HE.e4 HE.e5 HE.e6 HE.e8 HE.e9 HE.e10
   have hkl':(x.good.ln[k]'hk2)=f0.line:=hkl
   rw[hkl',←ht] at GI
   rw[hcur] at hq he ⊢
   exact zn7 _ _ _ _ x.took x.took.next h hI.flow (by show((((111:UInt8).toNat:Nat):Int)==109)=false;decide) hd hk hq hg he GI NX HE.e6 HE.e11
theorem yb4(hI:XInv t0 x)(k:Nat)(h:XAt w0 w xb A x)(hk:k<x.net.length)(hn:x.net.length≤1000000000)(HE:XErr E w0):
  Calls Tryz.prog 152 #[.pointer (some ⟨xb,0,none⟩),.int .i64 k] w fun e w'=>e=.returned (.tuple #[])∧∃A',XAt w0 w' xb A' (x.come k):=by
 have hs:=(yml hI (List.getElem_mem hk)).2
 have hy:=zht hI k
 have hyn:({x with net:=x.net.eraseIdx k}:XS).net.length≤1000000000:=by
  show(x.net.eraseIdx k).length≤_
  rw[List.length_eraseIdx]
  split<;>omega
 cases came hI k hk with
 | bad hb he=>rw[he];exact yb3 k h hk hn hs hb HE.e1 HE.e2 HE.e4 HE.e10
 | req u e q hu h1 h2 hr hb he hp=>
  rw[he]
  have hb':zfe (x.net[k]'hk).1=(⟨(xrq e q u).k,(xrq e q u).e,(xrq e q u).q,(xrq e q u).d⟩,0):=hb
  have HC:∀w' A',XAt w0 w' xb A' {x with net:=x.net.eraseIdx k}→_:=fun w' A' hA=>zum (E:=E) hy hA hyn (u:=u) hu e q HE
  rcases zp9 e q u with hk8|hk3
  ·exact zy6 k h hk hn hs _ _ _ _ _ hb' hk8 HC HE.e1 HE.e2 HE.e4 HE.e10
  ·exact zy7 k h hk hn hs _ _ _ _ _ hb' hk3 HC HE.e1 HE.e2 HE.e4 HE.e10
 | old u e q hu h1 h2 hr hb hc he=>
  have e1:x.come k=XS.answered (xan x.fr e q u) {x with net:=x.net.eraseIdx k}:=zv8 hk hb (zi8 _ e q u)
  rw[e1]
  have hb':zfe (x.net[k]'hk).1=(⟨(xan x.fr e q u).k,(xan x.fr e q u).e,(xan x.fr e q u).q,(xan x.fr e q u).d⟩,0):=hb
  have hkk:=zi8 x.fr e q u
  simp only[not_or] at hkk
  exact zrr k h hk hn hs _ _ _ _ _ hb' hkk.1 hkk.2 (fun w' A' hA=>zjd (E:=E) hy hA hyn (u:=u) hu hr HE) HE.e1 HE.e2 HE.e4 HE.e10
 | now hd ha hq hg he1 hb he=>
  have e1:x.come k=XS.answered (xan x.fr x.ge (x.sq - 1) x.cur) {x with net:=x.net.eraseIdx k}:=zv8 hk hb (zi8 _ _ _ _)
  rw[e1]
  have hb':zfe (x.net[k]'hk).1=(⟨(xan x.fr x.ge (x.sq - 1) x.cur).k,(xan x.fr x.ge (x.sq - 1) x.cur).e,(xan x.fr x.ge (x.sq - 1) x.cur).q,(xan x.fr x.ge (x.sq - 1) x.cur).d⟩,0):=hb
  have hkk:=zi8 x.fr x.ge (x.sq - 1) x.cur
  simp only[not_or] at hkk
  exact zrr k h hk hn hs _ _ _ _ _ hb' hkk.1 hkk.2 (fun w' A' hA=>zjd (E:=E) hy hA hyn (u:=x.cur) (zts hI.fr hI.tt hI.ln) (fun _=>⟨by have:=(hI.ask hd).1;show x.sq - 1<x.sq;omega,fun _ _=>rfl⟩) HE) HE.e1 HE.e2 HE.e4 HE.e10
end
end Go.Proofs.YtakhkcaihhpehaaGreatDoor
