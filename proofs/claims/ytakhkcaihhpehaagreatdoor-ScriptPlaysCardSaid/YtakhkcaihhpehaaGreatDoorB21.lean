/- Texts of one proof, one behind the other: XferAsk, XferWant, FilDrop, XferNext, XferLaws, XferLaw2. -/
import Derived.Test.YtakhkcaihhpehaaGreatDoorB19
import Derived.Test.YtakhkcaihhpehaaGreatDoorB13
import Derived.Test.YtakhkcaihhpehaaGreatDoorB11
import Derived.Test.YtakhkcaihhpehaaGreatDoorB15
import Derived.Test.YtakhkcaihhpehaaGreatDoorB09
import Derived.Test.YtakhkcaihhpehaaGreatDoorB18
import Derived.Test.YtakhkcaihhpehaaGreatDoorB16
import Derived.Test.YtakhkcaihhpehaaGreatDoorB20
namespace Go.Proofs.YtakhkcaihhpehaaGreatDoor
open Go.RowKit
open Lib (hid)
set_option linter.unusedVariables false
set_option maxRecDepth 100000
set_option maxHeartbeats 51200000
section
variable{E:Nat→Addr}{w0 w:World}{xb:Nat}{A:XA}{x:XS}
theorem XAt.drew(h:XAt w0 w xb A x):XAt w0 w.drew xb A x:=h.below (Below.drew (Below.refl _ _))
theorem XAt.asked(h:XAt w0 w xb A x)(f:PFr):XAt w0 ((((w.setCell ⟨xb,6,none⟩ (.int .u8 f.k.toNat)).setCell ⟨xb,7,none⟩ (.int .i64 f.e)).setCell ⟨xb,8,none⟩ (.int .i64 f.q)).setCell ⟨xb,9,none⟩ (.string (bs f.d))) xb A {x with ask:=f}:=by
 have h1:=h.set 6 (.int .u8 f.k.toNat) (A':=A) (x':={x with ask:={x.ask with k:=f.k}}) rfl ⟨rfl,rfl,rfl⟩ ⟨rfl,rfl,rfl,rfl,rfl⟩ (fun w2 h=>⟨h.fr,h.tt,h.nt,h.ln,h.gt,h.lm,h.bel⟩)
 have h2:=h1.set 7 (.int .i64 f.e) (A':=A) (x':={x with ask:={x.ask with k:=f.k,e:=f.e}}) rfl ⟨rfl,rfl,rfl⟩ ⟨rfl,rfl,rfl,rfl,rfl⟩ (fun w2 h=>⟨h.fr,h.tt,h.nt,h.ln,h.gt,h.lm,h.bel⟩)
 have h3:=h2.set 8 (.int .i64 f.q) (A':=A) (x':={x with ask:={x.ask with k:=f.k,e:=f.e,q:=f.q}}) rfl ⟨rfl,rfl,rfl⟩ ⟨rfl,rfl,rfl,rfl,rfl⟩ (fun w2 h=>⟨h.fr,h.tt,h.nt,h.ln,h.gt,h.lm,h.bel⟩)
 exact h3.set 9 (.string (bs f.d)) (A':=A) (x':={x with ask:=f}) rfl ⟨rfl,rfl,rfl⟩ ⟨rfl,rfl,rfl,rfl,rfl⟩ (fun w2 h=>⟨h.fr,h.tt,h.nt,h.ln,h.gt,h.lm,h.bel⟩)
theorem zwn(k:UInt8)(d:List UInt8)(h:XAt w0 w xb A x)(hn:x.net.length≤1000000000)(hq:x.sq<65536)(h2:Has E w0 2)(h4:Has E w0 4):
  Calls Tryz.prog 209 #[.pointer (some ⟨xb,0,none⟩),.int .u8 k.toNat,.string (bs d)] w fun e w'=>e=.returned (.tuple #[])∧∃A',XAt w0 w' xb A' (x.asks k d):=by
 have HX:=hid h
 obtain⟨c0,c1,c2,c3,c4,c5,c6,c7,c8,c9,c10,c11,c12,c13,c14,c15⟩:=h.cells.cs
 have f6:=h.cells.fz 6
 have f7:=h.cells.fz 7
 have f8:=h.cells.fz 8
 have f9:=h.cells.fz 9
 have k6:(w.cell? ⟨xb,6,none⟩).isSome=true:=by rw[c6];rfl
 clear h c0 c1 c2 c3 c10 c11 c12 c13 c14 c15 k6
 go_enter Tryz.func209,Tryz.ntmps209
 go_wp2_with fail
 have X1:=(HX.out.asked ⟨k,x.ep,x.sq,d⟩).drew
 have S1:=And.intro X1.cells.cs.2.2.2.2.1 X1.cells.cs.2.2.2.2.2.1
 go_region_held3 (fun X=>X.cell? ⟨xb,4,none⟩=some (.int .i64 x.ep)∧X.cell? ⟨xb,5,none⟩=some (.int .i64 x.sq)) (first|exact⟨c4,c5⟩|exact S1) (fail)
 clear S1
 generalize (((((w.setCell ⟨xb,6,none⟩ (.int .u8 k.toNat)).setCell ⟨xb,7,none⟩ (.int .i64 x.ep)).setCell ⟨xb,8,none⟩ (.int .i64 x.sq)).setCell ⟨xb,9,none⟩ (.string (bs d))).drew)=w1 at *
 have HX1:=hid X1
 clear c4 c5 c6 c7 c8 c9 f6 f7 f8 f9 X1
 obtain⟨c0,c1,c2,c3,c4,c5,c6,c7,c8,c9,c10,c11,c12,c13,c14,c15⟩:=HX1.out.cells.cs
 have f5:=HX1.out.cells.fz 5
 have f10:=HX1.out.cells.fz 10
 have hw1:IntKind.i64.wrap ((x.sq:Int)+1)=(x.sq:Int)+1:=IntWalk.i64_in _ (by omega)
 obtain⟨m,hm⟩:∃m:Nat,m=(x.sq+1) % 65536:=⟨_,rfl⟩
 have hm0:(m:Int)<65536:=by omega
 have hw3:((x.sq:Int)+1) % 65536=(m:Int):=by omega
 have hw4:((x.sq:Int)+1).tmod 65536=(m:Int):=by rw[Int.tmod_eq_emod_of_nonneg (by omega)];exact hw3
 have hw5:IntKind.i64.wrap (((x.sq:Int)+1).tmod 65536)=(m:Int):=by rw[hw4];exact IntWalk.i64_in _ (by omega)
 have HM:=hid hm
 clear hm
 clear c0 c1 c2 c3 c11 c12 c13 c14 c15
 have X2:=HX1.out.set 5 (.int .i64 m) (A':=A) (x':={x with ask:=⟨k,x.ep,x.sq,d⟩,sq:=m}) rfl ⟨rfl,rfl,rfl⟩ ⟨rfl,rfl,rfl,rfl,rfl⟩ (fun w2 h=>⟨h.fr,h.tt,h.nt,h.ln,h.gt,h.lm,h.bel⟩)
 have X3:=X2.set 10 (.int .i64 (0:Nat)) (A':=A) (x':={x with ask:=⟨k,x.ep,x.sq,d⟩,sq:=m,age:=0}) rfl ⟨rfl,rfl,rfl⟩ ⟨rfl,rfl,rfl,rfl,rfl⟩ (fun w2 h=>⟨h.fr,h.tt,h.nt,h.ln,h.gt,h.lm,h.bel⟩)
 have PT:=hid (zld (E:=E) ⟨k,x.ep,x.sq,d⟩ X3 hn (h2.below X3.rest.bel) (h4.below X3.rest.bel))
 have HE:Hid (x.asks k d=XS.put ⟨k,x.ep,x.sq,d⟩ {x with ask:=⟨k,x.ep,x.sq,d⟩,sq:=m,age:=0}):=hid (by rw[HM.out];rfl)
 rw[PFr.val_is] at PT
 clear X2 X3 HX HX1
 go_wp2_with fail
 refine PT.out.mono ?_
 rintro e w2⟨rfl,A',hA⟩
 have HA:=hid hA
 clear hA PT
 go_wp2_with fail
 go_returns
 exact⟨rfl,A',by rw[HE.out];exact HA.out⟩
end
theorem XS.want_is(x:XS)(n:List UInt8){o s:List UInt8}{z:Nat}(h:x.old n=o)(hz:za8 o.length=z)(hs:zla (zeu z o) z=s):x.want n=x.asks 103 (XS.two n s):=by
 subst h hz hs;rfl
theorem zr4(l:List Blk)(z:Nat)(hz:z≤64)(hl:l.length≤4000):(zla l z).length≤14+21 * l.length:=by
 rw[zp4,List.length_append,List.length_append]
 have h1:=zar z
 have h2:=zar l.length
 have h3:=zt4 l
 simp only[Int.toNat_natCast]
 omega
theorem zrj(o:List UInt8)(ho:o.length≤4000):(zeu (za8 o.length) o).length≤64:=by
 rw[ze5]
 unfold zc8 za8
 (repeat' split)<;>omega
section
variable{E:Nat→Addr}{w0 w:World}{xb:Nat}{A:XA}{x:XS}
theorem ybz(n:List UInt8)(h:XAt w0 w xb A x)(hn:x.net.length≤1000000000)(hq:x.sq<65536)(hold:(x.old n).length≤4000)(hnm:n.length≤1000)(h2:Has E w0 2)(h4:Has E w0 4)(h8:Has E w0 8):
  Calls Tryz.prog 210 #[.pointer (some ⟨xb,0,none⟩),.string (bs n)] w fun e w'=>e=.returned (.tuple #[])∧∃A',XAt w0 w' xb A' (x.want n):=by
 obtain⟨o,ho⟩:∃o,x.old n=o:=⟨_,rfl⟩
 obtain⟨z,hz⟩:∃z,za8 (o.length:Int)=z:=⟨_,rfl⟩
 obtain⟨s,hs⟩:∃s,zla (zeu z o) z=s:=⟨_,rfl⟩
 rw[XS.want_is x n ho hz hs]
 rw[ho] at hold
 have hz4:1≤z∧z≤64:=by rcases zgr (o.length:Int) with h|h|h|h|h<;>omega
 have hck:=zly z o hz4.1 hz4.2 hold
 have hfew:=zrj o hold
 rw[hz] at hfew
 have hsl:s.length≤2000:=by rw[←hs];have:=zr4 (zeu z o) z hz4.2 (by omega);omega
 have hbS:=ymz z o
 have hold2:x.old n=if x.fu.contains n then [] else (zaq x.tt n).getD []:=rfl
 rw[ho] at hold2
 have HB2:=hid (fun(w':World)(b:Below w.heap.size w w')=>h2.below (zaa h.rest.bel b))
 have HB4:=hid (fun(w':World)(b:Below w.heap.size w w')=>h4.below (zaa h.rest.bel b))
 have HB8:=hid (fun(w':World)(b:Below w.heap.size w w')=>h8.below (zaa h.rest.bel b))
 have HX:=hid h
 have GE:=hid (zen x.tt A.vt n w (SliceIs.ownedK h.rest.tt))
 have LK:=hid (fun(w':World)(b:Below w.heap.size w w')=>(h.below b).fu.look (k:=n) (by unfold maxLen;omega))
 have CS:=hid (fun(w':World)(b:Below w.heap.size w w')=>(h.below b).cells.cs)
 obtain⟨c0,c1,_⟩:=h.cells.cs
 have SZ:=hid (fun w'=>zw0 (o.length:Int) w')
 rw[hz] at SZ
 have OF:=hid (fun w'=>ymp (bs o) z w' (by rw[zae];exact hold) hz4.1 hz4.2)
 rw[zai] at OF
 have ST:=hid (fun(w':World)(b:Below w.heap.size w w')(s0:Option Addr)(n0 c0:Nat)(hl:SliceIs w' (.slice s0 n0 c0) 3 (zba (zeu z o)))=>ych E s0 n0 c0 (zeu z o) z w' hl hbS (HB2.out w' b) (HB8.out w' b) (by rw[hck]))
 rw[hs] at ST
 have AK:=hid (fun(w':World)(b:Below w.heap.size w w')=>zwn (E:=E) 103 (XS.two n s) (HX.out.below b) hn hq h2 h4)
 have htw:XS.two n s=num n.length++(n++(num s.length++s)):=by unfold XS.two;rw[List.append_assoc]
 obtain⟨r,hr⟩:∃r,x.asks 103 (XS.two n s)=r:=⟨_,rfl⟩
 rw[hr] at AK ⊢
 rw[htw,show(((103:UInt8).toNat:Nat):Int)=103 from rfl] at AK
 clear hr htw
 have hoz:(bs o).size=o.length:=zae o
 have hob:x.fu.contains n=true∧bs o=⟨#[]⟩∨x.fu.contains n=false∧bs o=bs ((zaq x.tt n).getD []):=by
  cases hc:x.fu.contains n with
  | true=>rw[hc,if_pos rfl] at hold2;exact .inl ⟨rfl,by rw[hold2,bs_nil]⟩
  | false=>rw[hc,if_neg (by simp)] at hold2;exact .inr ⟨rfl,by rw[hold2]⟩
 clear h h2 h4 h8 ho hs hz hold2 hck hbS c0
 generalize bs o=ob at *
 generalize bs ((zaq x.tt n).getD [])=gb at *
 generalize (zaq x.tt n).isSome=gi at *
 generalize x.fu.contains n=fc at *
 rcases hob with⟨rfl,rfl⟩|⟨rfl,rfl⟩
 all_goals
  go_enter Tryz.func210,Tryz.ntmps210
  go_wp2_with fail
  refine GE.out.mono ?_
  rintro e w1⟨rfl,b1⟩
  have cs:=CS.out _ b1
  have lk:=LK.out _ b1
  have c14:=cs.2.2.2.2.2.2.2.2.2.2.2.2.2.2.1
  clear c1 cs GE LK
  go_wp2_with fail
  refine(SZ.out _).mono ?_
  rintro e w1'⟨rfl,rfl⟩
  clear lk c14
  go_wp2_with fail
  refine(OF.out _).mono ?_
  rintro e w2⟨v2,rfl,own2,b2⟩
  have B2:=hid (zaa b1 b2)
  obtain⟨va,vc,rfl⟩:=zab own2
  have ST2:=hid (ST.out _ B2.out _ _ _ (SliceIs.ownedK own2))
  clear b1 b2 own2 OF ST SZ CS
  go_wp2_with fail
  refine ST2.out.mono ?_
  rintro e w3⟨rfl,b3⟩
  have B3:=hid (zaa B2.out b3)
  clear b3 ST2 B2
  go_wp2_with fail
  have W0:=WAt.new E w3
  have B4:=hid (zaa B3.out (zag w3 (.cells #[.slice none 0 0,.nilIface] 305)))
  have hl4:w3.heap.size<(w3.alloc (.cells #[.slice none 0 0,.nilIface] 305)).heap.size:=by simp
  have hw3:w.heap.size≤w3.heap.size:=B3.out.size
  generalize w3.alloc (.cells #[.slice none 0 0,.nilIface] 305)=w4 at *
  generalize w3.heap.size=wb at *
  refine(zgo E wb [] (bs n) w4 (by simp) W0 (HB2.out _ B4.out) (by rw[zae];omega)).mono ?_
  rintro e w5⟨rfl,W5,k5⟩
  have B5:=hid (k5.old B4.out hw3 hl4)
  rw[zae,zai,List.nil_append] at W5
  clear W0 k5 B4 hl4
  go_wp2_with fail
  refine(zgo E wb _ (bs s) w5 (by rw[List.length_append];have:=zar n.length;omega) W5 (HB2.out _ B5.out) (by rw[zae];omega)).mono ?_
  rintro e w6⟨rfl,W6,k6⟩
  have B6:=hid (k6.old B5.out hw3 W5.lt)
  rw[zae,zai] at W6
  clear W5 k6 B5
  go_wp2_with fail
  refine(zf4 E wb _ 0 w6 (fun _=>by rw[List.length_append,List.length_append];have:=zkp n.length;omega) W6).mono ?_
  rintro e w7⟨rfl,d7⟩
  rw[zeb,zaj]
  have AK7:=hid (AK.out _ (zaa B6.out (d7.below _)))
  clear W6 d7 AK B6
  go_wp2_with fail
  refine AK7.out.mono ?_
  rintro e w8⟨rfl,A',hA⟩
  have HA:=hid hA
  clear hA AK7
  go_wp2_with fail
  go_returns
  exact⟨rfl,A',HA.out⟩
end
theorem ygv:∀args w,(callFunc 137 args).run Tryz.prog w=.ok (.enter 137 args) w:=enters_of Tryz.func137 (by kernel_rfl) rfl
theorem yg0(f:PF)(n:List UInt8)(b:Nat)(w:World)(hc:w.cell? ⟨b,0,none⟩=some (.string (bs n))):
  Calls Tryz.prog 137 #[.agg #[.string (bs f.n),.string (bs f.d)],.pointer (some ⟨b,0,none⟩)] w fun e w'=>e=.returned (.bool (f.n==n))∧Below w.heap.size w w':=by
 have hb:b<w.heap.size:=World.block_lt_of_cell? w _ hc
 have hne:b≠w.heap.size:=by omega
 have HB:=hid (zag w (.cells #[.string (bs f.n),.string (bs f.d)] 126))
 have HE:=hid (show((bs f.n).toList==(bs n).toList)=(f.n==n) by rw[za4,za4])
 go_enter Tryz.func137,Tryz.ntmps137
 go_wp2_with fail
 go_ret
 exact⟨by rw[←HE.out];rfl,HB.out⟩
theorem zpa(l:List PF)(v:Value)(n:List UInt8)(w:World)(hl:SliceIs w v 2 (zah l))(hlen:l.length≤1000000):
  Calls Tryz.prog 97 #[v,.string (bs n)] w fun e w'=>∃r,e=.returned r∧w'.ownsRow w.heap.size 126 2 r (zda l n).length (zah (zda l n))∧Below w.heap.size w w':=by
 have B0:=hid (znz w (.string (bs n)) 9)
 have CL:=hid (zde l v _ (hl.below B0.out) hlen)
 clear hl
 go_enter Tryz.func97,Tryz.ntmps97
 go_wp2_with fail
 refine CL.out.mono ?_
 rintro e w1⟨r,rfl,hr,b1⟩
 have HR:=hid hr
 have HB1:=hid b1
 have key:=znp fn0 fn1 (fun _=>⟨rfl,rfl⟩) (fun f=>f.n==n) 137 #[.pointer (some ⟨w.heap.size,0,none⟩)] ygv _ r l w1 hr (fun W x hx hc=>
  yg0 x n w.heap.size W (by
   have h0:w1.cell? ⟨w.heap.size,0,none⟩=some (.string (bs n)):=(b1.cell (p:=⟨w.heap.size,0,none⟩) (by simp)).trans (by simp)
   have hb:=hc.block w.heap.size (World.block_lt_of_cell? w1 _ h0) (fun e=>by have h9:=(hr.lt _ e).1;revert h9;simp)
   rw[←h0];exact World.cell?_of_block hb))
 have KEY:=hid key
 obtain⟨va,vc,rfl⟩:=zab hr
 clear hr b1 key CL
 go_wp2_with fail
 refine KEY.out.mono ?_
 rintro e w2⟨v',rfl,h1,h2,h3⟩
 have HH:=hid h1
 have HC:=hid h3
 clear h1 h2 h3 KEY
 go_wp2_with fail
 go_ret
 refine⟨_,rfl,?_,?_⟩
 ·exact za1 HH.out B0.out.size
 ·exact HC.out.below (zaa B0.out HB1.out) (fun x hx=>by have:=(HR.out.lt x hx).1;have:=B0.out.size;omega)
theorem yks{L:List PS}{j:Nat}(hj:j<L.length)(hno:∀i (hi:i<j),(L[i]'(by omega)).k≠zaz)(hk:(L[j]'hj).k=zaz):L.find? (fun s=>s.k==zaz)=some (L[j]'hj):=by
 rw[List.find?_eq_some_iff_getElem]
 exact⟨by simpa using hk,j,hj,rfl,fun i hi=>by simpa using hno i hi⟩
theorem ygh{L:List PS}(hno:∀i (hi:i<L.length),(L[i]'hi).k≠zaz):L.find? (fun s=>s.k==zaz)=none:=by
 rw[List.find?_eq_none]
 intro s hs
 obtain⟨i,hi,rfl⟩:=List.mem_iff_getElem.1 hs
 simpa using hno i hi
theorem XS.next_ask{x:XS}(h:x.kn=false):x.next=x.asks 108 []:=by unfold XS.next;rw[if_pos h]
theorem XS.next_want{x:XS}{p:List PS}(hp:zb3 x.ln (x.tt.map PF.line)=p)(h:x.kn=true){j:Nat}(hj:j<p.length)(hno:∀i (hi:i<j),(p[i]'(by omega)).k≠zaz)(hk:(p[j]'hj).k=zaz):x.next=x.want (p[j]'hj).n:=by
 unfold XS.next
 rw[if_neg (by rw[h];simp),hp,yks hj hno hk]
theorem XS.next_done{x:XS}{p:List PS}(hp:zb3 x.ln (x.tt.map PF.line)=p)(h:x.kn=true)(hno:∀i (hi:i<p.length),(p[i]'hi).k≠zaz):x.next={x with tt:=zb6 p x.tt,dn:=true,ask:=zfr}:=by
 unfold XS.next
 rw[if_neg (by rw[h];simp),hp,ygh hno]
theorem FWF.okx{l:List PF}(h:FWF l):FOk l:=fun f hf=>by
 have h1:=h.each f hf
 have h2:=(zbi _).1 h1.1
 unfold maxLen
 exact⟨by omega,by omega⟩
theorem yec{a t:List PL}(ha:LWF a)(ht:LWF t){s:PS}(hs:s∈zb3 a t):s.n.length≤12∧(s.k=zaz∨s.k=zg7∨s.k=zds):=by
 have P:=zgb ha.sorted ht.sorted
 refine⟨?_,?_⟩
 ·rcases P.names s hs with⟨x,hx,e⟩|⟨x,hx,e⟩
  ·rw[←e];exact((zbi _).1 (ha.each x hx).1).2.1
  ·rw[←e];exact((zbi _).1 (ht.each x hx).1).2.1
 ·rcases P.of s hs with h|h|h
  ·exact .inl h.1
  ·exact .inr (.inl h.1)
  ·exact .inr (.inr h.1)
section
variable{E:Nat→Addr}{w0 w:World}{xb:Nat}{A:XA}{x:XS}
theorem XAt.setTo(h:XAt w0 w xb A x){b:Nat}{r:Value}{l:List PF}(hr:w.ownsRow b 126 2 r l.length (zah l))(hb:w0.heap.size≤b):XAt w0 (w.setCell ⟨xb,1,none⟩ r) xb {A with vt:=r} {x with tt:=l}:=by
 have hc:=XCell.chg w xb 1 r
 have hq:=h.rest.xset h.cells h.lx 1 r
 obtain⟨es,c,hm⟩:=h.fu.isMap
 refine⟨h.cells.set 1 r rfl,⟨hq.fr,zan (za1 hr hb) hc (fun z hz e=>zcj hr h.cells (by decide) (by rw[hz,e])),hq.nt,hq.ln,hq.gt,hq.lm,hq.bel⟩,?_,?_,h.ne,h.lx,h.lf,h.lu⟩
 ·exact(hc.block A.fb h.fl.lt (zb2 h.fl h.cells (by decide))).trans h.fl
 ·exact h.fu.kept (hc.block A.ub h.fu.lt (fun e=>zcp h.cells hm e.symm))
theorem XAt.isDone(h:XAt w0 w xb A x):XAt w0 (((((w.setCell ⟨xb,15,none⟩ (.bool true)).setCell ⟨xb,6,none⟩ (.int .u8 0)).setCell ⟨xb,7,none⟩ (.int .i64 0)).setCell ⟨xb,8,none⟩ (.int .i64 0)).setCell ⟨xb,9,none⟩ (.string ⟨#[]⟩)) xb A {x with dn:=true,ask:=zfr}:=by
 have h1:=h.set 15 (.bool true) (A':=A) (x':={x with dn:=true}) rfl ⟨rfl,rfl,rfl⟩ ⟨rfl,rfl,rfl,rfl,rfl⟩ (fun w2 h=>⟨h.fr,h.tt,h.nt,h.ln,h.gt,h.lm,h.bel⟩)
 have h2:=h1.asked zfr
 rw[show bs zfr.d=⟨#[]⟩ from bs_nil,show((zfr.k.toNat:Nat):Int)=0 from rfl,show zfr.e=0 from rfl,show zfr.q=0 from rfl] at h2
 exact h2
theorem zrq(h:XAt w0 w xb A x)(hkn:x.kn=false)(hn:x.net.length≤1000000000)(hq:x.sq<65536)(h2:Has E w0 2)(h4:Has E w0 4):
  Calls Tryz.prog 183 #[.pointer (some ⟨xb,0,none⟩)] w fun e w'=>e=.returned (.tuple #[])∧∃A',XAt w0 w' xb A' x.next:=by
 rw[XS.next_ask hkn]
 have c13:=h.cells.cs.2.2.2.2.2.2.2.2.2.2.2.2.2.1
 rw[hkn] at c13
 have AK:=hid (zwn (E:=E) 108 [] h hn hq h2 h4)
 rw[bs_nil,show(((108:UInt8).toNat:Nat):Int)=108 from rfl] at AK
 obtain⟨r,hr⟩:∃r,x.asks 108 []=r:=⟨_,rfl⟩
 rw[hr] at AK ⊢
 clear h hkn hn hq h2 h4 hr
 go_enter Tryz.func183,Tryz.ntmps183
 go_wp2_with fail
 refine AK.out.mono ?_
 rintro e w8⟨rfl,A',hA⟩
 have HA:=hid hA
 clear hA AK c13
 go_wp2_with fail
 go_returns
 exact⟨rfl,A',HA.out⟩
theorem zy4(h:XAt w0 w xb A x)(hkn:x.kn=true)(hn:x.net.length≤1000000000)(hq:x.sq<65536)(hold:∀n,(x.old n).length≤4000)(hln:LWF x.ln)(htt:FWF x.tt)(h2:Has E w0 2)(h4:Has E w0 4)(h5:Has E w0 5)(h8:Has E w0 8)(h9:Has E w0 9):
  Calls Tryz.prog 183 #[.pointer (some ⟨xb,0,none⟩)] w fun e w'=>e=.returned (.tuple #[])∧∃A',XAt w0 w' xb A' x.next:=by
 have HS:=hid (fun(c:Nat)(w':World)(b:Below w.heap.size w w')(hh:Has E w0 c)=>hh.below (zaa h.rest.bel b))
 have HX:=hid h
 have hxb:=lt_of_block h.cells
 have c1:=h.cells.cs.2.1
 have c12:=h.cells.cs.2.2.2.2.2.2.2.2.2.2.2.2.1
 have c13:=h.cells.cs.2.2.2.2.2.2.2.2.2.2.2.2.2.1
 rw[hkn] at c13
 have LI:=hid (zgf E x.tt A.vt w (SliceIs.ownedK h.rest.tt) htt.okx (HS.out 2 w (Below.refl _ _) h2) (HS.out 5 w (Below.refl _ _) h5) (HS.out 8 w (Below.refl _ _) h8) (HS.out 9 w (Below.refl _ _) h9) htt)
 have C12:=hid (fun(w':World)(b:Below w.heap.size w w')=>(h.below b).cells.cs.2.2.2.2.2.2.2.2.2.2.2.2.1)
 have PL:=hid (fun(w':World)(b:Below w.heap.size w w')(v:Value)(hv:SliceIs w' v 3 (zau (x.tt.map PF.line)))=>zo9 E x.ln (x.tt.map PF.line) A.vl v w' ((SliceIs.ownedK h.rest.ln).below b) hv hln htt.lines (HS.out 2 w' b h2) (HS.out 5 w' b h5) (HS.out 8 w' b h8) (HS.out 9 w' b h9))
 have PFI:=hid (fun s hs=>yec hln htt.lines (s:=s) hs)
 have WN:=hid (fun(w':World)(b:Below w.heap.size w w')(n:List UInt8)(hnm:n.length≤1000)=>ybz (E:=E) n (h.below b) hn hq (hold n) hnm h2 h4 h8)
 have hpl:=zh6 x.ln (x.tt.map PF.line)
 have hl1:=hln.few
 have hl2:=htt.few
 have NW:=hid (fun p hp j hj hno hk=>XS.next_want (x:=x) (p:=p) hp hkn (j:=j) hj hno hk)
 have ND:=hid (fun p hp hno=>XS.next_done (x:=x) (p:=p) hp hkn hno)
 rw[List.length_map] at hpl
 obtain⟨p,hp⟩:∃p,zb3 x.ln (x.tt.map PF.line)=p:=⟨_,rfl⟩
 rw[hp] at hpl PFI
 rw[hp] at PL
 have NW:=hid (fun j hj hno hk=>NW.out p hp j hj hno hk)
 have ND:=hid (ND.out p hp)
 have hpm:p.length≤40:=by omega
 obtain⟨xn,hxn⟩:∃xn,x.next=xn:=⟨_,rfl⟩
 rw[hxn] at NW ND ⊢
 clear hxn
 have TW:=hid (show ∀k,FWF (zb6 (p.take k) x.tt) from fun k=>htt.drops _)
 clear h h2 h4 h5 h8 h9 hkn hln htt hl1 hl2 hpl hp hn hq hold HS
 go_enter Tryz.func183,Tryz.ntmps183
 go_wp2_with fail
 refine LI.out.mono ?_
 rintro e w1⟨r1,rfl,o1,b1⟩
 have c12:=C12.out _ b1
 have S1:=hid (SliceIs.ownedK o1)
 have B1:=hid b1
 have PL1:=hid (PL.out _ b1 _ S1.out)
 clear LI PL c1 c13 o1 b1
 go_wp2_with fail
 refine PL1.out.mono ?_
 rintro e w2⟨r2,rfl,o2,b2⟩
 have B2:=hid (zaa B1.out b2)
 have hx1:xb<w1.heap.size:=Nat.lt_of_lt_of_le hxb B1.out.size
 have O2:=hid o2
 obtain⟨va,vc,rfl⟩:=zab o2
 clear c12 o2 b2 PL1 S1 B1 C12
 go_wp2_with fail
 go_loopw [39,6] (fun i _ wr=>∃k:Nat,i=.int .i64 k∧k≤p.length∧(∀i (hi:i<k) (hp:i<p.length),(p[i]'hp).k≠zaz)∧Below w2.heap.size w2 wr) (fun i _ _=>p.length - (intOf i).toNat)
 case atStart=>exact⟨0,rfl,by omega,fun i hi=>by omega,Below.refl _ _⟩
 case round=>
  obtain⟨k,rfl,hk,hno,bel⟩:=hrel
  by_cases hlt:k<p.length
  ·have hltI:(k:Int)<p.length:=by omega
   have SP:=hid (SliceIs.ownedK (zad O2.out bel))
   obtain⟨s',n',c',qe,_,_,_,g1⟩:=SP.out.get
   cases qe
   obtain⟨ad,rfl,dx⟩:=g1 _ _ (zf5 p k hlt).1
   clear dx g1
   obtain⟨d0,d1⟩:=zoe SP.out hlt
   obtain⟨hn12,hB⟩:=PFI.out _ (List.getElem_mem hlt)
   have y1:(0:Int)≤k:=by omega
   have y2:(k:Int).toNat=k:=by omega
   have KK:=hid (show k+1≤p.length from hlt)
   have BW:=hid bel
   have NWk:=hid (fun hk2=>NW.out k hlt (fun i hi=>hno i hi (by omega)) hk2)
   have NO:=hid (fun(h3:(p[k]'hlt).k≠zaz)=>show ∀i (hi:i<k+1) (hp:i<p.length),(p[i]'hp).k≠zaz from fun i hi hp=>by
    by_cases e:i=k
    ·subst e;exact h3
    ·exact hno i (by omega) hp)
   generalize p[k]'hlt=s at d0 d1 hB hn12 NWk NO
   obtain⟨K,n⟩:=s
   simp only[] at d0 d1 hB hn12 NWk NO
   clear bel hno SP
   rcases hB with rfl|rfl|rfl
   ·rw[zdw] at d0
    have WN1:=hid (fun(o:Obj)=>WN.out _ (zaa B2.out (BW.out.alloc BW.out.size o)) n (by omega))
    have NX:=hid (NWk.out rfl)
    clear NWk NO NW ND PFI
    rw[←NX.out] at WN1
    clear NX
    go_wp2_with fail
    refine(WN1.out _).mono ?_
    rintro e w8⟨rfl,A',hA⟩
    have HA:=hid hA
    clear hA WN1
    go_wp2_with fail
    go_returns
    exact⟨rfl,A',HA.out⟩
   ·rw[zkc] at d0
    have NN:=hid (NO.out (by decide))
    clear NWk NO
    go_wp2_with fail
    go_roundw
    case rel=>exact⟨k+1,by go_num,KK.out,NN.out,BW.out.alloc BW.out.size _⟩
    case measure=>simp[intOf];omega
   ·rw[zim] at d0
    have NN:=hid (NO.out (by decide))
    clear NWk NO
    go_wp2_with fail
    go_roundw
    case rel=>exact⟨k+1,by go_num,KK.out,NN.out,BW.out.alloc BW.out.size _⟩
    case measure=>simp[intOf];omega
  ·have hltI:¬(k:Int)<p.length:=by omega
   have NX:=hid (ND.out (fun i hi=>hno i (by omega) hi))
   have BW:=hid bel
   have SW:=hid (zad O2.out bel)
   have XW:=hid (HX.out.below (zaa B2.out bel))
   clear bel hno NW ND WN O2 HX B2
   go_wp2_with fail
   go_loopw [53,8] (fun i _ wr=>∃(k:Nat)(A1:XA),i=.int .i64 k∧k≤p.length∧XAt w0 wr xb A1 {x with tt:=zb6 (p.take k) x.tt}∧wr.ownsRow w1.heap.size 179 2 (.slice va p.length vc) p.length (zcw p)) (fun i _ _=>p.length - (intOf i).toNat)
   case atStart=>exact⟨0,A,rfl,by omega,XW.out,SW.out⟩
   case round=>
    clear SW XW BW
    obtain⟨k,A1,rfl,hk,xat,own⟩:=hrel
    by_cases hlt:k<p.length
    ·have hltI:(k:Int)<p.length:=by omega
     have SP:=hid (SliceIs.ownedK own)
     obtain⟨s',n',c',qe,_,_,_,g1⟩:=SP.out.get
     cases qe
     obtain⟨ad,rfl,dx⟩:=g1 _ _ (zf5 p k hlt).1
     clear dx g1
     obtain⟨d0,d1⟩:=zoe SP.out hlt
     obtain⟨hn12,hB⟩:=PFI.out _ (List.getElem_mem hlt)
     have y1:(0:Int)≤k:=by omega
     have y2:(k:Int).toNat=k:=by omega
     have KK:=hid (show k+1≤p.length from hlt)
     have HIT:=hid (fun e=>zv0 hlt e x.tt)
     have MISS:=hid (fun e=>zto hlt e x.tt)
     have WF:=hid (TW.out k)
     generalize p[k]'hlt=s at d0 d1 hB hn12 HIT MISS
     obtain⟨K,n⟩:=s
     simp only[] at d0 d1 hB hn12 HIT MISS
     generalize zb6 (p.take k) x.tt=L at *
     have XW:=hid xat
     have OW:=hid own
     clear xat own SP
     rcases hB with rfl|rfl|rfl
     ·have Y:=hid (MISS.out (by decide))
      rw[zdw] at d0
      clear HIT MISS
      go_wp2_with fail
      go_roundw
      case rel=>exact⟨k+1,A1,by go_num,KK.out,by rw[Y.out];exact XW.out.below (Below.alloc (Below.refl _ _) (Nat.le_refl _) _),OW.out.alloc _⟩
      case measure=>simp[intOf];omega
     ·have Y:=hid (MISS.out (by decide))
      rw[zkc] at d0
      clear HIT MISS
      go_wp2_with fail
      go_roundw
      case rel=>exact⟨k+1,A1,by go_num,KK.out,by rw[Y.out];exact XW.out.below (Below.alloc (Below.refl _ _) (Nat.le_refl _) _),OW.out.alloc _⟩
      case measure=>simp[intOf];omega
     ·have Y:=hid (HIT.out rfl)
      rw[zim] at d0
      clear HIT MISS
      have XA1:=hid (XW.out.below (Below.alloc (Below.refl _ _) (Nat.le_refl _) (.cells #[.string ⟨#[100,114,111,112]⟩,.string (bs n)] 179)))
      have OW1:=hid (OW.out.alloc (.cells #[.string ⟨#[100,114,111,112]⟩,.string (bs n)] 179))
      have q1:(wr.alloc (.cells #[.string ⟨#[100,114,111,112]⟩,.string (bs n)] 179)).cell? ⟨wr.heap.size,1,none⟩=some (.string (bs n)):=by simp
      clear XW OW
      go_wp2_with fail
      generalize wr.alloc (.cells #[.string ⟨#[100,114,111,112]⟩,.string (bs n)] 179)=W1 at *
      clear d0 d1
      have c1:=XA1.out.cells.cs.2.1
      have hfew:=WF.out.few
      have DR:=hid (fun(w':World)(b:Below W1.heap.size W1 w')=>zpa L A1.vt n w' ((SliceIs.ownedK XA1.out.rest.tt).below b) (by omega))
      have HSZ:=hid (XA1.out.rest.bel.size)
      go_region_law (go_simp;go_at_call 97;refine(DR.out _ (by first|exact Below.refl _ _|exact Below.drew (Below.refl _ _))).mono ?_;rintro e w8⟨r8,rfl,o8,b8⟩;have X8:=hid (XA1.out.drew.below b8);have cx8:=X8.out.cells.cs.2.1;have fx8:=X8.out.cells.fz 1;have O8:=hid o8;have B8:=hid b8;obtain⟨va8,vc8,rfl⟩:=zab o8)
      all_goals
       have RX:=hid (XAt.setTo X8.out O8.out (by have:=HSZ.out;simp;omega))
       have RO:=hid (zan (zad (zad OW1.out (Below.drew (Below.refl _ _))) B8.out) (XCell.chg w8 xb 1 (.slice va8 (zda L n).length vc8)) (fun z hz e=>by have:=ze1 OW1.out hz;omega))
       clear O8 B8 X8 OW1 XA1 DR cx8 fx8
       go_wp2_with fail
       go_roundw
       case rel=>exact⟨k+1,_,by go_num,KK.out,by rw[Y.out];exact RX.out,RO.out⟩
       case measure=>simp[intOf];omega
    ·have hltI:¬(k:Int)<p.length:=by omega
     rw[List.take_of_length_le (by omega)] at xat
     have XD:=hid xat.isDone
     have f6:=xat.cells.fz 6
     have f7:=xat.cells.fz 7
     have f8:=xat.cells.fz 8
     have f9:=xat.cells.fz 9
     have f15:=xat.cells.fz 15
     obtain⟨c0,c1,c2,c3,c4,c5,c6,c7,c8,c9,c10,c11,c12,c13,c14,c15⟩:=xat.cells.cs
     clear xat own c0 c1 c2 c3 c4 c5 c10 c11 c12 c13 c14
     go_wp2_with fail
     go_returns
     exact⟨rfl,A1,by rw[NX.out];exact XD.out⟩
theorem yb2(h:XAt w0 w xb A x)(hn:x.net.length≤1000000000)(hq:x.sq<65536)(hold:∀n,(x.old n).length≤4000)(hln:LWF x.ln)(htt:FWF x.tt)(h2:Has E w0 2)(h4:Has E w0 4)(h5:Has E w0 5)(h8:Has E w0 8)(h9:Has E w0 9):
  Calls Tryz.prog 183 #[.pointer (some ⟨xb,0,none⟩)] w fun e w'=>e=.returned (.tuple #[])∧∃A',XAt w0 w' xb A' x.next:=by
 cases hkn:x.kn with
 | false=>exact zrq h hkn hn hq h2 h4
 | true=>exact zy4 h hkn hn hq hold hln htt h2 h4 h5 h8 h9
end
inductive XW
 | all
 | one (n o d:List UInt8)
def sgT(o:List UInt8):List UInt8:=zla (zeu (za8 o.length) o) (za8 o.length)
def opO(o d:List UInt8):List POp:=zc1 (zeu (za8 o.length) o) (za8 o.length) d
def xrq(e q:Nat):XW→PFr
 | .all=>⟨108,e,q,[]⟩
 | .one n o d=>⟨103,e,q,XS.two n (sgT o)⟩
def xan(fr:List PF)(e q:Nat):XW→PFr
 | .all=>⟨109,e,q,zey (fr.map PF.line)⟩
 | .one n o d=>⟨111,e,q,XS.two n (dtL (opO o d))⟩
def xfm(fr:List PF)(b:Bool)(e q:Nat)(u:XW):PFr:=if b then xan fr e q u else xrq e q u
structure Small(l:List PF):Prop where
 wf:FWF l
 len:∀f∈l,f.d.length≤200
def XW.ok(fr:List PF):XW→Prop
 | .all=>True
 | .one n o d=>(⟨n,d⟩:PF)∈fr∧o.length≤200
theorem zos{o d:List UInt8}(ho:o.length≤200)(hd:d.length≤200):OkOut (opO o d) d.length:=by
 have hz:=zgr (o.length:Int)
 have hb:=zrj o (by omega)
 exact zlp _ _ _ (by omega) (by omega)
theorem yer{o d:List UInt8}(ho:o.length≤200)(hd:d.length≤200):(zb4 (opO o d)).1=0:=
 (zgi _).2 ((zos ho hd).chk (by omega))
theorem zmv{o d:List UInt8}(ho:o.length≤200)(hd:d.length≤200):¬20000<(zhm (opO o d)).length∧(zmu (opO o d)).length≤100000000:=
 zvc (by have:=(zos ho hd).1;omega) (by have:=(zos ho hd).2.1;omega)
theorem zxj{o d:List UInt8}(ho:o.length≤200)(hd:d.length≤200):dtC (opO o d)=(0,-1)∧dtL (opO o d)=zhm (opO o d):=ygy (yer ho hd) (zmv ho hd).1
theorem zxi{o d:List UInt8}(ho:o.length≤200)(hd:d.length≤200):zhh (dtL (opO o d))=(opO o d,0):=by
 rw[(zxj ho hd).2]
 exact zzp _ (yer ho hd) (by have:=(zos ho hd).1;omega) (zmv ho hd).1
theorem zp2{o:List UInt8}(ho:o.length≤200):zem (sgT o)=(zeu (za8 o.length) o,za8 o.length,0)∧(chk (zeu (za8 o.length) o) (za8 o.length)).1=0:=by
 have hz:=zgr (o.length:Int)
 have hc:=zly (za8 o.length) o (by omega) (by omega) (by omega)
 exact⟨yde _ _ (by rw[hc]) (ymz _ _),by rw[hc]⟩
theorem zle{a b:List UInt8}(ha:a.length≤20000)(hb:b.length≤20000):rtT (XS.two a b) 0=a∧rtR (XS.two a b) 0=num b.length++b∧rtC (XS.two a b) 0=0∧
  rtT (num b.length++b) 0=b∧rtR (num b.length++b) 0=[]∧rtC (num b.length++b) 0=0:=by
 obtain⟨p1,p2,p3⟩:=zrv a (num b.length++b) ha
 obtain⟨q1,q2,q3⟩:=zrv b [] hb
 rw[List.append_nil] at q1 q2 q3
 unfold XS.two
 exact⟨(zc7 _).1.trans p2,(zc7 _).2.1.trans p3,(zc7 _).2.2.trans p1,(zc7 _).1.trans q2,(zc7 _).2.1.trans q3,(zc7 _).2.2.trans q1⟩
theorem zpv(a b:List UInt8):(XS.two a b).length≤14+a.length+b.length:=by
 have h1:=zar a.length
 have h2:=zar b.length
 unfold XS.two
 simp only[List.length_append]
 omega
theorem zus{o:List UInt8}(ho:o.length≤200):(sgT o).length≤2000:=by
 have hz:=zgr (o.length:Int)
 have hb:=zrj o (by omega)
 have:=zr4 (zeu (za8 o.length) o) (za8 o.length) (by omega) (by omega)
 unfold sgT
 omega
theorem zs4{l:List PL}(h:LWF l):(zey l).length≤2000:=by
 have h1:=zow l (fun x hx=>((zbi _).1 (h.each x hx).1).2.1)
 have h2:=h.few
 have h3:=zar l.length
 rw[znk,List.length_append]
 omega
theorem zra{o d:List UInt8}(ho:o.length≤200)(hd:d.length≤200):(dtL (opO o d)).length≤19000:=by
 have h:=zos ho hd
 have:=zxh (opO o d)
 have:=zar (opO o d).length
 have h1:=h.1
 have h2:=h.2.1
 rw[(zxj ho hd).2,zln,List.length_append]
 omega
theorem Small.name{l:List PF}(h:Small l){f:PF}(hf:f∈l):f.n.length≤12:=((zbi _).1 (h.wf.each f hf).1).2.1
theorem ztg{fr:List PF}(h:Small fr){b:Bool}{e q:Nat}{u:XW}(hu:u.ok fr)(he:e≤2147483648)(hq:q<65536):frC (xfm fr b e q u)=0:=by
 have hl:=zs4 h.wf.lines
 cases u with
 | all=>
  cases b
  ·exact zj6 (by simp[xfm,xrq]) ⟨by simp[xfm,xrq];omega,by simp[xfm,xrq];omega,by simp[xfm,xrq]⟩
  ·exact zj6 (by simp[xfm,xan]) ⟨by simp[xfm,xan];omega,by simp[xfm,xan];omega,by simp only[xfm,xan,if_true];omega⟩
 | one n o d=>
  obtain⟨h1,h2⟩:=hu
  have hn:=h.name h1
  have hd:d.length≤200:=h.len _ h1
  have g1:=zpv n (sgT o)
  have g2:=zpv n (dtL (opO o d))
  have g3:=zus h2
  have g4:=zra h2 hd
  simp only[] at hn hd
  cases b
  ·exact zj6 (by simp[xfm,xrq]) ⟨by simp[xfm,xrq];omega,by simp[xfm,xrq];omega,by simp only[xfm,xrq,Bool.false_eq_true,if_false];omega⟩
  ·exact zj6 (by simp[xfm,xan]) ⟨by simp[xfm,xan];omega,by simp[xfm,xan];omega,by simp only[xfm,xan,if_true];omega⟩
theorem ygg(f:PFr)(q:Nat):zfe (XS.flip (frT f) q)=(zfr,10):=by
 have hl:0<(frT f).length:=by rw[ziw,List.length_append,zia];omega
 have h1:q % (8 * (frT f).length) / 8<(frT f).length:=by
  have:=Nat.mod_lt q (show 0<8 * (frT f).length by omega)
  omega
 unfold XS.flip
 rw[List.getElem?_eq_getElem h1]
 refine yk7 f _ _ h1 ?_
 have h8:q % (8 * (frT f).length) % 8<8:=Nat.mod_lt _ (by omega)
 generalize q % (8 * (frT f).length) % 8=r at h8
 have:r=0∨r=1∨r=2∨r=3∨r=4∨r=5∨r=6∨r=7:=by omega
 rcases this with rfl|rfl|rfl|rfl|rfl|rfl|rfl|rfl<;>decide
namespace XS
def plan(x:XS):List PS:=zb3 x.ln (x.tt.map PF.line)
def cur(x:XS):XW:=
 if x.kn=false then .all
 else match x.plan.find? (fun s=>s.k==zaz) with
  | some s=>.one s.n (x.old s.n) (zax x.fr s.n)
  | none=>.all
def need(x:XS)(f:PF):Nat:=if f.line∈x.tt.map PF.line then 0 else if x.fu.contains f.n then 1 else 2
def mu(x:XS):Nat:=if x.kn=false then 2 * x.fr.length+1 else (x.fr.map x.need).sum
end XS
theorem yqm{l:List PF}{a b:PF→Nat}(h:∀f∈l,a f≤b f):(l.map a).sum≤(l.map b).sum:=by
 induction l with
 | nil=>simp
 | cons f l ih=>
  have h1:=h f (by simp)
  have h2:=ih (fun g hg=>h g (by simp[hg]))
  simp only[List.map_cons,List.sum_cons]
  omega
theorem ycf{l:List PF}{a b:PF→Nat}(h:∀f∈l,a f≤b f){f:PF}(hf:f∈l)(hl:a f<b f):(l.map a).sum<(l.map b).sum:=by
 induction l with
 | nil=>simp at hf
 | cons g l ih=>
  have h1:=h g (by simp)
  simp only[List.map_cons,List.sum_cons]
  rcases List.mem_cons.1 hf with rfl|hf
  ·have h2:=yqm (fun g hg=>h g (List.mem_cons_of_mem _ hg))
   omega
  ·have h2:=ih (fun g hg=>h g (List.mem_cons_of_mem _ hg)) hf
   omega
theorem XS.need_le(x:XS)(f:PF):x.need f≤2:=by unfold XS.need;(repeat' split)<;>omega
theorem XS.needs_le(x:XS):(x.fr.map x.need).sum≤2 * x.fr.length:=by
 have:∀l:List PF,(l.map x.need).sum≤2 * l.length:=by
  intro l
  induction l with
  | nil=>simp
  | cons f l ih=>
   have:=x.need_le f
   simp only[List.map_cons,List.sum_cons,List.length_cons]
   omega
 exact this _
def XPk(x:XS)(p:List UInt8×Bool):Prop:=
 ∃(u:XW)(e q:Nat)(b:Bool),u.ok x.fr∧e≤x.ge∧q<65536∧(e=x.ge→q<x.sq∧(q+1=x.sq→x.dn=false→u=x.cur))∧
  (p=(frT (xfm x.fr b e q u),false)∨p.2=true∧∃k,p.1=XS.flip (frT (xfm x.fr b e q u)) k)
structure XInv(t0:List PF)(x:XS):Prop where
 fr:Small x.fr
 tt:Small x.tt
 near:∀g∈x.tt,g∈t0∨∃f∈x.fr,f.line=g.line∧(t0=[]→f=g)
 net:∀p∈x.net,XPk x p
 ep:x.ep=x.ge
 g1:1≤x.ge
 g2:x.ge≤2147483648
 sm:x.dn=false→x.sq+x.mu≤2 * x.fr.length+2
 s2:x.sq≤42
 age:x.age≤64∧(x.dn=false→(x.age:Int)<x.T)
 flow:zgm x.W x.L x.T x.G
 ln:x.kn=true→x.ln=x.fr.map PF.line
 l0:x.kn=false→x.ln=[]
 ask:x.dn=false→1≤x.sq∧x.ask=xrq x.ge (x.sq - 1) x.cur
 op:x.dn=false→x.kn=true→∃s,x.plan.find? (fun s=>s.k==zaz)=some s
 done:x.dn=true→x.tt.map PF.line=x.fr.map PF.line∧x.ask=zfr
 fl:x.dn=false→x.fu.length+1≤x.sq
def XPk0(x:XS)(p:List UInt8×Bool):Prop:=
 ∃(u:XW)(e q:Nat)(b:Bool),u.ok x.fr∧e≤x.ge∧q<65536∧(e=x.ge→q<x.sq)∧
  (p=(frT (xfm x.fr b e q u),false)∨p.2=true∧∃k,p.1=XS.flip (frT (xfm x.fr b e q u)) k)
structure XMid(t0:List PF)(x:XS):Prop where
 fr:Small x.fr
 tt:Small x.tt
 near:∀g∈x.tt,g∈t0∨∃f∈x.fr,f.line=g.line∧(t0=[]→f=g)
 net:∀p∈x.net,XPk0 x p
 ep:x.ep=x.ge
 g1:1≤x.ge
 g2:x.ge≤2147483648
 dn:x.dn=false
 sm:x.sq+x.mu≤2 * x.fr.length+1
 age:x.age≤64
 flow:zgm x.W x.L x.T x.G
 ln:x.kn=true→x.ln=x.fr.map PF.line
 l0:x.kn=false→x.ln=[]
 fl:x.fu.length≤x.sq
theorem XPk.mid{x:XS}{p:List UInt8×Bool}(h:XPk x p):XPk0 x p:=by
 obtain⟨u,e,q,b,h1,h2,h3,h4,h5⟩:=h
 exact⟨u,e,q,b,h1,h2,h3,fun he=>(h4 he).1,h5⟩
theorem Small.old{x:XS}(h:Small x.tt)(n:List UInt8):(x.old n).length≤200:=by
 unfold XS.old
 by_cases hf:x.fu.contains n=true
 ·rw[if_pos hf];simp
 ·rw[if_neg hf]
  cases hg:zaq x.tt n with
  | none=>simp
  | some d=>exact h.len _ (zbn hg)
theorem Small.old4{x:XS}(h:Small x.tt)(n:List UInt8):(x.old n).length≤4000:=by have:=h.old (x:=x) n;omega
theorem Small.getd{l:List PF}(h:Small l){f:PF}(hf:f∈l):zax l f.n=f.d:=by
 unfold zax
 rw[zej h.wf.sorted hf]
 rfl
theorem ycx{x:XS}(hf:Small x.fr)(ht:Small x.tt)(hl:x.ln=x.fr.map PF.line){s:PS}(hs:x.plan.find? (fun s=>s.k==zaz)=some s):
  ∃f∈x.fr,f.n=s.n∧f.line∉x.tt.map PF.line∧s.k=zaz:=by
 have P:=zgb hf.wf.lines.sorted ht.wf.lines.sorted
 have h1:=List.mem_of_find?_eq_some hs
 have h2:s.k=zaz:=by simpa using List.find?_some hs
 unfold XS.plan at h1
 rw[hl] at h1
 rcases P.of s h1 with⟨_,y,hy,e,hn⟩|⟨h,_⟩|⟨h,_⟩
 ·obtain⟨f,hf,rfl⟩:=List.mem_map.1 hy
  exact⟨f,hf,e,hn,h2⟩
 ·rw[h] at h2;exact absurd h2 (by decide)
 ·rw[h] at h2;exact absurd h2 (by decide)
theorem zv6{x:XS}(hk:x.kn=true){s:PS}(hs:x.plan.find? (fun s=>s.k==zaz)=some s):x.cur=.one s.n (x.old s.n) (zax x.fr s.n):=by
 unfold XS.cur
 rw[if_neg (by simp[hk]),hs]
theorem zrc{x:XS}(hk:x.kn=false):x.cur=.all:=by unfold XS.cur;rw[if_pos hk]
theorem zts{x:XS}(hf:Small x.fr)(ht:Small x.tt)(hl:x.kn=true→x.ln=x.fr.map PF.line):x.cur.ok x.fr:=by
 cases hk:x.kn with
 | false=>rw[zrc hk];exact trivial
 | true=>
  cases hs:x.plan.find? (fun s=>s.k==zaz) with
  | none=>
   unfold XS.cur
   rw[if_neg (by simp[hk]),hs]
   exact trivial
  | some s=>
   obtain⟨f,hf1,e,_⟩:=ycx hf ht (hl hk) hs
   rw[zv6 hk hs]
   refine⟨?_,ht.old _⟩
   rw[←e,hf.getd hf1]
   exact hf1
theorem zu5{x:XS}(hf:Small x.fr){b:Bool}{e q:Nat}{u:XW}(hu:u.ok x.fr)(he:e≤2147483648)(hq:q<65536):x.put (xfm x.fr b e q u)={x with net:=x.net++[(frT (xfm x.fr b e q u),false)]}:=XS.put_yes (ztg hf hu he hq)
theorem zy0{t0:List PF}{x:XS}(h:XMid t0 x)(hop:x.kn=true→∃s,x.plan.find? (fun s=>s.k==zaz)=some s):
  x.asks (xrq x.ge x.sq x.cur).k (xrq x.ge x.sq x.cur).d={x with net:=x.net++[(frT (xfm x.fr false x.ge x.sq x.cur),false)],ask:=xrq x.ge x.sq x.cur,sq:=x.sq+1,age:=0}∧
  XInv t0 {x with net:=x.net++[(frT (xfm x.fr false x.ge x.sq x.cur),false)],ask:=xrq x.ge x.sq x.cur,sq:=x.sq+1,age:=0}:=by
 have hfew:=h.fr.wf.few
 have hsm:=h.sm
 have hok:=zts h.fr h.tt h.ln
 have hT:=h.flow.2.2.2.2.1
 constructor
 ·have e1:(⟨(xrq x.ge x.sq x.cur).k,x.ep,x.sq,(xrq x.ge x.sq x.cur).d⟩:PFr)=xfm x.fr false x.ge x.sq x.cur:=by
   rw[h.ep]
   cases x.cur<;>rfl
  unfold XS.asks
  rw[e1]
  refine(zu5 (x:={x with ask:=_,sq:=_,age:=0}) h.fr hok h.g2 (by omega)).trans ?_
  have e2:(x.sq+1) % 65536=x.sq+1:=by omega
  rw[e2]
  rfl
 ·refine⟨h.fr,h.tt,h.near,?_,h.ep,h.g1,h.g2,fun _=>by show x.sq+1+x.mu≤2 * x.fr.length+2;omega,by show x.sq+1≤42;omega,⟨by show 0≤64;omega,fun _=>by show((0:Nat):Int)<x.T;omega⟩,h.flow,h.ln,h.l0,fun _=>⟨by show 1≤x.sq+1;omega,?_⟩,fun _=>hop,fun hd=>?_,fun _=>by show x.fu.length+1≤x.sq+1;have:=h.fl;omega⟩
  ·intro p hp
   rcases List.mem_append.1 hp with hp|hp
   ·obtain⟨u,e,q,b,h1,h2,h3,h4,h5⟩:=h.net p hp
    exact⟨u,e,q,b,h1,h2,h3,fun he=>⟨by have:=h4 he;show q<x.sq+1;omega,fun hq=>by have:=h4 he;have hq:q+1=x.sq+1:=hq;omega⟩,h5⟩
   ·have:p=(frT (xfm x.fr false x.ge x.sq x.cur),false):=by simpa using hp
    exact⟨x.cur,x.ge,x.sq,false,hok,Nat.le_refl _,by omega,fun _=>⟨by show x.sq<x.sq+1;omega,fun _ _=>rfl⟩,.inl this⟩
  ·show xrq x.ge x.sq x.cur=xrq x.ge (x.sq+1 - 1) x.cur
   rw[Nat.add_sub_cancel]
  ·have hd:x.dn=true:=hd
   rw[h.dn] at hd
   cases hd
theorem zlo{t0:List PF}{x:XS}(h:XMid t0 x):XInv t0 x.next∧(x.next.dn=true∨x.next.mu=x.mu)∧x.next.fr=x.fr∧x.next.ge=x.ge∧x.next.net.length≤x.net.length+1∧x.net.length≤x.next.net.length:=by
 cases hk:x.kn with
 | false=>
  have e:x.next=x.asks (xrq x.ge x.sq x.cur).k (xrq x.ge x.sq x.cur).d:=by rw[XS.next_ask hk,zrc hk];rfl
  obtain⟨h1,h2⟩:=zy0 h (fun e=>by rw[hk] at e;cases e)
  rw[e,h1]
  exact⟨h2,.inr rfl,rfl,rfl,by simp,by simp⟩
 | true=>
  cases hs:x.plan.find? (fun s=>s.k==zaz) with
  | some s=>
   have e:x.next=x.asks (xrq x.ge x.sq x.cur).k (xrq x.ge x.sq x.cur).d:=by
    unfold XS.next
    rw[if_neg (by simp[hk])]
    unfold XS.plan at hs
    rw[hs]
    rw[zv6 hk (by unfold XS.plan;exact hs)]
    rfl
   obtain⟨h1,h2⟩:=zy0 h (fun _=>⟨s,hs⟩)
   rw[e,h1]
   exact⟨h2,.inr rfl,rfl,rfl,by simp,by simp⟩
  | none=>
   have e:x.next={x with tt:=zb6 x.plan x.tt,dn:=true,ask:=zfr}:=by
    unfold XS.next
    rw[if_neg (by simp[hk])]
    unfold XS.plan at hs
    rw[hs]
    rfl
   have hsub:∀f∈zb6 x.plan x.tt,f∈x.tt:=fun f hf=>((zg1 _ _ _).1 hf).1
   have hno:∀s∈x.plan,s.k≠zaz:=by
    intro s hs'
    have:=List.find?_eq_none.1 hs s hs'
    simpa using this
   have hput:zjp x.fr x.plan (zb6 x.plan x.tt)=zb6 x.plan x.tt:=by
    have:∀(q:List PS)(l:List PF),(∀s∈q,s.k≠zaz)→zjp x.fr q l=l:=by
     intro q
     induction q with
     | nil=>intro l _;rfl
     | cons s q ih=>
      intro l hq
      unfold zjp
      rw[List.foldl_cons,if_neg (hq s (by simp))]
      exact ih l (fun s hs=>hq s (by simp[hs]))
    exact this _ _ hno
   have hkeep:=yj8 h.fr.wf h.tt.wf
   rw[←h.ln hk] at hkeep
   have hpl:zb3 x.ln (x.tt.map PF.line)=x.plan:=rfl
   rw[hpl,hput] at hkeep
   have hfew:=h.fr.wf.few
   have hsm:=h.sm
   rw[e]
   refine⟨⟨h.fr,⟨h.tt.wf.drops _,fun f hf=>h.tt.len f (hsub f hf)⟩,fun g hg=>h.near g (hsub g hg),?_,h.ep,h.g1,h.g2,fun hd=>(by cases hd),by show x.sq≤42;omega,⟨h.age,fun hd=>(by cases hd)⟩,h.flow,h.ln,h.l0,fun hd=>(by cases hd),fun hd=>(by cases hd),fun _=>⟨by rw[h.ln hk] at hkeep;exact hkeep,rfl⟩,fun hd=>(by cases hd)⟩,.inl rfl,rfl,rfl,by simp,by simp⟩
   intro p hp
   obtain⟨u,e,q,b,h1,h2,h3,h4,h5⟩:=h.net p hp
   exact⟨u,e,q,b,h1,h2,h3,fun he=>⟨h4 he,fun _ hd=>(by cases hd)⟩,h5⟩
theorem yq5{f g:PF}(h:f.line=g.line):f.n=g.n:=congrArg PL.n h
theorem yod{n v:List UInt8}{f:PF}(hn:f.n=n)(h1:v.length=f.d.length)(h2:za5 v=za5 f.d):(⟨n,v⟩:PF).line=f.line:=by
 unfold PF.line
 simp only[hn,h1,h2]
theorem ygi{fr:List PF}(hf:FWF fr){f:PF}(h:f∈fr):(fr.map PF.line).find? (fun y=>y.n==f.n)=some f.line:=by
 cases e:(fr.map PF.line).find? (fun y=>y.n==f.n) with
 | none=>
  have:=List.find?_eq_none.1 e f.line (List.mem_map_of_mem h)
  exact absurd (show(f.n==f.n)=true by simp) this
 | some y=>
  have h1:=List.mem_of_find?_eq_some e
  have h2:y.n=f.n:=by simpa using List.find?_some e
  rw[Srt.inj hf.lines.sorted h1 (List.mem_map_of_mem h) h2]
theorem zwq(old:List UInt8)(size:Int)(l:List POp)(n c:Int):
  (whC old size l n c).1≠0∨(whC old size l n c).1=0∧((whL old size l n c).length:Int)=n∧(za5 (whL old size l n c):Int)=c:=by
 by_cases h:(whC old size l n c).1=0
 ·refine .inr ⟨h,?_⟩
  by_cases h1:(zgn old size l).1.1=0
  ·by_cases h2:((zgn old size l).2.length:Int)=n∧(za5 (zgn old size l).2:Int)=c
   ·rw[(zun h1 h2).2];exact h2
   ·rw[(yl1 h1 h2).1] at h;cases h
  ·rw[(yl2 h1).1] at h;exact absurd h h1
 ·exact .inl h
theorem yeq{d:List UInt8}(hd:d.length≤200):(whC [] (za8 (([]:List UInt8).length:Int)) (opO [] d) (d.length:Nat) (za5 d:Nat)).1=0∧whL [] (za8 (([]:List UInt8).length:Int)) (opO [] d) (d.length:Nat) (za5 d:Nat)=d:=by
 have h:=yb8 d (za8 (([]:List UInt8).length:Int)) (by have:=zgr (([]:List UInt8).length:Int);omega) (by have:=zgr (([]:List UInt8).length:Int);omega) (by omega)
 have e:opO [] d=zc1 [] (za8 (([]:List UInt8).length:Int)) d:=by
  unfold opO
  have:zeu (za8 (([]:List UInt8).length:Int)) []=[]:=by
   apply List.eq_nil_of_length_eq_zero
   rw[ze5]
   have:=zgr (([]:List UInt8).length:Int)
   unfold zc8
   exact Nat.div_eq_of_lt (by simp only[List.length_nil] at this ⊢;omega)
  rw[this]
 rw[e]
 have hw:=zun (old:=[]) (size:=(za8 (([]:List UInt8).length:Int):Nat)) (l:=zc1 [] (za8 (([]:List UInt8).length:Int)) d) (n:=(d.length:Nat)) (c:=(za5 d:Nat)) (by rw[h]) (by rw[h];exact⟨rfl,rfl⟩)
 rw[hw.1,hw.2,h]
 exact⟨rfl,rfl⟩
section
variable{t0:List PF}{x:XS}
theorem yiw{g:PF}(h:g∈x.room):g∈x.tt:=by
 unfold XS.room at h
 by_cases h2:20≤x.tt.length
 ·rw[if_pos h2] at h;exact(List.mem_filter.1 h).1
 ·rw[if_neg h2] at h;exact h
theorem yix{g:PF}(hg:g∈x.tt)(hl:∃y∈x.ln,y.n=g.n):g∈x.room:=by
 unfold XS.room
 by_cases h2:20≤x.tt.length
 ·rw[if_pos h2]
  refine List.mem_filter.2 ⟨hg,?_⟩
  obtain⟨y,hy,e⟩:=hl
  exact List.any_eq_true.2 ⟨y,hy,by simp[e]⟩
 ·rw[if_neg h2];exact hg
theorem ynp(h:FWF x.tt):FWF x.room:=by
 unfold XS.room
 by_cases h2:20≤x.tt.length
 ·rw[if_pos h2];exact h.filter _
 ·rw[if_neg h2];exact h
theorem zw4(ht:FWF x.tt)(hl:LWF x.ln){n v:List UInt8}(hn:∃y∈x.ln,y.n=n)(hv:v.length≤4000):FWF (zal x.room n v)∧(putF x.room n v).1=0:=by
 have hr:=ynp ht
 have hnb:zbc n=true:=by obtain⟨y,hy,rfl⟩:=hn;exact(hl.each y hy).1
 have hlen:(zal x.room n v).length≤20:=by
  by_cases h2:20≤x.tt.length
  ·have hsub:∀m∈(zal x.room n v).map PF.n,m∈x.ln.map PL.n:=by
    intro m hm
    obtain⟨g,hg,rfl⟩:=List.mem_map.1 hm
    rcases zfn _ _ _ _ hg with rfl|hg
    ·obtain⟨y,hy,e⟩:=hn
     exact List.mem_map.2 ⟨y,hy,e⟩
    ·unfold XS.room at hg
     rw[if_pos h2] at hg
     obtain⟨y,hy,e⟩:=List.any_eq_true.1 (List.mem_filter.1 hg).2
     exact List.mem_map.2 ⟨y,hy,by simpa using e⟩
   have:=zsv (zm1 (zhr n v hr.sorted)) hsub
   have hf:=hl.few
   simp only[List.length_map] at this
   omega
  ·have:=ztj x.room n v
   have hroom:x.room=x.tt:=by unfold XS.room;rw[if_neg h2]
   rw[hroom] at this ⊢
   omega
 have hp:=hr.put hnb hv hlen
 exact⟨hp,by rw[zqj ((zbd _).2 hr)];exact(zbd _).2 hp⟩
theorem ykn{z:XS}{n o d:List UInt8}(hn:n.length≤12)(ho:o.length≤200)(hd:d.length≤200){y:PL}(hy:z.ln.find? (fun y=>y.n==n)=some y):z.given (XS.two n (dtL (opO o d)))=z.gave n (opO o d) y:=by
 obtain⟨p1,p2,p3,q1,q2,q3⟩:=zle (a:=n) (b:=dtL (opO o d)) (by omega) (by have:=zra ho hd;omega)
 unfold XS.given
 rw[p1,p2,p3,q1,q2,q3,ze0,zxi ho hd]
 simp[hy]
theorem ykp{z:XS}(hfr:Small z.fr)(htt:Small z.tt)(hnear:∀g∈z.tt,g∈t0∨∃f∈z.fr,f.line=g.line∧(t0=[]→f=g))(hln:z.ln=z.fr.map PF.line){f0:PF}(hf0:f0∈z.fr)(hno:f0.line∉z.tt.map PF.line):
  Small (z.gave f0.n (opO (z.old f0.n) f0.d) f0.line).tt∧(∀g∈(z.gave f0.n (opO (z.old f0.n) f0.d) f0.line).tt,g∈t0∨∃f∈z.fr,f.line=g.line∧(t0=[]→f=g))∧
  (z.gave f0.n (opO (z.old f0.n) f0.d) f0.line={z with fu:=(z.gave f0.n (opO (z.old f0.n) f0.d) f0.line).fu,tt:=(z.gave f0.n (opO (z.old f0.n) f0.d) f0.line).tt})∧
  (z.fr.map (z.gave f0.n (opO (z.old f0.n) f0.d) f0.line).need).sum<(z.fr.map z.need).sum∧(z.gave f0.n (opO (z.old f0.n) f0.d) f0.line).fu.length≤z.fu.length+1:=by
 have hd:=hfr.len _ hf0
 have ho:=htt.old (x:=z) f0.n
 rcases zwq (z.old f0.n) (za8 (z.old f0.n).length) (opO (z.old f0.n) f0.d) f0.line.N f0.line.S with hw|⟨hw,v1,v2⟩
 ·have e:z.gave f0.n (opO (z.old f0.n) f0.d) f0.line={z with fu:=f0.n::z.fu}:=by
   unfold XS.gave
   rw[if_pos hw]
  have hnf:z.fu.contains f0.n=false:=by
   cases hc:z.fu.contains f0.n with
   | false=>rfl
   | true=>
    exfalso
    have hold:z.old f0.n=[]:=by unfold XS.old;rw[if_pos hc]
    rw[hold] at hw
    exact hw (yeq hd).1
  rw[e]
  refine⟨htt,hnear,rfl,ycf (fun g hg=>?_) hf0 ?_,Nat.le_refl _⟩
  ·show(if g.line∈z.tt.map PF.line then 0 else if (f0.n::z.fu).contains g.n then 1 else 2)≤(if g.line∈z.tt.map PF.line then 0 else if z.fu.contains g.n then 1 else 2)
   by_cases h1:g.line∈z.tt.map PF.line
   ·rw[if_pos h1,if_pos h1];omega
   ·rw[if_neg h1,if_neg h1]
    by_cases h2:z.fu.contains g.n=true
    ·rw[if_pos h2,if_pos (by rw[List.contains_cons,h2];simp)];omega
    ·rw[if_neg h2]
     split<;>omega
  ·show(if f0.line∈z.tt.map PF.line then 0 else if (f0.n::z.fu).contains f0.n then 1 else 2)<(if f0.line∈z.tt.map PF.line then 0 else if z.fu.contains f0.n then 1 else 2)
   rw[if_neg hno,if_neg hno,if_pos (by simp),if_neg (by rw[hnf];simp)]
   omega
 ·have hln':LWF z.ln:=by rw[hln];exact hfr.wf.lines
  have hy:∃y∈z.ln,y.n=f0.n:=⟨f0.line,by rw[hln];exact List.mem_map_of_mem hf0,rfl⟩
  obtain⟨v,hv⟩:∃v,whL (z.old f0.n) (za8 (z.old f0.n).length) (opO (z.old f0.n) f0.d) f0.line.N f0.line.S=v:=⟨_,rfl⟩
  rw[hv] at v1 v2
  have l1:v.length=f0.d.length:=by
   have:((v.length:Nat):Int)=(f0.d.length:Nat):=v1
   omega
  have l2:za5 v=za5 f0.d:=by
   have:((za5 v:Nat):Int)=(za5 f0.d:Nat):=v2
   omega
  obtain⟨hp1,hp2⟩:=zw4 htt.wf hln' hy (v:=v) (by omega)
  have e:z.gave f0.n (opO (z.old f0.n) f0.d) f0.line={z with tt:=zal z.room f0.n v}:=by
   unfold XS.gave
   rw[if_neg (by rw[hw];simp),hv,if_pos hp2]
  have hlv:(⟨f0.n,v⟩:PF).line=f0.line:=yod rfl l1 l2
  have hmem:∀g∈zal z.room f0.n v,g=⟨f0.n,v⟩∨g∈z.tt:=fun g hg=>by
   rcases zfn _ _ _ _ hg with h|h
   ·exact .inl h
   ·exact .inr (yiw h)
  rw[e]
  refine⟨⟨hp1,fun g hg=>?_⟩,fun g hg=>?_,rfl,ycf (fun g hg=>?_) hf0 ?_,Nat.le_succ _⟩
  ·rcases hmem g hg with rfl|h
   ·show v.length≤200;omega
   ·exact htt.len g h
  ·rcases hmem g hg with rfl|h
   ·refine .inr ⟨f0,hf0,hlv.symm,fun h0=>?_⟩
    have hold:z.old f0.n=[]:=by
     have hg:zaq z.tt f0.n=none:=by
      cases hg:zaq z.tt f0.n with
      | none=>rfl
      | some d0=>
       exfalso
       have hm:=zbn hg
       rcases hnear _ hm with h1|⟨f,hf,h1,h2⟩
       ·rw[h0] at h1;cases h1
       ·have h3:=h2 h0
        have h4:f=f0:=Sr.inj hfr.wf.sorted hf hf0 (by rw[h3])
        rw[←h4] at hno
        exact hno (List.mem_map.2 ⟨_,hm,h1.symm⟩)
     unfold XS.old
     rw[hg]
     split<;>rfl
    rw[hold] at hv
    have:=(yeq hd).2.symm.trans hv
    rw[←this]
   ·exact hnear g h
  ·show(if g.line∈(zal z.room f0.n v).map PF.line then 0 else if z.fu.contains g.n then 1 else 2)≤(if g.line∈z.tt.map PF.line then 0 else if z.fu.contains g.n then 1 else 2)
   by_cases h0:g.n=f0.n
   ·have:g=f0:=Sr.inj hfr.wf.sorted hg hf0 h0
    subst this
    have:g.line∈(zal z.room g.n v).map PF.line:=List.mem_map.2 ⟨_,zti _ _ _,hlv⟩
    rw[if_pos this];omega
   ·by_cases h1:g.line∈z.tt.map PF.line
    ·have:g.line∈(zal z.room f0.n v).map PF.line:=by
      obtain⟨c,hc,ec⟩:=List.mem_map.1 h1
      have hcn:=yq5 ec
      refine List.mem_map.2 ⟨c,zvs (yix hc ⟨g.line,by rw[hln];exact List.mem_map_of_mem hg,hcn.symm⟩) (by rw[hcn];exact h0),ec⟩
     rw[if_pos this];omega
    ·rw[if_neg h1]
     by_cases h3:g.line∈(zal z.room f0.n v).map PF.line
     ·rw[if_pos h3];omega
     ·rw[if_neg h3];omega
  ·have:f0.line∈(zal z.room f0.n v).map PF.line:=List.mem_map.2 ⟨_,zti _ _ _,hlv⟩
   show(if f0.line∈(zal z.room f0.n v).map PF.line then 0 else if z.fu.contains f0.n then 1 else 2)<(if f0.line∈z.tt.map PF.line then 0 else if z.fu.contains f0.n then 1 else 2)
   rw[if_neg hno,if_pos this]
   split<;>omega
def XS.took(x:XS):XS:=if (xan x.fr x.ge (x.sq - 1) x.cur).k=109 then XS.listed (xan x.fr x.ge (x.sq - 1) x.cur).d x.good else XS.given (xan x.fr x.ge (x.sq - 1) x.cur).d x.good
theorem yib(h:XInv t0 x)(hk:x.kn=false):x.took={x.good with ln:=x.fr.map PF.line,kn:=true}:=by
 unfold XS.took
 rw[zrc hk]
 show XS.listed (zey (x.fr.map PF.line)) x.good=_
 unfold XS.listed
 rw[zmf _ h.fr.wf.lines (znb _)]
 rfl
theorem zpw(h:XInv t0 x)(hd:x.dn=false)(hk:x.kn=true):∃f0∈x.fr,f0.line∉x.tt.map PF.line∧x.cur=.one f0.n (x.old f0.n) f0.d∧x.took=x.good.gave f0.n (opO (x.old f0.n) f0.d) f0.line:=by
 obtain⟨s,hs⟩:=h.op hd hk
 obtain⟨f0,hf0,hn,hno,_⟩:=ycx h.fr h.tt (h.ln hk) hs
 have hc:=zv6 hk hs
 rw[←hn,h.fr.getd hf0] at hc
 refine⟨f0,hf0,hno,hc,?_⟩
 unfold XS.took
 rw[hc]
 show XS.given (XS.two f0.n (dtL (opO (x.old f0.n) f0.d))) x.good=_
 exact ykn (h.fr.name hf0) (h.tt.old _) (h.fr.len _ hf0) (by show x.ln.find? _=_;rw[h.ln hk];exact ygi h.fr.wf hf0)
theorem zl7(h:XInv t0 x)(hd:x.dn=false):XMid t0 x.took∧x.took.mu<x.mu∧x.took.net=x.net∧x.took.ge=x.ge∧x.took.fr=x.fr:=by
 have hsm:=h.sm hd
 have hfew:=h.fr.wf.few
 have hflow:=yos h.flow
 cases hk:x.kn with
 | false=>
  have hmu:x.mu=2 * x.fr.length+1:=by unfold XS.mu;rw[if_pos hk]
  rw[yib h hk]
  have hlt:XS.mu {x.good with ln:=x.fr.map PF.line,kn:=true}<x.mu:=by
   rw[hmu]
   have:=XS.needs_le {x.good with ln:=x.fr.map PF.line,kn:=true}
   unfold XS.mu
   rw[if_neg (by simp)]
   have e:(XS.fr {x.good with ln:=x.fr.map PF.line,kn:=true}).length=x.fr.length:=rfl
   omega
  refine⟨⟨h.fr,h.tt,h.near,fun p hp=>(h.net p hp).mid,h.ep,h.g1,h.g2,hd,?_,h.age.1,hflow,fun _=>rfl,fun hk=>(by cases hk),by show x.fu.length≤x.sq;have:=h.fl hd;omega⟩,hlt,rfl,rfl,rfl⟩
  show x.sq+_≤2 * x.fr.length+1
  omega
 | true=>
  obtain⟨f0,hf0,hno,hc,ht⟩:=zpw h hd hk
  obtain⟨g1,g2,g3,g4,g5⟩:=ykp (t0:=t0) (z:=x.good) h.fr h.tt h.near (h.ln hk) hf0 hno
  have hold:x.good.old f0.n=x.old f0.n:=rfl
  rw[hold,←ht] at g1 g2 g3 g4 g5
  have hmu:x.mu=(x.fr.map x.need).sum:=by unfold XS.mu;rw[if_neg (by simp[hk])]
  have hkn:x.took.kn=true:=by rw[g3];exact hk
  have hfr:x.took.fr=x.fr:=by rw[g3];rfl
  have hmu2:x.took.mu=(x.fr.map x.took.need).sum:=by unfold XS.mu;rw[if_neg (by simp[hkn]),hfr]
  have e5:(x.good.fr.map x.good.need).sum=(x.fr.map x.need).sum:=rfl
  have e6:(x.good.fr.map x.took.need).sum=(x.fr.map x.took.need).sum:=rfl
  have hlt:x.took.mu<x.mu:=by rw[hmu,hmu2];omega
  have hge:x.took.ge=x.ge:=by rw[g3];rfl
  have hsq:x.took.sq=x.sq:=by rw[g3];rfl
  have hnet:x.took.net=x.net:=by rw[g3];rfl
  have hW:x.took.W=x.good.W∧x.took.L=x.good.L∧x.took.T=x.good.T∧x.took.G=x.good.G:=by rw[g3];exact⟨rfl,rfl,rfl,rfl⟩
  refine⟨⟨by rw[hfr];exact h.fr,g1,by rw[hfr];exact g2,fun p hp=>?_,by rw[hge,g3];exact h.ep,by rw[hge];exact h.g1,by rw[hge];exact h.g2,by rw[g3];exact hd,?_,by rw[g3];exact h.age.1,by rw[hW.1,hW.2.1,hW.2.2.1,hW.2.2.2];exact hflow,fun _=>by rw[hfr,g3];exact h.ln hk,fun hf=>(by rw[hkn] at hf;cases hf),?_⟩,hlt,hnet,hge,hfr⟩
  ·rw[hnet] at hp
   have:=(h.net p hp).mid
   unfold XPk0 at this ⊢
   rw[hge,hsq,hfr]
   exact this
  ·rw[hsq,hfr];omega
  ·rw[hsq];have:=h.fl hd;have e:x.good.fu.length=x.fu.length:=rfl;omega
end
end Go.Proofs.YtakhkcaihhpehaaGreatDoor
