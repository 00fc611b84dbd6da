/- Texts of one proof, one behind the other: DocAct, DocSend, DocMark, DocSize. -/
import Derived.Test.YtakhkcaihhpehaaGreatDoorB46
import Derived.Test.YtakhkcaihhpehaaGreatDoorB38
import Derived.Test.YtakhkcaihhpehaaGreatDoorB41
import Derived.Test.YtakhkcaihhpehaaGreatDoorB39
import Derived.Test.YtakhkcaihhpehaaGreatDoorB48
import Derived.Test.YtakhkcaihhpehaaGreatDoorB27
namespace Go.Proofs.YtakhkcaihhpehaaGreatDoor
open Go.RowKit
open Lib (hid)
set_option linter.unusedVariables false
set_option maxRecDepth 100000
set_option maxHeartbeats 51200000
section
variable{w0 w w':World}{B mb:Nat}{A:DmA}{s:SP}
attribute [local irreducible] SP.nums nmL
theorem yi8(d:List UInt8)(n:Nat)(v:Value)(h:DmAt w0 w B mb A s)(hI:SInv s)(hv:w.ownsRow B 9 1 v n (zbw [[99,117,116],d]))(hd:d.length≤1000)(hlt:∀n,nmL 6 d=some n→n≤1000000):
  Calls Tryz.prog 15 #[.pointer (some ⟨mb,0,none⟩),v] w (DAns w0 w B mb (s.cut d)):=by
 obtain⟨ad,c,rfl,rfl,hb,g⟩:=zbk hv (by simp)
 have d0:=g 0 _ rfl
 have d1:=g 1 _ rfl
 rw[zdy] at d0
 rw[zlc] at d1
 have HX:=hid h
 have c3:=h.cs.1.2.2.2
 have NU:=hid (zck (bs d) 6 w (by omega) (by rw[zae];omega))
 rw[zai] at NU
 have ST:=hid (fun(x:Int)(hx:x≤9223372036854775807)=>zuw A.tb s.tp x w h.tp hx)
 clear hv g hb h hI
 have k0:=zbj [99,117,116] [115,101,110,100] (by decide)
 have k1:=zc3 [99,117,116] [99,117,116] (by decide)
 cases hx:nmL 6 d with
 | none=>
  have hq:s.cut d=(s,[],1):=by unfold SP.cut;rw[hx]
  rw[hq]
  rw[zdc hx] at NU
  clear hx hq ST
  go_enter Tryz.func15,Tryz.ntmps15
  go_wp2_with fail
  refine NU.out.mono ?_
  rintro e w1⟨rfl,rfl⟩
  clear NU
  go_wp2_with fail
  go_returns
  exact DAns.same HX.out (Below.refl _ _) (by rw[bs_nil];rfl)
 | some m=>
  have hq:s.cut d=({s with tp:=ctT s.tp m},zg2,ctC s.tp m):=by unfold SP.cut;rw[hx]
  rw[hq]
  rw[zdp hx] at NU
  have hm:=hlt m hx
  have m0:¬(m:Int)<0:=by omega
  have ST1:=hid (ST.out m (by omega))
  clear hx hq ST
  go_enter Tryz.func15,Tryz.ntmps15
  go_wp2_with fail
  refine NU.out.mono ?_
  rintro e w1⟨rfl,rfl⟩
  clear NU
  go_wp2_with fail
  refine ST1.out.mono ?_
  rintro e w2⟨rfl,ht⟩
  have HP:=hid (HX.out.tape ht)
  have CH:=hid (show Chg w w2 (fun x=>x<B) from ht.2.more (fun x _ e=>show x<B from by subst e;exact HX.out.lt.2))
  clear ht ST1
  go_wp2_with fail
  go_returns
  exact⟨by unfold zg2 bs;rfl,⟨_,HP.out⟩,CH.out⟩
theorem zz2(nm d:List UInt8)(n:Nat)(v:Value)(h:DmAt w0 w B mb A s)(hI:SInv s)(hv:w.ownsRow B 9 1 v n (zbw [[97,100,109,105,116],nm,d]))(hd:d.length≤1000):
  Calls Tryz.prog 15 #[.pointer (some ⟨mb,0,none⟩),v] w (DAns w0 w B mb (s.admits nm d)):=by
 obtain⟨ad,c,rfl,rfl,hb,g⟩:=zbk hv (by simp)
 have d0:=g 0 _ rfl
 have d1:=g 1 _ rfl
 rw[zdy] at d0
 rw[zlc] at d1
 have HX:=hid h
 have d2:=g 2 _ rfl
 rw[ylv] at d2
 have c2:=h.cs.1.2.2.1
 have NU:=hid (zck (bs d) 6 w (by omega) (by rw[zae];omega))
 rw[zai] at NU
 have hfew:=h.gw.few
 have AD:=hid (fun(x:Int)(k:Nat)=>zuy nm x (h.below (zac (Below.refl _ w) k)).gt (by omega))
 have EE:=hid (fun x=>(yil h.gp h.gw.srt.nodup nm x).2.2)
 clear hv g hb h hI
 have k0:=zbj [97,100,109,105,116] [115,101,110,100] (by decide)
 have k1:=zbj [97,100,109,105,116] [99,117,116] (by decide)
 have k2:=zc3 [97,100,109,105,116] [97,100,109,105,116] (by decide)
 cases hx:nmL 6 d with
 | none=>
  have hq:s.admits nm d=(s,[],1):=by unfold SP.admits;rw[hx]
  rw[hq]
  rw[zdc hx] at NU
  clear hx hq AD
  go_enter Tryz.func15,Tryz.ntmps15
  go_wp2_with fail
  refine NU.out.mono ?_
  rintro e w1⟨rfl,rfl⟩
  clear NU
  go_wp2_with fail
  go_returns
  exact DAns.same HX.out (Below.refl _ _) (by rw[bs_nil];rfl)
 | some m=>
  have hq:s.admits nm d=(s,zg2,adC s.gm nm m):=by unfold SP.admits;rw[hx]
  rw[hq]
  rw[zdp hx] at NU
  have m0:¬(m:Int)<0:=by omega
  have AD1:=hid (AD.out m)
  rw[EE.out]
  clear hx hq AD EE
  go_enter Tryz.func15,Tryz.ntmps15
  go_wp2_with fail
  refine NU.out.mono ?_
  rintro e w1⟨rfl,rfl⟩
  clear NU
  go_wp2_with fail
  go_quiet ((go_at_call 37;exact Calls.quiet_of_same ((AD1.out _).mono (fun e w2 h=>And.intro h.1 h.2.symm))))
  go_wp2_with fail
  go_returns
  exact DAns.same HX.out (zac (Below.refl _ _) _) (by unfold zg2 bs;rfl)
end
section
variable{w0 w w':World}{B mb:Nat}{A:DmA}{s:SP}
attribute [local irreducible] SP.nums nmL
theorem ydt(ws:List (List UInt8))(n:Nat)(v:Value)(h:DmAt w0 w B mb A s)(hI:SInv s)(hv:w.ownsRow B 9 1 v n (zbw ([115,101,110,100]::ws)))(hl:ws.length≤1000)(hw:∀x∈ws,x.length≤1000):
  Calls Tryz.prog 15 #[.pointer (some ⟨mb,0,none⟩),v] w (DAns w0 w B mb (s.docDoes .send ws)):=by
 obtain⟨ad,c,rfl,hn,hb,g⟩:=zbk hv (by simp)
 have d0:=g 0 _ rfl
 rw[zdy] at d0
 have HX:=hid h
 rw[List.length_cons] at hn
 obtain⟨sH,SLR,TL⟩:=yl6 (P:=Tryz.prog) (T:=22) Tryz.underlying22 (by intro w';kernel_rfl) (SliceIs.ownedK hv) 1 (by omega)
 have SLR:∀w':World,(Instr.slice 22 (.slice (some ad) n c) (some (.int .i64 1)) none none).run Tryz.prog w'=.ok (.slice sH (n - 1) (c - 1)) w':=SLR
 rw[show(zbw ([115,101,110,100]::ws)).drop 1=zbw ws by unfold zbw;simp] at TL
 have NU:=hid (ydr ws _ w TL hl hw)
 have CS:=hid (fun(w':World)(bb:Below w.heap.size w w')=>(h.below bb).cs)
 have ST:=hid (fun(w':World)(bb:Below w.heap.size w w')=>(h.below bb).setTo (r:=A.vf) (l:=s.fr) (zad h.fr bb) (Nat.le_refl _))
 obtain⟨fa,fc,hvf⟩:=zab h.fr
 rw[hvf] at CS ST
 have z0:(0:Int)<n:=by omega
 have z9:0<n:=by omega
 clear hv g hb h hI TL hvf hn
 have k0:=zc3 [115,101,110,100] [115,101,110,100] (by decide)
 cases hx:SP.nums ws with
 | none=>
  have hq:s.docDoes .send ws=(s,[],1):=by unfold SP.docDoes;rw[if_pos rfl,hx]
  rw[hq]
  rw[hx] at NU
  clear hx hq ST CS
  go_enter Tryz.func15,Tryz.ntmps15
  go_wp2_with fail
  refine NU.out.mono ?_
  rintro e w1⟨r,rfl,⟨ra,rn,rc,rfl⟩,b1⟩
  have B1:=hid b1
  clear b1 NU
  go_wp2_with fail
  go_returns
  exact DAns.same HX.out B1.out (by rw[bs_nil];rfl)
 | some l=>
  have hq:s.docDoes .send ws=(s.setF false s.fr,zha,0):=by unfold SP.docDoes;rw[if_pos rfl,hx]
  rw[hq]
  rw[hx] at NU
  clear hx hq
  go_enter Tryz.func15,Tryz.ntmps15
  go_wp2_with fail
  refine NU.out.mono ?_
  rintro e w1⟨r,rfl,⟨ra,rn,rc,rfl⟩,b1⟩
  have B1:=hid b1
  obtain⟨⟨f0,f1,_,_⟩,ff⟩:=CS.out _ b1
  have g1:=ff 1
  clear b1 NU ff CS
  go_wp2_with fail
  go_returns
  exact⟨by unfold zha bs;rfl,⟨_,ST.out _ B1.out⟩,((Chg.of_below B1.out _).set ⟨mb,1,none⟩ (.inl HX.out.lm.2) _)⟩
end
section
variable{w0 w w':World}{B mb:Nat}{A:DmA}{s:SP}
attribute [local irreducible] nmL SP.mark
theorem ydu(nm d:List UInt8)(n:Nat)(v:Value)(h:DmAt w0 w B mb A s)(hI:SInv s)(hv:w.ownsRow B 9 1 v n (zbw [[109,97,114,107],nm,d]))(hd:d.length≤1000)(hn:nm.length≤1000):
  Calls Tryz.prog 15 #[.pointer (some ⟨mb,0,none⟩),v] w (DAns w0 w B mb (s.mark nm d)):=by
 obtain⟨ad,c,rfl,rfl,hb,g⟩:=zbk hv (by simp)
 have d0:=g 0 _ rfl
 have d1:=g 1 _ rfl
 have d2:=g 2 _ rfl
 rw[zdy] at d0
 rw[zlc] at d1
 rw[ylv] at d2
 have HX:=hid h
 have NU:=hid (zck (bs d) 6 w (by omega) (by rw[zae];omega))
 rw[zai] at NU
 obtain⟨tva,tvc,htv⟩:=zab h.tt
 have CS:=hid (fun(w':World)(b:Below w.heap.size w w')=>(show w'.cell? ⟨mb,1,none⟩=some A.vt∧w'.cell? ⟨mb,3,none⟩=some (.pointer (some ⟨A.tb,0,none⟩)) from⟨(h.below b).cs.1.2.1,(h.below b).cs.1.2.2.2⟩))
 have D1:=hid (fun(w':World)(b:Below w.heap.size w w')=>(b.cell (World.block_lt_of_cell? w _ d1)).trans d1)
 have G2:=hid (fun(w':World)(b:Below w.heap.size w w')=>zhq s.tt A.vt nm w' (SliceIs.ownedK (h.below b).tt))
 have BT:=hid (fun(m:PMk)(hm:m.n=nm)(hS:m.S≤4294967295)(w':World)=>zqa m w' (by rw[hm];omega) hS)
 have AP:=hid (fun(x:List UInt8)(hx:x.length≤1000000)(w':World)(b:Below w.heap.size w w')=>yc4 A.tb s.tp x w' (h.below b).tp hx (by have:=hI.tpb;omega))
 have SM:=hid (fun x (hx:zaq s.tt nm=some x)=>hI.tt.len _ (zbn hx))
 rw[htv] at CS G2
 generalize hL:s.tt.length=tl at *
 clear hv g hb h hI htv hL
 have k0:=zbj [109,97,114,107] [115,101,110,100] (by decide)
 have k1:=zbj [109,97,114,107] [99,117,116] (by decide)
 have k2:=zbj [109,97,114,107] [97,100,109,105,116] (by decide)
 have k3:=zc3 [109,97,114,107] [109,97,114,107] (by decide)
 cases hx:nmL 6 d with
 | none=>
  rw[zsz hx]
  rw[zdc hx] at NU
  clear hx G2 BT AP SM
  go_enter Tryz.func15,Tryz.ntmps15
  go_wp2_with fail
  refine NU.out.mono ?_
  rintro e w1⟨rfl,rfl⟩
  clear NU
  go_wp2_with fail
  go_returns
  exact DAns.same HX.out (Below.refl _ _) (by rw[bs_nil];rfl)
 | some z=>
  rw[zdp hx] at NU
  have z0:¬(z:Int)<0:=by omega
  go_enter Tryz.func15,Tryz.ntmps15
  go_wp2_with fail
  refine NU.out.mono ?_
  rintro e w1⟨rfl,rfl⟩
  clear NU
  have BD:=hid (Below.drew (Below.refl w.heap.size w))
  have GG:=hid (G2.out _ BD.out)
  have S0:=And.intro (CS.out _ (Below.refl _ _)).1 d1
  have S1:=And.intro (CS.out _ BD.out).1 (D1.out _ BD.out)
  have KS:=hid (fun(W:World)(bb:Below w.drew.heap.size w.drew W)=>And.intro (CS.out _ (zaa BD.out bb)).1 (D1.out _ (zaa BD.out bb)))
  go_wp2_with fail
  go_region_held3 (fun X=>X.cell? ⟨mb,1,none⟩=some (.slice tva tl tvc)∧X.cell? ⟨ad.block,ad.off+1,none⟩=some (.string (bs nm))) (first|exact S1|exact S0|exact KS.out _ (by assumption)) ((go_at_call 23;refine GG.out.mono ?_;rintro e w2⟨rfl,b⟩))
  have B2:=hid (zaa BD.out b)
  clear b S0 S1 KS GG
  cases hg:zaq s.tt nm with
  | none=>
   have QB:=hid (yfe (s:=s) hx hg)
   simp only[Option.getD_none,Option.isSome_none]
   clear hx hg BT AP SM
   go_wp2_with fail
   go_returns
   rw[QB.out]
   exact DAns.same HX.out B2.out (by rw[bs_nil];rfl)
  | some x=>
   have hxl:x.length≤200:=SM.out x hg
   simp only[Option.getD_some,Option.isSome_some]
   have SZ:(bs x).size=x.length:=zae x
   by_cases hz:x.length<z
   ·have QB:=hid (zxw (s:=s) hx hg hz)
    have hzI:(x.length:Int)<z:=by omega
    clear hx hg BT AP SM hz
    go_wp2_with fail
    go_returns
    rw[QB.out]
    exact DAns.same HX.out B2.out (by rw[bs_nil];rfl)
   ·have hzI:¬(x.length:Int)<z:=by omega
    obtain⟨m,hm⟩:∃m:PMk,m=⟨nm,z,za5 (x.take z)⟩:=⟨_,rfl⟩
    have hmn:m.n=nm:=by rw[hm]
    have hmS:m.S≤4294967295:=by rw[hm];have:=zdv (x.take z);show za5 (x.take z)≤_;omega
    have BT:=hid (BT.out m hmn hmS)
    have AP:=hid (AP.out (mkX m) (by have:=ye9 (m:=m) (by rw[hmn];exact hn) hmS;omega))
    have HV:m.rval=.agg #[.string (bs nm),.int .i64 z,.int .i64 (za5 (x.take z))]:=by rw[hm];rfl
    rw[HV] at BT
    have CSM:=hid (fun(w':World)=>show Calls Tryz.prog 39 #[.string (bs (x.take z))] w' fun e w2=>e=.returned (.int .i64 (za5 (x.take z)))∧w'=w2 from by have:=zhd (bs (x.take z)) w' (by rw[zae,List.length_take];omega);rw[zai] at this;exact this)
    have SUB:=hid (show(bs x).extract 0 z=bs (x.take z) from by apply zg0;simp)
    have Q1:=hid (fun h4=>zxx (s:=s) hx hg hz h4)
    have Q2:=hid (fun h4=>yfd (s:=s) hx hg hz h4)
    rw[←hm] at Q1 Q2
    clear hx hg SM hz hmn hmS HV
    by_cases hc:mkC m=0
    ·have QB:=hid (Q2.out hc)
     rw[hc] at BT
     clear Q1 Q2 hm hc
     generalize za5 (x.take z)=cs at *
     have BD2:=hid (Below.drew B2.out)
     have BT1:=hid (BT.out w2.drew)
     have S0:=D1.out _ B2.out
     have S1:=D1.out _ BD2.out
     have KS:=hid (fun(W:World)(bb:Below w2.drew.heap.size w2.drew W)=>D1.out _ (zaa BD2.out bb))
     have EX:=SUB.out
     have y1:(z:Int)≤x.length:=by omega
     have y2:(0:Int)≤z:=by omega
     have y3:(z:Int).toNat=z:=by omega
     go_wp2_with fail
     go_region_held3 (fun X=>X.cell? ⟨ad.block,ad.off+1,none⟩=some (.string (bs nm))) (first|exact S1|exact S0|exact KS.out _ (by assumption)) (first|(go_at_call 39;refine(CSM.out _).mono ?_;rintro e w3⟨rfl,rfl⟩)|(go_at_call 38;refine BT1.out.mono ?_;rintro e w4⟨rfl,b4⟩))
     have B4:=hid (zaa BD2.out b4)
     clear b4 S0 S1 KS BT1 EX
     obtain⟨p1,p2⟩:=CS.out _ B4.out
     have AP1:=hid (AP.out _ B4.out)
     go_wp2_with fail
     refine AP1.out.mono ?_
     rintro e w5⟨rfl,ht⟩
     have HP:=hid ((HX.out.below B4.out).tape ht)
     have CH:=hid ((Chg.of_below B4.out (fun x=>x<B)).trans (ht.2.more (fun x _ e=>show x<B from by subst e;exact HX.out.lt.2)) (fun _ _ h=>h))
     clear ht p1 p2
     go_wp2_with fail
     go_returns
     rw[QB.out]
     exact⟨by unfold zg2 bs;rfl,⟨_,HP.out⟩,CH.out⟩
    ·have QB:=hid (Q1.out hc)
     have hc1:((mkC m:Nat):Int)≠0:=by omega
     have hc2:(((mkC m:Nat):Int)==0)=false:=by simpa using hc
     clear Q1 Q2 hm AP
     generalize za5 (x.take z)=cs at *
     generalize mkC m=mc at *
     have BD2:=hid (Below.drew B2.out)
     have BT1:=hid (BT.out w2.drew)
     have S0:=D1.out _ B2.out
     have S1:=D1.out _ BD2.out
     have KS:=hid (fun(W:World)(bb:Below w2.drew.heap.size w2.drew W)=>D1.out _ (zaa BD2.out bb))
     have EX:=SUB.out
     have y1:(z:Int)≤x.length:=by omega
     have y2:(0:Int)≤z:=by omega
     have y3:(z:Int).toNat=z:=by omega
     go_wp2_with fail
     go_region_held3 (fun X=>X.cell? ⟨ad.block,ad.off+1,none⟩=some (.string (bs nm))) (first|exact S1|exact S0|exact KS.out _ (by assumption)) (first|(go_at_call 39;refine(CSM.out _).mono ?_;rintro e w3⟨rfl,rfl⟩)|(go_at_call 38;refine BT1.out.mono ?_;rintro e w4⟨rfl,b4⟩))
     have B4:=hid (zaa BD2.out b4)
     clear b4 S0 S1 KS BT1 EX
     go_wp2_with fail
     go_returns
     rw[QB.out]
     exact DAns.same HX.out B4.out (by unfold zg2 bs;rfl)
end
theorem ybj(l:List POp)(j:Nat)(h:j<l.length):zb7 (l.take (j+1))=zb7 (l.take j)+(l[j]'h).data.length:=by
 rw[List.take_succ_eq_append_getElem h,zaw,zbr]
theorem ybi(l:List POp):zb7 (l.take 0)=0:=by rw[List.take_zero,zgh]
theorem ztv(l:List POp)(k:Nat):zb7 (l.take k)≤zb7 l:=by
 have:=zaw (l.take k) (l.drop k)
 rw[List.take_append_drop] at this
 omega
section
variable{w0 w w':World}{B mb:Nat}{A:DmA}{s:SP}
attribute [local irreducible] nmL SP.size zc1 zeu zax
theorem yds(nm d:List UInt8)(n:Nat)(v:Value)(h:DmAt w0 w B mb A s)(hI:SInv s)(hv:w.ownsRow B 9 1 v n (zbw [[115,105,122,101],nm,d]))(hd:d.length≤1000)(hn:nm.length≤1000):
  Calls Tryz.prog 15 #[.pointer (some ⟨mb,0,none⟩),v] w (DAns w0 w B mb (s.size nm d)):=by
 obtain⟨ad,c,rfl,rfl,hb,g⟩:=zbk hv (by simp)
 have d0:=g 0 _ rfl
 have d1:=g 1 _ rfl
 have d2:=g 2 _ rfl
 rw[zdy] at d0
 rw[zlc] at d1
 rw[ylv] at d2
 have HX:=hid h
 have NU:=hid (zck (bs d) 6 w (by omega) (by rw[zae];omega))
 rw[zai] at NU
 obtain⟨tva,tvc,htv⟩:=zab h.tt
 obtain⟨fva,fvc,hfv⟩:=zab h.fr
 have CS:=hid (fun(w':World)(b:Below w.heap.size w w')=>(show w'.cell? ⟨mb,0,none⟩=some A.vf∧w'.cell? ⟨mb,1,none⟩=some A.vt from⟨(h.below b).cs.1.1,(h.below b).cs.1.2.1⟩))
 have D1:=hid (fun(w':World)(b:Below w.heap.size w w')=>(b.cell (World.block_lt_of_cell? w _ d1)).trans d1)
 have G1:=hid (fun(w':World)(b:Below w.heap.size w w')=>(show Calls Tryz.prog 23 #[A.vf,.string (bs nm)] w' fun e w2=>e=.returned (.tuple #[.string (bs (zax s.fr nm)),.bool (zaq s.fr nm).isSome])∧Below w'.heap.size w' w2 from(by unfold zax;exact zhq s.fr A.vf nm w' (SliceIs.ownedK (h.below b).fr))))
 have G2:=hid (fun(w':World)(b:Below w.heap.size w w')=>(show Calls Tryz.prog 23 #[A.vt,.string (bs nm)] w' fun e w2=>e=.returned (.tuple #[.string (bs (zax s.tt nm)),.bool (zaq s.tt nm).isSome])∧Below w'.heap.size w' w2 from(by unfold zax;exact zhq s.tt A.vt nm w' (SliceIs.ownedK (h.below b).tt))))
 have LT:=zig hI.tt nm
 have LF:=zig hI.fr nm
 have BL:=hid (fun(z:Nat)(hz:¬(z<1∨64<z))(w':World)=>zu0 (bs (zax s.tt nm)) z w' (by rw[zae];omega) (by omega) (by omega))
 have DL:=hid (fun (z:Nat) (hz:¬(z<1∨64<z)) (w':World) s1 n1 c1 hl=>zzt s1 n1 c1 (zeu z (zax s.tt nm)) z (zax s.fr nm) w' hl (by rw[zly z (zax s.tt nm) (by omega) (by omega) (by omega)]) (by omega))
 have CO:=hid (fun(z:Nat)=>show zb7 (zc1 (zeu z (zax s.tt nm)) z (zax s.fr nm))≤1000 from by have:=zou (zeu z (zax s.tt nm)) z (zax s.fr nm);omega)
 have LO:=hid (fun(z:Nat)(hz:¬(z<1∨64<z))=>show(zc1 (zeu z (zax s.tt nm)) z (zax s.fr nm)).length≤100000 from by have:=(zlp (zeu z (zax s.tt nm)) z (zax s.fr nm) (by omega) (by rw[ze5];have:=ymv z (zax s.tt nm).length (by omega);omega)).1;omega)
 rw[htv,hfv] at CS
 rw[hfv] at G1
 rw[htv] at G2
 generalize hL:s.tt.length=tl at *
 generalize hL2:s.fr.length=fl at *
 clear hv g hb h hI htv hfv hL hL2 LT LF
 have QOK:=hid (fun(z:Nat)(h1:nmL 6 d=some z)(h2:¬(z<1∨64<z))=>ycq (s:=s) (n:=nm) h1 h2)
 obtain⟨i0,hi,hs0,hs1,hs2⟩:=info_parts yms
 generalize zax s.tt nm=dt at *
 generalize zax s.fr nm=df at *
 generalize (zaq s.fr nm).isSome=xf at *
 generalize (zaq s.tt nm).isSome=xt at *
 have k0:=zbj [115,105,122,101] [115,101,110,100] (by decide)
 have k1:=zbj [115,105,122,101] [99,117,116] (by decide)
 have k2:=zbj [115,105,122,101] [97,100,109,105,116] (by decide)
 have k3:=zbj [115,105,122,101] [109,97,114,107] (by decide)
 cases hx:nmL 6 d with
 | none=>
  rw[zr0 hx]
  rw[zdc hx] at NU
  clear hx G1 G2 BL DL CO LO QOK
  go_enter Tryz.func15,Tryz.ntmps15
  go_wp2_with fail
  refine NU.out.mono ?_
  rintro e w1⟨rfl,rfl⟩
  clear NU
  go_wp2_with fail
  go_returns
  exact DAns.same HX.out (Below.refl _ _) (by rw[bs_nil];rfl)
 | some z=>
  rw[zdp hx] at NU
  have z0:¬(z:Int)<0:=by omega
  go_enter Tryz.func15,Tryz.ntmps15
  go_wp2_with fail
  refine NU.out.mono ?_
  rintro e w1⟨rfl,rfl⟩
  clear NU
  have BD:=hid (Below.drew (Below.refl w.heap.size w))
  have GG:=hid (G1.out _ BD.out)
  have S0:=And.intro (CS.out _ (Below.refl _ _)).1 d1
  have S1:=And.intro (CS.out _ BD.out).1 (D1.out _ BD.out)
  have KS:=hid (fun(W:World)(bb:Below w.drew.heap.size w.drew W)=>And.intro (CS.out _ (zaa BD.out bb)).1 (D1.out _ (zaa BD.out bb)))
  go_wp2_with fail
  go_region_held3 (fun X=>X.cell? ⟨mb,0,none⟩=some (.slice fva fl fvc)∧X.cell? ⟨ad.block,ad.off+1,none⟩=some (.string (bs nm))) (first|exact S1|exact S0|exact KS.out _ (by assumption)) ((go_at_call 23;refine GG.out.mono ?_;rintro e w2⟨rfl,b⟩))
  have B2:=hid (zaa BD.out b)
  clear b S0 S1 KS GG
  have BD2:=hid (Below.drew B2.out)
  have GG:=hid (G2.out _ BD2.out)
  have S0:=And.intro (CS.out _ B2.out).2 (D1.out _ B2.out)
  have S1:=And.intro (CS.out _ BD2.out).2 (D1.out _ BD2.out)
  have KS:=hid (fun(W:World)(bb:Below w2.drew.heap.size w2.drew W)=>And.intro (CS.out _ (zaa BD2.out bb)).2 (D1.out _ (zaa BD2.out bb)))
  go_wp2_with fail
  go_region_held3 (fun X=>X.cell? ⟨mb,1,none⟩=some (.slice tva tl tvc)∧X.cell? ⟨ad.block,ad.off+1,none⟩=some (.string (bs nm))) (first|exact S1|exact S0|exact KS.out _ (by assumption)) ((go_at_call 23;refine GG.out.mono ?_;rintro e w3⟨rfl,b⟩))
  have B3:=hid (zaa BD2.out b)
  clear b S0 S1 KS GG
  by_cases hz:z<1∨64<z
  ·have QB:=hid (zwz (s:=s) (n:=nm) hx hz)
   clear hx BL DL CO LO QOK
   have y1:(z:Int)<1∨¬(z:Int)<1∧(64:Int)<z:=by omega
   clear hz
   rcases y1 with y1|⟨y1,y2⟩
   all_goals
    go_wp2_with fail
    go_returns
    rw[QB.out]
    exact DAns.same HX.out B3.out (by rw[bs_nil];rfl)
  have QZ:=hid (QOK.out z hx hz)
  have BL1:=hid (BL.out z hz)
  have DL1:=hid (DL.out z hz)
  have CO1:=hid (CO.out z)
  have LO1:=hid (LO.out z hz)
  have y1:¬(z:Int)<1:=by omega
  have y2:¬(64:Int)<z:=by omega
  rw[zai] at BL1
  clear hx BL DL CO LO QOK hz
  generalize zc1 (zeu z dt) z df=ops at *
  generalize zeu z dt=bl at *
  go_wp2_with fail
  refine(BL1.out _).mono ?_
  rintro e w4⟨r,rfl,hr,b4⟩
  have B4:=hid (zaa B3.out b4)
  obtain⟨ra,rc,rfl⟩:=zab hr
  have DL2:=hid (DL1.out w4 _ _ _ (SliceIs.ownedK hr))
  clear hr b4 DL1 BL1
  go_wp2_with fail
  refine DL2.out.mono ?_
  rintro e w5⟨r,rfl,ho,b5⟩
  have B5:=hid (zaa B4.out b5)
  obtain⟨oa,oc,rfl⟩:=zab ho
  have HO:=hid (SliceIs.ownedK ho)
  clear ho b5 DL2
  have hll:=LO1.out
  go_wp2_with fail
  have BB:Hid (Below w5.heap.size w5 (w5.alloc (Obj.cells #[Value.int IntKind.i64 0,Value.int IntKind.i64 (-1)] 64))):=hid (zfa _ _)
  have b0:(w5.alloc (Obj.cells #[Value.int IntKind.i64 0,Value.int IntKind.i64 (-1)] 64)).cell? ⟨w5.heap.size,0,none⟩=some (.int .i64 0):=by simp
  generalize w5.alloc (Obj.cells #[Value.int IntKind.i64 0,Value.int IntKind.i64 (-1)] 64)=w6 at *
  have HO6:=hid (HO.out.below BB.out)
  have B6:=hid (zaa B5.out BB.out)
  clear HO BB
  go_loop [19,20] (fun k i=>∃j:Nat,i=.int .i64 j∧j≤ops.length∧k=.int .i64 (zb7 (ops.take j):Nat)) (fun _ i=>ops.length - (intOf i).toNat)
  case atStart=>exact⟨0,rfl,by omega,by rw[ybi];rfl⟩
  case round=>
   obtain⟨j,rfl,hj,rfl⟩:=hrel
   have HK:=hid (ztv ops j)
   have hc1x:=CO1.out
   have hc2x:=HK.out
   have x1:(0:Int)≤j:=by omega
   have x2:(j:Int).toNat=j:=by omega
   by_cases hlt:j<ops.length
   ·have hltI:(j:Int)<ops.length:=by omega
    obtain⟨s0',n0',c0',e1,_,_,_,g1⟩:=HO6.out.get
    cases e1
    obtain⟨_,_,_,q3⟩:=zh8 ops j hlt
    obtain⟨a4,rfl,d3⟩:=g1 _ _ q3
    have d3:=zao d3
    have CT:=hid (ybj ops j hlt)
    have HT:=ztv ops (j+1)
    rw[CT.out] at HT
    have hsz:(bs (ops[j]'hlt).data).size=(ops[j]'hlt).data.length:=zae _
    have KK:=hid (show j+1≤ops.length by omega)
    generalize ops[j]'hlt=o at *
    clear g1 q3
    go_wp2_with fail
    go_round
    case rel=>exact⟨j+1,by go_num,KK.out,by rw[CT.out];go_num⟩
    case measure=>have:=KK.out;simp[intOf];omega
   ·have hltI:¬(j:Int)<ops.length:=by omega
    obtain rfl:j=ops.length:=by omega
    rw[List.take_length]
    have DE1:=hid (fun(w':World)=>zbt (zb7 ops) w' (by have:=CO1.out;omega))
    have DE2:=hid (fun(w':World)=>zbt ops.length w' (by have:=LO1.out;omega))
    have BD6:=hid (Below.drew (Below.refl w6.heap.size w6))
    have S0:=b0
    have S1:=(BD6.out.cell (World.block_lt_of_cell? w6 _ b0)).trans b0
    have KS:=hid (fun(W:World)(bb:Below w6.drew.heap.size w6.drew W)=>(bb.cell (World.block_lt_of_cell? w6.drew _ S1)).trans S1)
    have l1:=zay (n:=zb7 ops) (k:=18) (by have:=CO1.out;omega)
    have l2:=zay (n:=ops.length) (k:=18) (by have:=LO1.out;omega)
    generalize Lib.decDigits (zb7 ops)=dN at *
    generalize Lib.decDigits ops.length=dS at *
    generalize zb7 ops=cN at *
    obtain⟨Y1,hY1⟩:∃Y,Y=dN++[32]:=⟨_,rfl⟩
    have hA1:bs dN++⟨#[32]⟩=bs Y1:=by rw[sp32,hY1];exact zc6 dN [32]
    have hA2:bs Y1++bs dS=bs (dN++32::dS):=by rw[hY1,zc6];simp
    have l3:Y1.length=dN.length+1:=by rw[hY1];simp
    have hc1:¬9223372036854775807<dN.length+1:=by omega
    have hc2:¬9223372036854775807<Y1.length+dS.length:=by omega
    have KB:=hid (fun(W:World)(bb:Below w6.heap.size w6 W)=>(bb.cell (World.block_lt_of_cell? w6 _ b0)).trans b0)
    clear hY1 l1 l2 l3 CO1 LO1 HK hc1x hc2x
    go_wp2_with fail
    go_region_held3 (fun X=>X.cell? ⟨w5.heap.size,0,none⟩=some (.int .i64 0)) (first|exact S1|exact S0|exact KB.out _ (by assumption))
     (first
     | (go_at_call 26;(with_reducible refine(DE1.out _).mono ?_);rintro e v1⟨rfl,b1⟩;have c1:=zaa BD6.out b1)
     | (go_at_call 26;(with_reducible refine(DE2.out _).mono ?_);rintro e v2⟨rfl,b2⟩;have c2:=zaa (by assumption) b2))
    go_wp2_with fail
    go_returns
    rw[QZ.out]
    exact DAns.same HX.out (zaa B6.out (by assumption)) rfl
end
end Go.Proofs.YtakhkcaihhpehaaGreatDoor
