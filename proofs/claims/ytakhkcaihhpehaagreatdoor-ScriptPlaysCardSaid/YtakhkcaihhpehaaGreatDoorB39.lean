/- Texts of one proof, one behind the other: ScrMk, ScrCode, ScrPlay2, ScrBare, ScrRun, ScrSends, ScrHello, ScrHel, ScrAgain, DocSmall. -/
import Derived.Test.YtakhkcaihhpehaaGreatDoorB35
import Derived.Test.YtakhkcaihhpehaaGreatDoorB13
import Derived.Test.YtakhkcaihhpehaaGreatDoorB36
import Derived.Test.YtakhkcaihhpehaaGreatDoorB24
import Derived.Test.YtakhkcaihhpehaaGreatDoorB38
import Derived.Test.YtakhkcaihhpehaaGreatDoorB06
import Derived.Test.YtakhkcaihhpehaaGreatDoorB03
import Derived.Test.YtakhkcaihhpehaaGreatDoorB34
import Derived.Test.YtakhkcaihhpehaaGreatDoorB26
import Derived.Test.YtakhkcaihhpehaaGreatDoorB15
import Derived.Test.YtakhkcaihhpehaaGreatDoorB28
import Derived.Test.YtakhkcaihhpehaaGreatDoorB22
import Derived.Handy
namespace Go.Proofs.YtakhkcaihhpehaaGreatDoor
open Go.RowKit
open Lib (hid)
set_option linter.unusedVariables false
set_option maxRecDepth 100000
set_option maxHeartbeats 51200000
section
variable{Q:Guest}{E:Nat→Addr}{w0 w w':World}{pb k:Nat}{A:PlA}{s:SP}
attribute [local irreducible] zc1 zeu SP.size zax nmL
theorem yd2(n d:List UInt8)(v:Value)(h:PlAt Q w0 w pb A s k)(hI:SInv s)(hE:SEnv E w0)(hv:SliceIs w v 1 [.string (bs n),.string (bs d)])(hd:d.length≤1000000):
  Calls Tryz.prog 71 #[.pointer (some ⟨pb,0,none⟩),v] w (Ans Q E w0 pb k (s.size n d)):=by
 obtain⟨s0,m0,c0,rfl,hm0,hm1,hm2,g1⟩:=hv.get
 obtain⟨ad,rfl,d0⟩:=g1 0 _ rfl
 rw[zdy] at d0
 obtain⟨ad',e',d1⟩:=g1 1 _ rfl
 cases e'
 rw[zlc] at d1
 have hm0:m0=2:=by simpa using hm0.symm
 subst hm0
 have HX:=hid h
 have NU:=hid (zd4 E 6 d w (hE.lib.below h.bel) (by omega) (by omega))
 have E1:=hid (fun(w':World)(b:Below w.heap.size w w')=>show w'.cell? ⟨1,0,none⟩=some (za0 (E 1)) from hE.err.e1.below (zaa h.bel b))
 have CS:=hid (fun(w':World)(b:Below w.heap.size w w')=>(show w'.cell? ⟨pb,0,none⟩=some A.vf∧w'.cell? ⟨pb,1,none⟩=some A.vt from⟨(h.below b).cs.1.1,(h.below b).cs.1.2.1⟩))
 have D0:=hid (fun(w':World)(b:Below w.heap.size w w')=>(b.cell (World.block_lt_of_cell? w _ d0)).trans d0)
 have G1:=hid (fun(w':World)(b:Below w.heap.size w w')=>(show Calls Tryz.prog 96 #[A.vf,.string (bs n)] w' fun e w2=>e=.returned (.tuple #[.string (bs (zax s.fr n)),.bool (zaq s.fr n).isSome])∧Below w'.heap.size w' w2 from(by unfold zax;exact zen s.fr A.vf n w' (SliceIs.ownedK (h.below b).fr))))
 have G2:=hid (fun(w':World)(b:Below w.heap.size w w')=>(show Calls Tryz.prog 96 #[A.vt,.string (bs n)] w' fun e w2=>e=.returned (.tuple #[.string (bs (zax s.tt n)),.bool (zaq s.tt n).isSome])∧Below w'.heap.size w' w2 from(by unfold zax;exact zen s.tt A.vt n w' (SliceIs.ownedK (h.below b).tt))))
 have LT:=zig hI.tt n
 have LF:=zig hI.fr n
 have ON:=hid (fun(z:Int)(hz:z<1∨64<z)(w':World)(b:Below w.heap.size w w')=>of_no E (bs (zax s.tt n)) z w' (by omega) (hE.err.e2.below (zaa h.bel b)))
 have OY:=hid (fun(z:Nat)(hz:¬(z<1∨64<z))(w':World)=>ymp (bs (zax s.tt n)) z w' (by rw[zae];omega) (by omega) (by omega))
 have MK:=hid (fun (z:Nat) (hz:¬(z<1∨64<z)) (w':World) (b:Below w.heap.size w w') s1 n1 c1 hl=>zxy E s1 n1 c1 (zeu z (zax s.tt n)) (z:Int) (bs (zax s.fr n)) w' hl (hE.err.e2.below (zaa h.bel b)) (hE.err.e8.below (zaa h.bel b)) (by rw[zly z _ (by omega) (by omega) (by omega)]) (by rw[zae];omega))
 have IT:=hid (fun(x:Nat)(hx:x≤1000000)(w':World)(b:Below w.heap.size w w')=>ze4 E x w' (hE.lib.below (zaa h.bel b)) (by omega))
 have CO:=hid (fun(z:Nat)=>show zb7 (zc1 (zeu z (zax s.tt n)) z (zax s.fr n))≤1000 from by have:=zou (zeu z (zax s.tt n)) z (zax s.fr n);omega)
 have LO:=hid (fun(z:Nat)(hz:¬(z<1∨64<z))=>show(zc1 (zeu z (zax s.tt n)) z (zax s.fr n)).length≤100000 from by have:=(zlp (zeu z (zax s.tt n)) z (zax s.fr n) (by omega) (by rw[ze5];have:=ymv z (zax s.tt n).length (by omega);omega)).1;omega)
 clear h hE hv g1 hI LT LF
 have QOK:=hid (fun(z:Nat)(h1:nmL 6 d=some z)(h2:¬(z<1∨64<z))=>ycq (s:=s) (n:=n) h1 h2)
 generalize zax s.tt n=dt at *
 generalize zax s.fr n=df at *
 cases hx:nmL 6 d with
 | none=>
  rw[zr0 hx]
  simp only[zn4,hx] at NU
  clear hx G1 G2 ON OY MK IT CO LO QOK
  go_enter Tryz.func71,Tryz.ntmps71
  go_wp2_with fail
  refine NU.out.mono ?_
  rintro e w1⟨⟨v,rfl,hv⟩,b1⟩
  have ce:=E1.out _ b1
  go_wp2_with fail
  go_quiet (fail)
  go_wp2_with fail
  go_ret2
  exact⟨_,A,k,by rw[bs_nil];rfl,zb1 E _ (by simp),HX.out.below (zac b1 nq),by omega⟩
 | some z=>
  simp only[zn4,hx] at NU
  go_enter Tryz.func71,Tryz.ntmps71
  go_wp2_with fail
  refine NU.out.mono ?_
  rintro e w1⟨⟨v,rfl,hv⟩,b1⟩
  obtain rfl:=hv z rfl
  have B1:=hid b1
  have BDB1:=hid (Below.drew B1.out)
  have GG:=hid (G1.out _ BDB1.out)
  have S0:=And.intro (CS.out _ B1.out).1 (D0.out _ B1.out)
  have S1:=And.intro (CS.out _ BDB1.out).1 (D0.out _ BDB1.out)
  have KS:=hid (fun(W:World)(bb:Below w1.drew.heap.size w1.drew W)=>And.intro (CS.out _ (zaa BDB1.out bb)).1 (D0.out _ (zaa BDB1.out bb)))
  clear b1 NU hv
  go_wp2_with fail
  go_region_held3 (fun X=>X.cell? ⟨pb,0,none⟩=some A.vf∧X.cell? ad=some (.string (bs n))) (first|exact S1|exact S0|exact KS.out _ (by assumption)) ((go_at_call 96;refine GG.out.mono ?_;rintro e w2⟨rfl,b⟩))
  have B2:=hid (zaa BDB1.out b)
  clear b S0 S1 KS GG
  have BDB2:=hid (Below.drew B2.out)
  have GG:=hid (G2.out _ BDB2.out)
  have S0:=And.intro (CS.out _ B2.out).2 (D0.out _ B2.out)
  have S1:=And.intro (CS.out _ BDB2.out).2 (D0.out _ BDB2.out)
  have KS:=hid (fun(W:World)(bb:Below w2.drew.heap.size w2.drew W)=>And.intro (CS.out _ (zaa BDB2.out bb)).2 (D0.out _ (zaa BDB2.out bb)))
  go_wp2_with fail
  go_region_held3 (fun X=>X.cell? ⟨pb,1,none⟩=some A.vt∧X.cell? ad=some (.string (bs n))) (first|exact S1|exact S0|exact KS.out _ (by assumption)) ((go_at_call 96;refine GG.out.mono ?_;rintro e w3⟨rfl,b⟩))
  have B3:=hid (zaa BDB2.out b)
  clear b S0 S1 KS GG
  by_cases hz:z<1∨64<z
  ·have QB:=hid (zwz (s:=s) (n:=n) hx hz)
   have ON:=hid (ON.out z (by omega))
   clear hx OY MK IT CO LO QOK
   have ON1:=hid (ON.out _ B3.out)
   go_wp2_with fail
   refine ON1.out.mono ?_
   rintro e w4⟨rfl,dr⟩
   have B4:=hid (zaa B3.out (dr.below _))
   rw[zep E (by decide)]
   clear dr
   go_wp2_with fail
   go_ret2
   rw[QB.out]
   exact⟨_,A,k,by rw[bs_nil];rfl,yic E _ (by simp),HX.out.below B4.out,by omega⟩
  ·have QZ:=hid (QOK.out z hx hz)
   have OY:=hid (OY.out z hz)
   have MK:=hid (MK.out z hz)
   have CO:=CO.out z
   have LO:=LO.out z hz
   simp only[Int.toNat_natCast,zai] at OY MK
   clear hx ON QOK
   generalize zeu z dt=bl at *
   generalize zc1 bl z df=ops at *
   obtain⟨X1,hX1⟩:∃X,X=Lib.decDigits (zb7 ops):=⟨_,rfl⟩
   obtain⟨Z1,hZ1⟩:∃X,X=Lib.decDigits ops.length:=⟨_,rfl⟩
   have l1:X1.length≤10:=by rw[hX1];exact zay (k:=9) (by omega)
   have l2:Z1.length≤10:=by rw[hZ1];exact zay (k:=9) (by omega)
   obtain⟨Y1,hY1⟩:∃Y,Y=X1++[32]:=⟨_,rfl⟩
   obtain⟨Y2,hY2⟩:∃Y,Y=Y1++Z1:=⟨_,rfl⟩
   have hA1:bs X1++⟨#[32]⟩=bs Y1:=by rw[sp32,hY1];exact zc6 X1 [32]
   have hA2:bs Y1++bs Z1=bs Y2:=by rw[hY2];exact zc6 _ _
   have l3:Y1.length≤11:=by rw[hY1,List.length_append];simp;omega
   have hc1:¬9223372036854775807<X1.length+1:=by omega
   have hc2:¬9223372036854775807<Y1.length+Z1.length:=by omega
   have HY:Lib.decDigits (zb7 ops)++32::Lib.decDigits ops.length=Y2:=by rw[hY2,hY1,←hX1,←hZ1];simp
   rw[HY] at QZ
   have IT1':=hid (IT.out (zb7 ops) (by omega))
   have IT2':=hid (IT.out ops.length (by omega))
   rw[←hX1] at IT1'
   rw[←hZ1] at IT2'
   clear IT hX1 hZ1 hY1 hY2 HY l1 l2 l3
   go_wp2_with fail
   refine(OY.out _).mono ?_
   rintro e w4⟨v4,rfl,o4,b4⟩
   have B4:=hid (zaa B3.out b4)
   obtain⟨va,vc,rfl⟩:=zab o4
   have MK1:=hid (MK.out _ B4.out _ _ _ (SliceIs.ownedK o4))
   clear b4 o4
   go_wp2_with fail
   refine MK1.out.mono ?_
   rintro e w5⟨v5,rfl,o5,b5⟩
   have B5:=hid (zaa B4.out b5)
   have OP:=hid (SliceIs.ownedK o5)
   obtain⟨oa,oc,rfl⟩:=zab o5
   have C1:=hid (yle _ _ _ ops _ OP.out (by omega))
   clear b5 o5 MK1
   go_wp2_with fail
   refine C1.out.mono ?_
   rintro e w6⟨rfl,b6⟩
   have B6:=hid (zaa B5.out b6)
   have IT1:=hid (IT1'.out _ B6.out)
   clear b6 C1
   go_wp2_with fail
   refine IT1.out.mono ?_
   rintro e w7⟨rfl,b7⟩
   have B7:=hid (zaa B6.out b7)
   have IT2:=hid (IT2'.out _ B7.out)
   clear b7 IT1
   go_wp2_with fail
   refine IT2.out.mono ?_
   rintro e w8⟨rfl,b8⟩
   have B8:=hid (zaa B7.out b8)
   clear b8 IT2
   go_wp2_with fail
   go_ret2
   rw[QZ.out]
   exact⟨_,A,k,rfl,zfv E _,HX.out.below B8.out,by omega⟩
theorem ye9{m:PMk}(h1:m.n.length≤1000)(h2:m.S≤4294967295):(mkX m).length≤1100:=by
 unfold mkX
 split
 ·rename_i h
  have hN:¬(m.N<0∨4000<m.N):=by
   intro e
   unfold mkC at h
   rw[if_pos e] at h
   split at h<;>omega
  unfold mkT
  have a:=zay (n:=m.N.toNat) (k:=9) (by omega)
  have b:=zay (n:=m.S) (k:=9) (by omega)
  simp only[List.length_append,List.length_cons]
  omega
 ·simp
attribute [local irreducible] SP.mark mkC mkX apT apC
theorem yd9(n d:List UInt8)(v:Value)(h:PlAt Q w0 w pb A s k)(hI:SInv s)(hE:SEnv E w0)(hv:SliceIs w v 1 [.string (bs n),.string (bs d)])(hd:d.length≤1000000)(hn:n.length≤1000):
  Calls Tryz.prog 75 #[.pointer (some ⟨pb,0,none⟩),v] w (Ans Q E w0 pb k (s.mark n d)):=by
 obtain⟨s0,m0,c0,rfl,hm0,hm1,hm2,g1⟩:=hv.get
 obtain⟨ad,rfl,d0⟩:=g1 0 _ rfl
 rw[zdy] at d0
 obtain⟨ad',e',d1⟩:=g1 1 _ rfl
 cases e'
 rw[zlc] at d1
 have hm0:m0=2:=by simpa using hm0.symm
 subst hm0
 have HX:=hid h
 have NU:=hid (zd4 E 6 d w (hE.lib.below h.bel) (by omega) (by omega))
 have E1:=hid (fun(w':World)(b:Below w.heap.size w w')=>show w'.cell? ⟨1,0,none⟩=some (za0 (E 1)) from hE.err.e1.below (zaa h.bel b))
 have E2:=hid (fun(w':World)(b:Below w.heap.size w w')=>show w'.cell? ⟨0,0,none⟩=some (za0 (E 2)) from hE.err.e2.below (zaa h.bel b))
 have E6:=hid (fun(w':World)(b:Below w.heap.size w w')=>show w'.cell? ⟨3,0,none⟩=some (za0 (E 6)) from hE.err.e6.below (zaa h.bel b))
 have CS:=hid (fun(w':World)(b:Below w.heap.size w w')=>(show w'.cell? ⟨pb,1,none⟩=some A.vt∧w'.cell? ⟨pb,3,none⟩=some (.pointer (some ⟨A.db,0,none⟩)) from⟨(h.below b).cs.1.2.1,(h.below b).cs.1.2.2.2⟩))
 have D0:=hid (fun(w':World)(b:Below w.heap.size w w')=>(b.cell (World.block_lt_of_cell? w _ d0)).trans d0)
 have G2:=hid (fun(w':World)(b:Below w.heap.size w w')=>zen s.tt A.vt n w' (SliceIs.ownedK (h.below b).tt))
 have BT:=hid (fun(m:PMk)(hm:m.n=n)(hS:m.S≤4294967295)(w':World)(b:Below w.heap.size w w')=>yhm E m w' (hE.lib.below (zaa h.bel b)) (by rw[hm];omega) hS (hE.err.e5.below (zaa h.bel b)) (hE.err.e2.below (zaa h.bel b)))
 have AP:=hid (fun(x:List UInt8)(hx:x.length≤1000000)(w':World)(b:Below w.heap.size w w')=>yqi (E:=E) x (h.below b).tp hE.tap hx (by have:=hI.tpb;omega))
 have SM:=hid (fun x (hx:zaq s.tt n=some x)=>hI.tt.len _ (zbn hx))
 clear h hE hv g1 hI
 cases hx:nmL 6 d with
 | none=>
  rw[zsz hx]
  simp only[zn4,hx] at NU
  clear hx G2 BT AP SM
  go_enter Tryz.func75,Tryz.ntmps75
  go_wp2_with fail
  refine NU.out.mono ?_
  rintro e w1⟨⟨v,rfl,hv⟩,b1⟩
  have ce:=E1.out _ b1
  go_wp2_with fail
  go_quiet (fail)
  go_wp2_with fail
  go_ret2
  exact⟨_,A,k,by rw[bs_nil];rfl,zb1 E _ (by simp),HX.out.below (zac b1 nq),by omega⟩
 | some z=>
  simp only[zn4,hx] at NU
  go_enter Tryz.func75,Tryz.ntmps75
  go_wp2_with fail
  refine NU.out.mono ?_
  rintro e w1⟨⟨v,rfl,hv⟩,b1⟩
  obtain rfl:=hv z rfl
  have B1:=hid b1
  have BDB1:=hid (Below.drew B1.out)
  have GG:=hid (G2.out _ BDB1.out)
  have S0:=And.intro (CS.out _ B1.out).1 (D0.out _ B1.out)
  have S1:=And.intro (CS.out _ BDB1.out).1 (D0.out _ BDB1.out)
  have KS:=hid (fun(W:World)(bb:Below w1.drew.heap.size w1.drew W)=>And.intro (CS.out _ (zaa BDB1.out bb)).1 (D0.out _ (zaa BDB1.out bb)))
  clear b1 NU hv
  go_wp2_with fail
  go_region_held3 (fun X=>X.cell? ⟨pb,1,none⟩=some A.vt∧X.cell? ad=some (.string (bs n))) (first|exact S1|exact S0|exact KS.out _ (by assumption)) ((go_at_call 96;refine GG.out.mono ?_;rintro e w2⟨rfl,b⟩))
  have B2:=hid (zaa BDB1.out b)
  clear b S0 S1 KS GG
  cases hg:zaq s.tt n with
  | none=>
   have QB:=hid (yfe (s:=s) hx hg)
   clear hx hg BT AP SM
   have ce:=E6.out _ B2.out
   go_wp2_with fail
   go_quiet (fail)
   go_wp2_with fail
   go_ret2
   rw[QB.out]
   exact⟨_,A,k,by rw[bs_nil];rfl,zb1 E _ (by simp),HX.out.below (zac B2.out nq),by omega⟩
  | some x=>
   have hxl:x.length≤200:=SM.out x hg
   by_cases hz:x.length<z
   ·have QB:=hid (zxw (s:=s) hx hg hz)
    have hzI:(x.length:Int)<z:=by omega
    clear hx hg BT AP SM hz
    have ce:=E2.out _ B2.out
    go_wp2_with fail
    go_quiet (fail)
    go_wp2_with fail
    go_ret2
    rw[QB.out]
    exact⟨_,A,k,by rw[bs_nil];rfl,zb1 E _ (by simp),HX.out.below (zac B2.out nq),by omega⟩
   ·have hzI:¬(x.length:Int)<z:=by omega
    obtain⟨m,hm⟩:∃m:PMk,m=⟨n,z,za5 (x.take z)⟩:=⟨_,rfl⟩
    have hmn:m.n=n:=by rw[hm]
    have hmS:m.S≤4294967295:=by rw[hm];have:=zdv (x.take z);show za5 (x.take z)≤_;omega
    have BT:=hid (BT.out m hmn hmS)
    have AP:=hid (AP.out (mkX m) (by have:=ye9 (m:=m) (by rw[hmn];exact hn) hmS;omega))
    have HV:m.val=.agg #[.string (bs n),.int .i64 z,.int .u32 (za5 (x.take z))]:=by rw[hm];rfl
    rw[HV] at BT
    have CSM:=hid (fun(w':World)=>show Calls Tryz.prog 114 #[.string (bs (x.take z))] w' fun e w2=>e=.returned (.int .u32 (za5 (x.take z)))∧w'=w2 from by have:=zhc (bs (x.take z)) w' (by rw[zae,List.length_take];omega);rw[zai] at this;exact this)
    have SUB:=hid (show(bs x).extract 0 z=bs (x.take z) from by apply zg0;simp)
    have SZ:=hid (show(bs x).size=x.length from zae x)
    have Q1:=hid (fun h4=>zxx (s:=s) hx hg hz h4)
    have Q2:=hid (fun h4=>yfd (s:=s) hx hg hz h4)
    rw[←hm] at Q1 Q2
    clear hx hg SM hz hmn hmS HV
    by_cases hc:mkC m=0
    ·have QB:=hid (Q2.out hc)
     rw[hc] at BT
     clear Q1 Q2 hm hc
     generalize za5 (x.take z)=cs at *
     have BD:=hid (Below.drew B2.out)
     have BT1:=hid (BT.out _ BD.out)
     have S0:=D0.out _ B2.out
     have S1:=D0.out _ BD.out
     have KS:=hid (fun(W:World)(bb:Below w2.drew.heap.size w2.drew W)=>D0.out _ (zaa BD.out bb))
     have EX:=SUB.out
     have y1:(z:Int)≤x.length:=by omega
     have y2:(0:Int)≤z:=by omega
     have y3:(z:Int).toNat=z:=by omega
     go_wp2_with fail
     go_region_held3 (fun X=>X.cell? ad=some (.string (bs n))) (first|exact S1|exact S0|exact KS.out _ (by assumption)) (first|(go_at_call 114;refine(CSM.out _).mono ?_;rintro e w3⟨rfl,rfl⟩)|(go_at_call 113;refine BT1.out.mono ?_;rintro e w4⟨rfl,b4⟩))
     have B4:=hid (zaa BD.out b4)
     clear b4 S0 S1 KS BT1 EX
     rw[zaj]
     obtain⟨p1,p2⟩:=CS.out _ B4.out
     have AP1:=hid (AP.out _ B4.out)
     go_wp2_with fail
     refine AP1.out.mono ?_
     rintro e w5⟨rfl,F',hT,hL⟩
     have HP:=hid ((HX.out.below B4.out).tape hL hT)
     clear hT hL p1 p2
     go_wp2_with fail
     go_ret2
     rw[QB.out]
     exact⟨_,_,k,by unfold zg2 bs;rfl,zl5 _ _ _,HP.out,by omega⟩
    ·have QB:=hid (Q1.out hc)
     have EV:=hid (zep E hc)
     clear Q1 Q2 hm hc
     generalize za5 (x.take z)=cs at *
     have BD:=hid (Below.drew B2.out)
     have BT1:=hid (BT.out _ BD.out)
     have S0:=D0.out _ B2.out
     have S1:=D0.out _ BD.out
     have KS:=hid (fun(W:World)(bb:Below w2.drew.heap.size w2.drew W)=>D0.out _ (zaa BD.out bb))
     have EX:=SUB.out
     have y1:(z:Int)≤x.length:=by omega
     have y2:(0:Int)≤z:=by omega
     have y3:(z:Int).toNat=z:=by omega
     go_wp2_with fail
     go_region_held3 (fun X=>X.cell? ad=some (.string (bs n))) (first|exact S1|exact S0|exact KS.out _ (by assumption)) (first|(go_at_call 114;refine(CSM.out _).mono ?_;rintro e w3⟨rfl,rfl⟩)|(go_at_call 113;refine BT1.out.mono ?_;rintro e w4⟨rfl,b4⟩))
     have B4:=hid (zaa BD.out b4)
     clear b4 S0 S1 KS BT1 EX
     rw[EV.out]
     go_wp2_with fail
     go_ret2
     rw[QB.out]
     exact⟨_,A,k,by unfold zg2 bs;rfl,by rw[←EV.out];exact zl5 _ _ _,HX.out.below B4.out,by omega⟩
end
theorem nm6(d:List UInt8)(n:Nat)(h:nmL 6 d=some n):n≤1000000:=by
 obtain⟨h1,h2⟩:=zkq h
 have h3:=Lib.lt_pow_nDigits n
 rw[←Lib.decDigits_length,h2] at h3
 have h4:10 ^ d.length≤10 ^ 6:=Nat.pow_le_pow_right (by omega) h1
 omega
def okc(c:Nat):Prop:=c≤12∧c≠7
theorem yfj(b:Bool)(last:List UInt8)(x:PL):okc (zfu b last x):=by
 unfold zfu okc
 repeat' split
 all_goals omega
theorem yao(l:List PL):∀(k:Nat)(last:List UInt8),okc (zdj k last l).1:=by
 induction l with
 | nil=>intro k last;show okc 0;unfold okc;omega
 | cons x l ih=>
  intro k last
  unfold zdj
  split
  ·exact ih _ _
  ·exact yfj _ _ _
theorem zvt(l:List PF):okc (zav l).1:=by
 unfold zav zbb
 split
 ·unfold okc;omega
 ·exact yao _ _ _
theorem yje(l:List PF)(n d:List UInt8):okc (putF l n d).1:=by
 unfold putF
 split<;>exact zvt _
theorem yjx(m:GM)(k:List UInt8):okc (zhn m k):=by
 unfold zhn okc
 repeat' split
 all_goals omega
theorem yn3(m:GM)(k:List UInt8):okc (zhk m k):=by
 unfold zhk
 have:=yjx m k
 unfold okc at *
 repeat' split
 all_goals omega
theorem ypw(m:GM)(k:List UInt8)(n:Int):okc (adC m k n):=by
 unfold adC okc
 repeat' split
 all_goals omega
theorem yob(m:PMk):okc (mkC m):=by
 unfold mkC okc
 repeat' split
 all_goals omega
theorem ync(d:TP)(s:List UInt8):okc (wrC d s):=by
 unfold wrC okc
 repeat' split
 all_goals omega
theorem ypt(d:TP)(s:List UInt8):okc (apC d s):=by
 unfold apC
 have:=ync d (zc9 s)
 unfold okc at *
 repeat' split
 all_goals omega
theorem yo5(d:TP)(n:Int):okc (ctC d n):=by
 unfold ctC okc
 repeat' split
 all_goals omega
theorem zbh{c:Nat}(h:c≤6):okc c:=by unfold okc;omega
namespace SP
theorem zyj(s:SP)(c:Cmd)(w:List (List UInt8)):okc (s.does c w).2.2:=by
 unfold does
 split
 ·unfold drop;repeat' split
  all_goals exact zbh (by simp)
 ·unfold list;repeat' split
  all_goals exact zbh (by simp)
 ·exact zbh (by simp[plan])
 ·unfold size;repeat' split
  all_goals exact zbh (by simp)
 ·unfold send;repeat' split
  all_goals exact zbh (by simp)
 ·exact yn3 _ _
 ·unfold admits;split
  ·exact zbh (by simp)
  ·simpa only[] using ypw _ _ _
 ·unfold mark;repeat' split
  all_goals first|(simpa only[] using yob _)|(simpa only[] using ypt _ _)|exact zbh (by simp)
 ·exact zbh (by simp[far])
 ·unfold cut;split
  ·exact zbh (by simp)
  ·simpa only[] using yo5 _ _
 ·exact zbh (by simp[again])
 ·exact zbh (by simp)
theorem play_okc(s:SP)(line:List UInt8):okc (s.play line).2.2:=by
 unfold play
 split
 ·unfold put
  repeat' split
  all_goals first|(simpa only[] using yje _ _ _)|exact zbh (by simp)
 ·split
  ·exact zbh (by simp)
  ·split
   ·exact zyj _ _ _
   ·exact zbh (by simp)
end SP
theorem Cmd.enters(c:Cmd):∀args w,(callFunc c.fn args).run Tryz.prog w=.ok (.enter c.fn args) w:=by
 cases c
 ·exact enters_of Tryz.func68 (by kernel_rfl) rfl
 ·exact enters_of Tryz.func69 (by kernel_rfl) rfl
 ·exact enters_of Tryz.func70 (by kernel_rfl) rfl
 ·exact enters_of Tryz.func71 (by kernel_rfl) rfl
 ·exact enters_of Tryz.func72 (by kernel_rfl) rfl
 ·exact enters_of Tryz.func73 (by kernel_rfl) rfl
 ·exact enters_of Tryz.func74 (by kernel_rfl) rfl
 ·exact enters_of Tryz.func75 (by kernel_rfl) rfl
 ·exact enters_of Tryz.func76 (by kernel_rfl) rfl
 ·exact enters_of Tryz.func77 (by kernel_rfl) rfl
 ·exact enters_of Tryz.func78 (by kernel_rfl) rfl
theorem ynx(s:SP){line x:List UInt8}{r:List (List UInt8)}(hp:SP.wPut.isPrefixOf line=false)(hs:zcn 32 line=x::r):
  s.play line=match zci x with|none=>(s,[],1)|some c=>if c.words=none∨c.words=some r.length then s.does c r else (s,[],1):=by
 unfold SP.play
 rw[if_neg (by simp[hp]),hs]
 simp only[List.headD_cons,List.length_cons,List.tail_cons,Nat.add_sub_cancel]
 cases zci x<;>rfl
section
variable{Q:Guest}{E:Nat→Addr}{w0 w w':World}{pb k:Nat}{A:PlA}{s:SP}
theorem yej(c:Cmd)(r:List (List UInt8))(v:Value)(h:PlAt Q w0 w pb A s k)(hI:SInv s)(hE:SEnv E w0)(hv:SliceIs w v 1 (zbw r))(hk:k<1000000)(hr:r.length≤1000)(hx:∀x∈r,x.length≤200)(hw:c.words=none∨c.words=some r.length):
  Calls Tryz.prog c.fn #[.pointer (some ⟨pb,0,none⟩),v] w (Ans Q E w0 pb k (s.does c r)):=by
 have one:∀n,r.length=n→c.words=some n→True:=fun _ _ _=>trivial
 have e0:∀n,c.words=some n→r.length=n:=fun n h=>by
  rcases hw with hw|hw
  ·rw[hw] at h;cases h
  ·rw[hw] at h;exact Option.some.inj h
 have hdoes:s.does .send r=s.send r:=by
  rcases r with _|⟨a,_|⟨b,_|⟨c,w⟩⟩⟩<;>rfl
 match c,r,e0,hx,hv,hr,hdoes with
 | .send,r,_,hx,hv,hr,hdoes=>
  rw[hdoes]
  exact yd3 r v h hI hE hv hr (fun x hm=>by have:=hx x hm;omega) (fun x _ n hn=>nm6 x n hn)
 | .drop,[a,b],_,hx,hv,_,_=>exact yei a b v h hI hE hv
 | .list,[a],_,hx,hv,_,_=>exact yea a v h hI hE hv
 | .plan,[],_,_,_,_,_=>exact yd7 v h hI hE
 | .size,[a,b],_,hx,hv,_,_=>exact yd2 a b v h hI hE hv (by have:=hx b (by simp);omega)
 | .open,[a],_,hx,hv,_,_=>exact yd8 a v h hI hE hv (by have:=hx a (by simp);omega) hk
 | .admits,[a,b],_,hx,hv,_,_=>exact yae a b v h hE hv (by have:=hx a (by simp);omega) (by have:=hx b (by simp);omega)
 | .mark,[a,b],_,hx,hv,_,_=>exact yd9 a b v h hI hE hv (by have:=hx b (by simp);omega) (by have:=hx a (by simp);omega)
 | .far,[a],_,hx,hv,_,_=>exact yjk a v h hI hE hv
 | .cut,[a],_,hx,hv,_,_=>exact yjl a v h hE hv (by have:=hx a (by simp);omega) (fun n hn=>nm6 a n hn)
 | .again,[],_,_,_,_,_=>exact yad v h hI hE (by
   have a:=zhi s.tp.b
   have b:=zfk s.tp.b
   have c:=hI.tpb
   omega)
 | .drop,[],e0,_,_,_,_=>exact absurd (e0 2 rfl) (by simp)
 | .drop,[a],e0,_,_,_,_=>exact absurd (e0 2 rfl) (by simp)
 | .drop,a::b::d::r,e0,_,_,_,_=>exact absurd (e0 2 rfl) (by simp)
 | .list,[],e0,_,_,_,_=>exact absurd (e0 1 rfl) (by simp)
 | .list,a::b::r,e0,_,_,_,_=>exact absurd (e0 1 rfl) (by simp)
 | .plan,a::r,e0,_,_,_,_=>exact absurd (e0 0 rfl) (by simp)
 | .size,[],e0,_,_,_,_=>exact absurd (e0 2 rfl) (by simp)
 | .size,[a],e0,_,_,_,_=>exact absurd (e0 2 rfl) (by simp)
 | .size,a::b::d::r,e0,_,_,_,_=>exact absurd (e0 2 rfl) (by simp)
 | .open,[],e0,_,_,_,_=>exact absurd (e0 1 rfl) (by simp)
 | .open,a::b::r,e0,_,_,_,_=>exact absurd (e0 1 rfl) (by simp)
 | .admits,[],e0,_,_,_,_=>exact absurd (e0 2 rfl) (by simp)
 | .admits,[a],e0,_,_,_,_=>exact absurd (e0 2 rfl) (by simp)
 | .admits,a::b::d::r,e0,_,_,_,_=>exact absurd (e0 2 rfl) (by simp)
 | .mark,[],e0,_,_,_,_=>exact absurd (e0 2 rfl) (by simp)
 | .mark,[a],e0,_,_,_,_=>exact absurd (e0 2 rfl) (by simp)
 | .mark,a::b::d::r,e0,_,_,_,_=>exact absurd (e0 2 rfl) (by simp)
 | .far,[],e0,_,_,_,_=>exact absurd (e0 1 rfl) (by simp)
 | .far,a::b::r,e0,_,_,_,_=>exact absurd (e0 1 rfl) (by simp)
 | .cut,[],e0,_,_,_,_=>exact absurd (e0 1 rfl) (by simp)
 | .cut,a::b::r,e0,_,_,_,_=>exact absurd (e0 1 rfl) (by simp)
 | .again,a::r,e0,_,_,_,_=>exact absurd (e0 0 rfl) (by simp)
theorem yd6(line:List UInt8)(h:PlAt Q w0 w pb A s k)(hI:SInv s)(hE:SEnv E w0)(hk:k<1000000)(hl:line.length≤200):
  Calls Tryz.prog 18 #[.pointer (some ⟨pb,0,none⟩),.string (bs line)] w (Ans Q E w0 pb k (s.play line)):=by
 cases hp:SP.wPut.isPrefixOf line with
 | true=>
  have e:s.play line=s.put (line.drop 4):=by unfold SP.play;rw[if_pos hp]
  rw[e]
  exact yd4 line h hI hE hl hp
 | false=>
  obtain⟨x,r,hs⟩:=zl9 line
  have hmem:∀y∈r,y.length≤200:=fun y hy=>by
   have:=(zlg (c:=32) _ line (Nat.le_refl _) y (by rw[hs];exact List.mem_cons_of_mem _ hy)).1
   omega
  have hlen:r.length≤1000:=by
   have:=zhe 32 line
   rw[hs,List.length_cons] at this
   omega
  rw[ynx s hp hs]
  cases hc:zci x with
  | none=>exact zz7 line x r h hI hE hl hp hs hc
  | some c=>
   have hcv:(zci x).map Cmd.val=some (.agg #[.int .i64 c.num,.func (.func c.fn) #[] #[]]):=by rw[hc];rfl
   simp only[]
   by_cases hw:c.words=none∨c.words=some r.length
   ·rw[if_pos hw]
    refine yjg line x r h hI hE hl hp hs c.num c.fn (s.does c r) hcv ?_ c.enters (fun X v b hv=>yej c r v (h.below b) hI hE hv hk hlen hmem hw)
    rcases hw with hw|hw
    ·left;unfold Cmd.num;rw[hw];decide
    ·right;unfold Cmd.num;rw[hw]
   ·rw[if_neg hw]
    have hz:∃m:Nat,c.words=some m∧m≠r.length:=by
     cases e:c.words with
     | none=>exact absurd (.inl e) hw
     | some m=>exact⟨m,rfl,fun h=>hw (.inr (by rw[e,h]))⟩
    obtain⟨m,hm,hne⟩:=hz
    have hnum:c.num=(m:Nat):=by unfold Cmd.num;rw[hm]
    exact yd5 line x r h hI hE hl hp hs c.num c.fn hcv (by omega) (by omega)
end
section
variable{E:Nat→Addr}{w0 w w':World}
theorem ycz(v:Value)(c:Nat)(hh:Hand w)(h:Told E w v c)(hc:c≠0):
  Calls Tryz.prog 19 #[v] w fun e w'=>e=.returned (za0 (E c))∧Below w.heap.size w w':=by
 have HB:=hid (ylo w (.cells #[.pointer none] 119))
 have HC:=hid hc
 obtain⟨at',h⟩:=h
 rcases h with⟨h,_⟩|⟨_,_,rfl⟩|⟨_,_,fb,rfl,hf⟩
 ·exact absurd h hc
 ·have AM:=hid (ypm (E c) ⟨w.heap.size,0,none⟩ (w.alloc (.cells #[.pointer none] 119)) (hh.below HB.out))
  clear hh hc
  unfold za0
  go_enter Tryz.func19,Tryz.ntmps19
  go_wp2_with fail
  refine AM.out.mono ?_
  rintro e w1⟨rfl,b1⟩
  have B1:=hid (zaa HB.out b1)
  clear b1 AM
  go_wp2_with fail
  go_ret
  exact⟨rfl,B1.out⟩
 ·have AH:=hid (ypn ⟨fb,0,none⟩ ⟨w.heap.size,0,none⟩ (.pointer none) (w.alloc (.cells #[.pointer none] 119)) (hh.below HB.out) (by simp) (by simp) rfl)
  have HF:=hid hf
  have hlt:fb<w.heap.size:=lt_of_block hf
  clear hh hc hf
  go_enter Tryz.func19,Tryz.ntmps19
  go_wp2_with fail
  refine AH.out.mono ?_
  rintro e w1⟨rfl,p1,g1⟩
  have hf1:w1.heap[fb]?=some (.cells #[.int .i64 at',za0 (E c)] 123 (0,0)):=by
   rw[g1.block fb (by simp;omega) (by simp;omega),HB.out.block fb hlt];exact HF.out
  have c1:w1.cell? ⟨fb,1,none⟩=some (za0 (E c)):=by simp[World.cell?,hf1]
  have B1:Hid (Below w.heap.size w w1):=hid ⟨g1.os.trans HB.out.os,g1.tape.trans HB.out.tape,g1.output.trans HB.out.output,Nat.le_trans HB.out.size g1.size,fun k hk=>(g1.block k (by simp;omega) (by simp;omega)).trans (HB.out.block k hk)⟩
  clear g1 hf1 AH
  go_wp2_with fail
  go_ret
  exact⟨rfl,B1.out⟩
theorem zvy(a:Addr)(t:List UInt8)(h:w.cell? a=some (.string (bs t))):
  Calls Tryz.prog 321 #[.pointer (some a)] w fun e w'=>e=.returned (.string (bs t))∧w=w':=by
 go_enter Tryz.func321,Tryz.ntmps321
 go_wp2_with fail
 go_ret
 exact⟨rfl,rfl⟩
end
theorem yis(ls:List (List UInt8)):zbw (SP.zero.run (ls.take 0))=[]∧SP.zero.after (ls.take 0)=SP.zero:=⟨rfl,rfl⟩
theorem yce(a:An):(a.2=0→SP.told a=a.1)∧(a.2≠0→SP.told a=zit a.2):=by
 unfold SP.told
 exact⟨fun h=>if_pos h,fun h=>if_neg h⟩
structure REnv(E:Nat→Addr)(w:World):Prop where
 env:SEnv E w
 hand:Hand w
 txt:∀c,1≤c→c≤12→c≠7→w.cell? (E c)=some (.string (bs (zit c)))
theorem REnv.below{E:Nat→Addr}{w w':World}(h:REnv E w)(b:Below w.heap.size w w'):REnv E w':=⟨h.env.below b,h.hand.below b,fun c h1 h2 h3=>(b.cell (World.block_lt_of_cell? w _ (h.txt c h1 h2 h3))).trans (h.txt c h1 h2 h3)⟩
theorem yit(s:SP)(l:List (List UInt8))(x:List UInt8):s.run (l++[x])=s.run l++[SP.told ((s.after l).play x).2]:=by
 rw[SP.run_append];rfl
theorem ybx(s:SP)(l:List (List UInt8))(x:List UInt8):s.after (l++[x])=((s.after l).play x).1:=by
 induction l generalizing s with
 | nil=>rfl
 | cons a l ih=>simp only[List.cons_append,SP.after,ih]
theorem zug:∀(l:List (List UInt8))(s:SP),SInv s→(∀x∈l,x.length≤200)→SInv (s.after l)
 | [],s,h,_=>h
 | x::l,s,h,hl=>zug l _ (zql h x (hl x (by simp)) nm6) (fun y hy=>hl y (List.mem_cons_of_mem _ hy))
def rowQ(o:Value)(w:World):Guest:=⟨fun x ob=>o.ownBlock=some x∧w.heap[x]?=some ob,w.heap.size⟩
theorem yek{w w':World}{base:Nat}{e:TypeId}{size:Nat}{v:Value}{n:Nat}{xs:List Value}(h:w.ownsRow base e size v n xs)(hx:∀x o,v.ownBlock=some x→w.heap[x]?=some o→w'.heap[x]?=some o):w'.ownsRow base e size v n xs:=by
 obtain⟨h1,h2⟩:=h
 refine⟨h1,?_⟩
 rcases h2 with h2|⟨g,cap,cur,hv,hg,hh,h3⟩
 ·exact .inl h2
 ·subst hv
  exact .inr ⟨g,cap,cur,rfl,hg,hx g _ rfl hh,h3⟩
theorem yqx{w:World}{base:Nat}{e:TypeId}{size:Nat}{v:Value}{n:Nat}{xs:List Value}(h:w.ownsRow base e size v n xs){x:Nat}(hx:v.ownBlock=some x):∃o,w.heap[x]?=some o:=by
 obtain⟨h1,h2⟩:=h
 rcases h2 with⟨rfl,_⟩|⟨g,cap,cur,hv,hg,hh,h3⟩
 ·cases hx
 ·subst hv
  cases hx
  exact⟨_,hh⟩
theorem PlAt.grow{o:Value}{wr w0 w4 w5:World}{pb k:Nat}{A:PlA}{s:SP}(p:PlAt (rowQ o wr) w0 w4 pb A s k){e:TypeId}{size n:Nat}{xs:List Value}(ho:wr.ownsRow w0.heap.size e size o n xs){ob:Obj}{v':Value}(hg:(w4.alloc ob).grownBy w5 o.ownBlock)(hv:v'.ownBlock=o.ownBlock∨v'.ownBlock=some (w4.alloc ob).heap.size):PlAt (rowQ v' w5) w0 w5 pb A s k:=by
 have gn:∀x,o.ownBlock=some x→x≠pb∧x≠A.gb∧x≠A.mb∧¬A.F x∧A.vf.ownBlock≠some x∧A.vt.ownBlock≠some x:=fun x hx=>by
  obtain⟨b,hb⟩:=yqx ho hx
  exact p.gn x b ⟨hx,hb⟩
 have p1:=p.below (zag w4 ob)
 have hc:Chg (w4.alloc ob) w5 (fun x=>o.ownBlock=some x):=⟨hg.os,hg.tape,hg.output,hg.size,fun x hx hn=>hg.block x hx (fun e=>hn e.symm)⟩
 have p2:=p1.other hc (fun x hx=>⟨ze1 ho hx,gn x hx⟩)
 refine p2.host (fun x b h=>h.2) (fun x b h=>?_) (Nat.le_refl _)
 rcases hv with hv|hv
 ·exact gn x (by rw[←hv];exact h.1)
 ·have hx:x=(w4.alloc ob).heap.size:=by
   have h':v'.ownBlock=some x:=h.1
   rw[hv] at h'
   exact(Option.some.inj h').symm
  obtain⟨es,c,hm⟩:=p1.mapObj
  have a1:=p1.lt
  have a2:=lt_of_block p1.gt.cells
  have a3:=lt_of_block hm
  refine⟨by omega,by omega,by omega,fun hF=>?_,fun e=>?_,fun e=>?_⟩
  ·have:=(p1.tp.lo x hF).2;omega
  ·have:=(p1.fr.lt x e).2;omega
  ·have:=(p1.tt.lt x e).2;omega
section
variable{E:Nat→Addr}
attribute [local irreducible] SP.play SP.told SP.run SP.after
theorem zwv(ls:List (List UInt8))(v:Value)(w:World)(hv:SliceIs w v 1 (zbw ls))(hE:REnv E w)(hl:ls.length≤80)(hx:∀x∈ls,x.length≤200):
  Calls Tryz.prog 9 #[v] w fun e w'=>∃r,e=.returned (.tuple #[r,.nilIface])∧w'.ownsRow w.heap.size 9 1 r ls.length (zbw (SP.zero.run ls))∧Below w.heap.size w w':=by
 obtain⟨s0,m0,c0,rfl,hm0,hm1,hm2,g1⟩:=hv.get
 have hm0:m0=ls.length:=by unfold zbw at hm0;simpa using hm0.symm
 subst hm0
 have HV:=hid hv
 have HE:=hid hE
 have hI:¬(80:Int)<ls.length:=by omega
 have DN:=hid (yqf (w0:=w) (w:=w) ⟨#[]⟩ (Below.refl _ w) (by decide))
 have GN:=hid (fun w'=>zx5 w')
 obtain⟨i0,hi,hz0,hz1,hz2⟩:=info_parts zgw
 have HXL:=hid hx
 clear hv g1 hE hx
 go_enter Tryz.func9,Tryz.ntmps9
 go_wp2_with fail
 refine DN.out.mono ?_
 rintro e w1⟨db,rfl,⟨F,hT,hF⟩,b1⟩
 have HT:=hid hT
 have HF:=hid hF
 have B1:=hid b1
 clear DN hT hF b1
 go_wp2_with fail
 refine(GN.out _).mono ?_
 rintro e w2⟨gb,mb,rfl,hg,b2,l1,l2⟩
 have HG:=hid hg
 have BX:=hid b2
 have B2:=hid (zaa B1.out b2)
 have LO:=hid (And.intro l1 l2)
 clear hg b2 l1 l2
 have PZ:PlAt (rowQ (.slice none 0 0) (w2.alloc (.cells #[.slice none 0 0,.slice none 0 0,.pointer (some ⟨gb,0,none⟩),.pointer (some ⟨db,0,none⟩)] 56))) w (w2.alloc (.cells #[.slice none 0 0,.slice none 0 0,.pointer (some ⟨gb,0,none⟩),.pointer (some ⟨db,0,none⟩)] 56)) w2.heap.size ⟨.slice none 0 0,.slice none 0 0,gb,mb,db,F⟩ SP.zero 0:=by
  have hb:=zag w2 (.cells #[.slice none 0 0,.slice none 0 0,.pointer (some ⟨gb,0,none⟩),.pointer (some ⟨db,0,none⟩)] 56)
  have z1:=B1.out.size
  have z2:=BX.out.size
  have z3:=LO.out
  refine⟨heap_alloc_new w2 _,World.ownsRow_nil _ _ _ _,World.ownsRow_nil _ _ _ _,HG.out.below hb,(HT.out.below BX.out).below hb,fun x hx=>?_,by omega,by show _≤gb;omega,by show _≤mb;omega,zaa B2.out hb,fun x o h=>(by cases h.1),fun x o h=>(by cases h.1),Nat.le_refl _⟩
  have hx2:=(HT.out.lo x hx).2
  exact⟨by omega,by show x≠gb;omega,by show x≠mb;omega,(by simp[Value.ownBlock]),(by simp[Value.ownBlock])⟩
 have HPZ:=hid PZ
 have Z0:=hid yis
 clear PZ
 go_wp2_with fail
 generalize w2.alloc (.cells #[.slice none 0 0,.slice none 0 0,.pointer (some ⟨gb,0,none⟩),.pointer (some ⟨db,0,none⟩)] 56)=W at *
 generalize w2.heap.size=pb at *
 go_loopw [7,9,10,11,29] (fun o _ _ _ i wr=>∃(j:Nat)(A:PlA)(k:Nat),i=.int .i64 j∧j≤ls.length∧k≤j∧wr.ownsRow w.heap.size 9 1 o j (zbw (SP.zero.run (ls.take j)))∧PlAt (rowQ o wr) w wr pb A (SP.zero.after (ls.take j)) k) (fun _ _ _ _ i _=>ls.length - (intOf i).toNat)
 case atStart=>exact⟨0,_,0,rfl,by omega,by omega,by rw[(Z0.out ls).1];exact World.ownsRow_nil _ _ _ _,by rw[(Z0.out ls).2];exact HPZ.out⟩
 case round=>
  obtain⟨j,A,k,rfl,hj,hk,hown,hp⟩:=hrel
  have HO:=hid hown
  have HPL:=hid hp
  have BW:=hid hp.bel
  by_cases hlt:j<ls.length
  ·have hltI:(j:Int)<ls.length:=by omega
   obtain⟨s0',n0',c0',e1,_,_,_,g1⟩:=(HV.out.below BW.out).get
   cases e1
   obtain⟨ad,rfl,d0⟩:=g1 _ _ (zgp ls j hlt)
   have x1:(0:Int)≤j:=by omega
   have x2:(j:Int).toNat=j:=by omega
   have KK:=hid (show j+1≤ls.length by omega)
   have HIV:=zug (ls.take j) SP.zero zpq (fun x hx=>HXL.out x (List.mem_of_mem_take hx))
   have PY:=hid (yd6 ls[j] hp HIV HE.out.env (by omega) (HXL.out _ (List.getElem_mem _)))
   have CLE:=hid (SP.play_okc (SP.zero.after (ls.take j)) ls[j])
   have NX:=hid (show zbw (SP.zero.run (ls.take (j+1)))=zbw (SP.zero.run (ls.take j))++[.string (bs (SP.told ((SP.zero.after (ls.take j)).play ls[j]).2))] by
    rw[List.take_succ_eq_append_getElem hlt,yit];exact zcz _ _)
   have NA:=hid (show SP.zero.after (ls.take (j+1))=((SP.zero.after (ls.take j)).play ls[j]).1 by rw[List.take_succ_eq_append_getElem hlt];exact ybx _ _ _)
   have TD:=hid (yce ((SP.zero.after (ls.take j)).play ls[j]).2)
   generalize SP.told ((SP.zero.after (ls.take j)).play ls[j]).2=T at *
   generalize (SP.zero.after (ls.take j)).play ls[j]=p at *
   generalize ls[j]=line at d0 PY
   obtain⟨va,vc,rfl⟩:=zab hown
   have HN1:Hid (j+1≤maxLen):=by show _≤_;unfold maxLen;omega
   have HN2:Hid ((j+1) * 16≤140737488355328):=by show _≤_;omega
   clear hown hp g1 HIV
   go_wp2_with fail
   refine PY.out.mono ?_
   rintro e w3⟨r,A',k',rfl,t1,t2,t3⟩
   have P3:=hid t2
   have O3:=hid (yek HO.out (fun x o h1 h2=>t2.gs x o ⟨h1,h2⟩))
   have K3:=hid t3
   by_cases h0:p.2.2=0
   ·rw[h0] at t1
    obtain rfl:=t1.zero
    have HT0:=hid ((TD.out).1 h0)
    rw[←HT0.out]
    clear t1 t2 t3 d0 PY
    go_wp2_with (at_builtin;refine Hid.out ?_)
    refine hid ?_
    refine zak rfl _ _ 22 rfl w.heap.size 9 i0 _ 1 16 Tryz.underlying22 hi hz0 hz1 hz2 rfl (by decide) _ _ _ rfl (O3.out.alloc _) (.slice (some ⟨w3.heap.size,0,none⟩) 1 1) 1 [.string (bs T)] rfl (zd7 1 (heap_alloc_new w3 _) rfl rfl (by omega)) rfl (zbs rfl) HN1.out HN2.out (by have:=P3.out.bel.size;simp;omega) ?_
    intro v' w5 hown5 hgrow hv'
    have HO5:=hid hown5
    have HP5:=hid (P3.out.grow HO.out hgrow hv')
    clear hown5 hgrow hv'
    go_wp2_with fail
    go_roundw
    case rel=>exact⟨j+1,A',k',by go_num,KK.out,by have:=K3.out;omega,by rw[NX.out];exact HO5.out,by rw[NA.out];exact HP5.out⟩
    case measure=>have:=KK.out;simp[intOf];omega
   ·have T1:=hid t1
    have B3:=hid t2.bel
    have BE:=hid (ycz (E:=E) (w:=w3) r p.2.2 (HE.out.hand.below t2.bel) t1 h0)
    have HT0:=hid ((TD.out).2 h0)
    have TX:=hid (fun(w':World)(b:Below w.heap.size w w')=>(HE.out.below b).txt p.2.2 (by omega) CLE.out.1 CLE.out.2)
    have ME:∀(v:Value)(w:World),(Go.method 485 338 v "Error").run Tryz.prog w=.ok (321,v) w:=fun v w=>by kernel_rfl
    rcases t1.two h0 with rfl|⟨fb,rfl⟩
    all_goals
     clear t1 t2 t3 d0 PY
     go_wp2_with fail
     refine BE.out.mono ?_
     rintro e w4⟨rfl,b4⟩
     have B4:=hid b4
     have B4':=hid (zaa B3.out b4)
     unfold za0
     clear b4
     go_wp2_with fail
     refine(zvy (E p.2.2) (zit p.2.2) (TX.out _ B4'.out)).mono ?_
     rintro e w5⟨rfl,rfl⟩
     rw[←HT0.out]
     have P4:=hid (P3.out.below B4.out)
     have O4:=hid (zad O3.out B4.out)
     clear ME
     go_wp2_with (at_builtin;refine Hid.out ?_)
     refine hid ?_
     refine zak rfl _ _ 22 rfl w.heap.size 9 i0 _ 1 16 Tryz.underlying22 hi hz0 hz1 hz2 rfl (by decide) _ _ _ rfl (O4.out.alloc _) (.slice (some ⟨w4.heap.size,0,none⟩) 1 1) 1 [.string (bs T)] rfl (zd7 1 (heap_alloc_new w4 _) rfl rfl (by omega)) rfl (zbs rfl) HN1.out HN2.out (by have:=P4.out.bel.size;simp;omega) ?_
     intro v' w6 hown6 hgrow hv'
     have HO6:=hid hown6
     have HP6:=hid (P4.out.grow HO.out hgrow hv')
     clear hown6 hgrow hv'
     go_wp2_with fail
     go_roundw
     case rel=>exact⟨j+1,A',k',by go_num,KK.out,by have:=K3.out;omega,by rw[NX.out];exact HO6.out,by rw[NA.out];exact HP6.out⟩
     case measure=>have:=KK.out;simp[intOf];omega
  ·have hltI:¬(j:Int)<ls.length:=by omega
   obtain rfl:j=ls.length:=by omega
   rw[List.take_length] at hown HO
   obtain⟨va,vc,hva⟩:=zab hown
   subst hva
   clear hown hp
   go_wp2_with fail
   go_ret2
   exact⟨_,rfl,HO.out,BW.out⟩
end
def yoo:List UInt8:= "put from a 123456789".toUTF8.data.toList
def yon:List UInt8:= "plan".toUTF8.data.toList
def yom:List UInt8:= "send 6 0".toUTF8.data.toList
def yol:List UInt8:= "list to".toUTF8.data.toList
def yok:List UInt8:= "open t".toUTF8.data.toList
def heF:PF:=⟨[97],[49,50,51,52,53,54,55,56,57]⟩
def heS(t:List PF):SP:=⟨[heF],t,[],⟨[],false,-1⟩⟩
theorem he1:SP.zero.play yoo=(heS [],zg2,0):=by kernel_rfl
theorem he2:(heS []).play yon=(heS [],"send:a".toUTF8.data.toList,0):=by kernel_rfl
theorem he3:(heS []).play yom=(heS (SP.sent [heF] [] [6,0]),zha,0):=by kernel_rfl
theorem he5(t:List PF):((heS t).play yok).2=([49],0):=by kernel_rfl
theorem he4(t:List PF):(heS t).play yol=(heS t,zfo ((t.map PF.line).map SP.lineT),0):=by
 rw[List.map_map]
 kernel_rfl
theorem yrd:zfo ([heF.line].map SP.lineT)= "a:9:3421780262".toUTF8.data.toList:=by kernel_rfl
theorem yoj:Small [heF]:=by
 refine⟨(zbd _).1 (by kernel_rfl),fun f hf=>?_⟩
 simp at hf
 subst hf
 decide
theorem ycp:Small []:=by
 exact⟨(zbd _).1 (by kernel_rfl),fun f hf=>by cases hf⟩
theorem yfw:SP.zero.run [yoo,yon,yom,yol,yok]=[zg2,"send:a".toUTF8.data.toList,zha,"a:9:3421780262".toUTF8.data.toList,[49]]:=by
 have L:=(zlk yoj ycp [6,0]).2
 have h4:=he4 (SP.sent [heF] [] [6,0])
 rw[L,show[heF].map PF.line=[heF.line] from rfl,yrd] at h4
 simp only[SP.run,he1,he2,he3,h4,he5,SP.told,if_true]
section
theorem ynr{E:Nat→Addr}{w:World}{l:List Nat}(hl:∀c,1≤c→c≤14→c≠7→c∈l)(hh:Hand w)(ht:TabW w)(hm:MaxW w)(h1:∀c∈l,Has E w c∧Sent w (E c))(hx:∀c∈l,w.cell? (E c)=some (.string (bs (zit c)))):REnv E w:=by
 have H:∀c,1≤c→c≤14→c≠7→Has E w c:=fun c a b d=>(h1 c (hl c a b d)).1
 refine⟨⟨⟨H 1 (by omega) (by omega) (by omega),H 2 (by omega) (by omega) (by omega),H 3 (by omega) (by omega) (by omega),H 4 (by omega) (by omega) (by omega),H 5 (by omega) (by omega) (by omega),H 6 (by omega) (by omega) (by omega),H 8 (by omega) (by omega) (by omega),H 9 (by omega) (by omega) (by omega),H 10 (by omega) (by omega) (by omega),H 11 (by omega) (by omega) (by omega)⟩,⟨ht,hm,H 13 (by omega) (by omega) (by omega),H 14 (by omega) (by omega) (by omega)⟩,H 12 (by omega) (by omega) (by omega)⟩,hh,fun c a b d=>hx c (hl c a (by omega) d)⟩
attribute [local irreducible] SP.run
theorem yke(E:Nat→Addr)(w:World)(hE:REnv E w):
  Calls Tryz.prog 4 #[] w fun e w'=>e=.returned (.bool true)∧Below w.heap.size w w':=by
 have RN:=hid (fun(w':World)(v:Value)(b:Below w.heap.size w w')(hv:SliceIs w' v 1 (zbw [yoo,yon,yom,yol,yok]))=>zwv (E:=E) [yoo,yon,yom,yol,yok] v w' hv (hE.below b) (by simp) (by decide))
 have HR:=yfw
 have ST:=hid (fun (v1 v2:Value) (w:World) h1 h2=>zk2 v1 v2 (SP.zero.run [yoo,yon,yom,yol,yok]) [zg2,"send:a".toUTF8.data.toList,zha,"a:9:3421780262".toUTF8.data.toList,[49]] w h1 h2)
 have EQ:(SP.zero.run [yoo,yon,yom,yol,yok]==[zg2,"send:a".toUTF8.data.toList,zha,"a:9:3421780262".toUTF8.data.toList,[49]])=true:=by rw[HR];decide
 rw[EQ] at ST
 clear HR EQ hE
 go_enter Tryz.func4,Tryz.ntmps4
 have L1:zbw [yoo,yon,yom,yol,yok]=[.string ⟨#[112,117,116,32,102,114,111,109,32,97,32,49,50,51,52,53,54,55,56,57]⟩,.string ⟨#[112,108,97,110]⟩,.string ⟨#[115,101,110,100,32,54,32,48]⟩,.string ⟨#[108,105,115,116,32,116,111]⟩,.string ⟨#[111,112,101,110,32,116]⟩]:=by kernel_rfl
 have L2:([zg2,"send:a".toUTF8.data.toList,zha,"a:9:3421780262".toUTF8.data.toList,[49]].map fun x=>Value.string (bs x))=[.string ⟨#[111,107]⟩,.string ⟨#[115,101,110,100,58,97]⟩,.string ⟨#[100,111,110,101]⟩,.string ⟨#[97,58,57,58,51,52,50,49,55,56,48,50,54,50]⟩,.string ⟨#[49]⟩]:=by kernel_rfl
 have HL1:=hid L1.symm
 have HL2:=hid L2.symm
 clear L1 L2
 go_wp2_with fail
 refine(RN.out _ _ (zag w _) (zs0 1 (heap_alloc_new w _) HL1.out (by unfold zbw;rfl) (by omega))).mono ?_
 rintro e w1⟨r,rfl,hr,b1⟩
 have HR:=hid hr
 have B1:=hid (zaa (zag w _) b1)
 obtain⟨ra,rc,rfl⟩:=zab hr
 clear hr b1 RN
 go_wp2_with fail
 refine(ST.out _ _ _ (by have:=(SliceIs.ownedK HR.out).below (zag w1 (.cells #[.string ⟨#[111,107]⟩,.string ⟨#[115,101,110,100,58,97]⟩,.string ⟨#[100,111,110,101]⟩,.string ⟨#[97,58,57,58,51,52,50,49,55,56,48,50,54,50]⟩,.string ⟨#[49]⟩] 9));unfold zbw at this;exact this) (zs0 1 (heap_alloc_new w1 _) HL2.out (by rfl) (by omega))).mono ?_
 rintro e w2⟨rfl,dr⟩
 have B2:=hid (zaa (zaa B1.out (zag w1 _)) (dr.below _))
 clear dr
 go_wp2_with fail
 go_ret
 exact⟨rfl,B2.out⟩
def yr0(l:List (List UInt8))(most:Int)(w:World)(e:Ending)(w':World):Prop:=∃b:Bool,e=.returned (.bool b)∧(b=false→(l.length:Int)≤most∧∀x∈l,x.length≤120)∧w=w'
theorem yjz(l:List (List UInt8))(v:Value)(most:Nat)(w:World)(hv:SliceIs w v 1 (zbw l))(hm:most≤1000)(hbig:∀x∈l,x.length≤maxLen):
  Calls Tryz.prog 5 #[v,.int .i64 most] w (yr0 l most w):=by
 obtain⟨s0,m0,c0,rfl,hm0,hm1,hm2,g1⟩:=hv.get
 have hm0:m0=l.length:=by unfold zbw at hm0;simpa using hm0.symm
 subst hm0
 unfold maxLen at hm2
 have HV:=hid hv
 have HB:=hid hbig
 clear hv g1 hbig
 by_cases h0:most<l.length
 ·have hI:(most:Int)<l.length:=by omega
  go_enter Tryz.func5,Tryz.ntmps5
  go_wp2_with fail
  go_ret
  exact⟨true,rfl,fun h=>by (cases h),rfl⟩
 ·have hI:¬(most:Int)<l.length:=by omega
  go_enter Tryz.func5,Tryz.ntmps5
  go_wp2_with fail
  go_loop [5,6] (fun c i=>∃(k n:Nat),i=.int .i64 k∧c=.int .i64 n∧n≤k∧k≤l.length∧∀x∈l.take k,x.length≤120) (fun _ i=>l.length - (intOf i).toNat)
  case atStart=>exact⟨0,0,rfl,rfl,by omega,by omega,by simp⟩
  case round=>
   obtain⟨k,n,rfl,rfl,hn,hk,hall⟩:=hrel
   have HA:=hid hall
   clear hall
   by_cases hlt:k<l.length
   ·have hltI:(k:Int)<l.length:=by omega
    obtain⟨s0',n0',c0',e1,_,_,_,g1⟩:=HV.out.get
    cases e1
    obtain⟨ad,rfl,d0⟩:=g1 _ _ (zgp l k hlt)
    have x1:(0:Int)≤k:=by omega
    have x2:(k:Int).toNat=k:=by omega
    have KK:=hid (show k+1≤l.length by omega)
    have HXB:=HB.out l[k] (List.getElem_mem _)
    unfold maxLen at HXB
    have HN:=hid (fun(h:(l[k]'hlt).length≤120)=>show ∀x∈l.take (k+1),x.length≤120 from fun x hx=>by
     rw[List.take_succ_eq_append_getElem hlt] at hx
     rcases List.mem_append.1 hx with hx|hx
     ·exact HA.out x hx
     ·rw[List.mem_singleton.1 hx];exact h)
    generalize (l[k]'hlt)=y at *
    clear g1
    by_cases h1:120<y.length
    ·have hI1:(120:Int)<y.length:=by omega
     go_wp2_with fail
     go_ret
     exact⟨true,rfl,fun h=>by (cases h),rfl⟩
    ·have hI1:¬(120:Int)<y.length:=by omega
     by_cases h2:4≤y.length
     ·have hI2:(4:Int)≤y.length:=by omega
      have EX:(bs y).extract 0 4=bs (y.take 4):=by rw[zcv,zai]
      by_cases h3:y.take 4=[115,101,110,100]
      ·have k1:=zc3 (y.take 4) [115,101,110,100] h3
       clear h3
       go_wp2_with fail
       go_round
       case rel=>exact⟨k+1,n+1,by go_num,by go_num,by omega,KK.out,HN.out (by omega)⟩
       case measure=>have:=KK.out;simp[intOf];omega
      ·have k1:=zbj (y.take 4) [115,101,110,100] h3
       clear h3
       go_wp2_with fail
       go_round
       case rel=>exact⟨k+1,n,by go_num,rfl,by omega,KK.out,HN.out (by omega)⟩
       case measure=>have:=KK.out;simp[intOf];omega
     ·have hI2:¬(4:Int)≤y.length:=by omega
      go_wp2_with fail
      go_round
      case rel=>exact⟨k+1,n,by go_num,rfl,by omega,KK.out,HN.out (by omega)⟩
      case measure=>have:=KK.out;simp[intOf];omega
   ·have hltI:¬(k:Int)<l.length:=by omega
    obtain rfl:k=l.length:=by omega
    have hall:=HA.out
    rw[List.take_length] at hall
    go_wp2_with fail
    go_ret
    exact⟨_,rfl,fun _=>⟨by omega,hall⟩,rfl⟩
end
section
theorem zwu(l:List (List UInt8)):(zbw l).length=l.length:=by unfold zbw;exact List.length_map ..
theorem yjo(a:List ByteArray):a.map Value.string=zbw (a.map fun s=>s.data.toList):=by
 unfold zbw
 rw[List.map_map]
 refine List.map_congr_left fun s _=>?_
 show Value.string s=Value.string (bs s.data.toList)
 rw[zoa]
attribute [local irreducible] SP.run
end
section
theorem yla{l:List UInt8}{i:Nat}(h:i<l.length)(hc:l[i]=32)(hno:(32:UInt8)∉l.take i):zec 32 l=l.take i∧zcc 32 l=l.drop (i+1)∧(zdu 32 l).isSome=true:=by
 have e:l=l.take i++32::l.drop (i+1):=by
  have h1:=List.take_append_drop i l
  rw[List.drop_eq_getElem_cons h,hc] at h1
  exact h1.symm
 have hcut:zdu 32 l=some (l.take i,l.drop (i+1)):=by
  have:=zv5 hno (l.drop (i+1))
  rw[←e] at this
  exact this
 unfold zec zcc
 rw[hcut]
 exact⟨rfl,rfl,rfl⟩
theorem yo0{l:List UInt8}(hno:(32:UInt8)∉l):zec 32 l=l∧zcc 32 l=[]∧(zdu 32 l).isSome=false:=by
 have hcut:zdu 32 l=none:=cutC_none.2 hno
 unfold zec zcc
 rw[hcut]
 exact⟨rfl,rfl,rfl⟩
theorem ynh{l:List UInt8}{i:Nat}(h:i<l.length)(hc:l[i]≠32)(hno:(32:UInt8)∉l.take i):(32:UInt8)∉l.take (i+1):=by
 rw[List.take_succ_eq_append_getElem h,List.mem_append,List.mem_singleton]
 exact fun e=>e.elim hno (fun e=>hc e.symm)
attribute [local irreducible] zec zcc zdu
theorem zxc(l:List UInt8)(w:World)(hl:l.length≤1000000):
  Calls Tryz.prog 20 #[.string (bs l)] w fun e w'=>e=.returned (.tuple #[.string (bs (zec 32 l)),.string (bs (zcc 32 l)),.bool (zdu 32 l).isSome])∧Below w.heap.size w w':=by
 have hsz:(bs l).size=l.length:=zae l
 have HGET:=hid (fun k h=>yhn l k h)
 have GV:Hid (∀(k:Nat)(h:k<(bs l).size),((bs l)[k]'h).toNat<256):=fun k h=>((bs l)[k]'h).toNat_lt
 have SUB:=hid (fun i k=>zrx l i k)
 have DY:=hid (fun (i:Nat) h hc hn=>yla (l:=l) (i:=i) h hc hn)
 have DN:=hid (fun h=>yo0 (l:=l) h)
 have TN:=hid (fun (i:Nat) h hc hn=>ynh (l:=l) (i:=i) h hc hn)
 go_enter Tryz.func20,Tryz.ntmps20
 go_wp2_with fail
 go_loop [5] (fun i=>∃k:Nat,i=.int .i64 k∧k≤l.length∧(32:UInt8)∉l.take k) (fun i=>l.length - (intOf i).toNat)
 case atStart=>exact⟨0,rfl,by omega,by simp⟩
 case round=>
  obtain⟨k,rfl,hk,hno⟩:=hrel
  have HNO:=hid hno
  have x1:(0:Int)≤k:=by omega
  have x2:(k:Int).toNat=k:=by omega
  clear hno
  by_cases hlt:k<l.length
  ·have hltI:(k:Int)<l.length:=by omega
   have hjs:k<(bs l).size:=by omega
   have hg:=HGET.out k hjs
   have hcv:=GV.out k hjs
   have KK:=hid (show k+1≤l.length by omega)
   have HE:=hid (show(bs l)[k]'hjs=l[k]'hlt by
    have:=hg
    rw[List.getElem?_eq_getElem hlt] at this
    exact(Option.some.inj this).symm)
   by_cases hc:((bs l)[k]'hjs)=32
   ·have hcE:((((bs l)[k]'hjs).toNat:Int)==32)=true:=by rw[hc];rfl
    obtain⟨e1,e2,e3⟩:=DY.out k hlt (by rw[←HE.out];exact hc) HNO.out
    have HQ:=hid (And.intro e1 (And.intro e2 e3))
    have EX1:=SUB.out 0 k
    have EX2:=SUB.out (k+1) l.length
    rw[List.drop_zero,Nat.sub_zero] at EX1
    rw[List.take_of_length_le (by rw[List.length_drop];omega)] at EX2
    have y1:(k:Int)≤l.length:=by omega
    have y2:(k:Int)+1≤l.length:=by omega
    have y3:(0:Int)≤(k:Int)+1:=by omega
    have y4:((k:Int)+1).toNat=k+1:=by omega
    have y5:IntKind.i64.wrap ((k:Int)+1)=(k:Int)+1:=IntWalk.i64_in _ (by omega)
    clear hc hg HE DY DN TN e1 e2 e3
    go_wp2_with fail
    go_quiet (fail)
    go_wp2_with fail
    go_returns
    rw[HQ.out.1,HQ.out.2.1,HQ.out.2.2]
    exact⟨rfl,zac (Below.refl _ _) _⟩
   ·have hcE:((((bs l)[k]'hjs).toNat:Int)==32)=false:=by
     rw[beq_eq_false_iff_ne]
     intro e
     exact hc (UInt8.toNat_inj.1 (by show _=(32:UInt8).toNat;exact Int.ofNat.inj e))
    have NX:=hid (TN.out k hlt (by rw[←HE.out];exact hc) HNO.out)
    clear hc hg HE DY DN TN
    go_wp2_with fail
    go_round
    case rel=>exact⟨k+1,by go_num,KK.out,NX.out⟩
    case measure=>have:=KK.out;simp[intOf];omega
  ·have hltI:¬(k:Int)<l.length:=by omega
   obtain rfl:k=l.length:=by omega
   have hn:=HNO.out
   rw[List.take_length] at hn
   obtain⟨e1,e2,e3⟩:=DN.out hn
   have HQ:=hid (And.intro e1 (And.intro e2 e3))
   clear DY DN TN hn e1 e2 e3
   go_wp2_with fail
   go_returns
   rw[HQ.out.1,HQ.out.2.1,HQ.out.2.2,bs_nil]
   exact⟨rfl,Below.refl _ _⟩
def zk1(x:List UInt8):Int:=match zci x with|none=>-2|some c=>c.num
def Cmd.word:Cmd→List UInt8
 | .drop=>[100,114,111,112]
 | .list=>[108,105,115,116]
 | .plan=>[112,108,97,110]
 | .size=>[115,105,122,101]
 | .send=>[115,101,110,100]
 | .open=>[111,112,101,110]
 | .admits=>[97,100,109,105,116]
 | .mark=>[109,97,114,107]
 | .far=>[102,97,114]
 | .cut=>[99,117,116]
 | .again=>[114,101,99,111,118,101,114]
theorem zil{x:List UInt8}{c:Cmd}(h:zci x=some c):x=c.word:=by
 unfold zci at h
 by_cases g0:x=[100,114,111,112]
 ·rw[if_pos g0] at h;cases h;exact g0
 rw[if_neg g0] at h
 by_cases g1:x=[108,105,115,116]
 ·rw[if_pos g1] at h;cases h;exact g1
 rw[if_neg g1] at h
 by_cases g2:x=[112,108,97,110]
 ·rw[if_pos g2] at h;cases h;exact g2
 rw[if_neg g2] at h
 by_cases g3:x=[115,105,122,101]
 ·rw[if_pos g3] at h;cases h;exact g3
 rw[if_neg g3] at h
 by_cases g4:x=[115,101,110,100]
 ·rw[if_pos g4] at h;cases h;exact g4
 rw[if_neg g4] at h
 by_cases g5:x=[111,112,101,110]
 ·rw[if_pos g5] at h;cases h;exact g5
 rw[if_neg g5] at h
 by_cases g6:x=[97,100,109,105,116]
 ·rw[if_pos g6] at h;cases h;exact g6
 rw[if_neg g6] at h
 by_cases g7:x=[109,97,114,107]
 ·rw[if_pos g7] at h;cases h;exact g7
 rw[if_neg g7] at h
 by_cases g8:x=[102,97,114]
 ·rw[if_pos g8] at h;cases h;exact g8
 rw[if_neg g8] at h
 by_cases g9:x=[99,117,116]
 ·rw[if_pos g9] at h;cases h;exact g9
 rw[if_neg g9] at h
 by_cases g10:x=[114,101,99,111,118,101,114]
 ·rw[if_pos g10] at h;cases h;exact g10
 rw[if_neg g10] at h
 cases h
def Cmd.told:Cmd→Bool
 | .drop|.list|.plan|.open|.far|.again=>true
 | _=>false
theorem zwp(d:Cmd):zci d.word=some d:=by cases d<;>kernel_rfl
theorem zg3(x:List UInt8)(d:Cmd):((bs x).toList==d.word)=decide (zci x=some d):=by
 by_cases h:x=d.word
 ·rw[zc3 _ _ h,h,zwp]
  simp
 ·rw[zbj _ _ h]
  exact(decide_eq_false (fun e=>h (zil e))).symm
attribute [local irreducible] zk1 zci
theorem zzx(x:List UInt8)(w:World):Calls Tryz.prog 13 #[.string (bs x)] w fun e w'=>e=.returned (.int .i64 (zk1 x))∧w=w':=by
 have e:zk1 x=(match zci x with|none=>-2|some c=>c.num):=by unfold zk1;rfl
 rw[e]
 have k0:=zg3 x .drop
 have k1:=zg3 x .list
 have k2:=zg3 x .plan
 have k3:=zg3 x .size
 have k4:=zg3 x .send
 have k5:=zg3 x .open
 have k6:=zg3 x .admits
 have k7:=zg3 x .mark
 have k8:=zg3 x .far
 have k9:=zg3 x .cut
 have k10:=zg3 x .again
 generalize zci x=oc at *
 clear e
 have W:oc=none∨oc=some .drop∨oc=some .list∨oc=some .plan∨oc=some .size∨oc=some .send∨oc=some .open∨oc=some .admits∨oc=some .mark∨oc=some .far∨oc=some .cut∨oc=some .again:=by rcases oc with _|c;simp;cases c<;>simp
 rcases W with rfl|rfl|rfl|rfl|rfl|rfl|rfl|rfl|rfl|rfl|rfl|rfl
 all_goals
  simp only[Cmd.word,reduceCtorEq,Option.some.injEq,decide_false,decide_true] at *
  go_enter Tryz.func13,Tryz.ntmps13
  go_wp2_with fail
  go_ret
  exact⟨rfl,rfl⟩
theorem yf1(l:List (List UInt8)):∀(k:Nat)(h:k+1<l.length),zcu (l.take (k+2))=zcu (l.take (k+1))++32::l[k+1]'h:=by
 intro k
 induction k generalizing l with
 | zero=>
  intro h
  match l,h with
  | a::b::l,_=>simp[zcu]
 | succ k ih=>
  intro h
  match l,h with
  | a::b::l,h=>
   have:=ih (b::l) (by simpa using h)
   simp only[List.take_succ_cons,List.getElem_cons_succ,zcu] at this ⊢
   rw[this]
   simp
theorem yf2(l:List (List UInt8)):∀k,(zcu (l.take k)).length≤(zcu l).length:=by
 induction l with
 | nil=>intro k;simp
 | cons a l ih=>
  intro k
  match l,k with
  | [],0=>simp[zcu]
  | [],k+1=>simp
  | b::l,0=>simp[zcu]
  | b::l,1=>simp[zcu]
  | b::l,k+2=>
   have:=ih (k+1)
   simp only[List.take_succ_cons,zcu,List.length_append,List.length_cons] at this ⊢
   omega
attribute [local irreducible] zcu zfo
theorem zmo(l:List (List UInt8))(v:Value)(w:World)(hv:SliceIs w v 1 (zbw l))(hg:(zcu l).length≤1000000)(hlen:l.length≤1000000):
  Calls Tryz.prog 27 #[v] w fun e w'=>e=.returned (.string (bs (zfo l)))∧w=w':=by
 obtain⟨s0,n0,c0,rfl,e2,e3,e4,g1⟩:=hv.get
 have e2:n0=l.length:=by rw[zwu] at e2;omega
 subst e2
 unfold maxLen at e4
 by_cases h0:l.length=0
 ·have hl:l=[]:=List.eq_nil_of_length_eq_zero h0
  have hJ:zfo l=zru:=by rw[hl];unfold zfo;rfl
  have HJ:=hid hJ
  have h0I:((l.length:Nat):Int)=0:=by omega
  rw[h0] at *
  clear g1 hl hJ hv
  go_enter Tryz.func27,Tryz.ntmps27
  go_wp2_with fail
  go_ret
  rw[HJ.out]
  exact⟨by unfold zru bs;rfl,rfl⟩
 ·have hJ:zfo l=zcu l:=by unfold zfo;rw[if_neg (fun e=>h0 (by rw[e];rfl))]
  have HJ:=hid hJ
  have h0I:¬((l.length:Nat):Int)=0:=by omega
  have hpos:(0:Int)<l.length:=by omega
  have hpos':0<l.length:=by omega
  have HV:=hid hv
  have GT:=hid (yf1 l)
  have GM:=hid (yf2 l)
  have G1:=hid (show zcu (l.take 1)=l[0]'hpos' by
   match l,hpos' with
   | a::l,_=>unfold zcu;rfl)
  obtain⟨ad,rfl,d0⟩:=g1 0 _ (zgp l 0 hpos')
  rw[zdy] at d0
  clear hJ hv g1
  generalize hq:(l[0]'hpos')=y at d0 G1
  go_enter Tryz.func27,Tryz.ntmps27
  go_wp2_with fail
  go_loop [3,4] (fun o i=>∃k:Nat,i=.int .i64 ((k+1:Nat):Int)∧k+1≤l.length∧o=.string (bs (zcu (l.take (k+1))))) (fun _ i=>l.length - (intOf i).toNat)
  case atStart=>exact⟨0,rfl,by omega,by rw[G1.out]⟩
  case round=>
   obtain⟨k,rfl,hk,rfl⟩:=hrel
   by_cases hlt:k+1<l.length
   ·have hltI:((k+1:Nat):Int)<l.length:=by omega
    obtain⟨s0',n0',c0',e1,_,_,_,g1⟩:=HV.out.get
    cases e1
    obtain⟨ad',e',d1⟩:=g1 _ _ (zgp l (k+1) hlt)
    cases e'
    have x1:(0:Int)≤((k+1:Nat):Int):=by omega
    have x2:((k+1:Nat):Int).toNat=k+1:=by omega
    have KK:=hid (show(k+1)+1≤l.length by omega)
    have gt:=GT.out k hlt
    have GN:=hid (show zcu (l.take ((k+1)+1))=zcu (l.take (k+1))++32::(l[k+1]'hlt) from gt)
    have gm:=GM.out (k+2)
    have gm1:=GM.out (k+1)
    generalize (l[k+1]'hlt)=z at *
    rw[gt] at gm
    generalize hX:zcu (l.take (k+1))=X at *
    rw[List.length_append,List.length_cons] at gm
    obtain⟨Y1,hY1⟩:∃Y,Y=X++[32]:=⟨_,rfl⟩
    have hA1:bs X++⟨#[32]⟩=bs Y1:=by rw[sp32,hY1];exact zc6 X [32]
    have hA2:bs Y1++bs z=bs (X++32::z):=by rw[hY1,zc6];simp
    have l1:Y1.length=X.length+1:=by rw[hY1];simp
    have hc1:¬9223372036854775807<X.length+1:=by omega
    have hc2:¬9223372036854775807<Y1.length+z.length:=by omega
    clear hY1 gt gm gm1 g1 l1 hX
    generalize k+1=j at *
    go_wp2_with fail
    go_round
    case rel=>exact⟨j,by go_num,KK.out,by rw[GN.out]⟩
    case measure=>have:=KK.out;simp[intOf];omega
   ·have hltI:¬((k+1:Nat):Int)<l.length:=by omega
    have hk1:k+1=l.length:=by omega
    have HT:=hid (show l.take (k+1)=l by rw[hk1,List.take_length])
    go_wp2_with fail
    go_ret
    rw[HJ.out]
    first
     | exact⟨rfl,rfl⟩
     | exact⟨by rw[HT.out],rfl⟩
end
end Go.Proofs.YtakhkcaihhpehaaGreatDoor
