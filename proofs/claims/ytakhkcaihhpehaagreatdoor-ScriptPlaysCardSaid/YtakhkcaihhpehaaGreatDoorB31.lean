/- Texts of one proof, one behind the other: XferDo. -/
import Derived.Test.YtakhkcaihhpehaaGreatDoorB24
import Derived.Test.YtakhkcaihhpehaaGreatDoorB30
import Derived.Test.YtakhkcaihhpehaaGreatDoorB29
namespace Go.Proofs.YtakhkcaihhpehaaGreatDoor
open Go.RowKit
open Lib (hid)
set_option linter.unusedVariables false
set_option maxRecDepth 100000
set_option maxHeartbeats 51200000
theorem ycc{w:World}{b:Nat}{x y:Value}{t:TypeId}(h:w.heap[b]?=some (.cells #[x,y] t (0,0))):∀j u',[x,y][j]?=some u'→w.cell? ((⟨b,0,none⟩:Addr).add j)=some u':=by
 intro j u hj
 match j,hj with
 | 0,hj=>simp at hj;subst hj;simp[World.cell?,h,Addr.add]
 | 1,hj=>simp at hj;subst hj;simp[World.cell?,h,Addr.add]
section
variable{E:Nat→Addr}{w0 w:World}{xb:Nat}{A:XA}{x:XS}{t0:List PF}
theorem act_6{v:Nat}(h:v % 8=6):x.act (v:Int)=x.tick:=by
 unfold XS.act
 rw[if_neg (by omega)]
 simp only[Int.toNat_natCast]
 rw[if_pos h]
theorem act_7{v:Nat}(h:v % 8=7):x.act (v:Int)=x.begins:=by
 unfold XS.act
 rw[if_neg (by omega)]
 simp only[Int.toNat_natCast]
 rw[if_neg (by omega),if_pos h]
theorem yly{v:Nat}(h6:v % 8≠6)(h7:v % 8≠7)(hn:x.net=[]):x.act (v:Int)=x:=by
 unfold XS.act
 rw[if_neg (by omega)]
 simp only[Int.toNat_natCast]
 rw[if_neg h6,if_neg h7,if_pos hn]
theorem yl0{v:Nat}(h:v % 8<3)(hn:x.net≠[]):x.act (v:Int)=x.come (v / 8 % x.net.length):=by
 unfold XS.act
 rw[if_neg (by omega)]
 simp only[Int.toNat_natCast]
 rw[if_neg (by omega),if_neg (by omega),if_neg hn,if_pos h]
theorem ylz{v:Nat}(h:v % 8=3)(hn:x.net≠[]):x.act (v:Int)={x with net:=x.net.eraseIdx (v / 8 % x.net.length)}:=by
 unfold XS.act
 rw[if_neg (by omega)]
 simp only[Int.toNat_natCast]
 rw[if_neg (by omega),if_neg (by omega),if_neg hn,if_neg (by omega),if_pos h]
theorem yh0{v:Nat}(h:v % 8=4)(hn:x.net≠[]):x.act (v:Int)=if hl:x.net.length<500 then {x with net:=x.net++[x.net[v / 8 % x.net.length]'(Nat.mod_lt _ (List.length_pos_iff.2 hn))]} else x:=by
 unfold XS.act
 rw[if_neg (by omega)]
 simp only[Int.toNat_natCast]
 rw[if_neg (by omega),if_neg (by omega),if_neg hn,if_neg (by omega),if_neg (by omega),if_pos h]
 have hlt:v / 8 % x.net.length<x.net.length:=Nat.mod_lt _ (List.length_pos_iff.2 hn)
 by_cases hl:x.net.length<500
 ·rw[if_pos hl,dif_pos hl,List.getElem?_eq_getElem hlt]
  rfl
 ·rw[if_neg hl,dif_neg hl]
theorem ylx{v:Nat}(h:v % 8=5)(hn:x.net≠[]):x.act (v:Int)=x.turn (v / 8):=by
 unfold XS.act
 rw[if_neg (by omega)]
 simp only[Int.toNat_natCast]
 rw[if_neg (by omega),if_neg (by omega),if_neg hn,if_neg (by omega),if_neg (by omega),if_neg (by omega)]
theorem ypx{v:Int}(h:v<0):x.act v=x:=by unfold XS.act;rw[if_pos h]
theorem zy8(h:XAt w0 w xb A x)(hd:x.dn=true):
  Calls Tryz.prog 150 #[.pointer (some ⟨xb,0,none⟩)] w fun e w'=>e=.returned (.tuple #[])∧∃A',XAt w0 w' xb A' x.begins:=by
 have HX:=hid h
 have e:x.begins=x:=by unfold XS.begins;rw[if_pos hd]
 have c15:=h.cells.cs.2.2.2.2.2.2.2.2.2.2.2.2.2.2.2
 rw[hd] at c15
 rw[e]
 clear h hd e
 go_enter Tryz.func150,Tryz.ntmps150
 go_wp2_with fail
 go_returns
 exact⟨rfl,A,HX.out⟩
theorem ym7(v:Int)(hv:-9223372036854775808≤v∧v<9223372036854775808)(hI:XInv t0 x)(h:XAt w0 w xb A x)(hn:x.net.length≤100000000)(hg:x.ge<1000000)(hpl:∀p∈x.net,0<p.1.length∧p.1.length≤100000)(CM:yh2 w0 xb t0)(h2:Has E w0 2)(h4:Has E w0 4)(h5:Has E w0 5)(h8:Has E w0 8):
  Calls Tryz.prog 108 #[.pointer (some ⟨xb,0,none⟩),.int .i64 v] w fun e w'=>e=.returned (.tuple #[])∧∃A',XAt w0 w' xb A' (x.act v):=by
 have HX:=hid h
 by_cases hv0:v<0
 ·rw[ypx hv0]
  have hvI:decide (v<0)=true:=by simpa using hv0
  clear h hI CM h2 h4 h5 h8 hpl hv hn hg
  go_enter Tryz.func108,Tryz.ntmps108
  go_wp2_with fail
  go_returns
  exact⟨rfl,A,HX.out⟩
 ·obtain⟨m,rfl⟩:∃m:Nat,v=m:=⟨v.toNat,by omega⟩
  have hvI:decide ((m:Int)<0)=false:=by simp
  obtain⟨kk,hkk⟩:∃kk,m % 8=kk:=⟨_,rfl⟩
  obtain⟨q,hq⟩:∃q,m / 8=q:=⟨_,rfl⟩
  have hk8:kk<8:=by omega
  have hq62:q≤1152921504606846976:=by omega
  have k1:(m:Int) % 8=(kk:Int):=by omega
  have k2:(m:Int).tmod 8=(kk:Int):=by rw[Int.tmod_eq_emod_of_nonneg (by omega)];exact k1
  have k3:IntKind.i64.wrap (kk:Int)=(kk:Int):=IntWalk.i64_in _ (by omega)
  have q1:(m:Int) / 8=(q:Int):=by omega
  have q2:(m:Int).tdiv 8=(q:Int):=by rw[Int.tdiv_eq_ediv_of_nonneg (by omega)];exact q1
  have q3:IntKind.i64.wrap (q:Int)=(q:Int):=IntWalk.i64_in _ (by omega)
  have c3:=h.cells.cs.2.2.2.1
  obtain⟨va,vc,hvv⟩:=zab h.rest.nt
  rw[hvv] at c3
  by_cases h6:kk=6
  ·subst h6
   have T:=hid (zrp (E:=E) h hI.flow (by have:=hI.age.1;omega) (by omega) h2 h4)
   rw[act_6 hkk]
   clear h hI CM h2 h4 h5 h8 hpl hv hn hg hq62 hkk hq hv0 q1 q2 q3 hk8 hvv c3
   go_enter Tryz.func108,Tryz.ntmps108
   go_wp2_with fail
   refine T.out.mono ?_
   rintro e w9⟨rfl,A9,hA⟩
   have HA:=hid hA
   clear hA T
   go_wp2_with fail
   go_returns
   exact⟨rfl,A9,HA.out⟩
  by_cases h7:kk=7
  ·subst h7
   have T:=hid (show Calls Tryz.prog 150 #[.pointer (some ⟨xb,0,none⟩)] w fun e w'=>e=.returned (.tuple #[])∧∃A',XAt w0 w' xb A' x.begins by
    by_cases hd:x.dn=true
    ·exact zy8 h hd
    ·exact zoc h.pre (by simpa using hd) hg (by omega) h2 h4 h5 h8)
   rw[act_7 hkk]
   clear h hI CM h2 h4 h5 h8 hpl hv hn hg hq62 hkk hq hv0 q1 q2 q3 hk8 hvv c3
   go_enter Tryz.func108,Tryz.ntmps108
   go_wp2_with fail
   refine T.out.mono ?_
   rintro e w9⟨rfl,A9,hA⟩
   have HA:=hid hA
   clear hA T
   go_wp2_with fail
   go_returns
   exact⟨rfl,A9,HA.out⟩
  have h6b:((kk:Int)==6)=false:=by rw[beq_eq_false_iff_ne];omega
  have h7b:((kk:Int)==7)=false:=by rw[beq_eq_false_iff_ne];omega
  have n6:m % 8≠6:=by omega
  have n7:m % 8≠7:=by omega
  by_cases hnet:x.net=[]
  ·rw[yly n6 n7 hnet]
   rw[hnet] at c3
   generalize (kk:Int)=kI at *
   clear h hI CM h2 h4 h5 h8 hpl hv hn hg hq62 hkk hq hv0 hk8 hvv n6 n7 hnet h6 h7
   go_enter Tryz.func108,Tryz.ntmps108
   go_wp2_with fail
   go_returns
   exact⟨rfl,A,HX.out⟩
  have hpos:0<x.net.length:=List.length_pos_iff.2 hnet
  obtain⟨L,hL⟩:∃L,x.net.length=L:=⟨_,rfl⟩
  obtain⟨r,hr⟩:∃r,q % L=r:=⟨_,rfl⟩
  have hrL:r<L:=by rw[←hr];exact Nat.mod_lt _ (by omega)
  have r1:(q:Int) % (L:Int)=(r:Int):=by rw[←hr];simp
  have r2:(q:Int).tmod (L:Int)=(r:Int):=by rw[Int.tmod_eq_emod_of_nonneg (by omega)];exact r1
  have r3:IntKind.i64.wrap (r:Int)=(r:Int):=IntWalk.i64_in _ (by omega)
  have L0:((L:Int)==0)=false:=by rw[beq_eq_false_iff_ne];omega
  have hMM:=hL
  have Ln:¬L=0:=by omega
  rw[hL] at c3
  by_cases h3:kk<3
  ·have h3I:decide ((kk:Int)<3)=true:=by simp;omega
   have C:=hid (CM x r w A hI h (by omega) (by omega))
   have AC:=hid (yl0 (x:=x) (v:=m) (by omega) hnet)
   rw[hq,hL,hr] at AC
   rw[AC.out]
   generalize (kk:Int)=kI at *
   have hLI:(0:Int)<L:=by omega
   have hne:((L:Int)==0)=false:=L0
   clear h hI CM h2 h4 h5 h8 hpl hv hn hg hq62 hkk hq hv0 hk8 hvv n6 n7 hnet h6 h7 h3 hr hrL hpos hL hMM AC
   go_enter Tryz.func108,Tryz.ntmps108
   go_wp2_with fail
   refine C.out.mono ?_
   rintro e w9⟨rfl,A9,hA⟩
   have HA:=hid hA
   clear hA C
   go_wp2_with fail
   go_returns
   exact⟨rfl,A9,HA.out⟩
  have h3I:decide ((kk:Int)<3)=false:=by simp;omega
  by_cases h4':kk=3
  ·subst h4'
   obtain⟨g,cap,hv2,hc1,hc2⟩:=zjs h.rest.nt (by omega)
   rw[hvv] at hv2
   have X1:=hid h.drew
   have D:=zjc x.net w0.heap.size r A.vn w.drew (h.drew.rest.nt) (by omega) (by omega)
   rw[hvv,hL] at D
   have D:=hid D
   have HV:=hid hvv
   rw[hL] at HV
   have AC:=hid (ylz (x:=x) (v:=m) hkk hnet)
   rw[hq,hL,hr] at AC
   rw[AC.out]
   have r4:IntKind.i64.wrap ((r:Int)+1)=(r:Int)+1:=IntWalk.i64_in _ (by omega)
   clear h hI CM h2 h4 h5 h8 hpl hv hn hg hq62 hkk hq hv0 hk8 hvv n6 n7 hnet h6 h7 h3 hr hrL hpos hL hMM AC hv2 hc1 hc2
   go_enter Tryz.func108,Tryz.ntmps108
   go_wp2_with fail
   go_region_law (go_simp;go_at_call 153;refine D.out.mono ?_;rintro e w8⟨r8,rfl,o8,g8⟩;rw[←HV.out] at g8;have NC:=X1.out.netCell g8;have cx8:=NC.2;have fx8:=NC.1;have G8:=hid g8;have O8:=hid o8;obtain⟨va8,vc8,rfl⟩:=zab o8;clear g8 o8 NC)
   all_goals
    go_wp2_with fail
    go_returns
    exact⟨rfl,_,X1.out.netTo G8.out O8.out⟩
  by_cases h5':kk=4
  ·subst h5'
   have AC:=hid (yh0 (x:=x) (v:=m) hkk hnet)
   by_cases h500:x.net.length<500
   ·have h500I:(L:Int)<500:=by omega
    have hpr:∃p,x.act (m:Int)={x with net:=x.net++[p]}∧∃hrr:r<x.net.length,x.net[r]'hrr=p:=by
     refine⟨x.net[r]'(by omega),?_,by omega,rfl⟩
     rw[AC.out,dif_pos h500]
     congr 1
     congr 1
     congr 1
     subst hL hr hq
     rfl
    obtain⟨p,hact,hrr,hpe⟩:=hpr
    rw[hact]
    obtain⟨g,cap,hv2,hc1,hc2⟩:=zjs h.rest.nt (by omega)
    have HO:=h.rest.nt
    rw[hv2] at HO
    have d0:=HO.cellAt (r * 2) (by omega)
    have d1:=HO.cellAt (r * 2+1) (by omega)
    rw[(zb8 x.net r hrr).1,hpe] at d0
    rw[(zb8 x.net r hrr).2,hpe] at d1
    have c3:=h.cells.cs.2.2.2.1
    rw[hv2,hL] at c3
    have HV:=hid hv2
    have HO:=hid HO
    have HLL:=hid hL
    obtain⟨i0,hi,hs0,hs1,hs2⟩:=info_parts yfu
    have HN1:Hid (x.net.length+1≤maxLen):=by show _≤_;unfold maxLen;omega
    have HN2:Hid ((x.net.length+1) * 24≤140737488355328):=by show _≤_;omega
    have HS:=hid h.rest.bel.size
    have hrI:(r:Int)<L:=by omega
    have hr0:(0:Int)≤r:=by omega
    have hrn:(r:Int).toNat=r:=by omega
    have hcl:L≤cap:=by omega
    have e0:w.drew.cell? ⟨g,r * 2,none⟩=some (.string (bs p.1)):=d0
    have e1:w.drew.cell? ⟨g,r * 2+1,none⟩=some (.bool p.2):=d1
    have e3:w.drew.cell? ⟨xb,3,none⟩=some (.slice (some ⟨g,0,none⟩) L cap):=c3
    have e4:(w.alloc (.cells #[.string (bs p.1),.bool p.2] 248)).cell? ⟨xb,3,none⟩=some (.slice (some ⟨g,0,none⟩) L cap):=((zag w _).cell (World.block_lt_of_cell? w _ c3)).trans c3
    clear h hI CM h2 h4 h5 h8 hpl hv hn hg hq62 hkk hq hv0 hk8 hvv n6 n7 hnet h6 h7 h3 hr hrL hpos hL hMM AC hv2 hc1 hc2 h500 hact hpe hrr
    go_enter Tryz.func108,Tryz.ntmps108
    go_wp2_with fail
    go_region_law (refine za7 rfl (.tmp 82) (.tmp 96) 239 rfl w0.heap.size 248 i0 _ 2 24 Tryz.underlying239 hi hs0 hs1 hs2 rfl (by decide) (.slice (some ⟨g,0,none⟩) L cap) L _ rfl (by have:=HO.out;rw[HLL.out] at this;exact(this.alloc _).drew) ⟨w.heap.size,0,none⟩ 1 1 [.string (bs p.1),.bool p.2] rfl rfl (ycc (heap_alloc_new _ _)) (fun u hu=>by simp at hu;rcases hu with rfl|rfl<;>rfl) (by have:=HN1.out;rw[HLL.out] at this;exact this) (by have:=HN2.out;rw[HLL.out] at this;exact this) (by have:=HS.out;simp;omega) ?_;intro v' w5 hown5 hgrow _;have hgrow:=zbu hgrow;have gc:=HX.out.grow_cell (by rw[HV.out,HLL.out];exact hgrow);have f5:=gc.1;have k5:=gc.2;have HO5:=hid hown5;have HG5:=hid hgrow;obtain⟨vb,vd,rfl⟩:=zab hown5;clear hown5 hgrow gc)
    all_goals
     go_wp2_with fail
     go_returns
     refine⟨rfl,_,HX.out.grow (net':=x.net++[p]) (by rw[HV.out,HLL.out];exact HG5.out) ?_⟩
     rw[zjr,List.length_append,HLL.out]
     exact HO5.out
   ·have h500I:¬(L:Int)<500:=by omega
    rw[AC.out,dif_neg h500]
    clear h hI CM h2 h4 h5 h8 hpl hv hn hg hq62 hkk hq hv0 hk8 hvv n6 n7 hnet h6 h7 h3 hr hrL hpos hL hMM AC h500
    go_enter Tryz.func108,Tryz.ntmps108
    go_wp2_with fail
    go_returns
    exact⟨rfl,A,HX.out⟩
  ·have hk5:kk=5:=by omega
   subst hk5
   obtain⟨p,rr,hpr⟩:∃p rr,x.net=p::rr:=by
    cases e:x.net with
    | nil=>exact absurd e hnet
    | cons p rr=>exact⟨p,rr,rfl⟩
   have hpp:=hpl p (by rw[hpr];simp)
   have C:=hid (yb0 q h hq62 p rr hpr (by omega) hpp.1 hpp.2)
   have AC:=hid (ylx (x:=x) (v:=m) hkk hnet)
   rw[hq] at AC
   rw[AC.out]
   have hne:((L:Int)==0)=false:=L0
   clear h hI CM h2 h4 h5 h8 hpl hv hn hg hq62 hkk hq hv0 hk8 hvv n6 n7 hnet h6 h7 h3 hr hrL hpos hL hMM AC hpr hpp h6b h7b h3I h4' h5' r1 r2 r3
   go_enter Tryz.func108,Tryz.ntmps108
   go_wp2_with fail
   refine C.out.mono ?_
   rintro e w9⟨rfl,A9,hA⟩
   have HA:=hid hA
   clear hA C
   go_wp2_with fail
   go_returns
   exact⟨rfl,A9,HA.out⟩
end
end Go.Proofs.YtakhkcaihhpehaaGreatDoor
