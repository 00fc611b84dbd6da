/- Texts of one proof, one behind the other: Moved, RefFilGet, OwnFl, RefFlt, RefLines, RefFilFault, Near, Alike, XferAll, ScrSx, ScrEqs, DocAt. -/
import Derived.Test.YtakhkcaihhpehaaGreatDoorB24
import Derived.Test.YtakhkcaihhpehaaGreatDoorB29
import Derived.Test.YtakhkcaihhpehaaGreatDoorB33
import Derived.Laws.StructEq
import Derived.Test.YtakhkcaihhpehaaGreatDoorB18
import Derived.Test.YtakhkcaihhpehaaGreatDoorB15
import Derived.Test.YtakhkcaihhpehaaGreatDoorB26
import Derived.Test.YtakhkcaihhpehaaGreatDoorB23
import Derived.Test.YtakhkcaihhpehaaGreatDoorB16
import Derived.Test.YtakhkcaihhpehaaGreatDoorB31
import Derived.Test.YtakhkcaihhpehaaGreatDoorB06
import Derived.OpenShut
import Derived.Lib.Join
import Derived.Test.YtakhkcaihhpehaaGreatDoorB19
namespace Go.Proofs.YtakhkcaihhpehaaGreatDoor
open Go.RowKit
open Lib (hid)
set_option linter.unusedVariables false
set_option maxRecDepth 100000
set_option maxHeartbeats 51200000
section
variable{t0:List PF}{x:XS}
end
theorem yhd{E:Nat→Addr}{w0:World}(xb:Nat)(t0:List PF)(HE:XErr E w0):yh2 w0 xb t0:=fun x k w A hI h hk hn=>yb4 (E:=E) hI k h hk hn HE
theorem zhq(l:List PF)(v:Value)(n:List UInt8)(w:World)(hl:SliceIs w v 2 (zah l)):
  Calls Tryz.prog 23 #[v,.string (bs n)] w fun e w'=>e=.returned (.tuple #[.string (bs ((zaq l n).getD [])),.bool (zaq l n).isSome])∧Below w.heap.size w w':=by
 obtain⟨s,m,c,rfl,hn,h1,h2,hg⟩:=hl.get
 rw[zat] at hn
 obtain rfl:m=l.length:=by omega
 unfold maxLen at h2
 have HSL:=hid hl
 have HS:=hid (zpc l n)
 generalize zaq l n=r at *
 clear hl hg
 go_enter Tryz.func23,Tryz.ntmps23
 go_wp2_with fail
 go_loopw [6] (fun i wr=>∃k:Nat,i=.int .i64 k∧k≤l.length∧r=zaq (l.drop k) n∧Below w.heap.size w wr) (fun i _=>l.length - (intOf i).toNat)
 case atStart=>exact⟨0,rfl,by omega,HS.out,Below.refl _ _⟩
 case round=>
  obtain⟨k,rfl,hk,hr,bel⟩:=hrel
  have HR:=hid hr
  clear hr
  by_cases hlt:k<l.length
  ·have hltI:(k:Int)<l.length:=by omega
   obtain⟨s0',n0',c0',e1,_,_,_,g1⟩:=(HSL.out.below bel).get
   cases e1
   obtain⟨g2,g3⟩:=zb9 l k hlt
   obtain⟨ad,rfl,d0⟩:=g1 _ _ g2
   obtain⟨a',e',d1⟩:=g1 _ _ g3
   cases e'
   clear g1 g2 g3
   have YES:=hid (fun h=>HR.out.trans (zye (n:=n) hlt h))
   have NO:=hid (fun h=>HR.out.trans (ygp (n:=n) hlt h))
   have KK:=hid (show k+1≤l.length by omega)
   have x1:(0:Int)≤k:=by omega
   have x2:(k:Int).toNat=k:=by omega
   generalize l[k]=x at d0 d1 YES NO
   have d1:=zao d1
   by_cases hx:x.n=n
   ·have hb:((bs x.n).toList==(bs n).toList)=true:=by rw[za4,za4];simpa using hx
    have Y:=hid (YES.out hx)
    clear YES NO hx
    go_wp2_with fail
    go_ret2
    exact⟨by rw[Y.out];rfl,bel⟩
   ·have hb:((bs x.n).toList==(bs n).toList)=false:=by rw[za4,za4];simpa using hx
    have Y:=hid (NO.out hx)
    clear YES NO hx
    go_wp2_with fail
    go_roundw
    case rel=>exact⟨k+1,by go_num,KK.out,Y.out,bel⟩
    case measure=>simp[intOf];omega
  ·have hltI:¬(k:Int)<l.length:=by omega
   have Y:=hid (HR.out.trans (zyf (n:=n) (show l.length≤k by omega)))
   clear HR
   go_wp2_with fail
   go_ret2
   exact⟨by rw[Y.out];show _=Ending.returned (.tuple #[.string (bs []),.bool false]);rw[bs_nil];rfl,bel⟩
structure PM where
 n:List UInt8
 N:Int
 S:Int
deriving DecidableEq
def PM.vals(x:PM):List Value:=[.string (bs x.n),.int .i64 x.N,.int .i64 x.S]
def PM.pl(x:PM):PL:=⟨x.n,x.N,x.S.toNat⟩
def zc2(l:List PM):List Value:=l.flatMap PM.vals
theorem yrc:(Tryz.prog.info? 75).map (fun i=>(i.zero,i.size,i.bytes))=some (some (.agg #[.string ⟨#[]⟩,.int .i64 0,.int .i64 0]),3,32):=by kernel_rfl
theorem zm4(x:PM)(l:List PM):zc2 (x::l)=[.string (bs x.n),.int .i64 x.N,.int .i64 x.S]++zc2 l:=rfl
theorem zjz(l m:List PM):zc2 (l++m)=zc2 l++zc2 m:=by unfold zc2;exact List.flatMap_append
theorem zks(l:List PM):(zc2 l).length=l.length * 3:=by
 induction l with
 | nil=>rfl
 | cons k l ih=>rw[zm4,List.length_append,ih];simp;omega
theorem zcr(l:List PM)(k:Nat)(h:k<l.length):(zc2 l)[k * 3]?=some (.string (bs l[k].n))∧(zc2 l)[k * 3+1]?=some (.int .i64 l[k].N)∧(zc2 l)[k * 3+2]?=some (.int .i64 l[k].S):=by
 induction l generalizing k with
 | nil=>simp at h
 | cons o l ih=>
  cases k with
  | zero=>exact⟨rfl,rfl,rfl⟩
  | succ k=>
   have:=ih k (by simpa using h)
   rw[zm4]
   rw[show(k+1) * 3=3+k * 3 by omega,show 3+k * 3+1=3+(k * 3+1) by omega,show 3+k * 3+2=3+(k * 3+2) by omega]
   rw[List.getElem?_append_right (by simp),List.getElem?_append_right (by simp),List.getElem?_append_right (by simp)]
   simpa using this
def zne(l:List PM)(k:Nat):List UInt8:=match k with|0=>[]|k+1=>(l[k]?.map PM.n).getD []
theorem zo3{l:List PM}{k:Nat}(h:k<l.length):zne l (k+1)=(l[k]'h).n:=by simp[zne,h]
theorem zfz(l:List PM)(v:Value)(w:World)(hl:SliceIs w v 3 (zc2 l))(hnm:∀x∈l,x.n.length≤1000000000):
  Calls Tryz.prog 51 #[v] w fun e w'=>e=.returned (rfv (zbb (l.map PM.pl)))∧Below w.heap.size w w':=by
 obtain⟨s,n,c,rfl,hn,h1,h2,hg⟩:=hl.get
 rw[zks] at hn
 obtain rfl:n=l.length:=by omega
 unfold maxLen at h2
 have MK:=hid (ymb (zbb (l.map PM.pl)))
 have HSL:=hid hl
 have HNM:=hid hnm
 have HML:=hid (show(l.map PM.pl).length=l.length from List.length_map ..)
 have HB0:=hid (zb0 w (.cells #[.int .i64 0,.int .i64 0] 64))
 clear hl hg hnm
 by_cases hfull:20<l.length
 ·have hI:(20:Int)<l.length:=by omega
  have FA:=hid (zk4 (l:=l.map PM.pl) (by rw[HML.out];exact hfull))
  go_enter Tryz.func51,Tryz.ntmps51
  go_wp2_with fail
  refine(zsc 8 _).mono ?_
  rintro e w1⟨rfl,b1⟩
  have hz1:=(b1.block w.heap.size (by simp)).trans (heap_alloc_new w _)
  have f0:w1.frozen? ⟨w.heap.size,0,none⟩=false:=by simp[World.frozen?,hz1]
  have f1:w1.frozen? ⟨w.heap.size,1,none⟩=false:=by simp[World.frozen?,hz1]
  have e0:w1.cell? ⟨w.heap.size,0,none⟩=some (.int .i64 0):=by simp[World.cell?,hz1]
  have e1:w1.cell? ⟨w.heap.size,1,none⟩=some (.int .i64 0):=by simp[World.cell?,hz1]
  have bx:=zaa HB0.out b1
  obtain⟨r0,r1⟩:=zut hz1 (.int .i64 8) (.int .i64 (-1))
  have bb:=(bx.setCell (p:=⟨w.heap.size,0,none⟩) (Nat.le_refl _) (.int .i64 8)).setCell (p:=⟨w.heap.size,1,none⟩) (Nat.le_refl _) (.int .i64 (-1))
  go_wp2_with fail
  generalize (w1.setCell ⟨w.heap.size,0,none⟩ (.int .i64 8)).setCell ⟨w.heap.size,1,none⟩ (.int .i64 (-1))=w2 at r0 r1 bb ⊢
  (try simp only[Exit.inBlock,Exit.then])
  refine bodyPost_ret (by simp[results,Tryz.results51,go_sem,r0,r1];try rfl) rfl ?_
  exact⟨by rw[FA.out,zdz];rfl,bb⟩
 ·have hI:¬(20:Int)<l.length:=by omega
  have FA:=hid (zk5 (l:=l.map PM.pl) (by rw[HML.out];exact hfull))
  go_enter Tryz.func51,Tryz.ntmps51
  go_wp2_with fail
  go_loopw [3,4,5] (fun i _ _ wr=>∃(k:Nat),i=.int .i64 k∧k≤l.length∧zbb (l.map PM.pl)=zdj k (zne l k) ((l.map PM.pl).drop k)∧wr.heap[w.heap.size]?=some (.cells #[.int .i64 0,.int .i64 0] 64 (0,0))∧Below w.heap.size w wr) (fun i _ _ _=>l.length - (intOf i).toNat)
  case atStart=>exact⟨0,rfl,by omega,FA.out,heap_alloc_new w _,HB0.out⟩
  case round=>
   obtain⟨k,rfl,hk,hf,hz,hbw⟩:=hrel
   have HFA:=hid hf
   have BW:=hid hbw
   have HZ:=hid hz
   clear hf hbw
   by_cases hlt:k<l.length
   ·have hltI:(k:Int)<l.length:=by omega
    have hltM:k<(l.map PM.pl).length:=by rw[HML.out];exact hlt
    have HEL:=hid (show(l.map PM.pl)[k]'hltM=(l[k]'hlt).pl from List.getElem_map ..)
    have BAD:=hid (fun c hc h0=>HFA.out.trans (zoy (last:=zne l k) hltM (c:=c) hc h0))
    have NEXT:=hid (fun h0=>(HFA.out.trans (zm8 (last:=zne l k) hltM h0)))
    rw[HEL.out] at BAD NEXT
    rw[show(l[k]'hlt).pl.n=zne l (k+1) from(zo3 hlt).symm] at NEXT
    have RN:=hid (fun w'=>zkw (l[k]'hlt).n w' (HNM.out _ (List.getElem_mem _)))
    have KK:=hid (show k+1≤l.length from hlt)
    obtain⟨s',n',c',q,_,_,_,g1⟩:=(HSL.out.below BW.out).get
    cases q
    obtain⟨a0,a1,_⟩:=zcr l k hlt
    obtain⟨ad,rfl,d0⟩:=g1 _ _ a0
    obtain⟨ad',q,d1⟩:=g1 _ _ a1
    cases q
    have G1:=hid g1
    clear g1 a0 a1
    have d1:=zao d1
    have x1:(0:Int)≤k:=by omega
    have x2:(k:Int).toNat=k:=by omega
    generalize hx:l[k]'hlt=x at d0 d1 BAD NEXT RN
    have HX:=hid hx
    clear hx
    obtain⟨xn,xN,xS⟩:=x
    simp only[] at d0 d1 RN
    simp only[PM.pl] at BAD NEXT
    have f0:wr.frozen? ⟨w.heap.size,0,none⟩=false:=by simp[World.frozen?,hz]
    have f1:wr.frozen? ⟨w.heap.size,1,none⟩=false:=by simp[World.frozen?,hz]
    have e0:wr.cell? ⟨w.heap.size,0,none⟩=some (.int .i64 0):=by simp[World.cell?,hz]
    have e1:wr.cell? ⟨w.heap.size,1,none⟩=some (.int .i64 0):=by simp[World.cell?,hz]
    clear hz
    cases hnb:zbc xn with
    | false=>
     have hb:=hid (BAD.out 5 (zoz hnb) (by decide))
     rw[hnb] at RN
     clear BAD NEXT hnb
     go_wp2_with fail
     refine(RN.out _).mono ?_
     rintro e w1⟨rfl,rfl⟩
     obtain⟨r0,r1⟩:=zut HZ.out (.int .i64 5) (.int .i64 k)
     have bb:=(BW.out.setCell (p:=⟨w.heap.size,0,none⟩) (Nat.le_refl _) (.int .i64 5)).setCell (p:=⟨w.heap.size,1,none⟩) (Nat.le_refl _) (.int .i64 k)
     go_wp2_with fail
     generalize (w1.setCell ⟨w.heap.size,0,none⟩ (.int .i64 5)).setCell ⟨w.heap.size,1,none⟩ (.int .i64 k)=w2 at r0 r1 bb ⊢
     (try simp only[Exit.inBlock,Exit.then])
     refine bodyPost_ret (by simp[results,Tryz.results51,go_sem,r0,r1];try rfl) rfl ?_
     exact⟨by rw[hb.out,zdz];rfl,bb⟩
    | true=>
     rw[hnb] at RN
     by_cases hbd:xN<0∨4000<xN
     ·have hb:=hid (BAD.out 2 (zna hnb hbd) (by decide))
      clear BAD NEXT hnb
      rcases(show xN<0∨¬xN<0∧4000<xN by omega) with h|⟨h,h'⟩
      all_goals
       go_wp2_with fail
       refine(RN.out _).mono ?_
       rintro e w1⟨rfl,rfl⟩
       obtain⟨r0,r1⟩:=zut HZ.out (.int .i64 2) (.int .i64 k)
       have bb:=(BW.out.setCell (p:=⟨w.heap.size,0,none⟩) (Nat.le_refl _) (.int .i64 2)).setCell (p:=⟨w.heap.size,1,none⟩) (Nat.le_refl _) (.int .i64 k)
       go_wp2_with fail
       generalize (w1.setCell ⟨w.heap.size,0,none⟩ (.int .i64 2)).setCell ⟨w.heap.size,1,none⟩ (.int .i64 k)=w2 at r0 r1 bb ⊢
       (try simp only[Exit.inBlock,Exit.then])
       refine bodyPost_ret (by simp[results,Tryz.results51,go_sem,r0,r1];try rfl) rfl ?_
       exact⟨by rw[hb.out,zdz];rfl,bb⟩
     ·have h1':¬xN<0:=by omega
      have h2':¬4000<xN:=by omega
      rcases Nat.eq_zero_or_pos k with hk0|hkp
      ·have hb:=hid (NEXT.out (by rw[hk0];exact zi0 hnb hbd))
       have hkI:¬(0:Int)<k:=by omega
       have hkD:decide ((0:Int)<k)=false:=by simpa using hkI
       have hkN:¬0<k:=by omega
       have hgt:∀w,(binOp .gtr 3 (.int .i64 (k:Int)) (.int .i64 0)).run Tryz.prog w=.ok (.bool false) w:=fun w=>by rw[show(k:Int)=0 by omega];rfl
       clear BAD NEXT hk0 hbd hnb
       go_wp2_with fail
       refine(RN.out _).mono ?_
       rintro e w1⟨rfl,rfl⟩
       go_wp2_with fail
       go_quiet (fail)
       go_wp2_with fail
       go_roundw
       case rel=>exact⟨k+1,by go_num,KK.out,hb.out,HZ.out,zac BW.out _⟩
       case measure=>simp[intOf];omega
      ·have hkb:(k==0)=false:=by simp;omega
       have hkI:(0:Int)<k:=by omega
       obtain⟨j,hj⟩:∃j,k=j+1:=⟨k - 1,by omega⟩
       have hjl:j<l.length:=by omega
       obtain⟨a2,q2,d2⟩:=G1.out _ _ (zcr l j hjl).1
       cases q2
       have d3:wr.cell? (ad.add (j * 3))=some (.string (bs (zne l k))):=by rw[hj,zo3 hjl];exact d2
       have hgt:∀w,(binOp .gtr 3 (.int .i64 (k:Int)) (.int .i64 0)).run Tryz.prog w=.ok (.bool true) w:=fun w=>(show(binOp .gtr 3 (.int .i64 (k:Int)) (.int .i64 0)).run Tryz.prog w=.ok (.bool (decide ((0:Int)<k))) w from rfl).trans (by rw[decide_eq_true hkI])
       have x3:((k:Int) - 1).toNat=j:=by omega
       have x4:(0:Int)≤(k:Int) - 1:=by omega
       have x5:(k:Int) - 1<l.length:=by omega
       have hkN:0<k:=hkp
       clear d2
       cases hor:ltL (zne l k) xn with
       | true=>
        have hb:=hid (NEXT.out (zkt hnb hbd hor))
        generalize zne l k=la at d3 hor
        have hle:∀w,(binOp .leq 9 (.string (bs xn)) (.string (bs la))).run Tryz.prog w=.ok (.bool false) w:=fun w=>by rw[zp5,hor];rfl
        clear BAD NEXT hbd hnb hor hkb hj hkp
        go_wp2_with fail
        refine(RN.out _).mono ?_
        rintro e w1⟨rfl,rfl⟩
        go_wp2_with fail
        go_quiet (fail)
        go_wp2_with fail
        go_roundw
        case rel=>exact⟨k+1,by go_num,KK.out,hb.out,HZ.out,zac BW.out _⟩
        case measure=>simp[intOf];omega
       | false=>
        have hb:=hid (BAD.out 9 (by rw[hkb];exact zm9 hnb hbd hor) (by decide))
        generalize zne l k=la at d3 hor
        have hle:∀w,(binOp .leq 9 (.string (bs xn)) (.string (bs la))).run Tryz.prog w=.ok (.bool true) w:=fun w=>by rw[zp5,hor];rfl
        clear BAD NEXT hbd hnb hor hkb hj hkp
        go_wp2_with fail
        refine(RN.out _).mono ?_
        rintro e w1⟨rfl,rfl⟩
        go_wp2_with fail
        go_quiet (fail)
        go_wp2_with fail
        have rr:=fun n=>zut (show(w1.drewN n).heap[w.heap.size]?=_ from HZ.out) (.int .i64 9) (.int .i64 k)
        have r0:=fun n=>(rr n).1
        have r1:=fun n=>(rr n).2
        (try simp only[Exit.inBlock,Exit.then])
        refine bodyPost_ret (by simp[results,Tryz.results51,go_sem,r0,r1];try rfl) rfl ?_
        exact⟨by rw[hb.out,zdz];rfl,((zac BW.out _).setCell (p:=⟨w.heap.size,0,none⟩) (Nat.le_refl _) (.int .i64 9)).setCell (p:=⟨w.heap.size,1,none⟩) (Nat.le_refl _) (.int .i64 k)⟩
   ·have hltI:¬(k:Int)<l.length:=by omega
    have hb:=hid (HFA.out.trans (zox (last:=zne l k) (by rw[HML.out];omega)))
    go_wp2_with fail
    refine(zhg _).mono ?_
    rintro e w1⟨rfl,b1⟩
    have hz1:=(b1.block w.heap.size (lt_of_block HZ.out)).trans HZ.out
    have f0:w1.frozen? ⟨w.heap.size,0,none⟩=false:=by simp[World.frozen?,hz1]
    have f1:w1.frozen? ⟨w.heap.size,1,none⟩=false:=by simp[World.frozen?,hz1]
    have e0:w1.cell? ⟨w.heap.size,0,none⟩=some (.int .i64 0):=by simp[World.cell?,hz1]
    have e1:w1.cell? ⟨w.heap.size,1,none⟩=some (.int .i64 0):=by simp[World.cell?,hz1]
    have bx:=zaa BW.out b1
    obtain⟨r0,r1⟩:=zut hz1 (.int .i64 0) (.int .i64 (-1))
    have bb:=(bx.setCell (p:=⟨w.heap.size,0,none⟩) (Nat.le_refl _) (.int .i64 0)).setCell (p:=⟨w.heap.size,1,none⟩) (Nat.le_refl _) (.int .i64 (-1))
    go_wp2_with fail
    generalize (w1.setCell ⟨w.heap.size,0,none⟩ (.int .i64 0)).setCell ⟨w.heap.size,1,none⟩ (.int .i64 (-1))=w2 at r0 r1 bb ⊢
    (try simp only[Exit.inBlock,Exit.then])
    refine bodyPost_ret (by simp[results,Tryz.results51,go_sem,r0,r1];try rfl) rfl ?_
    exact⟨by rw[hb.out,zdz];rfl,bb⟩
def PF.m(f:PF):PM:=⟨f.n,f.d.length,0⟩
theorem m_chk(l:List PF):(l.map PF.m).map PM.pl=l.map PF.chk:=by rw[List.map_map];rfl
theorem zf1(l:List PF)(v:Value)(w:World)(hl:SliceIs w v 2 (zah l))(hnm:∀x∈l,x.n.length≤1000000000∧x.d.length≤1000000000)(hlen:l.length≤1000000):
  Calls Tryz.prog 48 #[v] w fun e w'=>e=.returned (rfv (zav l))∧Below w.heap.size w w':=by
 obtain⟨s,n,c,rfl,hn,h1,h2,hg⟩:=hl.get
 rw[zat] at hn
 obtain rfl:n=l.length:=by omega
 unfold maxLen at h2
 have HSL:=hid hl
 have HNM:=hid hnm
 have HB0:=hid (zb0 w (.cells #[.int .i64 0,.int .i64 0] 64))
 obtain⟨i0,hi,hz0,hz1,hz2⟩:=info_parts yrc
 clear hl hg hnm
 go_enter Tryz.func48,Tryz.ntmps48
 go_wp2_with fail
 go_loopw [3,4] (fun o i wr=>∃k:Nat,i=.int .i64 k∧k≤l.length∧wr.ownsRow (w.heap.size+1) 75 3 o k (zc2 ((l.take k).map PF.m))∧wr.heap[w.heap.size]?=some (.cells #[.int .i64 0,.int .i64 0] 64 (0,0))∧Below w.heap.size w wr) (fun _ i _=>l.length - (intOf i).toNat)
 case atStart=>exact⟨0,rfl,by omega,World.ownsRow_nil _ _ _ _,heap_alloc_new w _,HB0.out⟩
 case round=>
  obtain⟨k,rfl,hk,hown,hz,bel⟩:=hrel
  have HZ:=hid hz
  have BW:=hid bel
  by_cases hlt:k<l.length
  ·have hltI:(k:Int)<l.length:=by omega
   obtain⟨s0',n0',c0',e1,_,_,_,g1⟩:=(HSL.out.below bel).get
   cases e1
   obtain⟨g2,g3⟩:=zb9 l k hlt
   obtain⟨ad,rfl,d0⟩:=g1 _ _ g2
   obtain⟨a',e',d1⟩:=g1 _ _ g3
   cases e'
   clear g1 g2 g3
   have NX:=hid (show zc2 ((l.take (k+1)).map PF.m)=zc2 ((l.take k).map PF.m)++[.string (bs (l[k]'hlt).n),.int .i64 ((l[k]'hlt).d.length:Int),.int .i64 0] by
    rw[List.take_succ_eq_append_getElem hlt,List.map_append,zjz];rfl)
   have x1:(0:Int)≤k:=by omega
   have x2:(k:Int).toNat=k:=by omega
   have KK:=hid (show k+1≤l.length from hlt)
   generalize l[k]'hlt=x at d0 d1 NX
   have d1:=zao d1
   have hsz:(bs x.d).size=x.d.length:=zae _
   have HO:=hid hown
   have HN1:Hid (k+1≤maxLen):=by show _≤_;unfold maxLen;omega
   have HN2:Hid ((k+1) * 32≤140737488355328):=by show _≤_;omega
   have HS:=hid (lt_of_block hz)
   obtain⟨va,vc,rfl⟩:=zab hown
   clear hown hz bel
   go_wp2_with fail
   go_region_law (refine za7 rfl (.tmp 11) (.tmp 24) 72 rfl (w.heap.size+1) 75 i0 _ 3 32 Tryz.underlying72 hi hz0 hz1 hz2 rfl (by decide) (.slice va k vc) k _ rfl (HO.out.alloc _).drew ⟨wr.heap.size,0,none⟩ 1 1 [.string (bs x.n),.int .i64 (x.d.length:Int),.int .i64 0] rfl rfl (zd0 (heap_alloc_new _ _)) (fun u hu=>by simp at hu;rcases hu with rfl|rfl|rfl<;>rfl) HN1.out HN2.out (by have:=HS.out;simp;omega) ?_;intro v' w5 hown5 hgrow _;have HO5:=hid hown5;have HG5:=hid (zbu hgrow))
   all_goals
    go_wp2_with fail
    go_roundw
    case rel=>exact⟨k+1,by go_num,KK.out,by rw[NX.out];exact HO5.out,((HG5.out.block w.heap.size (by have:=HS.out;simp;omega) (fun e=>by have:=(HO.out.lt _ e.symm).1;omega)).trans (by rw[←HZ.out];exact heap_alloc_old _ _ HS.out)),(BW.out.alloc BW.out.size _).grown HG5.out (by have:=BW.out.size;simp;omega) (fun j hj=>by have:=(HO.out.lt j hj).1;omega)⟩
    case measure=>simp[intOf];omega
  ·have hltI:¬(k:Int)<l.length:=by omega
   rw[List.take_of_length_le (by omega)] at hown
   obtain rfl:k=l.length:=by omega
   have CK:=hid (zfz (l.map PF.m) _ wr (SliceIs.ownedK hown) (fun x hx=>by obtain⟨f,hf,rfl⟩:=List.mem_map.1 hx;exact(HNM.out f hf).1))
   rw[m_chk,show zbb (l.map PF.chk)=zav l from rfl,zdz] at CK
   obtain⟨q,hq⟩:∃q,zav l=q:=⟨_,rfl⟩
   rw[hq] at CK
   have HQ:=hid hq
   clear hq
   obtain⟨va,vc,rfl⟩:=zab hown
   clear hown hz bel
   go_wp2_with fail
   refine CK.out.mono ?_
   rintro e w1⟨rfl,b1⟩
   have hz1:=(b1.block w.heap.size (lt_of_block HZ.out)).trans HZ.out
   have f0:w1.frozen? ⟨w.heap.size,0,none⟩=false:=by simp[World.frozen?,hz1]
   have f1:w1.frozen? ⟨w.heap.size,1,none⟩=false:=by simp[World.frozen?,hz1]
   have e0:w1.cell? ⟨w.heap.size,0,none⟩=some (.int .i64 0):=by simp[World.cell?,hz1]
   have e1:w1.cell? ⟨w.heap.size,1,none⟩=some (.int .i64 0):=by simp[World.cell?,hz1]
   obtain⟨r0,r1⟩:=zut hz1 (.int .i64 q.1) (.int .i64 q.2)
   have bb:=((zaa BW.out b1).setCell (p:=⟨w.heap.size,0,none⟩) (Nat.le_refl _) (.int .i64 q.1)).setCell (p:=⟨w.heap.size,1,none⟩) (Nat.le_refl _) (.int .i64 q.2)
   go_wp2_with fail
   (try simp only[Exit.inBlock,Exit.then])
   refine bodyPost_ret (by simp[results,Tryz.results48,go_sem,r0,r1];try rfl) rfl ?_
   exact⟨by rw[HQ.out,zdz],bb⟩
section
variable{E:Nat→Addr}{w0 w:World}{xb:Nat}{A:XA}{x:XS}{t0:List PF}
variable{fr:List PF}{k m:Nat}
end
def sx(fr tt:List PF)(l:List Nat):XS:=l.foldl (fun x (n:Nat)=>x.act (n:Int)) (XS.start fr tt)
theorem yni(fr tt:List PF)(l:List Nat)(n:Nat):sx fr tt (l++[n])=(sx fr tt l).act (n:Int):=by unfold sx;rw[List.foldl_append];rfl
theorem yig(l:List Nat):∀{t0:List PF} {x:XS} {a b:Nat},XInv t0 x→x.ge≤a→x.net.length≤b→XInv t0 (l.foldl (fun x (n:Nat)=>x.act (n:Int)) x)∧(l.foldl (fun x (n:Nat)=>x.act (n:Int)) x).ge≤a+l.length∧(l.foldl (fun x (n:Nat)=>x.act (n:Int)) x).net.length≤b+l.length:=by
 induction l with
 | nil=>intro t0 x a b h h1 h2;exact⟨h,h1,h2⟩
 | cons n l ih=>
  intro t0 x a b h h1 h2
  have L:=yh1 h (n:Int)
  obtain⟨i1,i2,i3⟩:=ih (a:=a+1) (b:=b+1) L.inv (by have:=L.ge;omega) (by have:=L.net;omega)
  exact⟨i1,by simp only[List.length_cons,List.foldl_cons];omega,by simp only[List.length_cons,List.foldl_cons];omega⟩
theorem yl4{fr tt:List PF}(hf:Small fr)(ht:Small tt)(l:List Nat):XInv tt (sx fr tt l)∧(sx fr tt l).ge≤1+l.length∧(sx fr tt l).net.length≤1+l.length:=by
 obtain⟨s1,s2,s3,s4⟩:=zry hf ht
 exact yig l s1 (by omega) s4
theorem zmz:∀{ws:List (List UInt8)} {j:Nat} (hj:j<ws.length),nmL 6 (ws[j]'hj)=none→SP.nums ws=none
 | [],j,hj,_=>by simp at hj
 | w::ws,0,hj,h=>by unfold SP.nums;rw[show nmL 6 w=none from h]
 | w::ws,j+1,hj,h=>by
  have:=zmz (ws:=ws) (j:=j) (by simpa using hj) h
  unfold SP.nums
  rw[this]
  cases nmL 6 w<;>rfl
theorem zss:∀{ws:List (List UInt8)} {l:List Nat} {w:List UInt8} {n:Nat},SP.nums ws=some l→nmL 6 w=some n→SP.nums (ws++[w])=some (l++[n])
 | [],l,w,n,h1,h2=>by
  unfold SP.nums at h1
  cases h1
  show SP.nums [w]=_
  unfold SP.nums
  rw[h2]
  rfl
 | v::ws,l,w,n,h1,h2=>by
  unfold SP.nums at h1
  cases hv:nmL 6 v with
  | none=>rw[hv] at h1;cases h1
  | some a=>
   cases hw:SP.nums ws with
   | none=>rw[hv,hw] at h1;cases h1
   | some r=>
    rw[hv,hw] at h1
    cases h1
    have:=zss hw h2
    show SP.nums (v::(ws++[w]))=_
    unfold SP.nums
    rw[hv,this]
    rfl
theorem zqs:∀{ws:List (List UInt8)} {l:List Nat},SP.nums ws=some l→l.length=ws.length
 | [],l,h=>by unfold SP.nums at h;cases h;rfl
 | v::ws,l,h=>by
  unfold SP.nums at h
  cases hv:nmL 6 v with
  | none=>rw[hv] at h;cases h
  | some a=>
   cases hw:SP.nums ws with
   | none=>rw[hv,hw] at h;cases h
   | some r=>
    rw[hv,hw] at h
    cases h
    have:=zqs hw
    simp[this]
theorem zsr{ws:List (List UInt8)}{l:List Nat}{n j:Nat}(hj:j<ws.length)(h1:SP.nums (ws.take j)=some l)(h2:nmL 6 (ws[j]'hj)=some n):SP.nums (ws.take (j+1))=some (l++[n]):=by
 rw[List.take_succ_eq_append_getElem hj]
 exact zss h1 h2
section
variable{E:Nat→Addr}{w0 w:World}
theorem sx_do{xb:Nat}{B:XA}{fr tt:List PF}{l:List Nat}(n:Nat)(hn:n≤9000000000)(hf:Small fr)(ht:Small tt)(hl:l.length≤10000)(hE:XErr E w0)(h:XAt w0 w xb B (sx fr tt l)):
  Calls Tryz.prog 108 #[.pointer (some ⟨xb,0,none⟩),.int .i64 n] w fun e w'=>e=.returned (.tuple #[])∧∃B',XAt w0 w' xb B' (sx fr tt (l++[n])):=by
 obtain⟨i1,i2,i3⟩:=yl4 hf ht l
 rw[yni]
 exact ym7 (E:=E) n ⟨by omega,by omega⟩ i1 h (by omega) (by omega) (fun p hp=>yml i1 hp) (yhd xb tt hE) hE.e2 hE.e4 hE.e5 hE.e8
theorem yql{xb:Nat}{B:XA}{fr tt:List PF}{l:List Nat}(hf:Small fr)(ht:Small tt)(hl:l.length≤10000)(hE:XErr E w0)(h:XAt w0 w xb B (sx fr tt l)):
  Calls Tryz.prog 109 #[.pointer (some ⟨xb,0,none⟩)] w fun e w'=>e=.returned (.bool true)∧∃B',XAt w0 w' xb B' (XS.fin zdh (sx fr tt l)):=by
 obtain⟨i1,i2,i3⟩:=yl4 hf ht l
 exact zul (E:=E) i1 h (by omega) (by omega) (yhd xb tt hE) hE.e2 hE.e4
theorem ycu(fr tt:List PF)(l:List Nat):SP.sent fr tt l=(XS.fin zdh (sx fr tt l)).tt:=rfl
end
section
variable{s:SP}
theorem zwy{r:List UInt8}(h:(zdu 32 r).isSome=false):s.put r=(s,[],1):=by
 unfold SP.put
 cases zbx (zec 32 r) with
 | none=>rfl
 | some b=>simp only[];rw[if_pos (.inl h)]
theorem zwx{r:List UInt8}(h:(zdu 32 (zcc 32 r)).isSome=false):s.put r=(s,[],1):=by
 unfold SP.put
 cases zbx (zec 32 r) with
 | none=>rfl
 | some b=>simp only[];rw[if_pos (.inr h)]
theorem zrz{r:List UInt8}(h:zbx (zec 32 r)=none):s.put r=(s,[],1):=by unfold SP.put;rw[h]
theorem zww{r:List UInt8}{b:Bool}(h:zbx (zec 32 r)=some b)(h1:(zdu 32 r).isSome=true)(h2:(zdu 32 (zcc 32 r)).isSome=true)(hp:(putF (s.files b) (zec 32 (zcc 32 r)) (zcc 32 (zcc 32 r))).1=0):
  s.put r=(s.setF b (zal (s.files b) (zec 32 (zcc 32 r)) (zcc 32 (zcc 32 r))),zg2,0):=by
 unfold SP.put
 rw[h]
 simp only[]
 rw[if_neg (by simp[h1,h2]),if_pos hp]
theorem ycm{r:List UInt8}{b:Bool}(h:zbx (zec 32 r)=some b)(h1:(zdu 32 r).isSome=true)(h2:(zdu 32 (zcc 32 r)).isSome=true)(hp:(putF (s.files b) (zec 32 (zcc 32 r)) (zcc 32 (zcc 32 r))).1≠0):
  s.put r=(s,zg2,(putF (s.files b) (zec 32 (zcc 32 r)) (zcc 32 (zcc 32 r))).1):=by
 unfold SP.put
 rw[h]
 simp only[]
 rw[if_neg (by simp[h1,h2]),if_neg hp]
theorem zr0{n d:List UInt8}(h:nmL 6 d=none):s.size n d=(s,[],1):=by unfold SP.size;rw[h]
theorem zwz{n d:List UInt8}{z:Nat}(h:nmL 6 d=some z)(hz:z<1∨64<z):s.size n d=(s,[],2):=by unfold SP.size;rw[h];simp only[];rw[if_pos hz]
theorem ycq{n d:List UInt8}{z:Nat}(h:nmL 6 d=some z)(hz:¬(z<1∨64<z)):s.size n d=(s,Lib.decDigits (zb7 (zc1 (zeu z (zax s.tt n)) z (zax s.fr n)))++32::Lib.decDigits (zc1 (zeu z (zax s.tt n)) z (zax s.fr n)).length,0):=by
 unfold SP.size;rw[h];simp only[];rw[if_neg hz]
theorem zig{l:List PF}(h:Small l)(n:List UInt8):(zax l n).length≤200:=by
 unfold zax
 cases hg:zaq l n with
 | none=>simp
 | some x=>
  exact h.len _ (zbn hg)
theorem zsz{n d:List UInt8}(h:nmL 6 d=none):s.mark n d=(s,[],1):=by unfold SP.mark;rw[h]
theorem yfe{n d:List UInt8}{z:Nat}(h:nmL 6 d=some z)(h2:zaq s.tt n=none):s.mark n d=(s,[],6):=by unfold SP.mark;rw[h,h2]
theorem zxw{n d x:List UInt8}{z:Nat}(h:nmL 6 d=some z)(h2:zaq s.tt n=some x)(h3:x.length<z):s.mark n d=(s,[],2):=by unfold SP.mark;rw[h,h2];simp only[];rw[if_pos h3]
theorem zxx{n d x:List UInt8}{z:Nat}(h:nmL 6 d=some z)(h2:zaq s.tt n=some x)(h3:¬x.length<z)(h4:mkC ⟨n,z,za5 (x.take z)⟩≠0):s.mark n d=(s,zg2,mkC ⟨n,z,za5 (x.take z)⟩):=by unfold SP.mark;rw[h,h2];simp only[];rw[if_neg h3,if_pos h4]
theorem yfd{n d x:List UInt8}{z:Nat}(h:nmL 6 d=some z)(h2:zaq s.tt n=some x)(h3:¬x.length<z)(h4:mkC ⟨n,z,za5 (x.take z)⟩=0):s.mark n d=({s with tp:=apT s.tp (mkX ⟨n,z,za5 (x.take z)⟩)},zg2,apC s.tp (mkX ⟨n,z,za5 (x.take z)⟩)):=by unfold SP.mark;rw[h,h2];simp only[];rw[if_neg h3,if_neg (by simp[h4])]
theorem yes(h:SInv s)(nm:List UInt8):opN s.gm nm≤2147483649:=by
 have:=h.gk nm
 unfold opN
 split<;>omega
theorem yf3(l:List (List UInt8)):Lib.join l [32]=zcu l:=by
 unfold Lib.join
 induction l with
 | nil=>rfl
 | cons x l ih=>cases l with
  | nil=>simp[List.intercalate,List.intersperse,zcu]
  | cons y l=>
   have e:[32].intercalate (x::y::l)=x++([32]++[32].intercalate (y::l)):=by simp[List.intercalate,List.intersperse]
   rw[e,ih]
   rfl
theorem ycy{ws:List (List UInt8)}(h:SP.nums ws=none):s.send ws=(s,[],1):=by unfold SP.send;rw[h]
theorem ycw{ws:List (List UInt8)}{l:List Nat}(h:SP.nums ws=some l):s.send ws=(s.setF false (SP.sent s.fr s.tt l),zha,0):=by unfold SP.send;rw[h];rfl
end
structure DmA where
 vf:Value
 vt:Value
 gb:Nat
 tb:Nat
 gv:Value
 gl:GM
structure DmAt(w0 w:World)(B mb:Nat)(A:DmA)(s:SP):Prop where
 cells:w.heap[mb]?=some (.cells #[A.vf,A.vt,.pointer (some ⟨A.gb,0,none⟩),.pointer (some ⟨A.tb,0,none⟩)] 35 (0,0))
 fr:w.ownsRow B 126 2 A.vf s.fr.length (zah s.fr)
 tt:w.ownsRow B 126 2 A.vt s.tt.length (zah s.tt)
 gt:RgAt w A.gb A.gl A.gv
 gp:s.gm.Perm A.gl
 gw:GWF A.gl
 tp:TD w A.tb s.tp
 lm:w0.heap.size≤mb∧mb<B
 lg:w0.heap.size≤A.gb∧A.gb<B
 lt:w0.heap.size≤A.tb∧A.tb<B
 lB:B≤w.heap.size
 bel:Below w0.heap.size w0 w
section
variable{w0 w w':World}{B mb:Nat}{A:DmA}{s:SP}
theorem DmAt.cs(h:DmAt w0 w B mb A s):(w.cell? ⟨mb,0,none⟩=some A.vf∧w.cell? ⟨mb,1,none⟩=some A.vt∧w.cell? ⟨mb,2,none⟩=some (.pointer (some ⟨A.gb,0,none⟩))∧w.cell? ⟨mb,3,none⟩=some (.pointer (some ⟨A.tb,0,none⟩)))∧∀k,w.frozen? ⟨mb,k,none⟩=false:=by
 refine⟨⟨?_,?_,?_,?_⟩,fun k=>?_⟩<;>simp[World.cell?,World.frozen?,h.cells]
theorem DmAt.ltm(h:DmAt w0 w B mb A s):mb<w.heap.size:=lt_of_block h.cells
theorem DmAt.below(h:DmAt w0 w B mb A s)(b:Below w.heap.size w w'):DmAt w0 w' B mb A s:=
 ⟨(b.block _ h.ltm).trans h.cells,zad h.fr b,zad h.tt b,h.gt.below b,h.gp,h.gw,h.tp.below b,h.lm,h.lg,h.lt,Nat.le_trans h.lB b.size,zaa h.bel b⟩
theorem DmAt.gate(h:DmAt w0 w B mb A s){g l:GM}{v:Value}(hc:Chg w w' (fun x=>x=A.gb))(hg:RgAt w' A.gb l v)(hp:g.Perm l)(hw:GWF l):DmAt w0 w' B mb {A with gv:=v,gl:=l} {s with gm:=g}:=by
 have hb:=hc.below h.bel (fun z hz=>by subst hz;exact h.lg.1)
 exact⟨(hc.block mb h.ltm (fun e=>zb2 h.cells h.gt.cells (by decide) e)).trans h.cells,zei h.fr hc (fun z hz=>by subst hz;exact h.lg.2),zei h.tt hc (fun z hz=>by subst hz;exact h.lg.2),hg,hp,hw,
  h.tp.kept hc (fun e=>zb2 h.tp.cells h.gt.cells (by decide) e),h.lm,h.lg,h.lt,Nat.le_trans h.lB hc.size,hb⟩
theorem DmAt.tape(h:DmAt w0 w B mb A s){d:TP}(ht:TTo w w' A.tb d):DmAt w0 w' B mb A {s with tp:=d}:=by
 have hc:=ht.2
 have hb:=hc.below h.bel (fun z hz=>by subst hz;exact h.lt.1)
 exact⟨(hc.block mb h.ltm (fun e=>zb2 h.cells h.tp.cells (by decide) e)).trans h.cells,zei h.fr hc (fun z hz=>by subst hz;exact h.lt.2),zei h.tt hc (fun z hz=>by subst hz;exact h.lt.2),
  h.gt.kept hc (fun e=>zb2 h.gt.cells h.tp.cells (by decide) e) (fun z hz e=>zcj h.gt.own h.tp.cells (by decide) (by rw[hz,e])),h.gp,h.gw,ht.1,h.lm,h.lg,h.lt,Nat.le_trans h.lB hc.size,hb⟩
theorem DmAt.setFr(h:DmAt w0 w B mb A s){b:Nat}{r:Value}{l:List PF}(hr:w.ownsRow b 126 2 r l.length (zah l))(hb:B≤b):
  DmAt w0 (w.setCell ⟨mb,0,none⟩ r) B mb {A with vf:=r} {s with fr:=l}:=by
 have hc:Chg w (w.setCell ⟨mb,0,none⟩ r) (fun x=>x=mb):=(Chg.refl w (fun x=>x=mb)).set ⟨mb,0,none⟩ (.inl rfl) r
 have hbel:=hc.below h.bel (fun z hz=>by subst hz;exact h.lm.1)
 refine⟨?_,zei (za1 hr hb) hc (fun z hz=>by subst hz;exact h.lm.2),zei h.tt hc (fun z hz=>by subst hz;exact h.lm.2),
  h.gt.kept hc (fun e=>zb2 h.gt.cells h.cells (by decide) e) (fun z hz e=>zcj h.gt.own h.cells (by decide) (by rw[hz,e])),h.gp,h.gw,h.tp.kept hc (fun e=>zb2 h.tp.cells h.cells (by decide) e),h.lm,h.lg,h.lt,Nat.le_trans h.lB hc.size,hbel⟩
 have:=za2 (k:=0) (u:=r) h.cells
 simpa using this
theorem DmAt.setTo(h:DmAt w0 w B mb A s){b:Nat}{r:Value}{l:List PF}(hr:w.ownsRow b 126 2 r l.length (zah l))(hb:B≤b):
  DmAt w0 (w.setCell ⟨mb,1,none⟩ r) B mb {A with vt:=r} {s with tt:=l}:=by
 have hc:Chg w (w.setCell ⟨mb,1,none⟩ r) (fun x=>x=mb):=(Chg.refl w (fun x=>x=mb)).set ⟨mb,1,none⟩ (.inl rfl) r
 have hbel:=hc.below h.bel (fun z hz=>by subst hz;exact h.lm.1)
 refine⟨?_,zei h.fr hc (fun z hz=>by subst hz;exact h.lm.2),zei (za1 hr hb) hc (fun z hz=>by subst hz;exact h.lm.2),
  h.gt.kept hc (fun e=>zb2 h.gt.cells h.cells (by decide) e) (fun z hz e=>zcj h.gt.own h.cells (by decide) (by rw[hz,e])),h.gp,h.gw,h.tp.kept hc (fun e=>zb2 h.tp.cells h.cells (by decide) e),h.lm,h.lg,h.lt,Nat.le_trans h.lB hc.size,hbel⟩
 have:=za2 (k:=1) (u:=r) h.cells
 simpa using this
def DmA.fv(A:DmA)(b:Bool):Value:=if b then A.vf else A.vt
theorem DmAt.atF(h:DmAt w0 w B mb A s)(b:Bool):w.cell? ⟨mb,(if b then 0 else 1),none⟩=some (A.fv b)∧w.frozen? ⟨mb,(if b then 0 else 1),none⟩=false∧w.ownsRow B 126 2 (A.fv b) (s.files b).length (zah (s.files b)):=by
 cases b
 ·exact⟨h.cs.1.2.1,h.cs.2 1,h.tt⟩
 ·exact⟨h.cs.1.1,h.cs.2 0,h.fr⟩
def DAns(w0 w:World)(B mb:Nat)(x:SP×An)(e:Ending)(w':World):Prop:=e=.returned (.tuple #[.string (bs x.2.1),.int .i64 (x.2.2:Nat)])∧(∃A',DmAt w0 w' B mb A' x.1)∧Chg w w' (fun x=>x<B)
theorem DAns.same{A:DmA}{t:List UInt8}{c:Nat}{e:Ending}(h:DmAt w0 w B mb A s)(b:Below w.heap.size w w')(he:e=.returned (.tuple #[.string (bs t),.int .i64 (c:Nat)])):DAns w0 w B mb (s,t,c) e w':=⟨he,⟨A,h.below b⟩,Chg.of_below b _⟩
end
end Go.Proofs.YtakhkcaihhpehaaGreatDoor
