/- Texts of one proof, one behind the other: TapWrite, TapRead, RefTap, RefTapM, XferBegin, XferNew. -/
import Derived.Test.YtakhkcaihhpehaaGreatDoorB28
import Derived.Test.YtakhkcaihhpehaaGreatDoorB14
import Derived.Test.YtakhkcaihhpehaaGreatDoorB06
import Derived.Outline
import Derived.Test.YtakhkcaihhpehaaGreatDoorB23
import Derived.Test.YtakhkcaihhpehaaGreatDoorB27
import Derived.Test.YtakhkcaihhpehaaGreatDoorB22
import Derived.Test.YtakhkcaihhpehaaGreatDoorB24
namespace Go.Proofs.YtakhkcaihhpehaaGreatDoor
open Go.RowKit
open Lib (hid)
set_option linter.unusedVariables false
set_option maxRecDepth 100000
set_option maxHeartbeats 51200000
theorem strC(l:List UInt8)(s:ByteArray):l.map bv++Lib.strCells s=(l++s.data.toList).map bv:=by
 rw[←zoa s,zgq,zai,List.map_append]
theorem DiskAt.grownc{w w1:World}{base db:Nat}{v:Value}{d:TP}(h:DiskAt w base db v d)(hg:w.grownBy w1 v.ownBlock):w1.cell? ⟨db,0,none⟩=some v∧w1.frozen? ⟨db,0,none⟩=false:=by
 have hcell:w1.heap[db]?=some (.cells #[v,.bool d.off,.int .i64 d.cut] 107 (0,0)):=(hg.block db h.lt (fun e=>h.ne e.symm)).trans h.cells
 exact⟨by simp[World.cell?,hcell],by simp[World.frozen?,hcell]⟩
theorem ybc(E:Nat→Addr)(base db:Nat)(v:Value)(d:TP)(s:List UInt8)(w:World)(h:DiskAt w base db v d)(hs:s.length≤1000000000)(hb:d.b.length≤1000000000)(hO:Has E w 12)(hg12:gOf 12<base)(hbase:base≤w.heap.size):
  Calls Tryz.prog 159 #[.pointer (some ⟨db,0,none⟩),.string (bs s)] w fun e w'=>e=.returned (ev E (wrC d s))∧DiskTo w w' base db v (wrT d s):=by
 obtain⟨⟨c0,c1,c2⟩,cf⟩:=h.cs
 have f0:=cf 0
 have f1:=cf 1
 have f2:=cf 2
 have cO:w.cell? ⟨8,0,none⟩=some (za0 (E 12)):=hO
 have HD:=hid h
 have HBL:=hid hb
 have hcut:=h.cut
 have hdl:=h.lt
 obtain⟨va,vc,hv⟩:=h.val
 obtain⟨i0,hi,hz0,hz1,hz2⟩:=info_parts zx3
 have hsz:(bs s).size=s.length:=zae s
 clear h hO cf
 cases ho:d.off with
 | true=>
  have e1:wrC d s=12:=by unfold wrC;rw[if_pos ho]
  have e2:wrT d s=d:=by unfold wrT;rw[if_pos ho]
  rw[e1,e2,za9 E (by decide)]
  rw[ho] at c1
  clear e1 e2 ho
  go_enter Tryz.func159,Tryz.ntmps159
  go_wp2_with fail
  go_ret
  exact⟨rfl,DiskTo.same HD.out (Below.refl _ _)⟩
 | false=>
  rw[ho] at c1
  by_cases hc:0≤d.cut∧d.cut<s.length
  ·obtain⟨hc1,hc2⟩:=hc
   have e1:wrC d s=12:=by unfold wrC;rw[if_neg (by simp[ho]),if_pos ⟨hc1,hc2⟩]
   have e2:wrT d s=⟨d.b++s.take d.cut.toNat,true,d.cut⟩:=by unfold wrT;rw[if_neg (by simp[ho]),if_pos ⟨hc1,hc2⟩]
   rw[e1,e2,za9 E (by decide)]
   clear e1 e2
   obtain⟨k,hk⟩:=Int.eq_ofNat_of_zero_le hc1
   rw[hk] at c2 hc2
   have hkI:(k:Int)<(bs s).size:=by omega
   have hk0:(0:Int)≤k:=by omega
   have hkl:(k:Int)≤s.length:=by omega
   have hklN:k≤s.length:=by omega
   have E1:(bs s).extract 0 k=bs (s.take k):=by rw[zcv,zai]
   have e3:d.cut.toNat=k:=by omega
   have HK:=hid hk
   have OWN:=hid HD.out.buf
   have HN1:Hid ((d.b.map bv).length+(bs (s.take k)).size≤140737488355328):=by show _≤_;rw[List.length_map,zae,List.length_take];omega
   have TAIL:=hid (fun(w1:World)(v':Value)(hb':BufIs w1 base 5 v' (d.b.map bv++Lib.strCells (bs (s.take k))))(hg:w.grownBy w1 v.ownBlock)(ha:v'.ownBlock=v.ownBlock∨v'.ownBlock=some w.heap.size)=>show DiskTo w ((w1.setCell ⟨db,0,none⟩ v').setCell ⟨db,1,none⟩ (.bool true)) base db v ⟨d.b++s.take k,true,d.cut⟩ from by
    rw[strC,zai] at hb'
    exact(HD.out.setbuf hb' hg ha).trans fun v2 h2=>DiskTo.of (h2.off true).1 (h2.off true).2)
   have C0:=hid (fun(w1:World)(hg:w.grownBy w1 v.ownBlock)=>HD.out.grownc hg)
   have C1:=hid (fun(w1:World)(v':Value)(hg:w.grownBy w1 v.ownBlock)=>show(w1.setCell ⟨db,0,none⟩ v').cell? ⟨db,1,none⟩=some (.bool false)∧(w1.setCell ⟨db,0,none⟩ v').frozen? ⟨db,1,none⟩=false from by
    have hcell:=(hg.block db HD.out.lt (fun e=>HD.out.ne e.symm)).trans HD.out.cells
    have h2:=za2 (k:=0) (u:=v') hcell
    exact⟨by simp[World.cell?,h2,ho],by simp[World.frozen?,h2]⟩)
   have CO:=hid (fun(w1:World)(v' x:Value)(hg:w.grownBy w1 v.ownBlock)=>show((w1.setCell ⟨db,0,none⟩ v').setCell ⟨db,1,none⟩ x).cell? ⟨8,0,none⟩=some (za0 (E 12)) from by
    have n1:8≠db:=by have:=HD.out.lo;have:gOf 12=8:=rfl;omega
    have n2:v.ownBlock≠some 8:=fun e=>by have:=(HD.out.buf.at e).1;have:gOf 12=8:=rfl;omega
    rw[World.cell?_setCell_other _ _ _ _ (fun e=>n1 (congrArg Addr.block e).symm),World.cell?_setCell_other _ _ _ _ (fun e=>n1 (congrArg Addr.block e).symm)]
    have h1:=hg.block 8 (World.block_lt_of_cell? w _ cO) (fun e=>n2 e.symm)
    simp only[World.cell?,h1] at cO ⊢
    exact cO)
   rw[e3]
   clear hk ho hc1 e3 hb hsz
   subst hv
   go_enter Tryz.func159,Tryz.ntmps159
   go_wp2_with fail
   go_region_law (refine zl8 rfl (.tmp 28) (.tmp 34) 105 9 rfl base 5 i0 Tryz.underlying105 Tryz.underlying9 hi hz0 hz1 hz2 (.slice va d.b.length vc) (d.b.map bv) rfl OWN.out.drew (bs (s.take k)) rfl HN1.out hbase ?_;intro v' w5 hb5 hg5 ha5;have HB5:=hid hb5;have HG5:=hid (zbu hg5);have HA5:=hid ha5;obtain⟨c5,f5⟩:=C0.out w5 (zbu hg5);obtain⟨c6,f6⟩:=C1.out w5 v' (zbu hg5);have c7:=CO.out w5 v' (.bool true) (zbu hg5);obtain⟨va',vn',vc',rfl⟩:=hb5.val3;clear hb5 hg5 ha5)
   all_goals
    go_wp2_with fail
    go_ret
    exact⟨rfl,TAIL.out _ _ HB5.out HG5.out HA5.out⟩
  ·have e1:wrC d s=0:=by unfold wrC;rw[if_neg (by simp[ho]),if_neg hc]
   have e2:wrT d s=⟨d.b++s,d.off,if 0≤d.cut then d.cut - s.length else d.cut⟩:=by unfold wrT;rw[if_neg (by simp[ho]),if_neg hc]
   rw[e1,e2,zaj]
   clear e1 e2
   have HN1:Hid ((d.b.map bv).length+(bs s).size≤140737488355328):=by show _≤_;rw[List.length_map,zae];omega
   by_cases hc1:0≤d.cut
   ·rw[if_pos hc1]
    obtain⟨T1,C1⟩:=HD.out.setcut (d.cut - s.length) (by omega)
    have hcI:¬d.cut<(s.length:Int):=by omega
    have hw1:IntKind.i64.wrap (d.cut - s.length)=d.cut - s.length:=IntWalk.i64_in _ (by omega)
    have TAIL:=hid (fun(w1:World)(v':Value)(hb':BufIs w1 base 5 v' (d.b.map bv++Lib.strCells (bs s)))(hg:(w.setCell ⟨db,2,none⟩ (.int .i64 (d.cut - s.length))).grownBy w1 v.ownBlock)(ha:v'.ownBlock=v.ownBlock∨v'.ownBlock=some (w.setCell ⟨db,2,none⟩ (.int .i64 (d.cut - s.length))).heap.size)=>show DiskTo w (w1.setCell ⟨db,0,none⟩ v') base db v ⟨d.b++s,d.off,d.cut - s.length⟩ from by
     rw[strC,zai] at hb'
     exact(DiskTo.of T1 C1).trans (fun v2 h2=>by
      have e:=h2.cells
      rw[T1.cells] at e
      obtain rfl:v=v2:=by simpa using e
      exact h2.setbuf hb' hg ha))
    have OWN:=hid T1.buf
    have C0:=hid (fun(w1:World)(hg:(w.setCell ⟨db,2,none⟩ (.int .i64 (d.cut - s.length))).grownBy w1 v.ownBlock)=>T1.grownc hg)
    have hb2:base≤(w.setCell ⟨db,2,none⟩ (.int .i64 (d.cut - s.length))).heap.size:=by simpa [World.setCell] using hbase
    generalize d.cut=c at *
    clear T1 C1 hc ho
    subst hv
    go_enter Tryz.func159,Tryz.ntmps159
    go_wp2_with (at_builtin;refine zf3 rfl _ _ 105 9 rfl base 5 i0 Tryz.underlying105 Tryz.underlying9 hi hz0 hz1 hz2 (.slice va d.b.length vc) (d.b.map bv) rfl OWN.out (bs s) rfl HN1.out hb2 ?_;intro v' w5 hb5 hg5 ha5;have HB5:=hid hb5;have HG5:=hid hg5;have HA5:=hid ha5;obtain⟨c5,f5⟩:=C0.out w5 hg5;obtain⟨va',vn',vc',rfl⟩:=hb5.val3;clear hb5 hg5 ha5)
    go_ret
    exact⟨rfl,TAIL.out _ _ HB5.out HG5.out HA5.out⟩
   ·rw[if_neg hc1]
    have hcI:d.cut<0:=by omega
    have TAIL:=hid (fun(w1:World)(v':Value)(hb':BufIs w1 base 5 v' (d.b.map bv++Lib.strCells (bs s)))(hg:w.grownBy w1 v.ownBlock)(ha:v'.ownBlock=v.ownBlock∨v'.ownBlock=some w.heap.size)=>show DiskTo w (w1.setCell ⟨db,0,none⟩ v') base db v ⟨d.b++s,d.off,d.cut⟩ from by
     rw[strC,zai] at hb'
     exact HD.out.setbuf hb' hg ha)
    have OWN:=hid HD.out.buf
    have C0:=hid (fun(w1:World)(hg:w.grownBy w1 v.ownBlock)=>HD.out.grownc hg)
    generalize d.cut=c at *
    clear hc ho
    subst hv
    go_enter Tryz.func159,Tryz.ntmps159
    go_wp2_with (at_builtin;refine zf3 rfl _ _ 105 9 rfl base 5 i0 Tryz.underlying105 Tryz.underlying9 hi hz0 hz1 hz2 (.slice va d.b.length vc) (d.b.map bv) rfl OWN.out (bs s) rfl HN1.out hbase ?_;intro v' w5 hb5 hg5 ha5;have HB5:=hid hb5;have HG5:=hid hg5;have HA5:=hid ha5;obtain⟨c5,f5⟩:=C0.out w5 hg5;obtain⟨va',vn',vc',rfl⟩:=hb5.val3;clear hb5 hg5 ha5)
    go_ret
    exact⟨rfl,TAIL.out _ _ HB5.out HG5.out HA5.out⟩
theorem ydc(E:Nat→Addr)(s:List UInt8)(w:World)(hw:LibW E w)(hs:s.length≤1000000000):
  Calls Tryz.prog 158 #[.string (bs s)] w fun e w'=>e=.returned (.string (bs (zc9 s)))∧Below w.heap.size w w':=by
 have HI:=hid (ze4 E s.length w hw (by omega))
 have hl20:=zay (n:=s.length) (k:=18) (by omega)
 have h1:¬9223372036854775807<(Lib.decDigits s.length).length+1:=by omega
 have h2:¬9223372036854775807<(Lib.decDigits s.length).length+1+s.length:=by omega
 have h3:¬9223372036854775807<(Lib.decDigits s.length).length+1+s.length+2:=by omega
 clear hl20
 go_enter Tryz.func158,Tryz.ntmps158
 go_wp2_with fail
 refine HI.out.mono ?_
 rintro e w1⟨rfl,b1⟩
 go_wp2_with fail
 go_ret
 refine⟨?_,b1⟩
 apply zok
 apply zg0
 simp[zc9,zai]
section
theorem zol{b done:List (List UInt8)}{x:List UInt8}{n:Nat}{s:List UInt8}(h:zas x=(done++(zas (x.drop n)).1,n+(zas (x.drop n)).2))(ho:zkg (x.drop n)=some s):
  zas x=((done++[s])++(zas (x.drop (n+(zc9 s).length))).1,(n+(zc9 s).length)+(zas (x.drop (n+(zc9 s).length))).2):=by
 rw[h,zh4 ho,List.drop_drop]
 simp[Nat.add_assoc]
theorem zxo{b s:List UInt8}(h:zkg b=some s):s.length≤20000:=(ymm h).1
attribute [local irreducible] zc9 zkg zas
theorem zw8(E:Nat→Addr)(b:List UInt8)(w:World)(hw:LibW E w)(hb:b.length≤1000000000):
  Calls Tryz.prog 116 #[.string (bs b)] w fun e w'=>∃v,e=.returned (.tuple #[v,.int .i64 ((zas b).2:Nat)])∧w'.ownsRow w.heap.size 9 1 v (zas b).1.length (zbw (zas b).1)∧Below w.heap.size w w':=by
 have ON:=hid (fun(x:List UInt8)(hx:x.length≤b.length)(w':World)(bl:Below w.heap.size w w')=>yn4 E x w' (hw.below bl) (by omega))
 have RC:=hid (fun(s:List UInt8)(hs:s.length≤20000)(w':World)(bl:Below w.heap.size w w')=>ydc E s w' (hw.below bl) (by omega))
 obtain⟨i0,hi,hz0,hz1,hz2⟩:=info_parts zgw
 clear hw
 go_enter Tryz.func116,Tryz.ntmps116
 go_wp2_with fail
 go_loopw [4,5,6,7] (fun o i _ _ wr=>∃(n:Nat)(done:List (List UInt8)),i=.int .i64 n∧n≤b.length∧done.length≤n∧wr.ownsRow w.heap.size 9 1 o done.length (zbw done)∧zas b=(done++(zas (b.drop n)).1,n+(zas (b.drop n)).2)∧Below w.heap.size w wr) (fun _ i _ _ _=>b.length - (intOf i).toNat)
 case atStart=>exact⟨0,[],rfl,by omega,by simp,World.ownsRow_nil _ _ _ _,by simp,Below.refl _ _⟩
 case round=>
  obtain⟨n,done,rfl,hn,hdn,hown,hread,bel⟩:=hrel
  have HR:=hid hread
  have ED:(bs b).extract n b.length=bs (b.drop n):=by
   have:=zhv (bs b) n
   rwa [zai,zae] at this
  have HO:=hid hown
  have BW:=hid bel
  have y1:(0:Int)≤n:=by omega
  have y2:(n:Int)≤b.length:=by omega
  have y5:(n:Int).toNat=n:=by omega
  obtain⟨va,vc,rfl⟩:=zab hown
  clear hread bel hown
  cases ho:zkg (b.drop n) with
  | none=>
   have C:=ON.out (b.drop n) (by simp) wr BW.out
   rw[ho] at C
   have HC:=hid C
   have HF:=hid (ze8 ho)
   clear C ho
   go_wp2_with fail
   refine HC.out.mono ?_
   rintro e w1⟨rfl,b1⟩
   have bel1:=zaa BW.out b1
   have own1:=zad HO.out b1
   clear b1
   go_wp2_with fail
   go_ret2
   have hrb:zas b=(done,n):=by
    have:=HR.out
    rw[HF.out] at this
    simpa using this
   rw[hrb]
   exact⟨_,rfl,own1,bel1⟩
  | some s=>
   have C:=ON.out (b.drop n) (by simp) wr BW.out
   rw[ho] at C
   have HC:=hid C
   have HST:=hid (zol (b:=[]) HR.out ho)
   have hsl:=zxo ho
   have hdl:=zju ho
   rw[List.length_drop] at hdl
   have hrp:=zh2 s
   have hw1:IntKind.i64.wrap ((n:Int)+(zc9 s).length)=(n:Int)+(zc9 s).length:=IntWalk.i64_in _ (by omega)
   have HN1:Hid (done.length+1≤maxLen):=by show _≤_;unfold maxLen;omega
   have HN2:Hid ((done.length+1) * 16≤140737488355328):=by show _≤_;omega
   have KK:=hid (show n+(zc9 s).length≤b.length∧done.length+1≤n+(zc9 s).length∧4≤(zc9 s).length by omega)
   have RC1:=hid (RC.out s hsl)
   clear C ho hdl hrp RC ON
   generalize hR:zc9 s=R at *
   go_wp2_with fail
   refine HC.out.mono ?_
   rintro e w1⟨rfl,b1⟩
   have bel1:=hid (zaa BW.out b1)
   have own1:=hid (zad HO.out b1)
   clear b1 HO BW
   go_wp2_with (at_builtin;refine wpList_append_own _ rfl _ _ 22 rfl w.heap.size 9 i0 _ 1 16 Tryz.underlying22 hi hz0 hz1 hz2 rfl (by decide) _ _ _ rfl (own1.out.alloc _) ⟨w1.heap.size,0,none⟩ 1 1 [.string (bs s)] rfl rfl (zc4 (by simp)) (zbs rfl) HN1.out HN2.out (by have:=bel1.out.size;simp;omega) ?_;intro v' w5 hown5 hgrow _;have HO5:=hid hown5;have B5:=hid ((bel1.out.alloc bel1.out.size _).grown hgrow (by have:=bel1.out.size;simp;omega) (fun j hj=>(own1.out.lt j hj).1));clear hown5 hgrow)
   refine(RC1.out _ B5.out).mono ?_
   rintro e w6⟨rfl,b6⟩
   have B6:=hid (zaa B5.out b6)
   have HO6:=hid (zad HO5.out b6)
   clear b6
   go_wp2_with fail
   go_roundw
   case rel=>exact⟨n+R.length,done++[s],by go_num,KK.out.1,by simpa using KK.out.2.1,by rw[zcz,List.length_append];exact HO6.out,HST.out,B6.out⟩
   case measure=>have:=KK.out;simp[intOf];omega
end
section
theorem zsq{b:List UInt8}{p:List UInt8×List UInt8}(h:zdu 58 b=some p)(hn:nmZ 9 p.1<0):zkg b=none:=by
 refine zmw h ?_
 cases e:nmL 9 p.1 with
 | none=>rfl
 | some n=>rw[zdp e] at hn;omega
theorem ye4{most:Nat}{d:List UInt8}(h:0≤nmZ most d):nmL most d=some (nmZ most d).toNat:=by
 cases e:nmL most d with
 | none=>rw[zdc e] at h;omega
 | some n=>rw[zdp e];simp
theorem yqd{b:List UInt8}{k n:Nat}{c d:UInt8}(h1:b[k+1+n]?=some c)(h2:b[k+2+n]?=some d):((b.drop (k+1)).drop n).take 2=[c,d]:=by
 have e1:(b.drop (k+1)).drop n=b.drop (k+1+n):=by rw[List.drop_drop]
 have l1:=(List.getElem?_eq_some_iff.1 h1).1
 have l2:=(List.getElem?_eq_some_iff.1 h2).1
 rw[e1,List.drop_eq_getElem_cons l1,List.take_succ_cons,(List.getElem?_eq_some_iff.1 h1).2]
 rw[List.drop_eq_getElem_cons (show k+1+n+1<b.length by omega),List.take_succ_cons,List.take_zero]
 have e2:b[k+1+n+1]?=some d:=by rw[←h2];congr 1;omega
 rw[(List.getElem?_eq_some_iff.1 e2).2]
attribute [local irreducible] zc9 zkg zas nmL nmZ
theorem zjk(b:List UInt8)(w:World)(hb:b.length≤1000000000):
  Calls Tryz.prog 30 #[.string (bs b)] w fun e w'=>∃v,e=.returned (.tuple #[v,.int .i64 ((zas b).2:Nat)])∧w'.ownsRow w.heap.size 9 1 v (zas b).1.length (zbw (zas b).1)∧Below w.heap.size w w':=by
 have NB:=hid (fun(s:List UInt8)(hs:s.length≤b.length)(w':World)=>zck (bs s) 9 w' (by decide) (by rw[zae];omega))
 obtain⟨i0,hi,hz0,hz1,hz2⟩:=info_parts zgw
 have hsz:(bs b).size=b.length:=zae b
 have HGET:=hid (fun k h=>yhn b k h)
 have GV:Hid (∀(k:Nat)(h:k<(bs b).size),((bs b)[k]'h).toNat<256):=fun k h=>((bs b)[k]'h).toNat_lt
 have SUB:=hid (fun i k=>zrx b i k)
 have HLB:=hid (show b.length≤1000000000 from hb)
 go_enter Tryz.func30,Tryz.ntmps30
 go_wp2_with fail
 go_loopw [2,3,4,5,6,7,8] (fun _ _ o i _ _ _ wr=>∃(n:Nat)(done:List (List UInt8)),i=.int .i64 n∧n≤b.length∧done.length≤n∧wr.ownsRow w.heap.size 9 1 o done.length (zbw done)∧zas b=(done++(zas (b.drop n)).1,n+(zas (b.drop n)).2)∧Below w.heap.size w wr) (fun _ _ _ i _ _ _ _=>b.length - (intOf i).toNat)
 case atStart=>exact⟨0,[],rfl,by omega,by simp,World.ownsRow_nil _ _ _ _,by simp,Below.refl _ _⟩
 case round=>
  obtain⟨n,done,rfl,hn,hdn,hown,hread,bel⟩:=hrel
  have HR:=hid hread
  have HO:=hid hown
  have BW:=hid bel
  have HD:=hid hdn
  obtain⟨va,vc,rfl⟩:=zab hown
  have hn64:n≤1000000000:=by omega
  clear hread bel hown hdn
  go_wp2_with fail
  go_loopw [6] (fun k wr'=>∃j:Nat,k=.int .i64 j∧n≤j∧j≤b.length∧(∀i,n≤i→i<j→b[i]?≠some 58)∧wr'=wr) (fun k _=>b.length - (intOf k).toNat)
  case atStart=>exact⟨n,rfl,by omega,hn,fun i h1 h2=>by omega,rfl⟩
  case round=>
   obtain⟨j,rfl,hnj,hj,hno,rfl⟩:=hrel
   have HNO:=hid hno
   have x1:(0:Int)≤j:=by omega
   clear hno
   by_cases hlt:j<b.length
   ·have hltI:(j:Int)<b.length:=by omega
    have hltS:(j:Int)<(bs b).size:=by omega
    have hjs:j<(bs b).size:=by omega
    have hg:=HGET.out j hjs
    have hcv:=GV.out j hjs
    by_cases hc:((bs b)[j]'hjs)=58
    ·
     have hcI:((((bs b)[j]'hjs).toNat:Int) != 58)=false:=by rw[hc];rfl
     have hcE:((((bs b)[j]'hjs).toNat:Int)==58)=true:=by rw[hc];rfl
     have CUT:=hid (zv3 HNO.out hnj (by rw[hg,hc]))
     have hjl:((j:Int)==b.length)=false:=by rw[beq_eq_false_iff_ne];omega
     have y1:(0:Int)≤n:=by omega
     have y2:(n:Int)≤j:=by omega
     have y3:(j:Int)≤b.length:=by omega
     have EX:=SUB.out n j
     have NB1:=hid (NB.out ((b.drop n).take (j - n)) (by simp;omega))
     rw[zai] at NB1
     have ZB:=yq0 (most:=9) (d:=(b.drop n).take (j - n)) (by decide)
     have ZN:=hid (fun h=>zsq CUT.out h)
     have ZP:=hid (fun h=>ymn CUT.out (ye4 h))
     simp only at ZN ZP
     have REC:Hid (∀(m:Nat)(s:List UInt8),nmZ 9 ((b.drop n).take (j - n))=m→s.length=m→(zc9 s).length=(j - n)+m+3):=hid fun m s h hs=>by
      have h1:=ye4 (show 0≤nmZ 9 ((b.drop n).take (j - n)) by omega)
      rw[h,Int.toNat_natCast] at h1
      have h2:=congrArg List.length (zkq h1).2
      rw[List.length_take,List.length_drop] at h2
      rw[zqc,hs]
      omega
     obtain⟨zl,zh⟩:=ZB
     generalize nmZ 9 ((b.drop n).take (j - n))=z at *
     generalize (b.drop n).take (j - n)=d at *
     have DONE:Hid (zkg (b.drop n)=none→zas b=(done,n)):=hid fun h=>by
      have:=HR.out
      rw[ze8 h] at this
      simpa using this
     clear hc hg hcv HNO CUT NB
     go_wp2_with fail
     refine(NB1.out _).mono ?_
     rintro e w1⟨rfl,rfl⟩
     clear EX NB1
     by_cases hz:z<0
     ·have D:=hid (DONE.out (ZN.out hz))
      go_wp2_with fail
      go_ret2
      rw[D.out]
      exact⟨_,rfl,HO.out,BW.out⟩
     ·obtain⟨m,rfl⟩:=Int.eq_ofNat_of_zero_le (show 0≤z by omega)
      have IF:=hid (ZP.out (by omega))
      rw[Int.toNat_natCast] at IF
      clear ZN ZP
      by_cases hm:m≤20000
      ·have hmI:¬(20000:Int)<m:=by omega
       by_cases hl:m+2≤b.length - (j+1)
       ·have hlI:¬(b.length:Int) - j - 1<(m:Int)+2:=by omega
        have hs1:j+1+m<(bs b).size:=by omega
        have hs2:j+2+m<(bs b).size:=by omega
        have hg1:=HGET.out _ hs1
        have hg2:=HGET.out _ hs2
        have hv1:=GV.out _ hs1
        have hv2:=GV.out _ hs2
        have TW:=hid (yqd hg1 hg2)
        have EX2:=SUB.out (j+1) (j+1+m)
        rw[show j+1+m - (j+1)=m by omega] at EX2
        have z1:(0:Int)≤(j:Int)+1:=by omega
        have z2:(j:Int)+1≤(j:Int)+1+m:=by omega
        have z3:(j:Int)+1+m≤b.length:=by omega
        have z4:((j:Int)+1).toNat=j+1:=by omega
        have z5:((j:Int)+1+m).toNat=j+1+m:=by omega
        have z6:(0:Int)≤(j:Int)+1+m:=by omega
        have z7:(j:Int)+1+m<b.length:=by omega
        have z8:((j:Int)+2+m).toNat=j+2+m:=by omega
        have z9:(0:Int)≤(j:Int)+2+m:=by omega
        have z10:(j:Int)+2+m<b.length:=by omega
        have hq:((bs b)[j+1+m]'hs1=10∧(bs b)[j+2+m]'hs2=46)∨¬((bs b)[j+1+m]'hs1=10∧(bs b)[j+2+m]'hs2=46):=Classical.em _
        rcases hq with⟨q1,q2⟩|hq
        ·have q1I:((((bs b)[j+1+m]'hs1).toNat:Int) != 10)=false:=by rw[q1];rfl
         have q2I:((((bs b)[j+2+m]'hs2).toNat:Int) != 46)=false:=by rw[q2];rfl
         have ON:Hid (zkg (b.drop n)=some ((b.drop (j+1)).take m)):=hid (by
          rw[IF.out,if_pos ⟨hm,by rw[List.length_drop];omega,by rw[TW.out,q1,q2]⟩])
         have hsl:((b.drop (j+1)).take m).length=m:=by rw[List.length_take,List.length_drop];omega
         have HRL:=REC.out m _ rfl hsl
         have HST:=zol (b:=[]) HR.out ON.out
         rw[HRL,show n+(j - n+m+3)=j+3+m by omega] at HST
         have HST:=hid HST
         have HD2:=HD.out
         have HN1:Hid (done.length+1≤maxLen):=by show _≤_;unfold maxLen;omega
         have HN2:Hid ((done.length+1) * 16≤140737488355328):=by show _≤_;omega
         have KK:=hid (show j+3+m≤b.length∧done.length+1≤j+3+m∧n<j+3+m by omega)
         clear hg1 hg2 hv1 hv2 q1 q2 TW IF DONE REC HRL HD2 ON hsl
         generalize (b.drop (j+1)).take m=s at *
         have BS:=hid BW.out.size
         go_wp2_with (at_builtin;refine wpList_append_own _ rfl _ _ 22 rfl w.heap.size 9 i0 _ 1 16 Tryz.underlying22 hi hz0 hz1 hz2 rfl (by decide) _ _ _ rfl (HO.out.alloc _) ⟨wr.heap.size,0,none⟩ 1 1 [.string (bs s)] rfl rfl (zc4 (by simp)) (zbs rfl) HN1.out HN2.out (by have:=BS.out;simp;omega) ?_;intro v' w5 hown5 hgrow _;have HO5:=hid hown5;have B5:=hid ((BW.out.alloc BS.out _).grown hgrow (by have:=BS.out;simp;omega) (fun j hj=>(HO.out.lt j hj).1));clear hown5 hgrow)
         go_roundw
         case rel=>exact⟨j+3+m,done++[s],by go_num,KK.out.1,by simpa using KK.out.2.1,by rw[zcz,List.length_append];exact HO5.out,HST.out,B5.out⟩
         case measure=>have:=KK.out;simp[intOf];omega
        ·have D:=hid (DONE.out (by
          rw[IF.out,if_neg]
          rintro⟨_,_,h3⟩
          rw[TW.out] at h3
          injection h3 with h4 h5
          injection h5 with h5 _
          exact hq ⟨h4,h5⟩))
         by_cases q1:(bs b)[j+1+m]'hs1=10
         ·have q2:(bs b)[j+2+m]'hs2≠46:=fun e=>hq ⟨q1,e⟩
          have q1I:((((bs b)[j+1+m]'hs1).toNat:Int) != 10)=false:=by rw[q1];rfl
          have q2I:((((bs b)[j+2+m]'hs2).toNat:Int) != 46)=true:=by
           rw[bne_iff_ne]
           intro e
           exact q2 (UInt8.toNat_inj.1 (by have:(46:UInt8).toNat=46:=rfl;omega))
          clear hg1 hg2 hv1 hv2 q1 q2 TW IF DONE REC hq
          go_wp2_with fail
          go_ret2
          rw[D.out]
          exact⟨_,rfl,HO.out,BW.out⟩
         ·have q1I:((((bs b)[j+1+m]'hs1).toNat:Int) != 10)=true:=by
           rw[bne_iff_ne]
           intro e
           exact q1 (UInt8.toNat_inj.1 (by have:(10:UInt8).toNat=10:=rfl;omega))
          clear hg1 hg2 hv1 hv2 q1 TW IF DONE REC hq
          go_wp2_with fail
          go_ret2
          rw[D.out]
          exact⟨_,rfl,HO.out,BW.out⟩
       ·have hlI:(b.length:Int) - j - 1<(m:Int)+2:=by omega
        have D:=hid (DONE.out (by rw[IF.out,if_neg (fun h=>hl (by have:=h.2.1;rw[List.length_drop] at this;exact this))]))
        go_wp2_with fail
        go_ret2
        rw[D.out]
        exact⟨_,rfl,HO.out,BW.out⟩
      ·have hmI:(20000:Int)<m:=by omega
       have D:=hid (DONE.out (by rw[IF.out,if_neg (fun h=>hm h.1)]))
       go_wp2_with fail
       go_ret2
       rw[D.out]
       exact⟨_,rfl,HO.out,BW.out⟩
    ·have hcI:((((bs b)[j]'hjs).toNat:Int) != 58)=true:=by
      rw[bne_iff_ne]
      intro e
      exact hc (UInt8.toNat_inj.1 (by have:(58:UInt8).toNat=58:=rfl;omega))
     have N2:Hid (∀i,n≤i→i<j+1→b[i]?≠some 58):=hid fun i h1 h2 e=>by
      by_cases hij:i=j
      ·subst hij
       rw[hg] at e
       exact hc (Option.some.inj e)
      ·exact HNO.out i h1 (by omega) e
     have KK:=hid (show j+1≤b.length from hlt)
     clear hg hcv hc
     go_wp2_with fail
     go_roundw
     case rel=>exact⟨j+1,by go_num,by omega,KK.out,N2.out,by trivial⟩
     case measure=>simp[intOf];omega
   ·have hltI:¬(j:Int)<b.length:=by omega
    have hjl:((j:Int)==b.length)=true:=by rw[beq_iff_eq];omega
    have NO:=hid (zv4 HNO.out (show b.length≤j by omega))
    have hrb:zas b=(done,n):=by
     have:=HR.out
     rw[ze8 (yey NO.out)] at this
     simpa using this
    have HRB:=hid hrb
    clear hrb
    go_wp2_with fail
    go_ret2
    rw[HRB.out]
    exact⟨_,rfl,HO.out,BW.out⟩
end
section
structure TD(w:World)(mt:Nat)(d:TP):Prop where
 cells:w.heap[mt]?=some (.cells #[.string (bs d.b),.bool d.off,.int .i64 d.cut] 32 (0,0))
 cut:-1≤d.cut∧d.cut≤9223372036854775807
def TTo(w w':World)(mt:Nat)(d:TP):Prop:=TD w' mt d∧Chg w w' (fun x=>x=mt)
section
variable{w w1 w2:World}{mt:Nat}{d d1 d2:TP}
theorem TD.lt(h:TD w mt d):mt<w.heap.size:=lt_of_block h.cells
theorem TD.cs(h:TD w mt d):(w.cell? ⟨mt,0,none⟩=some (.string (bs d.b))∧w.cell? ⟨mt,1,none⟩=some (.bool d.off)∧w.cell? ⟨mt,2,none⟩=some (.int .i64 d.cut))∧∀k,w.frozen? ⟨mt,k,none⟩=false:=by
 refine⟨⟨?_,?_,?_⟩,fun k=>?_⟩<;>simp[World.cell?,World.frozen?,h.cells]
theorem TD.kept{S:Nat→Prop}(h:TD w mt d)(hc:Chg w w1 S)(h1:¬S mt):TD w1 mt d:=⟨(hc.block mt h.lt h1).trans h.cells,h.cut⟩
theorem TD.below(h:TD w mt d)(hb:Below w.heap.size w w1):TD w1 mt d:=h.kept (Chg.of_below hb (fun _=>False)) (fun h=>h)
theorem TTo.same(h:TD w mt d)(hb:Below w.heap.size w w1):TTo w w1 mt d:=⟨h.below hb,Chg.of_below hb _⟩
theorem TTo.trans(h:TTo w w1 mt d1)(k:TTo w1 w2 mt d2):TTo w w2 mt d2:=⟨k.1,h.2.trans k.2 (fun _ _ h=>h)⟩
theorem TTo.drew(h:TTo w w1 mt d):TTo w w1.drew mt d:=⟨⟨h.1.cells,h.1.cut⟩,h.2.drew⟩
theorem TD.setB(h:TD w mt d)(l:List UInt8):TTo w (w.setCell ⟨mt,0,none⟩ (.string (bs l))) mt ⟨l,d.off,d.cut⟩:=
 ⟨⟨by simpa using za2 (k:=0) (u:=.string (bs l)) h.cells,h.cut⟩,(Chg.refl w (fun x=>x=mt)).set ⟨mt,0,none⟩ (.inl rfl) _⟩
theorem TD.setOff(h:TD w mt d)(o:Bool):TTo w (w.setCell ⟨mt,1,none⟩ (.bool o)) mt ⟨d.b,o,d.cut⟩:=
 ⟨⟨by simpa using za2 (k:=1) (u:=.bool o) h.cells,h.cut⟩,(Chg.refl w (fun x=>x=mt)).set ⟨mt,1,none⟩ (.inl rfl) _⟩
theorem TD.setCut(h:TD w mt d)(c:Int)(hc:-1≤c∧c≤9223372036854775807):TTo w (w.setCell ⟨mt,2,none⟩ (.int .i64 c)) mt ⟨d.b,d.off,c⟩:=
 ⟨⟨by simpa using za2 (k:=2) (u:=.int .i64 c) h.cells,hc⟩,(Chg.refl w (fun x=>x=mt)).set ⟨mt,2,none⟩ (.inl rfl) _⟩
end
theorem zuw(mt:Nat)(d:TP)(n:Int)(w:World)(h:TD w mt d)(hn:n≤9223372036854775807):
  Calls Tryz.prog 36 #[.pointer (some ⟨mt,0,none⟩),.int .i64 n] w fun e w'=>e=.returned (.int .i64 (ctC d n:Nat))∧TTo w w' mt (ctT d n):=by
 obtain⟨⟨c0,c1,c2⟩,cf⟩:=h.cs
 have f2:=cf 2
 have HD:=hid h
 clear h cf
 by_cases h1:n<0
 ·have e1:ctC d n=2:=by unfold ctC;rw[if_pos h1]
  have e2:ctT d n=d:=by unfold ctT;rw[if_pos h1]
  rw[e1,e2]
  clear e1 e2
  go_enter Tryz.func36,Tryz.ntmps36
  go_wp2_with fail
  go_ret
  exact⟨rfl,TTo.same HD.out (Below.refl _ _)⟩
 ·cases ho:d.off with
  | true=>
   have e1:ctC d n=12:=by unfold ctC;rw[if_neg h1,if_pos ho]
   have e2:ctT d n=d:=by unfold ctT;rw[if_neg h1,if_pos ho]
   rw[e1,e2]
   rw[ho] at c1
   clear e1 e2 ho
   go_enter Tryz.func36,Tryz.ntmps36
   go_wp2_with fail
   go_ret
   exact⟨rfl,TTo.same HD.out (Below.refl _ _)⟩
  | false=>
   have e1:ctC d n=0:=by unfold ctC;rw[if_neg h1,if_neg (by simp[ho])]
   have e2:ctT d n=⟨d.b,d.off,n⟩:=by unfold ctT;rw[if_neg h1,if_neg (by simp[ho])]
   rw[e1,e2]
   rw[ho] at c1
   have T:=hid (HD.out.setCut n (by omega))
   clear e1 e2 ho
   go_enter Tryz.func36,Tryz.ntmps36
   go_wp2_with fail
   go_ret
   exact⟨rfl,T.out⟩
theorem yrw{d:TP}{s:List UInt8}(h:20000<s.length):apC d s=2∧apT d s=d:=by unfold apC apT;rw[if_pos h,if_pos h];exact⟨rfl,rfl⟩
theorem ypq{d:TP}{s:List UInt8}(h:¬20000<s.length)(h2:1048576<d.b.length+(zc9 s).length):apC d s=8∧apT d s=d:=by
 unfold apC apT;rw[if_neg h,if_neg h,if_pos h2,if_pos h2];exact⟨rfl,rfl⟩
theorem ap_wr{d:TP}{s:List UInt8}(h:¬20000<s.length)(h2:¬1048576<d.b.length+(zc9 s).length):apC d s=wrC d (zc9 s)∧apT d s=wrT d (zc9 s):=by
 unfold apC apT;rw[if_neg h,if_neg h,if_neg h2,if_neg h2];exact⟨rfl,rfl⟩
theorem yp9{d:TP}{s:List UInt8}(h:d.off=true):wrC d s=12∧wrT d s=d:=⟨by unfold wrC;rw[if_pos h],by unfold wrT;rw[if_pos h]⟩
theorem yqb{d:TP}{s:List UInt8}(h:d.off=false)(h2:0≤d.cut∧d.cut<s.length):wrC d s=12∧wrT d s=⟨d.b++s.take d.cut.toNat,true,d.cut⟩:=⟨by unfold wrC;rw[if_neg (by simp[h]),if_pos h2],by unfold wrT;rw[if_neg (by simp[h]),if_pos h2]⟩
theorem yqa{d:TP}{s:List UInt8}(h:d.off=false)(h2:¬(0≤d.cut∧d.cut<s.length))(h3:0≤d.cut):wrC d s=0∧wrT d s=⟨d.b++s,d.off,d.cut - s.length⟩:=⟨by unfold wrC;rw[if_neg (by simp[h]),if_neg h2],by unfold wrT;rw[if_neg (by simp[h]),if_neg h2,if_pos h3]⟩
theorem ym9{d:TP}{s:List UInt8}(h:d.off=false)(h3:¬0≤d.cut):wrC d s=0∧wrT d s=⟨d.b++s,d.off,d.cut⟩:=⟨by unfold wrC;rw[if_neg (by simp[h]),if_neg (by omega)],by unfold wrT;rw[if_neg (by simp[h]),if_neg (by omega),if_neg h3]⟩
attribute [local irreducible] zc9 zas apC apT wrC wrT
theorem yc4(mt:Nat)(d:TP)(s:List UInt8)(w:World)(h:TD w mt d)(hs:s.length≤1000000)(hb:d.b.length≤100000000):
  Calls Tryz.prog 40 #[.pointer (some ⟨mt,0,none⟩),.string (bs s)] w fun e w'=>e=.returned (.int .i64 (apC d s:Nat))∧TTo w w' mt (apT d s):=by
 have HD:=hid h
 have hsz:(bs s).size=s.length:=zae s
 by_cases h1:20000<s.length
 ·obtain⟨e1,e2⟩:=yrw (d:=d) h1
  rw[e1,e2]
  have hI:(20000:Int)<s.length:=by omega
  clear e1 e2 h
  go_enter Tryz.func40,Tryz.ntmps40
  go_wp2_with fail
  go_ret
  exact⟨rfl,TTo.same HD.out (Below.refl _ _)⟩
 ·have hI:¬(20000:Int)<s.length:=by omega
  have RC:=hid (zux s w (by omega))
  have hrl:=ydd (s:=s) (by omega)
  have CS:=hid (fun(w':World)(b:Below w.heap.size w w')=>(h.below b).cs)
  have HB:=hid (fun(w':World)(b:Below w.heap.size w w')=>h.below b)
  have TS:=hid (fun(w':World)(b:Below w.heap.size w w')=>TTo.same h b)
  have hbz:(bs d.b).size=d.b.length:=zae d.b
  have hcut:=h.cut
  obtain⟨hcut1,hcut2⟩:=hcut
  have hrz:(bs (zc9 s)).size=(zc9 s).length:=zae _
  clear h
  by_cases h2:1048576<d.b.length+(zc9 s).length
  ·obtain⟨e1,e2⟩:=ypq h1 h2
   rw[e1,e2]
   have h2I:(1048576:Int)<(d.b.length:Int)+(zc9 s).length:=by omega
   clear e1 e2
   generalize zc9 s=r at *
   go_enter Tryz.func40,Tryz.ntmps40
   go_wp2_with fail
   refine RC.out.mono ?_
   rintro e w1⟨rfl,b1⟩
   obtain⟨⟨c0,c1,c2⟩,cf⟩:=CS.out _ b1
   have T1:=hid (TS.out _ b1)
   clear cf CS HB TS RC HD b1
   go_wp2_with fail
   go_ret
   exact⟨rfl,T1.out⟩
  ·have h2I:¬(1048576:Int)<(d.b.length:Int)+(zc9 s).length:=by omega
   obtain⟨e1,e2⟩:=ap_wr h1 h2
   rw[e1,e2]
   clear e1 e2
   generalize zc9 s=r at *
   have hcat:¬9223372036854775807<d.b.length+r.length:=by omega
   cases ho:d.off with
   | true=>
    obtain⟨e1,e2⟩:=yp9 (s:=r) ho
    rw[e1,e2]
    rw[ho] at CS
    clear e1 e2 ho
    go_enter Tryz.func40,Tryz.ntmps40
    go_wp2_with fail
    refine RC.out.mono ?_
    rintro e w1⟨rfl,b1⟩
    obtain⟨⟨c0,c1,c2⟩,cf⟩:=CS.out _ b1
    have T1:=hid (TS.out _ b1)
    clear cf CS HB TS RC HD b1
    go_wp2_with fail
    go_ret
    exact⟨rfl,T1.out⟩
   | false=>
    by_cases hc:0≤d.cut∧d.cut<r.length
    ·obtain⟨e1,e2⟩:=yqb (s:=r) ho hc
     rw[e1,e2]
     obtain⟨hc1,hc2⟩:=hc
     obtain⟨k,hk⟩:=Int.eq_ofNat_of_zero_le hc1
     have e3:d.cut.toNat=k:=by omega
     rw[e3]
     have FIN:=hid (fun(w1:World)(b:Below w.heap.size w w1)=>show TTo w ((w1.setCell ⟨mt,0,none⟩ (.string (bs d.b++bs (r.take k)))).setCell ⟨mt,1,none⟩ (.bool true)) mt ⟨d.b++r.take k,true,d.cut⟩ from by
      rw[zc6]
      have k1:=(HB.out w1 b).setB (d.b++r.take k)
      exact((TS.out w1 b).trans k1).trans (k1.1.setOff true))
     have EX:(bs r).extract 0 k=bs (r.take k):=by rw[zcv,zai]
     rw[ho,hk] at CS
     rw[hk] at hc2
     have y1:(0:Int)≤k:=by omega
     have y2:(k:Int)≤r.length:=by omega
     have y3:(k:Int).toNat=k:=by omega
     have y4:k≤r.length:=by omega
     have hcat2:¬9223372036854775807<d.b.length+k:=by omega
     clear e1 e2 e3 hc1 hcut1 hcut2 hk ho
     go_enter Tryz.func40,Tryz.ntmps40
     go_wp2_with fail
     refine RC.out.mono ?_
     rintro e w1⟨rfl,b1⟩
     obtain⟨⟨c0,c1,c2⟩,cf⟩:=CS.out _ b1
     have f0:=cf 0
     have f1:=cf 1
     have T1:=hid (FIN.out _ b1)
     clear cf CS HB TS RC HD b1 FIN
     go_wp2_with fail
     go_region
     all_goals
      go_wp2_with fail
      go_ret
      exact⟨rfl,T1.out.drew⟩
    ·by_cases hc3:0≤d.cut
     ·obtain⟨e1,e2⟩:=yqa (s:=r) ho hc hc3
      rw[e1,e2]
      have hcI:¬d.cut<(r.length:Int):=by omega
      have hw1:IntKind.i64.wrap (d.cut - r.length)=d.cut - r.length:=IntWalk.i64_in _ (by omega)
      have FIN:=hid (fun(w1:World)(b:Below w.heap.size w w1)=>show TTo w ((w1.setCell ⟨mt,2,none⟩ (.int .i64 (d.cut - r.length))).setCell ⟨mt,0,none⟩ (.string (bs d.b++bs r))) mt ⟨d.b++r,d.off,d.cut - r.length⟩ from by
       rw[zc6]
       have k1:=(HB.out w1 b).setCut (d.cut - r.length) (by omega)
       exact((TS.out w1 b).trans k1).trans (k1.1.setB (d.b++r)))
      rw[ho] at CS FIN ⊢
      clear e1 e2 hc ho
      generalize d.cut=c at *
      go_enter Tryz.func40,Tryz.ntmps40
      go_wp2_with fail
      refine RC.out.mono ?_
      rintro e w1⟨rfl,b1⟩
      obtain⟨⟨c0,c1,c2⟩,cf⟩:=CS.out _ b1
      have f0:=cf 0
      have f2:=cf 2
      have T1:=hid (FIN.out _ b1)
      clear cf CS HB TS RC HD b1
      go_wp2_with fail
      go_ret
      exact⟨rfl,T1.out⟩
     ·obtain⟨e1,e2⟩:=ym9 (s:=r) ho hc3
      rw[e1,e2]
      have hcI:d.cut<0:=by omega
      have FIN:=hid (fun(w1:World)(b:Below w.heap.size w w1)=>show TTo w (w1.setCell ⟨mt,0,none⟩ (.string (bs d.b++bs r))) mt ⟨d.b++r,d.off,d.cut⟩ from by
       rw[zc6]
       exact(TS.out w1 b).trans ((HB.out w1 b).setB (d.b++r)))
      rw[ho] at CS FIN ⊢
      clear e1 e2 hc ho hcut1 hcut2
      generalize d.cut=c at *
      go_enter Tryz.func40,Tryz.ntmps40
      go_wp2_with fail
      refine RC.out.mono ?_
      rintro e w1⟨rfl,b1⟩
      obtain⟨⟨c0,c1,c2⟩,cf⟩:=CS.out _ b1
      have f0:=cf 0
      have T1:=hid (FIN.out _ b1)
      clear cf CS HB TS RC HD b1
      go_wp2_with fail
      go_ret
      exact⟨rfl,T1.out⟩
theorem yc3(mt:Nat)(d:TP)(w:World)(h:TD w mt d)(hb:d.b.length≤100000000):
  Calls Tryz.prog 33 #[.pointer (some ⟨mt,0,none⟩)] w fun e w'=>∃r,e=.returned r∧w'.ownsRow w.heap.size 9 1 r (zas d.b).1.length (zbw (zas d.b).1)∧TTo w w' mt (rcT d):=by
 obtain⟨⟨c0,c1,c2⟩,cf⟩:=h.cs
 have RT:=hid (zjk d.b w (by omega))
 have CS:=hid (fun(w':World)(b:Below w.heap.size w w')=>(h.below b).cs)
 have hl:=zfk d.b
 have hbz:(bs d.b).size=d.b.length:=zae d.b
 have FIN:=hid (fun(w1:World)(b:Below w.heap.size w w1)=>show TTo w (((w1.setCell ⟨mt,0,none⟩ (.string (bs (d.b.take (zas d.b).2)))).setCell ⟨mt,1,none⟩ (.bool false)).setCell ⟨mt,2,none⟩ (.int .i64 (-1))) mt (rcT d) from by
  have k1:=(h.below b).setB (d.b.take (zas d.b).2)
  have k2:=k1.1.setOff false
  exact(((TTo.same h b).trans k1).trans k2).trans (k2.1.setCut (-1) (by decide)))
 have HLT:=hid h.lt
 clear h cf c1 c2
 have EX:(bs d.b).extract 0 (zas d.b).2=bs (d.b.take (zas d.b).2):=by rw[zcv,zai]
 have y1:(0:Int)≤(zas d.b).2:=by omega
 have y2:((zas d.b).2:Int)≤d.b.length:=by omega
 have y3:((zas d.b).2:Int).toNat=(zas d.b).2:=by omega
 generalize hR:zas d.b=R at *
 obtain⟨rl,rn⟩:=R
 simp only at *
 go_enter Tryz.func33,Tryz.ntmps33
 go_wp2_with fail
 refine RT.out.mono ?_
 rintro e w1⟨v,rfl,ho,b1⟩
 obtain⟨va,vc,rfl⟩:=zab ho
 obtain⟨⟨c0',c1,c2⟩,cf⟩:=CS.out _ b1
 have f0:=cf 0
 have f1:=cf 1
 have f2:=cf 2
 have T1:=hid (FIN.out _ b1)
 have HO:=hid ho
 clear cf CS RT b1 ho c0 FIN
 go_wp2_with fail
 go_ret
 refine⟨_,rfl,?_,T1.out⟩
 have hlt:=HLT.out
 exact ownsRow_setCell_below (ownsRow_setCell_below (ownsRow_setCell_below HO.out (a:=⟨mt,0,none⟩) hlt _) (a:=⟨mt,1,none⟩) hlt _) (a:=⟨mt,2,none⟩) hlt _
end
structure XPre(w0 w:World)(xb:Nat)(A:XA)(pf pu:Value)(x:XS):Prop where
 cells:XCell w xb A pf pu x
 rest:XRest w0 w A x
 lx:w0.heap.size≤xb
theorem yor(n:Nat)(h:n<1000000):zhk (zuj n) zrn=0∧opN (zuj n) zrn=n+1∧opM (zuj n) zrn=zuj (n+1):=by
 have h1:zhn (zuj n) zrn=0:=zqu (by decide) (fun hh=>by
  have:(zuj n).length≤1:=by unfold zuj;split<;>simp
  omega)
 have h2:zhk (zuj n) zrn=0:=by unfold zhk;rw[if_neg (by simp[h1]),zj4,if_neg (by omega)]
 refine⟨h2,by unfold opN;rw[if_pos h2,zj4],?_⟩
 unfold opM
 rw[if_pos h2,zj4]
 unfold zuj
 by_cases h0:n=0
 ·subst h0;rfl
 ·rw[if_neg h0,if_neg (by omega)]
  simp[zja]
section
variable{E:Nat→Addr}{w0 w w':World}{xb:Nat}{A:XA}{x:XS}{pf pu:Value}
theorem XAt.pre(h:XAt w0 w xb A x):XPre w0 w xb A (.pointer (some ⟨A.fb,0,none⟩)) (.map (some A.ub)) x:=⟨h.cells,h.rest,h.lx⟩
theorem XPre.set(h:XPre w0 w xb A pf pu x)(k:Nat)(u:Value){A':XA}{pf' pu':Value}{x':XS}(e:(zew A pf pu x).setIfInBounds k u=zew A' pf' pu' x')(hr:∀w2,XRest w0 w2 A x→XRest w0 w2 A' x'):XPre w0 (w.setCell ⟨xb,k,none⟩ u) xb A' pf' pu' x':=
 ⟨h.cells.set k u e,hr _ (h.rest.xset h.cells h.lx k u),h.lx⟩
theorem XPre.below(h:XPre w0 w xb A pf pu x)(hb:Below w.heap.size w w'):XPre w0 w' xb A pf pu x:=
 ⟨(hb.block xb (lt_of_block h.cells)).trans h.cells,h.rest.below hb,h.lx⟩
theorem XPre.open(h:XPre w0 w xb A pf pu x){n:Nat}(hc:Chg w w' (fun b=>b=A.mb))(hg:GtAt w' A.gb A.mb n (zuj n)):XPre w0 w' xb A pf pu {x with ge:=n}:=by
 obtain⟨es,c,hm⟩:=h.rest.gt.mapObj
 have r:=h.rest
 refine⟨(hc.block xb (lt_of_block h.cells) (fun e=>zcp h.cells hm e)).trans h.cells,⟨zan r.fr hc (fun z hz e=>zbl r.fr hm (by rw[hz,e])),zan r.tt hc (fun z hz e=>zbl r.tt hm (by rw[hz,e])),zan r.nt hc (fun z hz e=>zbl r.nt hm (by rw[hz,e])),zan r.ln hc (fun z hz e=>zbl r.ln hm (by rw[hz,e])),hg,r.lm,hc.below r.bel (fun z hz=>by subst hz;exact r.lm)⟩,h.lx⟩
theorem zoc(h:XPre w0 w xb A pf pu x)(hd:x.dn=false)(hg:x.ge<1000000)(hn:x.net.length≤1000000000)(h2:Has E w0 2)(h4:Has E w0 4)(h5:Has E w0 5)(h8:Has E w0 8):
  Calls Tryz.prog 150 #[.pointer (some ⟨xb,0,none⟩)] w fun e w'=>e=.returned (.tuple #[])∧∃A',XAt w0 w' xb A' x.begins:=by
 have HX:=hid h
 obtain⟨g1,g2,g3⟩:=yor x.ge hg
 have OP:=zta (E:=E) zrn h.rest.gt (by decide) (by omega) (h2.below h.rest.bel) (h5.below h.rest.bel) (h8.below h.rest.bel)
 rw[g1,g2,g3,zaj] at OP
 rw[show bs zrn=⟨#[120]⟩ from by unfold bs zrn;rfl] at OP
 have OP:=hid OP
 have c15:=h.cells.cs.2.2.2.2.2.2.2.2.2.2.2.2.2.2.2
 have c2:=h.cells.cs.2.2.1
 rw[hd] at c15
 have XL:x.begins=XS.next {x with ge:=x.ge+1,ep:=x.ge+1,sq:=0,ask:=zfr,age:=0,W:=1,L:=32,T:=2,G:=0,ln:=[],kn:=false,fu:=[]}:=by
  unfold XS.begins;rw[if_neg (by simp[hd]),if_neg (by omega)]
 rw[XL]
 have NX:=hid (fun(w':World)(A:XA)(X:XAt w0 w' xb A {x with ge:=x.ge+1,ep:=x.ge+1,sq:=0,ask:=zfr,age:=0,W:=1,L:=32,T:=2,G:=0,ln:=[],kn:=false,fu:=[]})=>zrq (E:=E) X rfl hn (show(0:Nat)<65536 by decide) h2 h4)
 obtain⟨r,hr⟩:∃r,XS.next {x with ge:=x.ge+1,ep:=x.ge+1,sq:=0,ask:=zfr,age:=0,W:=1,L:=32,T:=2,G:=0,ln:=[],kn:=false,fu:=[]}=r:=⟨_,rfl⟩
 rw[hr] at NX ⊢
 clear h hr XL g1 g2 g3 h2 h4 h5 h8 hn hd
 go_enter Tryz.func150,Tryz.ntmps150
 go_wp2_with fail
 refine OP.out.mono ?_
 rintro e w1⟨rfl,hg1,hc1⟩
 have P1:=HX.out.open hc1 hg1
 have f4:=P1.cells.fz 4
 have f5:=P1.cells.fz 5
 have f6:=P1.cells.fz 6
 have f7:=P1.cells.fz 7
 have f8:=P1.cells.fz 8
 have f9:=P1.cells.fz 9
 have f10:=P1.cells.fz 10
 obtain⟨c0,c1,c2,c3,c4,c5,c6,c7,c8,c9,c10,c11,c12,c13,c14,c15⟩:=P1.cells.cs
 have P1:=hid P1
 clear hg1 hc1 HX OP c0 c1 c2 c3 c11 c12 c13 c14 c15
 have Q4:=P1.out.set 4 (.int .i64 ((x.ge:Int)+1)) (A':=A) (pf':=pf) (pu':=pu) (x':={x with ge:=x.ge+1,ep:=x.ge+1}) (by first|rfl|simp[zew,bs_nil]) (fun w2 h=>⟨h.fr,h.tt,h.nt,h.ln,h.gt,h.lm,h.bel⟩)
 have Q5:=Q4.set 5 (.int .i64 0) (A':=A) (pf':=pf) (pu':=pu) (x':={x with ge:=x.ge+1,ep:=x.ge+1,sq:=0}) (by first|rfl|simp[zew,bs_nil]) (fun w2 h=>⟨h.fr,h.tt,h.nt,h.ln,h.gt,h.lm,h.bel⟩)
 have Q6:=Q5.set 6 (.int .u8 0) (A':=A) (pf':=pf) (pu':=pu) (x':={x with ge:=x.ge+1,ep:=x.ge+1,sq:=0,ask:=⟨0,x.ask.e,x.ask.q,x.ask.d⟩}) (by first|rfl|simp[zew,bs_nil]) (fun w2 h=>⟨h.fr,h.tt,h.nt,h.ln,h.gt,h.lm,h.bel⟩)
 have Q7:=Q6.set 7 (.int .i64 0) (A':=A) (pf':=pf) (pu':=pu) (x':={x with ge:=x.ge+1,ep:=x.ge+1,sq:=0,ask:=⟨0,0,x.ask.q,x.ask.d⟩}) (by first|rfl|simp[zew,bs_nil]) (fun w2 h=>⟨h.fr,h.tt,h.nt,h.ln,h.gt,h.lm,h.bel⟩)
 have Q8:=Q7.set 8 (.int .i64 0) (A':=A) (pf':=pf) (pu':=pu) (x':={x with ge:=x.ge+1,ep:=x.ge+1,sq:=0,ask:=⟨0,0,0,x.ask.d⟩}) (by first|rfl|simp[zew,bs_nil]) (fun w2 h=>⟨h.fr,h.tt,h.nt,h.ln,h.gt,h.lm,h.bel⟩)
 have Q9:=Q8.set 9 (.string ⟨#[]⟩) (A':=A) (pf':=pf) (pu':=pu) (x':={x with ge:=x.ge+1,ep:=x.ge+1,sq:=0,ask:=⟨0,0,0,[]⟩}) (by first|rfl|simp[zew,bs_nil]) (fun w2 h=>⟨h.fr,h.tt,h.nt,h.ln,h.gt,h.lm,h.bel⟩)
 have Q10:=Q9.set 10 (.int .i64 0) (A':=A) (pf':=pf) (pu':=pu) (x':={x with ge:=x.ge+1,ep:=x.ge+1,sq:=0,age:=0,ask:=⟨0,0,0,[]⟩}) (by first|rfl|simp[zew,bs_nil]) (fun w2 h=>⟨h.fr,h.tt,h.nt,h.ln,h.gt,h.lm,h.bel⟩)
 have Q:=hid Q10
 clear Q4 Q5 Q6 Q7 Q8 Q9 Q10 P1
 go_wp2_with fail
 generalize (((((((w1.setCell ⟨xb,4,none⟩ (.int .i64 ((x.ge:Int)+1))).setCell ⟨xb,5,none⟩ (.int .i64 0)).setCell ⟨xb,6,none⟩ (.int .u8 0)).setCell ⟨xb,7,none⟩ (.int .i64 0)).setCell ⟨xb,8,none⟩ (.int .i64 0)).setCell ⟨xb,9,none⟩ (.string ⟨#[]⟩)).setCell ⟨xb,10,none⟩ (.int .i64 0))=w2 at *
 clear c4 c5 c6 c7 c8 c9 c10 f4 f5 f6 f7 f8 f9 f10
 have FN:=yq1 w2
 refine FN.mono ?_
 rintro e w3⟨rfl,hf3,b3⟩
 have P3:=Q.out.below b3
 have hlx:=lt_of_block Q.out.cells
 have P4:=P3.below (zag w3 (.map #[] 0))
 have hlb:w2.heap.size<w3.heap.size:=hf3.lt
 have hf4:FlowAt (w3.alloc (.map #[] 0)) w2.heap.size 1 32 2 0:=((zag w3 (.map #[] 0)).block _ hlb).trans hf3
 have hm4:FMapIs (w3.alloc (.map #[] 0)) w3.heap.size 0 []:=FMapIs.made w3
 have hmb:A.mb<w3.heap.size:=by
  obtain⟨es,c,hm⟩:=P3.rest.gt.mapObj
  exact lt_of_block hm
 have hb2:=Q.out.rest.bel.size
 have f11:=P4.cells.fz 11
 have f12:=P4.cells.fz 12
 have f13:=P4.cells.fz 13
 have f14:=P4.cells.fz 14
 obtain⟨c0,c1,c2,c3,c4,c5,c6,c7,c8,c9,c10,c11,c12,c13,c14,c15⟩:=P4.cells.cs
 have R11:=P4.set 11 (.pointer (some ⟨w2.heap.size,0,none⟩)) (A':=A) (pf':=.pointer (some ⟨w2.heap.size,0,none⟩)) (pu':=pu) (x':={x with ge:=x.ge+1,ep:=x.ge+1,sq:=0,ask:=⟨0,0,0,[]⟩,age:=0}) rfl (fun w2 h=>⟨h.fr,h.tt,h.nt,h.ln,h.gt,h.lm,h.bel⟩)
 have R12:=R11.set 12 (.slice none 0 0) (A':={A with vl:=.slice none 0 0}) (pf':=.pointer (some ⟨w2.heap.size,0,none⟩)) (pu':=pu) (x':={x with ge:=x.ge+1,ep:=x.ge+1,sq:=0,ask:=⟨0,0,0,[]⟩,age:=0,ln:=[]}) rfl (fun w2 h=>⟨h.fr,h.tt,h.nt,World.ownsRow_nil _ _ _ _,h.gt,h.lm,h.bel⟩)
 have R13:=R12.set 13 (.bool false) (A':={A with vl:=.slice none 0 0}) (pf':=.pointer (some ⟨w2.heap.size,0,none⟩)) (pu':=pu) (x':={x with ge:=x.ge+1,ep:=x.ge+1,sq:=0,ask:=⟨0,0,0,[]⟩,age:=0,ln:=[],kn:=false}) rfl (fun w2 h=>⟨h.fr,h.tt,h.nt,h.ln,h.gt,h.lm,h.bel⟩)
 have R14:=R13.set 14 (.map (some w3.heap.size)) (A':={A with vl:=.slice none 0 0,fb:=w2.heap.size,ub:=w3.heap.size}) (pf':=.pointer (some ⟨w2.heap.size,0,none⟩)) (pu':=.map (some w3.heap.size)) (x':={x with ge:=x.ge+1,ep:=x.ge+1,sq:=0,ask:=zfr,age:=0,W:=1,L:=32,T:=2,G:=0,ln:=[],kn:=false,fu:=[]}) rfl (fun w2 h=>⟨h.fr,h.tt,h.nt,h.ln,h.gt,h.lm,h.bel⟩)
 have hcc:=(((XCell.chg (w3.alloc (.map #[] 0)) xb 11 (.pointer (some ⟨w2.heap.size,0,none⟩))).set ⟨xb,12,none⟩ (.inl rfl) (.slice none 0 0)).set ⟨xb,13,none⟩ (.inl rfl) (.bool false)).set ⟨xb,14,none⟩ (.inl rfl) (.map (some w3.heap.size))
 have XA0:=hid (NX.out _ _ ⟨R14.cells,R14.rest,(hcc.block w2.heap.size (by simp;omega) (by omega)).trans hf4,hm4.kept (hcc.block w3.heap.size (by simp) (by omega)),by show w3.heap.size≠A.mb;omega,R14.lx,by show _≤w2.heap.size;exact hb2,by show _≤w3.heap.size;omega⟩)
 have hmm:=@run_makeMap Tryz.prog
 clear R11 R12 R13 R14 hcc hm4 hf4 hf3 b3 P3 P4 Q NX FN c0 c1 c2 c3 c4 c5 c6 c7 c8 c9 c10 c15
 go_wp2_with fail
 refine XA0.out.mono ?_
 rintro e w4⟨rfl,A',hA⟩
 have HA:=hid hA
 clear hA XA0
 go_wp2_with fail
 go_returns
 exact⟨rfl,A',HA.out⟩
end
section
variable{E:Nat→Addr}{w0 w w':World}{xb:Nat}{A:XA}{x:XS}
theorem yh6(fr t:List PF)(v1 v2:Value)(w:World)(h1:SliceIs w v1 2 (zah fr))(h2:SliceIs w v2 2 (zah t))(hf:FWF fr)(ht:FWF t)(e2:Has E w 2)(e4:Has E w 4)(e5:Has E w 5)(e8:Has E w 8)(e9:Has E w 9):
  Calls Tryz.prog 107 #[v1,v2] w fun e w'=>∃xb A',e=.returned (.tuple #[.pointer (some ⟨xb,0,none⟩),.nilIface])∧XAt w w' xb A' (XS.start fr t):=by
 have C1:=hid (zdf E fr v1 w h1 hf.okx (by have:=hf.few;omega) e2 e5 e8 e9)
 have C2:=hid (fun(w':World)(b:Below w.heap.size w w')=>zdf E t v2 w' (h2.below b) ht.okx (by have:=ht.few;omega) (e2.below b) (e5.below b) (e8.below b) (e9.below b))
 have K1:=hid (fun(w':World)(b:Below w.heap.size w w')=>zde fr v1 w' (h1.below b) (by have:=hf.few;omega))
 have K2:=hid (fun(w':World)(b:Below w.heap.size w w')=>zde t v2 w' (h2.below b) (by have:=ht.few;omega))
 have Z1:=hid ((zbd fr).2 hf)
 have Z2:=hid ((zbd t).2 ht)
 have BG:=hid (fun(w':World)(xb:Nat)(A:XA)(X:XPre w w' xb A (.pointer none) (.map none) ⟨fr,t,0,[],0,0,zfr,0,1,32,2,0,[],false,[],false⟩)=>zoc (E:=E) X rfl (show(0:Nat)<1000000 by decide) (show([]:List (List UInt8×Bool)).length≤1000000000 by decide) e2 e4 e5 e8)
 clear h1 h2 hf ht e2 e4 e5 e8 e9
 go_enter Tryz.func107,Tryz.ntmps107
 go_wp2_with fail
 refine C1.out.mono ?_
 rintro e w1⟨r,rfl,fe,b1⟩
 rw[Z1.out] at fe
 obtain rfl:=fe.zero
 clear fe C1
 go_wp2_with fail
 refine(C2.out _ b1).mono ?_
 rintro e w2⟨r,rfl,fe,b2⟩
 rw[Z2.out] at fe
 obtain rfl:=fe.zero
 have b2:=zaa b1 b2
 clear fe C2 b1
 go_wp2_with fail
 refine(K1.out _ b2).mono ?_
 rintro e w3⟨rf,rfl,of,b3⟩
 have of:=za1 of b2.size
 have b3':=zaa b2 b3
 clear b2 b3 K1
 go_wp2_with fail
 refine(K2.out _ b3').mono ?_
 rintro e w4⟨rt,rfl,ot,b4⟩
 have of:=zad of b4
 have ot:=za1 ot b3'.size
 have b4':=zaa b3' b4
 clear b3' b4 K2
 go_wp2_with fail
 refine(zx5 w4).mono ?_
 rintro e w5⟨gb,mb,rfl,hg,b5,l1,l2⟩
 have hsz:=b4'.size
 have of:=zad of b5
 have ot:=zad ot b5
 have b5':=zaa b4' b5
 have HB:=hid (zag w5 (.cells #[rf,rt,.pointer (some ⟨gb,0,none⟩),.slice none 0 0,.int .i64 0,.int .i64 0,.int .u8 0,.int .i64 0,.int .i64 0,.string ⟨#[]⟩,.int .i64 0,.pointer none,.slice none 0 0,.bool false,.map none,.bool false] 245))
 have XP:XPre w (w5.alloc (.cells #[rf,rt,.pointer (some ⟨gb,0,none⟩),.slice none 0 0,.int .i64 0,.int .i64 0,.int .u8 0,.int .i64 0,.int .i64 0,.string ⟨#[]⟩,.int .i64 0,.pointer none,.slice none 0 0,.bool false,.map none,.bool false] 245)) w5.heap.size ⟨rf,rt,.slice none 0 0,.slice none 0 0,gb,mb,0,0⟩ (.pointer none) (.map none) ⟨fr,t,0,[],0,0,zfr,0,1,32,2,0,[],false,[],false⟩:=
  ⟨by unfold XCell zew;rw[heap_alloc_new,show bs zfr.d=⟨#[]⟩ from bs_nil];rfl,⟨zad of HB.out,zad ot HB.out,World.ownsRow_nil _ _ _ _,World.ownsRow_nil _ _ _ _,hg.below HB.out,Nat.le_trans hsz l2,zaa b5' HB.out⟩,by have:=b5'.size;omega⟩
 have BGX:=hid (BG.out _ _ _ XP)
 obtain⟨fa,fc,rfl⟩:=zab of
 obtain⟨ta,tc,rfl⟩:=zab ot
 clear XP of ot hg b4' b5 b5' HB BG l1 l2
 go_wp2_with fail
 refine BGX.out.mono ?_
 rintro e w6⟨rfl,A',hA⟩
 have HA:=hid hA
 clear hA BGX
 go_wp2_with fail
 go_ret2
 exact⟨_,A',rfl,HA.out⟩
theorem ym5(h:XAt w0 w xb A x)(hl:x.tt.length≤1000000):
  Calls Tryz.prog 110 #[.pointer (some ⟨xb,0,none⟩)] w fun e w'=>∃r,e=.returned r∧w'.ownsRow w.heap.size 126 2 r x.tt.length (zah x.tt)∧Below w.heap.size w w':=by
 have CL:=hid (zde x.tt A.vt w (SliceIs.ownedK h.rest.tt) hl)
 have c1:=h.cells.cs.2.1
 clear h
 go_enter Tryz.func110,Tryz.ntmps110
 go_wp2_with fail
 refine CL.out.mono ?_
 rintro e w1⟨r,rfl,o1,b1⟩
 have O1:=hid o1
 have B1:=hid b1
 obtain⟨va,vc,rfl⟩:=zab o1
 clear o1 b1 CL c1
 go_wp2_with fail
 go_ret
 exact⟨_,rfl,O1.out,B1.out⟩
end
end Go.Proofs.YtakhkcaihhpehaaGreatDoor
