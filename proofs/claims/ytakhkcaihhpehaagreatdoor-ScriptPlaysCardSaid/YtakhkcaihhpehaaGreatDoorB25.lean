/- Texts of one proof, one behind the other: FrDec. -/
import Derived.Test.YtakhkcaihhpehaaGreatDoorB06
import Derived.Deep.RegionWith
import Derived.Deep.DeepCutAuto
namespace Go.Proofs.YtakhkcaihhpehaaGreatDoor
open Go.RowKit
open Lib (hid)
set_option linter.unusedVariables false
set_option maxRecDepth 100000
set_option maxHeartbeats 51200000
section
attribute [local irreducible] frB frT frC zkh rdF zfe
theorem ym3:zfr.val=.agg #[.int .u8 0,.int .i64 0,.int .i64 0,.string ⟨#[]⟩]:=by unfold zfr PFr.val;rw[bs_nil];rfl
theorem yfv{E:Nat→Addr}{w w':World}{c b d:Nat}{l:List UInt8}(h:Has E w c)(R:RAt E w b l d)(g:w.grownBy w' (some b)):Has E w' c:=by
 have hne:gOf c≠b:=by
  intro e
  have:=R.cs.1
  unfold Has at h
  rw[e,this] at h
  unfold za0 at h
  simp at h
 unfold Has at *
 exact g.cell h (by intro e;exact hne (Option.some.inj e))
theorem zbe{v:World}{g:Nat}{x0 x1 x2 x3:Value}{t:TypeId}(h:v.heap[g]?=some (.cells #[x0,x1,x2,x3] t (0,0))):
  (v.cell? ⟨g,0,none⟩=some x0∧v.cell? ⟨g,1,none⟩=some x1∧v.cell? ⟨g,2,none⟩=some x2∧v.cell? ⟨g,3,none⟩=some x3)∧∀k,v.frozen? ⟨g,k,none⟩=false:=by
 refine⟨⟨?_,?_,?_,?_⟩,fun k=>?_⟩<;>simp[World.cell?,World.frozen?,h]
theorem ymi{v:World}{g:Nat}{x0 x1 x2 x3:Value}{t:TypeId}(h:v.heap[g]?=some (.cells #[x0,x1,x2,x3] t (0,0)))(y0 y1 y2 y3:Value):
  ((((v.setCell ⟨g,0,none⟩ y0).setCell ⟨g,1,none⟩ y1).setCell ⟨g,2,none⟩ y2).setCell ⟨g,3,none⟩ y3).heap[g]?=some (.cells #[y0,y1,y2,y3] t (0,0)):=by
 have h1:=za2 (k:=3) (u:=y3) (za2 (k:=2) (u:=y2) (za2 (k:=1) (u:=y1) (za2 (k:=0) (u:=y0) h)))
 simpa using h1
theorem zff{B:Nat}{x v:World}{g:Nat}(h:Below B x v)(hg:B≤g)(y0 y1 y2 y3:Value):Below B x ((((v.setCell ⟨g,0,none⟩ y0).setCell ⟨g,1,none⟩ y1).setCell ⟨g,2,none⟩ y2).setCell ⟨g,3,none⟩ y3):=
 (((h.setCell (p:=⟨g,0,none⟩) hg y0).setCell (p:=⟨g,1,none⟩) hg y1).setCell (p:=⟨g,2,none⟩) hg y2).setCell (p:=⟨g,3,none⟩) hg y3
structure St(w:World)(b:Nat)(W:World):Prop where
 bel:Below w.heap.size w W
 zero:W.heap[w.heap.size]?=some (.cells #[.int .u8 0,.int .i64 0,.int .i64 0,.string ⟨#[]⟩] 241 (0,0))
 lt:b<W.heap.size
 base:w.heap.size<b
theorem St.alloc{w:World}{b:Nat}{W:World}(h:St w b W)(o:Obj):St w b (W.alloc o):=
 ⟨h.bel.alloc h.bel.size o,((zaf W o).block _ (lt_of_block h.zero)).trans h.zero,by have:=h.lt;simp;omega,h.base⟩
theorem St.grown{w:World}{b:Nat}{W V:World}(h:St w b W)(g:W.grownBy V (some b)):St w b V:=
 ⟨h.bel.grown g h.bel.size (fun k hk=>by cases hk;exact Nat.le_of_lt h.base),(g.block _ (lt_of_block h.zero) (fun e=>by have:=h.base;have:=Option.some.inj e;omega)).trans h.zero,Nat.lt_of_lt_of_le h.lt g.size,h.base⟩
theorem St.fresh{w:World}{b:Nat}{W V:World}{o:Obj}(h:St w b W)(g:(W.alloc o).grownBy V (some b)):V.heap[W.heap.size]?=some o:=
 (g.block _ (by simp) (fun e=>by have:=h.lt;have:=Option.some.inj e;omega)).trans (heap_alloc_new _ _)
theorem zs8{v:World}{g k:Nat}(hk:k≠g)(y0 y1 y2 y3:Value):((((v.setCell ⟨g,0,none⟩ y0).setCell ⟨g,1,none⟩ y1).setCell ⟨g,2,none⟩ y2).setCell ⟨g,3,none⟩ y3).heap[k]?=v.heap[k]?:=by
 rw[Below.heap_setCell _ _ _ _ (by exact hk),Below.heap_setCell _ _ _ _ (by exact hk),Below.heap_setCell _ _ _ _ (by exact hk),Below.heap_setCell _ _ _ _ (by exact hk)]
theorem St.put{w:World}{b g:Nat}{W:World}(h:St w b W)(hg:b<g)(y0 y1 y2 y3:Value):St w b ((((W.setCell ⟨g,0,none⟩ y0).setCell ⟨g,1,none⟩ y1).setCell ⟨g,2,none⟩ y2).setCell ⟨g,3,none⟩ y3):=
 ⟨zff h.bel (by have:=h.base;omega) y0 y1 y2 y3,(zs8 (by have:=h.base;omega) y0 y1 y2 y3).trans h.zero,by rw[World.size_setCell,World.size_setCell,World.size_setCell,World.size_setCell];exact h.lt,h.base⟩
theorem zqg{E:Nat→Addr}{W:World}{b g c:Nat}{l:List UInt8}(h:RAt E W b l c)(hg:b<g)(y0 y1 y2 y3:Value):RAt E ((((W.setCell ⟨g,0,none⟩ y0).setCell ⟨g,1,none⟩ y1).setCell ⟨g,2,none⟩ y2).setCell ⟨g,3,none⟩ y3) b l c:=by
 unfold RAt at h ⊢
 exact(zs8 (by omega) y0 y1 y2 y3).trans h
theorem Has.grown'{E:Nat→Addr}{w w':World}{c b d:Nat}{l:List UInt8}(h:Has E w c)(R:RAt E w b l d)(g:w.grownBy w' (some b)):Has E w' c:=yfv h R g
theorem zlz{W V:World}{b g:Nat}{cs:Array Value}{t:TypeId}{fr:Nat×Nat}(h:W.grownBy V (some b))(a:W.heap[g]?=some (.cells cs t fr))(hlt:b<g):V.heap[g]?=some (.cells cs t fr):=
 (h.block g (lt_of_block a) (fun e=>by have:=Option.some.inj e;omega)).trans a
theorem zls(E:Nat→Addr)(s:ByteArray)(w:World)(hs:s.size≤100000)(h1:Has E w 1)(h2:Has E w 2)(h4:Has E w 4)(h10:Has E w 10):
  Calls Tryz.prog 187 #[.string s] w fun e w'=>e=.returned (.tuple #[(zfe s.data.toList).1.val,ev E (zfe s.data.toList).2])∧Below w.heap.size w w':=by
 have hsl:s.data.toList.length=s.size:=by simp
 have EXT:∀i k e,e=i+k→s.extract i e=bs ((s.data.toList.drop i).take k):=fun i k e h=>by
  apply zg0;subst h;simp
 have HZV:=hid ym3
 have b0:=zaf w (.cells #[.int .u8 0,.int .i64 0,.int .i64 0,.string ⟨#[]⟩] 241)
 have c1:w.cell? ⟨1,0,none⟩=some (za0 (E 1)):=h1
 have c10:w.cell? ⟨14,0,none⟩=some (za0 (E 10)):=h10
 have z1:1<w.heap.size:=World.block_lt_of_cell? w _ c1
 have z10:14<w.heap.size:=World.block_lt_of_cell? w _ c10
 unfold za0 at c1 c10
 have HEV:=hid (fun(c:Nat)(h:c≠0)=>zep E h)
 have H1:=hid h1
 have H2:=hid h2
 have H4:=hid h4
 have H10:=hid h10
 have B0:=hid b0
 clear h1 h2 h4 h10 b0
 by_cases h4':s.size<4
 ·have h4I:(s.size:Int)<4:=by omega
  have HD:=hid (ybg (L:=s.data.toList) (by rw[hsl];exact h4'))
  clear EXT hsl
  go_enter Tryz.func187,Tryz.ntmps187
  go_wp2_with fail
  go_region_with (fail)
  all_goals
   go_wp2_with fail
   go_returns
   exact⟨by rw[HD.out,HZV.out,HEV.out 1 (by decide)],B0.out.drew⟩
 ·have h4I:¬(s.size:Int)<4:=by omega
  obtain⟨m,hm⟩:∃m,s.size=m+4:=⟨s.size - 4,by omega⟩
  have hmI:(s.size:Int) - 4=m:=by omega
  have hLm:s.data.toList.length - 4=m:=by rw[hsl];omega
  have hx1:s.extract 0 m=bs (s.data.toList.take m):=by rw[EXT 0 m m (by omega)];simp
  have hx2:s.extract m s.size=bs (s.data.toList.drop m):=by rw[EXT m 4 s.size (by omega),List.take_of_length_le (by rw[List.length_drop,hsl];omega)]
  have SU:=hid (fun w'=>zhc (bs (s.data.toList.take m)) w' (by rw[zae,List.length_take,hsl];omega))
  rw[zai] at SU
  have LW:=hid (fun w'=>yff (za5 (s.data.toList.take m)) w' (zdv _))
  have D10:=hid (zyl (L:=s.data.toList) (by rw[hsl];exact h4'))
  have D4:=hid (yg8 (L:=s.data.toList))
  rw[hLm] at D10 D4
  have y1:(0:Int)≤m:=by omega
  have y2:(m:Int)≤s.size:=by omega
  have y3:(m:Int).toNat=m:=by omega
  have hz0:(w.alloc (.cells #[.int .u8 0,.int .i64 0,.int .i64 0,.string ⟨#[]⟩] 241)).heap[w.heap.size]?=some (.cells #[.int .u8 0,.int .i64 0,.int .i64 0,.string ⟨#[]⟩] 241 (0,0)):=heap_alloc_new _ _
  have HZ:=hid hz0
  clear hz0
  have HMM:=hid hm
  have HEXT:=hid EXT
  clear hm EXT
  by_cases hsum:zkh (za5 (s.data.toList.take m))=s.data.toList.drop m
  ·have hcmp:((bs (zkh (za5 (s.data.toList.take m)))).toList==(bs (s.data.toList.drop m)).toList)=true:=by rw[hsum];simp
   by_cases hm0:m=0
   ·have hmb:((m:Int)==0)=true:=by rw[beq_iff_eq];omega
    have HD:=hid (D4.out (by rw[hsl,HMM.out,hm0]) hsum)
    clear D4 D10 hsum hm0
    go_enter Tryz.func187,Tryz.ntmps187
    go_wp2_with fail
    go_region_with (first|(go_at_call 114;refine(SU.out _).mono ?_;rintro e' w7⟨rfl,rfl⟩)|(go_at_call 212;refine(LW.out _).mono ?_;rintro e' w8⟨rfl,b8⟩))
    all_goals
     have b8:=(show Below (w.alloc (.cells #[.int .u8 0,.int .i64 0,.int .i64 0,.string ⟨#[]⟩] 241)).heap.size (w.alloc (.cells #[.int .u8 0,.int .i64 0,.int .i64 0,.string ⟨#[]⟩] 241)) w8 from⟨b8.os,b8.tape,b8.output,b8.size,b8.block⟩)
     have bel:=zaa B0.out b8
     have hz8:=(b8.block w.heap.size (lt_of_block HZ.out)).trans HZ.out
     clear b8
     have cc:w8.cell? ⟨1,0,none⟩=some (za0 (E 1)):=H1.out.below bel
     unfold za0 at cc
     obtain⟨⟨q0,q1,q2,q3⟩,fz⟩:=zbe hz8
     have f0:=fz 0
     have f1:=fz 1
     have f2:=fz 2
     have f3:=fz 3
     have hp:=ymi hz8 (.int .u8 0) (.int .i64 0) (.int .i64 0) (.string ⟨#[]⟩)
     have bb:=zff bel (Nat.le_refl w.heap.size) (.int .u8 0) (.int .i64 0) (.int .i64 0) (.string ⟨#[]⟩)
     clear fz hz8 bel
     go_wp2_with fail
     go_region_with (fail)
     all_goals
      go_wp2_with fail
      have bb:=bb.drew
      have hp:=(show((((w8.setCell ⟨w.heap.size,0,none⟩ (.int .u8 0)).setCell ⟨w.heap.size,1,none⟩ (.int .i64 0)).setCell ⟨w.heap.size,2,none⟩ (.int .i64 0)).setCell ⟨w.heap.size,3,none⟩ (.string ⟨#[]⟩)).drew.heap[w.heap.size]?=_ from hp)
      generalize ((((w8.setCell ⟨w.heap.size,0,none⟩ (.int .u8 0)).setCell ⟨w.heap.size,1,none⟩ (.int .i64 0)).setCell ⟨w.heap.size,2,none⟩ (.int .i64 0)).setCell ⟨w.heap.size,3,none⟩ (.string ⟨#[]⟩)).drew=w9 at hp bb ⊢
      obtain⟨⟨r0,r1,r2,r3⟩,_⟩:=zbe hp
      (try simp only[Exit.inBlock,Exit.then])
      refine bodyPost_ret (by simp[results,Tryz.results187,go_sem,r0,r1,r2,r3];try rfl) rfl ?_
      exact⟨by rw[HD.out,HZV.out,HEV.out 1 (by decide)],bb⟩
   ·have hmb:((m:Int)==0)=false:=by rw[beq_eq_false_iff_ne];omega
    have hsp:0<s.size:=by have:=HMM.out;omega
    have y4:(1:Int)≤m:=by omega
    have hb:s.data.toList.take m=s[0]::(s.data.toList.drop 1).take (m - 1):=by
     have h0:s.data.toList=s[0]::s.data.toList.drop 1:=by
      have:=List.drop_eq_getElem_cons (l:=s.data.toList) (i:=0) (by rw[hsl];exact hsp)
      rw[List.drop_zero] at this
      exact this
     obtain⟨m',rfl⟩:∃m',m=m'+1:=⟨m - 1,by omega⟩
     conv=>lhs;rw[h0]
     rw[List.take_succ_cons,Nat.add_sub_cancel]
    have hx3:s.extract 1 m=bs ((s.data.toList.drop 1).take (m - 1)):=HEXT.out 1 (m - 1) m (by omega)
    have hll:((s.data.toList.drop 1).take (m - 1)).length≤100000:=by rw[List.length_take,List.length_drop,hsl];omega
    have hsum':zkh (za5 (s.data.toList.take (s.data.toList.length - 4)))=s.data.toList.drop (s.data.toList.length - 4):=by rw[hLm];exact hsum
    have hb':s.data.toList.take (s.data.toList.length - 4)=s[0]::(s.data.toList.drop 1).take (m - 1):=by rw[hLm];exact hb
    have hn4:¬s.data.toList.length<4:=by rw[hsl];exact h4'
    have DE:=hid (fun (f:PFr) (c:Nat) hr hc=>yk8 (f:=f) (c:=c) hn4 hsum' hb' hr hc)
    have DB:=hid (fun (f:PFr) (c:Nat) hr hc hf=>yk9 (f:=f) (c:=c) hn4 hsum' hb' hr hc hf)
    have DF:=hid (fun (f:PFr) (c:Nat) hr hc hf=>ztr (f:=f) (c:=c) hn4 hsum' hb' hr hc hf)
    generalize (s.data.toList.drop 1).take (m - 1)=l at hx3 hll DE DB DF
    clear hsum' hb' hn4 hb D4 D10
    obtain⟨l1,e1⟩:∃x,rnR l 0=x:=⟨_,rfl⟩
    obtain⟨d1,e2⟩:∃x,rnC l 0=x:=⟨_,rfl⟩
    obtain⟨l2,e3⟩:∃x,rnR l1 d1=x:=⟨_,rfl⟩
    obtain⟨d2,e4⟩:∃x,rnC l1 d1=x:=⟨_,rfl⟩
    obtain⟨l3,e5⟩:∃x,rtR l2 d2=x:=⟨_,rfl⟩
    obtain⟨d3,e6⟩:∃x,rtC l2 d2=x:=⟨_,rfl⟩
    have hr:=ymf s[0] e1 e2 e3 e4 e5 e6
    have hl1:=zb5 l 0
    have hl2:=zb5 l1 d1
    rw[e1] at hl1
    rw[e3] at hl2
    have P1:=hid (fun b (w:World) h=>zcx E b l 0 w (by omega) h)
    have P2:=hid (fun b (w:World) h=>zcx E b l1 d1 w (by omega) h)
    have P3:=hid (fun b (w:World) h=>zfj E b l2 d2 w (by omega) h)
    rw[e1,e2] at P1
    rw[e3,e4] at P2
    rw[e5,e6] at P3
    have HR:=hid hr
    generalize rnN l 0=fe at *
    generalize rnN l1 d1=fq at *
    generalize rtT l2 d2=fd at *
    clear e1 e2 e3 e4 e5 e6 hr hsum hl1 hl2 hm0
    go_enter Tryz.func187,Tryz.ntmps187
    go_wp2_with fail
    go_region_with (first|(go_at_call 114;refine(SU.out _).mono ?_;rintro e' w7⟨rfl,rfl⟩)|(go_at_call 212;refine(LW.out _).mono ?_;rintro e' w8⟨rfl,b8⟩))
    all_goals
     have b8:=(show Below (w.alloc (.cells #[.int .u8 0,.int .i64 0,.int .i64 0,.string ⟨#[]⟩] 241)).heap.size (w.alloc (.cells #[.int .u8 0,.int .i64 0,.int .i64 0,.string ⟨#[]⟩] 241)) w8 from⟨b8.os,b8.tape,b8.output,b8.size,b8.block⟩)
     have bel:=zaa B0.out b8
     have hz8:=(b8.block w.heap.size (lt_of_block HZ.out)).trans HZ.out
     clear b8
     have R9:RAt E (w8.alloc (.cells #[.string (bs l),.nilIface] 297)) w8.heap.size l 0:=by unfold RAt;rw[zaj];exact heap_alloc_new _ _
     have bel9:=bel.alloc bel.size (.cells #[.string (bs l),.nilIface] 297)
     have hz9:=((zaf w8 (.cells #[.string (bs l),.nilIface] 297)).block w.heap.size (lt_of_block hz8)).trans hz8
     have hbR:=lt_of_block hz8
     go_wp2_with fail
     generalize w8.alloc (.cells #[.string (bs l),.nilIface] 297)=w9 at *
     generalize w8.heap.size=b at *
     have hb9:=R9.lt
     have HT9:=H1.out.below bel9.drew
     have HB9:=H2.out.below bel9.drew
     have R9':=(show RAt E w9.drew b l 0 from R9)
     clear bel hz8
     have S9:St w b w9.drew:=⟨bel9.drew,hz9,hb9,hbR⟩
     go_cut [6] (fun x wz=>∃g,x=.pointer (some ⟨g,0,none⟩)∧wz.heap[g]?=some (.cells #[.int .u8 s[0].toNat,.int .i64 fe,.int .i64 fq,.string (bs fd)] 241 (0,0))∧b<g∧St w b wz∧RAt E wz b l3 d3)
     case first=>
      go_region_law (first
       | (go_simp;go_at_call 213;refine(P2.out _ _ ?_ ?_ ?_).mono ?_;(first|exact R1|exact RAt.below R1 (zaf _ _));(first|exact HT1|exact Has.below HT1 (zaf _ _));(first|exact HB1|exact Has.below HB1 (zaf _ _));rintro e' v2⟨rfl,R2,g2⟩;have HT2:=Has.grown' (by first|exact HT1|exact Has.below HT1 (zaf _ _)) (by first|exact R1|exact RAt.below R1 (zaf _ _)) g2;have HB2:=Has.grown' (by first|exact HB1|exact Has.below HB1 (zaf _ _)) (by first|exact R1|exact RAt.below R1 (zaf _ _)) g2;have S2:=St.grown (by first|exact S1|exact St.alloc S1 _) g2;(try (have A22:=St.fresh S1 g2));(try (have A12:=zlz g2 A11 S9.lt)))
       | (go_simp;go_at_call 213;refine(P1.out _ _ ?_ ?_ ?_).mono ?_;(first|exact R9'|exact RAt.below R9' (zaf _ _));(first|exact HT9|exact Has.below HT9 (zaf _ _));(first|exact HB9|exact Has.below HB9 (zaf _ _));rintro e' v1⟨rfl,R1,g1⟩;have HT1:=Has.grown' (by first|exact HT9|exact Has.below HT9 (zaf _ _)) (by first|exact R9'|exact RAt.below R9' (zaf _ _)) g1;have HB1:=Has.grown' (by first|exact HB9|exact Has.below HB9 (zaf _ _)) (by first|exact R9'|exact RAt.below R9' (zaf _ _)) g1;have S1:=St.grown (by first|exact S9|exact St.alloc S9 _) g1;(try (have A11:v1.heap[w9.heap.size]?=_:=(g1.block w9.heap.size (by simp) (fun e=>by have:=Option.some.inj e;omega)).trans (heap_alloc_new w9 _))))
       | (go_simp;go_at_call 214;refine(P3.out _ _ ?_ ?_ ?_).mono ?_;(first|exact R2|exact RAt.below R2 (zaf _ _));(first|exact HT2|exact Has.below HT2 (zaf _ _));(first|exact HB2|exact Has.below HB2 (zaf _ _));rintro e' v3⟨rfl,R3,g3⟩;have S3:=St.grown (by first|exact S2|exact St.alloc S2 _) g3;(try (have A33:=St.fresh S2 g3));(try (have A13:=zlz g3 A12 S9.lt));(try (have A23:=zlz g3 A22 S1.lt));(try (have k0:=(zbe A13).1.1));(try (have k1:=(zbe A13).1.2.1));(try (have k2:=(zbe A13).1.2.2.1));(try (have k3:=(zbe A13).1.2.2.2));(try (have kf0:=(zbe A13).2 0));(try (have kf1:=(zbe A13).2 1));(try (have kf2:=(zbe A13).2 2));(try (have kf3:=(zbe A13).2 3));(try (have k0:=(zbe A23).1.1));(try (have k1:=(zbe A23).1.2.1));(try (have k2:=(zbe A23).1.2.2.1));(try (have k3:=(zbe A23).1.2.2.2));(try (have kf0:=(zbe A23).2 0));(try (have kf1:=(zbe A23).2 1));(try (have kf2:=(zbe A23).2 2));(try (have kf3:=(zbe A23).2 3));(try (have k0:=(zbe A33).1.1));(try (have k1:=(zbe A33).1.2.1));(try (have k2:=(zbe A33).1.2.2.1));(try (have k3:=(zbe A33).1.2.2.2));(try (have kf0:=(zbe A33).2 0));(try (have kf1:=(zbe A33).2 1));(try (have kf2:=(zbe A33).2 2));(try (have kf3:=(zbe A33).2 3))))
      all_goals
       go_wp2_with fail
       go_meet
       first
       | (have h:=A33;exact⟨_,rfl,ymi h _ _ _ _,S2.lt,S3.put S2.lt _ _ _ _,zqg R3 S2.lt _ _ _ _⟩)
       | (have h:=A23;exact⟨_,rfl,ymi h _ _ _ _,S1.lt,S3.put S1.lt _ _ _ _,zqg R3 S1.lt _ _ _ _⟩)
       | (have h:=A13;exact⟨_,rfl,ymi h _ _ _ _,hb9,S3.put hb9 _ _ _ _,zqg R3 hb9 _ _ _ _⟩)
       | exact⟨_,rfl,heap_alloc_new _ _,S3.lt,S3.alloc _,RAt.below R3 (zaf _ _)⟩
     case rest=>
      obtain⟨g,rfl,hg,hbg,SC,RC⟩:=hcut
      have EN:=zh1 E b l3 d3 wc RC (H1.out.below SC.bel)
      by_cases he:zg6 l3 d3=0
      ·rw[he,zaj] at EN
       have HEN:=hid EN
       have HRR:=hid (HR.out.trans (by rw[he]))
       have CKF:=hid (fun (w':World) h2 h4=>zpe E ⟨s[0],fe,fq,fd⟩ w' h2 h4)
       simp only[PFr.val_is] at CKF
       clear EN he
       go_wp2_with fail
       refine HEN.out.mono ?_
       rintro e' w4⟨rfl,R4,g4⟩
       have S4:=SC.grown g4
       have hg4:=zlz g4 hg hbg
       obtain⟨⟨k0,k1,k2,k3⟩,_⟩:=zbe hg4
       clear SC RC hg g4
       go_wp2_with fail
       refine(CKF.out w4 (H2.out.below S4.bel) (H4.out.below S4.bel)).mono ?_
       rintro e' w5⟨rfl,b5⟩
       have S5:St w b w5:=⟨zaa S4.bel b5,(b5.block _ (lt_of_block S4.zero)).trans S4.zero,Nat.lt_of_lt_of_le S4.lt b5.size,S4.base⟩
       have hg5:=(b5.block g (lt_of_block hg4)).trans hg4
       clear S4 hg4 k0 k1 k2 k3 b5
       obtain⟨⟨k0,k1,k2,k3⟩,_⟩:=zbe hg5
       by_cases hf:frC ⟨s[0],fe,fq,fd⟩=0
       ·have HD:=hid (DF.out _ _ HRR.out rfl hf)
        rw[hf,zaj]
        clear hf
        obtain⟨⟨q0,q1,q2,q3⟩,fz⟩:=zbe S5.zero
        have f0:=fz 0
        have f1:=fz 1
        have f2:=fz 2
        have f3:=fz 3
        have hp:=ymi S5.zero (.int .u8 s[0].toNat) (.int .i64 fe) (.int .i64 fq) (.string (bs fd))
        have bb:=zff S5.bel (Nat.le_refl w.heap.size) (.int .u8 s[0].toNat) (.int .i64 fe) (.int .i64 fq) (.string (bs fd))
        clear fz
        go_wp2_with fail
        generalize (((w5.setCell ⟨w.heap.size,0,none⟩ (.int .u8 s[0].toNat)).setCell ⟨w.heap.size,1,none⟩ (.int .i64 fe)).setCell ⟨w.heap.size,2,none⟩ (.int .i64 fq)).setCell ⟨w.heap.size,3,none⟩ (.string (bs fd))=w9' at hp bb ⊢
        obtain⟨⟨r0,r1,r2,r3⟩,_⟩:=zbe hp
        (try simp only[Exit.inBlock,Exit.then])
        refine bodyPost_ret (by simp[results,Tryz.results187,go_sem,r0,r1,r2,r3];try rfl) rfl ?_
        exact⟨by rw[HD.out,PFr.val_is,zaj],bb⟩
       ·have HD:=hid (DB.out _ _ HRR.out rfl hf)
        rw[HEV.out _ hf]
        have HEF:=hid (HEV.out _ hf)
        clear hf
        obtain⟨⟨q0,q1,q2,q3⟩,fz⟩:=zbe S5.zero
        have f0:=fz 0
        have f1:=fz 1
        have f2:=fz 2
        have f3:=fz 3
        have hp:=ymi S5.zero (.int .u8 0) (.int .i64 0) (.int .i64 0) (.string ⟨#[]⟩)
        have bb:=zff S5.bel (Nat.le_refl w.heap.size) (.int .u8 0) (.int .i64 0) (.int .i64 0) (.string ⟨#[]⟩)
        clear fz
        go_wp2_with fail
        generalize (((w5.setCell ⟨w.heap.size,0,none⟩ (.int .u8 0)).setCell ⟨w.heap.size,1,none⟩ (.int .i64 0)).setCell ⟨w.heap.size,2,none⟩ (.int .i64 0)).setCell ⟨w.heap.size,3,none⟩ (.string ⟨#[]⟩)=w9' at hp bb ⊢
        obtain⟨⟨r0,r1,r2,r3⟩,_⟩:=zbe hp
        (try simp only[Exit.inBlock,Exit.then])
        refine bodyPost_ret (by simp[results,Tryz.results187,go_sem,r0,r1,r2,r3];try rfl) rfl ?_
        exact⟨by rw[HD.out,HZV.out,HEF.out],bb⟩
      ·have HD:=hid (DE.out _ _ HR.out he)
       have HEE:=hid (HEV.out _ he)
       rw[HEV.out _ he] at EN
       have HEN:=hid EN
       clear EN he
       go_wp2_with fail
       refine HEN.out.mono ?_
       rintro e' w4⟨rfl,R4,g4⟩
       have S4:=SC.grown g4
       clear SC RC g4
       obtain⟨⟨q0,q1,q2,q3⟩,fz⟩:=zbe S4.zero
       have f0:=fz 0
       have f1:=fz 1
       have f2:=fz 2
       have f3:=fz 3
       have hp:=ymi S4.zero (.int .u8 0) (.int .i64 0) (.int .i64 0) (.string ⟨#[]⟩)
       have bb:=zff S4.bel (Nat.le_refl w.heap.size) (.int .u8 0) (.int .i64 0) (.int .i64 0) (.string ⟨#[]⟩)
       clear fz
       go_wp2_with fail
       generalize (((w4.setCell ⟨w.heap.size,0,none⟩ (.int .u8 0)).setCell ⟨w.heap.size,1,none⟩ (.int .i64 0)).setCell ⟨w.heap.size,2,none⟩ (.int .i64 0)).setCell ⟨w.heap.size,3,none⟩ (.string ⟨#[]⟩)=w9' at hp bb ⊢
       obtain⟨⟨r0,r1,r2,r3⟩,_⟩:=zbe hp
       (try simp only[Exit.inBlock,Exit.then])
       refine bodyPost_ret (by simp[results,Tryz.results187,go_sem,r0,r1,r2,r3];try rfl) rfl ?_
       exact⟨by rw[HD.out,HZV.out,HEE.out],bb⟩
  ·have hcmp:((bs (zkh (za5 (s.data.toList.take m)))).toList==(bs (s.data.toList.drop m)).toList)=false:=by simp[ByteArray.toList_eq,hsum]
   have HD:=hid (D10.out hsum)
   clear D4 D10 hsum
   go_enter Tryz.func187,Tryz.ntmps187
   go_wp2_with fail
   go_region_with (first|(go_at_call 114;refine(SU.out _).mono ?_;rintro e' w7⟨rfl,rfl⟩)|(go_at_call 212;refine(LW.out _).mono ?_;rintro e' w8⟨rfl,b8⟩))
   all_goals
    have b8:=(show Below (w.alloc (.cells #[.int .u8 0,.int .i64 0,.int .i64 0,.string ⟨#[]⟩] 241)).heap.size (w.alloc (.cells #[.int .u8 0,.int .i64 0,.int .i64 0,.string ⟨#[]⟩] 241)) w8 from⟨b8.os,b8.tape,b8.output,b8.size,b8.block⟩)
    have bel:=zaa B0.out b8
    have hz8:=(b8.block w.heap.size (lt_of_block HZ.out)).trans HZ.out
    clear b8
    have cc:w8.cell? ⟨14,0,none⟩=some (za0 (E 10)):=H10.out.below bel
    unfold za0 at cc
    obtain⟨⟨q0,q1,q2,q3⟩,fz⟩:=zbe hz8
    have f0:=fz 0
    have f1:=fz 1
    have f2:=fz 2
    have f3:=fz 3
    have hp:=ymi hz8 (.int .u8 0) (.int .i64 0) (.int .i64 0) (.string ⟨#[]⟩)
    have bb:=zff bel (Nat.le_refl w.heap.size) (.int .u8 0) (.int .i64 0) (.int .i64 0) (.string ⟨#[]⟩)
    clear fz hz8 bel
    go_wp2_with fail
    go_region_with (fail)
    all_goals
     go_wp2_with fail
     have bb:=bb.drew
     have hp:=(show((((w8.setCell ⟨w.heap.size,0,none⟩ (.int .u8 0)).setCell ⟨w.heap.size,1,none⟩ (.int .i64 0)).setCell ⟨w.heap.size,2,none⟩ (.int .i64 0)).setCell ⟨w.heap.size,3,none⟩ (.string ⟨#[]⟩)).drew.heap[w.heap.size]?=_ from hp)
     generalize ((((w8.setCell ⟨w.heap.size,0,none⟩ (.int .u8 0)).setCell ⟨w.heap.size,1,none⟩ (.int .i64 0)).setCell ⟨w.heap.size,2,none⟩ (.int .i64 0)).setCell ⟨w.heap.size,3,none⟩ (.string ⟨#[]⟩)).drew=w9 at hp bb ⊢
     obtain⟨⟨r0,r1,r2,r3⟩,_⟩:=zbe hp
     (try simp only[Exit.inBlock,Exit.then])
     refine bodyPost_ret (by simp[results,Tryz.results187,go_sem,r0,r1,r2,r3];try rfl) rfl ?_
     exact⟨by rw[HD.out,HZV.out,HEV.out 10 (by decide)],bb⟩
end
end Go.Proofs.YtakhkcaihhpehaaGreatDoor
