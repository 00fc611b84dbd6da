/- Texts of one proof, one behind the other: FilIns, FilPlan, FilPlan2. -/
import Derived.Test.YtakhkcaihhpehaaGreatDoorB17
import Derived.Test.YtakhkcaihhpehaaGreatDoorB06
namespace Go.Proofs.YtakhkcaihhpehaaGreatDoor
open Go.RowKit
open Lib (hid)
set_option linter.unusedVariables false
set_option maxRecDepth 100000
set_option maxHeartbeats 51200000
theorem zi2(l:List PF)(k:Nat):(zah l).take (k * 2)=zah (l.take k):=zmb _ _ l k
theorem znm(l:List PF)(k:Nat):(zah l).drop (k * 2)=zah (l.drop k):=by
 induction l generalizing k with
 | nil=>simp[yba]
 | cons o l ih=>
  match k with
  | 0=>simp
  | k+1=>
   rw[List.drop_succ_cons,←ih k,show(k+1) * 2=k * 2+2 by omega]
   rfl
theorem ypd{w w':World}{v:Value}(h:w.grownBy w' v.ownBlock):Chg w w' (zi9 v):=⟨h.os,h.tape,h.output,h.size,fun k hk hn=>h.block k hk (fun e=>hn e.symm)⟩
theorem yc6{va:Option Addr}{n c n' c' x:Nat}(h:zi9 (.slice va n c) x):zi9 (.slice va n' c') x:=by cases va<;>exact h
theorem zlj:(Tryz.prog.info? 126).map (·.size)=some 2:=by kernel_rfl
theorem zl4{w:World}{b:Nat}{u0 u1:Value}{t:TypeId}(h:w.heap[b]?=some (.cells #[u0,u1] t (0,0))):∀j u',[u0,u1][j]?=some u'→w.cell? ((⟨b,0,none⟩:Addr).add j)=some u':=by
 intro j u' hj
 match j,hj with
 | 0,hj=>simp at hj;subst hj;simp[World.cell?,h,Addr.add]
 | 1,hj=>simp at hj;subst hj;simp[World.cell?,h,Addr.add]
theorem zek{w:World}{b:Nat}{f:PF}(h:w.heap[b]?=some (.cells #[.string (bs f.n),.string (bs f.d)] 126 (0,0))):SliceIs w (.slice (some ⟨b,0,none⟩) 1 1) 2 (zah [f]):=
 .inr ⟨_,1,1,rfl,Nat.le_refl _,by unfold maxLen;omega,rfl,zl4 h⟩
theorem yoh(l:List PF)(f:PF)(base vb:Nat)(v:Value)(w:World)(hown:w.ownsRow base 126 2 v l.length (zah l))(hvb:w.heap[vb]?=some (.cells #[.string (bs f.n),.string (bs f.d)] 126 (0,0)))(hbase:base≤w.heap.size)(hlen:l.length≤1000000):
  Calls Tryz.prog 92 #[v,.int .i64 l.length,.slice (some ⟨vb,0,none⟩) 1 1] w fun e w'=>∃r,e=.returned r∧w'.ownsRow base 126 2 r (l.length+1) (zah (l++[f]))∧Chg w w' (zi9 v):=by
 obtain⟨i0,hi,hz0,hz1,hz2⟩:=info_parts zj1
 have HO:=hid hown
 have HV:=hid (zek hvb)
 obtain⟨va,vc,rfl⟩:=zab hown
 have HN1:Hid (l.length+1≤maxLen):=by show _≤_;unfold maxLen;omega
 have HN2:Hid ((l.length+1) * 32≤140737488355328):=by show _≤_;omega
 have LEN:=hid (zat [f])
 have hcap:l.length≤vc∧vc≤maxLen:=by
  obtain⟨s,n,c,e,_,h1,h2,_⟩:=(SliceIs.ownedK hown).get
  cases e;exact⟨h1,h2⟩
 obtain⟨hc1,hc2⟩:=hcap
 unfold maxLen at hc2
 have y0:(0:Int)≤l.length:=by omega
 have y1:(l.length:Int).toNat=l.length:=by omega
 have y2:(l.length:Int)≤l.length:=by omega
 clear hown hvb
 go_enter Tryz.func92,Tryz.ntmps92
 go_wp2_with (at_builtin;refine zak rfl (.tmp 23) (.tmp 24) 33 rfl base 126 i0 _ 2 32 Tryz.underlying33 hi hz0 hz1 hz2 rfl (by decide) _ l.length _ rfl HO.out _ 1 _ rfl HV.out LEN.out (zea [f]) HN1.out HN2.out hbase ?_;intro v' w5 hown5 hgrow _;have HO5:=hid hown5;have HG5:=hid (ypd hgrow);clear hown5 hgrow)
 all_goals
  go_ret
  exact⟨_,rfl,by rw[zbf];exact HO5.out,(show Chg w w5 (zi9 (.slice va l.length vc)) from HG5.out).more (fun x _ h=>yc6 h)⟩
theorem zma{w:World}{b:Nat}{cs:Array Value}{t:TypeId}{fr:Nat×Nat}(h:w.heap[b]?=some (.cells cs t fr)):w.shape? b=some (t,cs.size):=by simp[World.shape?,h]
theorem yem(vb g o la ca lb cb:Nat)(w:World)(hne:vb≠g){cv cg:Array Value}{tv tg:TypeId}(hv:w.heap[vb]?=some (.cells cv tv (0,0)))(hg:w.heap[g]?=some (.cells cg tg (0,0)))(hgs:cg.size≠0):
  (callFunc 131 #[.slice (some ⟨vb,0,none⟩) la ca,.slice (some ⟨g,o,none⟩) lb cb]).run Tryz.prog w=.ok (.value (.bool false)) w:=by
 rw[run_callFunc_extern Tryz.func131 (by kernel_rfl) (by kernel_rfl) (by kernel_rfl) (e:=Extern.SlicesOverlaps.overlaps #[33,33] #[4]) (by kernel_rfl),
  Lib.run_overlaps_apart w 33 4 126 Tryz.underlying33 2 Tryz.sizeOf126 ⟨vb,0,none⟩ ⟨g,o,none⟩ la ca lb cb hne tv tg cv.size cg.size (zma hv) (zma hg) hgs (by simp[World.frozen?,hv]) (by simp[World.frozen?,hv])]
 rfl
theorem yft(l:List PF)(ys:List Value){i:Nat}(hi:i<l.length)(hys:ys.length=(l.length+1 - l.length) * 2){c:List Value}:
  ((zah l++ys).take ((i+1) * 2)++zah (l.drop i)++(zah l++ys).drop ((i+1+(l.length - i)) * 2)).take (i * 2)++c++((zah l++ys).take ((i+1) * 2)++zah (l.drop i)++(zah l++ys).drop ((i+1+(l.length - i)) * 2)).drop ((i+1) * 2)=zah (l.take i)++(c++zah (l.drop i)):=by
 have h1:(zah l++ys).drop ((i+1+(l.length - i)) * 2)=[]:=List.drop_of_length_le (by rw[List.length_append,zat,hys];omega)
 have h2:(zah l++ys).take ((i+1) * 2)=zah (l.take (i+1)):=by rw[List.take_append_of_le_length (by rw[zat];omega),zi2]
 have h3:(zah (l.take (i+1))).length=(i+1) * 2:=by rw[zat,List.length_take];omega
 rw[h1,h2,List.append_nil,List.take_append_of_le_length (by rw[h3];omega),zi2,List.take_take,Nat.min_eq_left (by omega),List.drop_append_of_le_length (by rw[h3];exact Nat.le_refl _),List.drop_of_length_le (by rw[h3];exact Nat.le_refl _),List.nil_append,List.append_assoc]
theorem yka(l:List PF)(f:PF)(i base vb g cap:Nat)(w:World)(hown:w.ownsRow base 126 2 (.slice (some ⟨g,0,none⟩) l.length cap) l.length (zah l))(hvb:w.heap[vb]?=some (.cells #[.string (bs f.n),.string (bs f.d)] 126 (0,0)))(hne:vb≠g)(hi:i<l.length)(hroom:l.length+1≤cap)(hlen:l.length≤1000000):
  Calls Tryz.prog 92 #[.slice (some ⟨g,0,none⟩) l.length cap,.int .i64 i,.slice (some ⟨vb,0,none⟩) 1 1] w fun e w'=>∃r,e=.returned r∧w'.ownsRow base 126 2 r (l.length+1) (zah (l.take i++f::l.drop i))∧Chg w w' (zi9 (.slice (some ⟨g,0,none⟩) l.length cap)):=by
 obtain⟨ys,hys,HX⟩:=yaf hown (k:=l.length+1) (by omega) hroom
 have hd:=HX.drew
 have hcl:(zah (l.drop i)).length=(l.length - i) * 2:=by rw[zat,List.length_drop]
 obtain⟨w1,hrun1,O1,G1⟩:=zfw (dT:=33) (sT:=33) hd Tryz.underlying33 zlj (o:=i+1) (m:=l.length - i) hcl (by omega) (zea _)
 obtain⟨w2,hrun2,O2,G2⟩:=zfw (dT:=33) (sT:=33) O1 Tryz.underlying33 zlj (o:=i) (m:=1) (zat [f]) (by omega) (zea [f])
 have hg0:∃cur,w.heap[g]?=some (.cells cur 126 (0,0))∧cur.size≠0:=by
  obtain⟨_,h2⟩:=hown
  rcases h2 with⟨h2,_⟩|⟨g',cap',cur,hv,_,hh,h3,_,h5,_⟩
  ·cases h2
  ·cases hv;exact⟨cur,hh,by rw[h5];omega⟩
 obtain⟨cur,hg1,hg2⟩:=hg0
 have hov:∀o lb cb,(callFunc 131 #[.slice (some ⟨vb,0,none⟩) 1 1,.slice (some ⟨g,o,none⟩) lb cb]).run Tryz.prog w=.ok (.value (.bool false)) w:=fun o lb cb=>yem vb g o 1 1 lb cb w hne hvb hg1 hg2
 have hcm:cap≤9223372036854775807:=by
  obtain⟨s,n,c,e,_,h1,h2,_⟩:=(SliceIs.ownedK hown).get
  cases e;unfold maxLen at h2;omega
 have hvw1:w1.heap[vb]?=some (.cells #[.string (bs f.n),.string (bs f.d)] 126 (0,0)):=(G1.block vb (lt_of_block (w:=w) hvb) (fun e=>by cases e;exact hne rfl)).trans hvb
 have hfin:zah (l.take i++f::l.drop i)=((zah l++ys).take ((i+1) * 2)++zah (l.drop i)++(zah l++ys).drop ((i+1+(l.length - i)) * 2)).take (i * 2)++zah [f]++((zah l++ys).take ((i+1) * 2)++zah (l.drop i)++(zah l++ys).drop ((i+1+(l.length - i)) * 2)).drop ((i+1) * 2):=by
  rw[yft l ys hi hys]
  rw[zbf]
  rfl
 have HRUN1:=hid hrun1
 have HRUN2:=hid hrun2
 have HO2:=hid O2
 have HFIN:=hid hfin
 have HG1:=hid G1
 have HG2:=hid G2
 have SRC1:Hid (∀j v,(zah (l.drop i))[j]?=some v→w.drew.cell? ((⟨g,i * 2,none⟩:Addr).add j)=some v):=hid (fun j v hj=>by
  have h1:=(hd.cells (g:=g) rfl) (i * 2+j) v (by
   rw[List.getElem?_append_left (by rw[zat];have:=(List.getElem?_eq_some_iff.1 hj).1;rw[hcl] at this;omega)]
   rw[←znm,List.getElem?_drop] at hj
   exact hj)
  rw[Addr.add_lit] at h1 ⊢
  rw[Nat.zero_add] at h1
  exact h1)
 have MIN1:=hid (show Nat.min (l.length+1 - i) (l.length+1 - (i+1))=l.length - i by simp only[Nat.min_def];split<;>omega)
 have MIN2:=hid (show Nat.min 1 (l.length+1 - i)=1 by simp only[Nat.min_def];split<;>omega)
 have SRC2:=hid (zl4 hvw1)
 have y1:(0:Int)≤i:=by omega
 have y2:(i:Int).toNat=i:=by omega
 have y3:(i:Int)≤l.length:=by omega
 have y4:¬((i:Int)=l.length):=by omega
 have y5:((i:Int)==l.length)=false:=by simpa using y4
 have y6:¬(cap:Int)<(l.length:Int)+1:=by omega
 have y7:(l.length:Int)+1≤cap:=by omega
 have y8:((l.length:Int)+1).toNat=l.length+1:=by omega
 have y9:((i:Int)+1).toNat=i+1:=by omega
 have ya:(i:Int)+1≤(l.length:Int)+1:=by omega
 have yb:¬cap=i:=by omega
 have yf:(i:Int)≤(l.length:Int)+1:=by omega
 have yd:IntKind.i64.wrap ((i:Int)+1)=(i:Int)+1:=IntWalk.i64_in _ (by omega)
 have ye:(0:Int)≤(i:Int)+1:=by omega
 have yc:¬cap=i+1:=by omega
 clear hown hvb HX hd hrun1 hrun2 O1 O2 G1 G2 hfin hvw1 hg1 hg2 hys hcl
 go_enter Tryz.func92,Tryz.ntmps92
 go_wp2_with (simp only[hov])
 go_region_law (refine zjg rfl (.tmp 73) (.tmp 76) 33 33 rfl _ _ (by simp[Act.eval,Act.put]) (by simp[Act.eval,Act.put]) (HRUN1.out _ (l.length+1 - (i+1)) (cap - (i+1)) ⟨g,i * 2,none⟩ (l.length+1 - i) (cap - i) MIN1.out SRC1.out) ?_)
 all_goals
  go_wp2_with (refine zg9 rfl (.tmp 80) (.tmp 81) 33 33 rfl _ _ rfl rfl (HRUN2.out _ (l.length+1 - i) (cap - i) ⟨vb,0,none⟩ 1 1 MIN2.out SRC2.out) ?_)
  go_ret
  refine⟨_,rfl,?_,?_⟩
  ·rw[HFIN.out];exact HO2.out
  ·exact((Chg.refl w _).drew.trans (Chg.of_grown HG1.out) (fun x _ h=>by subst h;rfl)).trans (Chg.of_grown HG2.out) (fun x _ h=>by subst h;rfl)
theorem ygo:∃i0 z,Tryz.prog.info? 126=some i0∧i0.zero=some z∧i0.size=2∧i0.bytes=32∧z.cells.size=2:=by
 obtain⟨i0,hi,hz0,hz1,hz2⟩:=info_parts zj1
 exact⟨i0,_,hi,hz0,hz1,hz2,rfl⟩
theorem yax(l:List PF)(f:PF)(zs:List Value){i k:Nat}(hi:i<l.length)(hk:i+k=l.length+1)(hzs:zs.length=k * 2):
  (((zah l).take (i * 2)++zs).take (i * 2)++zah [f]++((zah l).take (i * 2)++zs).drop ((i+1) * 2)).take ((i+1) * 2)++zah (l.drop i)++(((zah l).take (i * 2)++zs).take (i * 2)++zah [f]++((zah l).take (i * 2)++zs).drop ((i+1) * 2)).drop ((i+1+(k - 1)) * 2)=zah (l.take i++f::l.drop i):=by
 have h1:((zah l).take (i * 2)).length=i * 2:=by rw[List.length_take,zat];omega
 have h2:((zah l).take (i * 2)++zs).take (i * 2)=zah (l.take i):=by rw[List.take_append_of_le_length (by rw[h1];exact Nat.le_refl _),List.take_take,Nat.min_self,zi2]
 have h4:(zah (l.take i)++zah [f]).length=(i+1) * 2:=by rw[List.length_append,zat,zat,List.length_take];simp;omega
 rw[h2]
 have h5:(zah (l.take i)++zah [f]++((zah l).take (i * 2)++zs).drop ((i+1) * 2)).drop ((i+1+(k - 1)) * 2)=[]:=List.drop_of_length_le (by rw[List.length_append,h4,List.length_drop,List.length_append,h1,hzs];omega)
 rw[h5,List.append_nil,List.take_append_of_le_length (by rw[h4];exact Nat.le_refl _),List.take_of_length_le (by rw[h4];exact Nat.le_refl _),zbf,List.append_assoc]
 rfl
theorem ykb(l:List PF)(f:PF)(i base vb g cap:Nat)(w:World)(hown:w.ownsRow base 126 2 (.slice (some ⟨g,0,none⟩) l.length cap) l.length (zah l))(hvb:w.heap[vb]?=some (.cells #[.string (bs f.n),.string (bs f.d)] 126 (0,0)))(hi:i<l.length)(hroom:cap<l.length+1)(hbase:base≤w.heap.size)(hlen:l.length≤1000000):
  Calls Tryz.prog 92 #[.slice (some ⟨g,0,none⟩) l.length cap,.int .i64 i,.slice (some ⟨vb,0,none⟩) 1 1] w fun e w'=>∃r,e=.returned r∧w'.ownsRow base 126 2 r (l.length+1) (zah (l.take i++f::l.drop i))∧Chg w w' (zi9 (.slice (some ⟨g,0,none⟩) l.length cap)):=by
 obtain⟨k,hk⟩:∃k,i+k=l.length+1:=⟨l.length+1 - i,by omega⟩
 obtain⟨i0,z,hi0,hz0,hz1,hz2,hz3⟩:=ygo
 have hcl:(zah (l.drop i)).length=(k - 1) * 2:=by rw[zat,List.length_drop];omega
 have hg0:∃cur,w.heap[g]?=some (.cells cur 126 (0,0)):=by
  obtain⟨_,h2⟩:=hown
  rcases h2 with⟨h2,_⟩|⟨g',cap',cur,hv,_,hh,h3,_,h5,_⟩
  ·cases h2
  ·cases hv;exact⟨cur,hh⟩
 obtain⟨cur,hg1⟩:=hg0
 have hgl:=lt_of_block hg1
 have hvl:=lt_of_block hvb
 obtain⟨w1,G,hrun0,O0,B0⟩:=zin (t:=33) (tn:=3) hown Tryz.underlying33 Tryz.underlying3 hi0 hz0 hz1 hz2 hz3 (by decide) (i:=i) (k:=k) (by omega) (by omega) (by omega) (by unfold maxLen;omega) (by omega) hbase
 obtain⟨w2,hrun1,O1,G1⟩:=zfw (dT:=33) (sT:=33) O0 Tryz.underlying33 zlj (o:=i) (m:=1) (zat [f]) (by omega) (zea [f])
 obtain⟨w3,hrun2,O2,G2⟩:=zfw (dT:=33) (sT:=33) O1.drew Tryz.underlying33 zlj (o:=i+1) (m:=k - 1) hcl (by omega) (zea _)
 rw[yax l f _ hi hk (by rw[Array.length_toList,size_zeroCells,hz3])] at O2
 have hvw1:w1.heap[vb]?=some (.cells #[.string (bs f.n),.string (bs f.d)] 126 (0,0)):=(B0.block vb hvl).trans hvb
 have hgw2:w2.heap[g]?=w.heap[g]?:=(G1.block g (Nat.lt_of_lt_of_le hgl B0.size) (fun e=>by cases e;omega)).trans (B0.block g hgl)
 have HRUN0:=hid hrun0
 have HRUN1:=hid hrun1
 have HRUN2:=hid hrun2
 have HO2:=hid O2
 have HB0:=hid B0
 have HG1:=hid G1
 have HG2:=hid G2
 have SRC1:=hid (zl4 hvw1)
 have SRC2:Hid (∀j v,(zah (l.drop i))[j]?=some v→w2.drew.cell? ((⟨g,i * 2,none⟩:Addr).add j)=some v):=hid (fun j v hj=>by
  have h1:=(hown.cells (g:=g) rfl) (i * 2+j) v (by
   rw[←znm,List.getElem?_drop] at hj
   exact hj)
  rw[Addr.add_lit] at h1 ⊢
  rw[Nat.zero_add] at h1
  have h2:w2.drew.heap[g]?=w.heap[g]?:=hgw2
  simp only[World.cell?] at h1 ⊢
  rw[h2]
  exact h1)
 have MIN1:=hid (show Nat.min 1 (l.length+1 - i)=1 by simp only[Nat.min_def];split<;>omega)
 have MIN2:=hid (show Nat.min (l.length - i) (l.length+1 - (i+1))=k - 1 by simp only[Nat.min_def];split<;>omega)
 have yl:l.length≤cap:=by have:=(SliceIs.ownedK hown).get;obtain⟨s,n,c,e,_,h1,h2,_⟩:=this;cases e;omega
 have y1:(0:Int)≤i:=by omega
 have y2:(i:Int).toNat=i:=by omega
 have y3:(i:Int)≤l.length:=by omega
 have y4:¬((i:Int)=l.length):=by omega
 have y5:((i:Int)==l.length)=false:=by simpa using y4
 have y6:(cap:Int)<(l.length:Int)+1:=by omega
 have y7:(i:Int)≤cap:=by omega
 have yG:l.length+1≤G:=by have:=(SliceIs.ownedK O0).get;obtain⟨s,n,c,e,_,h1,h2,_⟩:=this;cases e;omega
 have yc:¬G=i+1:=by omega
 have yi:(i:Int)+1≤(l.length:Int)+1:=by omega
 have yj:(i:Int)≤(l.length:Int)+1:=by omega
 have yk:¬cap=i:=by omega
 have y8:(l.length:Int)+1 - i=k:=by omega
 have yb:IntKind.i64.wrap (k:Int)=k:=IntWalk.i64_in _ (by omega)
 have Y:=hid (show(l.length:Int)+1 - i=k from y8)
 have yd:IntKind.i64.wrap ((i:Int)+1)=(i:Int)+1:=IntWalk.i64_in _ (by omega)
 have ye:(0:Int)≤(i:Int)+1:=by omega
 have ya:(i:Int)+1≤(i:Int)+k:=by omega
 have yf:((i:Int)+1).toNat=i+1:=by omega
 have yg:(i:Int)≤(i:Int)+k:=by omega
 have LT:=hid (And.intro hgl hvl)
 have HROOM:=hid hroom
 have HI:=hid hi
 have HK:=hid hk
 clear hown hvb hrun0 hrun1 hrun2 O0 O1 O2 B0 G1 G2 hvw1 hg1 hgw2 hcl hi0 hz0 hz1 hz2 hz3 hgl hvl hroom hbase y4
 clear i0 z cur
 go_enter Tryz.func92,Tryz.ntmps92
 go_wp2_with (first|refine zkj rfl (.tmp 34) (.tmp 39) 33 3 rfl (.slice (some ⟨g,0,none⟩) i cap) (.int .i64 k) rfl rfl (HRUN0.out _) ?_|refine zg9 rfl (.tmp 43) (.tmp 44) 33 33 rfl _ _ rfl rfl (HRUN1.out _ (l.length+1 - i) (G - i) ⟨vb,0,none⟩ 1 1 MIN1.out SRC1.out) ?_)
 go_region_law (refine zjg rfl (.tmp 50) (.tmp 53) 33 33 rfl _ _ (by simp[Act.eval,Act.put]) (by simp[Act.eval,Act.put]) (HRUN2.out _ (l.length+1 - (i+1)) (G - (i+1)) ⟨g,i * 2,none⟩ (l.length - i) (cap - i) MIN2.out SRC2.out) ?_)
 all_goals
  go_wp2_with fail
  go_ret
  refine⟨_,rfl,(show w3.ownsRow base 126 2 (.slice (some ⟨w.heap.size,0,none⟩) (l.length+1) G) (l.length+1) (zah (l.take i++f::l.drop i)) by rw[←hk];exact HO2.out),?_⟩
  exact(((Chg.of_below HB0.out (zi9 (.slice (some ⟨g,0,none⟩) l.length cap))).trans (Chg.of_grown HG1.out) (fun x hx h=>absurd hx (by subst h;exact Nat.lt_irrefl _))).drew.trans (Chg.of_grown HG2.out) (fun x hx h=>absurd hx (by subst h;exact Nat.lt_irrefl _)))
theorem yau(l:List PF)(f:PF)(i base vb:Nat)(v:Value)(w:World)(hown:w.ownsRow base 126 2 v l.length (zah l))(hvb:w.heap[vb]?=some (.cells #[.string (bs f.n),.string (bs f.d)] 126 (0,0)))(hne:¬zi9 v vb)(hi:i≤l.length)(hbase:base≤w.heap.size)(hlen:l.length≤1000000):
  Calls Tryz.prog 92 #[v,.int .i64 i,.slice (some ⟨vb,0,none⟩) 1 1] w fun e w'=>∃r,e=.returned r∧w'.ownsRow base 126 2 r (l.length+1) (zah (l.take i++f::l.drop i))∧Chg w w' (zi9 v):=by
 by_cases he:i=l.length
 ·subst he
  refine(yoh l f base vb v w hown hvb hbase hlen).mono ?_
  rintro e w'⟨r,rfl,h1,h2⟩
  exact⟨r,rfl,by rw[List.take_length,List.drop_length];exact h1,h2⟩
 ·have hv:∃g cap,v=.slice (some ⟨g,0,none⟩) l.length cap:=by
   obtain⟨_,h2⟩:=hown
   rcases h2 with⟨_,h2⟩|⟨g',cap',cur,hv,_,hh,h3,_,h5,_⟩
   ·omega
   ·exact⟨g',cap',hv⟩
  obtain⟨g,cap,rfl⟩:=hv
  by_cases hr:l.length+1≤cap
  ·exact yka l f i base vb g cap w hown hvb (fun e=>hne (by subst e;rfl)) (by omega) hr hlen
  ·exact ykb l f i base vb g cap w hown hvb (by omega) (by omega) hbase hlen
theorem zu7{l:List PF}{n d:List UInt8}(hs:l.Pairwise fun a b=>ltL a.n b.n=true)(h:zaq l n=some d):∃hp:zby l n<l.length,(l[zby l n]'hp).n=n:=by
 obtain⟨j,hj,hje⟩:=List.getElem_of_mem (zbn h)
 have hjn:l[j].n=n:=by rw[hje]
 have hP:=List.pairwise_iff_getElem.1 hs
 have e:j=zby l n:=by
  refine zxe hs (Nat.le_of_lt hj) (fun i hi hij=>?_) (fun i hi hij=>?_)
  ·have:=hP i j hi hj hij;rw[hjn] at this;exact this
  ·rcases Nat.lt_or_eq_of_le hij with hl|rfl
   ·have:=hP j i hj hi hl;rw[hjn] at this;exact zco this
   ·rw[hjn];exact zbv _
 subst e
 exact⟨hj,hjn⟩
theorem zvx{l:List PF}{p:Nat}(hp:p<l.length)(n d:List UInt8)(hn:l[p].n=n):(zah l).set (p * 2+1) (.string (bs d))=zah (l.set p ⟨n,d⟩):=by
 have h:=zw2 fn0 fn1 l p ⟨n,d⟩
 have h0:(zah l).set (p * 2) (.string (bs n))=zah l:=by
  obtain⟨g,_⟩:=zb9 l p hp
  rw[hn] at g
  refine List.ext_getElem? fun i=>?_
  rw[List.getElem?_set]
  split
  ·rename_i e
   subst e
   split
   ·exact g.symm
   ·rename_i e2;rw[List.getElem?_eq_none (by omega)] at g;cases g
  ·rfl
 have h1:(((zah l).set (p * 2) (.string (bs n))).set (p * 2+1) (.string (bs d)))=zah (l.set p ⟨n,d⟩):=h
 rw[h0] at h1
 exact h1
theorem ztn(l:List PF)(v:Value)(n:List UInt8)(w:World)(hl:SliceIs w v 2 (zah l))(hs:l.Pairwise fun a b=>ltL a.n b.n=true)(hlen:l.length≤1000000):
  Calls Tryz.prog 91 #[v,.string (bs n)] w fun e w'=>e=.returned (.tuple #[.int .i64 (zby l n),.bool (zaq l n).isSome])∧Below w.heap.size w w':=by
 have KEY:=hid (ypg l v n w hl hs hlen)
 obtain⟨s,m,c,rfl,_⟩:=hl.get
 clear hl
 go_enter Tryz.func91,Tryz.ntmps91
 go_wp2_with fail
 refine KEY.out.mono ?_
 rintro e w1⟨rfl,b1⟩
 have HB:=hid b1
 clear b1 KEY
 go_wp2_with fail
 go_ret2
 exact⟨rfl,HB.out⟩
def putF(l:List PF)(n d:List UInt8):Nat×Int:=if (zav l).1≠0 then zav l else zav (zal l n d)
theorem zqj{l:List PF}{n d:List UInt8}(h:(zav l).1=0):putF l n d=zav (zal l n d):=by unfold putF;rw[if_neg (by simp[h])]
theorem FOk.put{l:List PF}{n d:List UInt8}(h:FOk l)(hn:n.length≤maxLen)(hd:d.length≤maxLen):FOk (zal l n d):=by
 intro f hf
 rcases zfn l n d f hf with rfl|hf
 ·exact⟨hn,hd⟩
 ·exact h f hf
theorem znj(E:Nat→Addr)(l:List PF)(v:Value)(n d:List UInt8)(w:World)(hl:SliceIs w v 2 (zah l))(hd:FOk l)(hdd:d.length≤maxLen)(hnn:n.length≤maxLen)(hB:Has E w 2)(hN:Has E w 5)(hF:Has E w 8)(hO:Has E w 9)(hf:FWF l)(hg:(zaq l n).isSome=true):
  Calls Tryz.prog 66 #[v,.string (bs n),.string (bs d)] w fun e w'=>∃r er,e=.returned (.tuple #[r,er])∧FErr E w' er (zav (zal l n d)).1 (zav (zal l n d)).2∧((zav (zal l n d)).1=0→w'.ownsRow w.heap.size 126 2 r (zal l n d).length (zah (zal l n d)))∧((zav (zal l n d)).1≠0→r=.slice none 0 0)∧Below w.heap.size w w':=by
 have hfew:=hf.few
 have CK:=hid (zdf E l v w hl hd (by omega) hB hN hF hO)
 have HF0:=hid ((zbd l).2 hf)
 have HL:=hid hl
 have HS:=hid hf.sorted
 obtain⟨d0,hgd⟩:=Option.isSome_iff_exists.1 hg
 obtain⟨hp,hpn⟩:=zu7 hf.sorted hgd
 have PUT:=hid (zvr (d:=d) hf.sorted hp hpn)
 have SET:=hid (zvx hp n d hpn)
 have HFD:=hid (FOk.put hd hnn hdd)
 have H2:=hid hB
 have H5:=hid hN
 have H8:=hid hF
 have H9:=hid hO
 have HPL:=hid (show(zal l n d).length=l.length by rw[PUT.out,List.length_set])
 have HP:=hid hp
 have HG:=hid hg
 generalize hq:zby l n=p at *
 have HQ:=hid hq
 clear hl hB hN hF hO hf hgd hpn hq hg
 go_enter Tryz.func66,Tryz.ntmps66
 go_wp2_with fail
 refine CK.out.mono ?_
 rintro e w1⟨r,rfl,fe,b1⟩
 rw[HF0.out] at fe
 obtain rfl:=fe.zero
 have B1:=hid b1
 clear fe b1 CK
 go_wp2_with fail
 refine(zde l v _ (HL.out.below B1.out) (by omega)).mono ?_
 rintro e w2⟨r,rfl,o2,b2⟩
 have O2:=hid o2
 have B2:=hid b2
 obtain⟨va,vc,rfl⟩:=zab o2
 have hva:∃g,va=some ⟨g,0,none⟩:=by
  rcases o2.2 with⟨h,h'⟩|⟨g,_,_,h,_⟩
  ·omega
  ·cases h;exact⟨g,rfl⟩
 obtain⟨g,rfl⟩:=hva
 clear o2 b2
 go_wp2_with fail
 refine(ztn l _ n w2 (SliceIs.ownedK O2.out) HS.out (by omega)).mono ?_
 rintro e w3⟨rfl,b3⟩
 rw[HQ.out,HG.out]
 have B3:=hid b3
 have o3:=zad O2.out b3
 have O3:=hid o3
 have HST:=hid ((show w3.ownsRow w1.heap.size 126 2 (.slice (some ⟨g,0,none⟩) l.length vc) l.length (zah l) from o3).stored (p * 2+1) (.string (bs d)))
 obtain⟨c0,c1⟩:=zb9 l p HP.out
 have d0:=o3.cells (g:=g) rfl _ _ c0
 have d1:=o3.cells (g:=g) rfl _ _ c1
 rw[Addr.add_lit] at d0 d1
 rw[Nat.zero_add] at d0 d1
 have fr:∀k,w3.frozen? ⟨g,k,none⟩=false:=by
  rcases o3.2 with⟨h,_⟩|⟨g',_,cur,h,_,hh,_⟩
  ·cases h
  ·cases h;intro k;simp[World.frozen?,hh]
 have y1:(0:Int)≤p:=by omega
 have y2:(p:Int).toNat=p:=by omega
 have y3:(p:Int)<l.length:=by omega
 clear b3 o3 c0 c1
 go_wp2_with fail
 have B4:=hid (show Below w.heap.size w (w3.setCell ⟨g,p * 2+1,none⟩ (.string (bs d))) from(zaa (zaa B1.out B2.out) B3.out).setCell (by have h1:=(O2.out.lt g rfl).1;have h2:=B1.out.size;exact Nat.le_trans h2 h1) _)
 have o4:=HST.out.1
 rw[SET.out,←PUT.out] at o4
 clear HST d0 d1 fr
 generalize w3.setCell ⟨g,p * 2+1,none⟩ (.string (bs d))=W4 at *
 rw[←HPL.out] at o4 ⊢
 have O4:=hid o4
 have CK2:=hid (zdf E (zal l n d) _ W4 (SliceIs.ownedK o4) HFD.out (by have:=HPL.out;omega) (H2.out.below B4.out) (H5.out.below B4.out) (H8.out.below B4.out) (H9.out.below B4.out))
 clear o4
 refine CK2.out.mono ?_
 rintro e w5⟨r,rfl,fe,b5⟩
 have FE:=hid fe
 have HB:=hid (zaa B4.out b5)
 have OF:=hid (za1 (zad O4.out b5) B1.out.size)
 by_cases hz:(zav (zal l n d)).1=0
 ·have hr:r=.nilIface:=by rw[hz] at fe;exact fe.zero
  subst hr
  have HZ:=hid hz
  clear fe b5 CK2 hz
  go_wp2_with fail
  go_ret2
  exact⟨_,_,rfl,FE.out,fun _=>OF.out,fun h=>absurd HZ.out h,HB.out⟩
 ·obtain⟨t,q,rfl⟩:=fe.some hz
  have HZ:=hid hz
  clear fe b5 CK2 hz
  go_wp2_with fail
  go_ret2
  exact⟨_,_,rfl,FE.out,fun h=>absurd h HZ.out,fun _=>rfl,HB.out⟩
theorem ztk(E:Nat→Addr)(l:List PF)(v:Value)(n d:List UInt8)(w:World)(hl:SliceIs w v 2 (zah l))(hd:FOk l)(hdd:d.length≤maxLen)(hnn:n.length≤maxLen)(hB:Has E w 2)(hN:Has E w 5)(hF:Has E w 8)(hO:Has E w 9)(hf:FWF l)(hg:zaq l n=none):
  Calls Tryz.prog 66 #[v,.string (bs n),.string (bs d)] w fun e w'=>∃r er,e=.returned (.tuple #[r,er])∧FErr E w' er (zav (zal l n d)).1 (zav (zal l n d)).2∧((zav (zal l n d)).1=0→w'.ownsRow w.heap.size 126 2 r (zal l n d).length (zah (zal l n d)))∧((zav (zal l n d)).1≠0→r=.slice none 0 0)∧Below w.heap.size w w':=by
 have hfew:=hf.few
 have CK:=hid (zdf E l v w hl hd (by omega) hB hN hF hO)
 have HF0:=hid ((zbd l).2 hf)
 have HL:=hid hl
 have HS:=hid hf.sorted
 have PUT:=hid (ygf (n:=n) (d:=d) hf.sorted (fun hp=>zpd hg _ (List.getElem_mem hp)))
 have HFD:=hid (FOk.put hd hnn hdd)
 have H2:=hid hB
 have H5:=hid hN
 have H8:=hid hF
 have H9:=hid hO
 have PL':=hid (zxf l n)
 have HPL:=hid (show(zal l n d).length=l.length+1 by have:=PL'.out;rw[PUT.out];simp;omega)
 have HG:=hid (show(zaq l n).isSome=false by rw[hg];rfl)
 generalize hq:zby l n=p at *
 have HQ:=hid hq
 clear hl hB hN hF hO hf hq hg
 go_enter Tryz.func66,Tryz.ntmps66
 go_wp2_with fail
 refine CK.out.mono ?_
 rintro e w1⟨r,rfl,fe,b1⟩
 rw[HF0.out] at fe
 obtain rfl:=fe.zero
 have B1:=hid b1
 clear fe b1 CK
 go_wp2_with fail
 refine(zde l v _ (HL.out.below B1.out) (by omega)).mono ?_
 rintro e w2⟨r,rfl,o2,b2⟩
 have O2:=hid o2
 have B2:=hid b2
 obtain⟨va,vc,rfl⟩:=zab o2
 clear o2 b2
 go_wp2_with fail
 refine(ztn l _ n w2 (SliceIs.ownedK O2.out) HS.out (by omega)).mono ?_
 rintro e w3⟨rfl,b3⟩
 rw[HQ.out,HG.out]
 have B3:=hid (zaa (zaa B1.out B2.out) b3)
 have O3:=hid (zad O2.out b3)
 have S13:=hid (show w1.heap.size≤w3.heap.size from Nat.le_trans B2.out.size b3.size)
 clear b3
 go_wp2_with fail
 have O3a:=hid (O3.out.alloc (.cells #[.string (bs n),.string (bs d)] 126))
 have INS:=hid (yau l ⟨n,d⟩ p w1.heap.size w3.heap.size _ _ O3a.out (heap_alloc_new _ _) (fun h=>by have:=(O3.out.lt w3.heap.size h).2;omega) PL'.out (by have:=S13.out;simp;omega) (by omega))
 have B3a:=hid (B3.out.alloc B3.out.size (.cells #[.string (bs n),.string (bs d)] 126))
 refine INS.out.mono ?_
 rintro e W4⟨r,rfl,o4,c4⟩
 rw[←PUT.out,←HPL.out] at o4
 have B4:=hid (c4.below B3a.out (fun x hx=>by have:=(O2.out.lt x hx).1;have:=B1.out.size;omega))
 have O4:=hid o4
 obtain⟨ra,rc,rfl⟩:=zab o4
 have CK2:=hid (zdf E (zal l n d) _ W4 (SliceIs.ownedK o4) HFD.out (by have:=HPL.out;omega) (H2.out.below B4.out) (H5.out.below B4.out) (H8.out.below B4.out) (H9.out.below B4.out))
 clear o4 c4 INS
 go_wp2_with fail
 refine CK2.out.mono ?_
 rintro e w5⟨r,rfl,fe,b5⟩
 have FE:=hid fe
 have HB:=hid (zaa B4.out b5)
 have OF:=hid (za1 (zad O4.out b5) B1.out.size)
 by_cases hz:(zav (zal l n d)).1=0
 ·have hr:r=.nilIface:=by rw[hz] at fe;exact fe.zero
  subst hr
  have HZ:=hid hz
  clear fe b5 CK2 hz
  go_wp2_with fail
  go_ret2
  exact⟨_,_,rfl,FE.out,fun _=>OF.out,fun h=>absurd HZ.out h,HB.out⟩
 ·obtain⟨t,q,rfl⟩:=fe.some hz
  have HZ:=hid hz
  clear fe b5 CK2 hz
  go_wp2_with fail
  go_ret2
  exact⟨_,_,rfl,FE.out,fun h=>absurd h HZ.out,fun _=>rfl,HB.out⟩
theorem zkm:∀(f:Nat)(a t:List PL),a.length+t.length≤f→ziq f a t=ziq (a.length+t.length) a t
 | 0,a,t,h=>by
  have h1:a=[]:=List.eq_nil_of_length_eq_zero (by omega)
  have h2:t=[]:=List.eq_nil_of_length_eq_zero (by omega)
  subst h1 h2;rfl
 | f+1,a,t,h=>by
  by_cases hn:a=[]∧t=[]
  ·obtain⟨rfl,rfl⟩:=hn
   rw[zjq,zjq]
  ·obtain⟨b1,b2,b3⟩:=zpz a t
   have b3:=b3 hn
   have hpos:0<a.length+t.length:=by
    cases a with
    | nil=>cases t with
     | nil=>exact absurd ⟨rfl,rfl⟩ hn
     | cons=>simp
    | cons=>simp;omega
   obtain⟨g,hg⟩:∃g,a.length+t.length=g+1:=⟨a.length+t.length - 1,by omega⟩
   rw[zh7 hn,hg,zh7 hn]
   congr 1
   have e1:(a.drop (zbg a t).2.1).length+(t.drop (zbg a t).2.2).length≤g:=by rw[List.length_drop,List.length_drop];omega
   rw[zkm f _ _ (by omega),zkm g _ _ e1]
termination_by f=>f
decreasing_by all_goals omega
theorem zz8{a t:List PL}(h:¬(a=[]∧t=[])):zb3 a t=[(zbg a t).1]++zb3 (a.drop (zbg a t).2.1) (t.drop (zbg a t).2.2):=by
 obtain⟨b1,b2,b3⟩:=zpz a t
 have b3:=b3 h
 have e1:(a.drop (zbg a t).2.1).length+(t.drop (zbg a t).2.2).length=a.length+t.length - ((zbg a t).2.1+(zbg a t).2.2):=by rw[List.length_drop,List.length_drop];omega
 obtain⟨g,hg⟩:∃g,a.length+t.length=g+1:=⟨a.length+t.length - 1,by omega⟩
 unfold zb3
 rw[hg,zh7 h,zkm g _ _ (by omega)]
 rfl
theorem zz9:zb3 [] []=[]:=zjq _
theorem yee(a t:List PL):∀f,(ziq f a t).length≤f:=by
 intro f
 induction f generalizing a t with
 | zero=>simp[ziq]
 | succ f ih=>
  unfold ziq
  split
  ·simp
  ·simp only[List.length_cons];have:=ih (a.drop (zbg a t).2.1) (t.drop (zbg a t).2.2);omega
theorem zh6(a t:List PL):(zb3 a t).length≤a.length+t.length:=yee a t _
def sk0(s:PS):Value:=.string (bs s.k)
def sk1(s:PS):Value:=.string (bs s.n)
def zcw(l:List PS):List Value:=zip sk0 sk1 l
theorem zf5(l:List PS)(k:Nat)(h:k<l.length):(zcw l)[k * 2]?=some (.string (bs l[k].k))∧(zcw l)[k * 2+1]?=some (.string (bs l[k].n)):=zgs _ _ l k h
theorem zog:zcw []=[]:=rfl
theorem zjh(l m:List PS):zcw (l++m)=zcw l++zcw m:=zgt _ _ l m
theorem zof(s:PS):zcw [s]=[.string (bs s.k),.string (bs s.n)]:=rfl
attribute [irreducible] zcw
theorem ykc:(Tryz.prog.info? 179).map (fun i=>(i.zero,i.size,i.bytes))=some (some (.agg #[.string ⟨#[]⟩,.string ⟨#[]⟩]),2,32):=by kernel_rfl
theorem zze{w:World}{b:Nat}{x y:Value}(h:w.heap[b]?=some (.cells #[x,y] 179 (0,0))):SliceIs w (.slice (some ⟨b,0,none⟩) 1 1) 2 [x,y]:=
 .inr ⟨_,1,1,rfl,Nat.le_refl _,by unfold maxLen;omega,rfl,fun j u' hj=>by
  match j,hj with
  | 0,hj=>simp at hj;subst hj;simp[World.cell?,h,Addr.add]
  | 1,hj=>simp at hj;subst hj;simp[World.cell?,h,Addr.add]⟩
theorem zo0{w:World}{s:Option Addr}{n c:Nat}{l:List PL}(h:SliceIs w (.slice s n c) 3 (zau l))(k:Nat)(hk:k≤n):
  ∃sH nH cH,(∀w':World,(Instr.slice 169 (.slice s n c) (some (.int .i64 k)) none none).run Tryz.prog w'=.ok (.slice sH nH cH) w')∧SliceIs w (.slice sH nH cH) 3 (zau (l.drop k)):=by
 have hg:=h.get
 obtain⟨s',n',c',e,hn,h1,h2,hg⟩:=hg
 cases e
 rw[zcf] at hn
 have hln:l.length=n:=by omega
 have h2':=h2
 unfold maxLen at h2'
 have hu:Tryz.prog.underlying 169=some (.slice (Tryz.prog.elem 169)):=by kernel_rfl
 have hz:∀w':World,(sizeOf (Tryz.prog.elem 169)).run Tryz.prog w'=.ok 3 w':=fun w'=>by kernel_rfl
 refine⟨_,n - k,c - k,fun w'=>by
  rw[run_slice_l w' 169 s n c hu .i64 k (by omega) (by omega),hz]
  simp only[Result.andThen,sliced]
  rw[show((k:Int)).toNat=k by omega],?_⟩
 rcases s with _|a
 ·have hn0:n=0:=by
   rcases Nat.eq_zero_or_pos n with e|e
   ·exact e
   ·obtain⟨g0,_,_⟩:=zd8 l 0 (by omega)
    obtain⟨a,e,_⟩:=hg _ _ g0
    cases e
  subst hn0
  have hl:l=[]:=List.eq_nil_of_length_eq_zero hln
  subst hl
  obtain rfl:k=0:=by omega
  rcases h with⟨e1,e2⟩|⟨a,len,cap,e1,_⟩
  ·cases e1;exact .inl ⟨by simp,by simp[zic]⟩
  ·cases e1
 ·have e0:zau l=zau (l.take k)++zau (l.drop k):=by rw[←zdr,List.take_append_drop]
  have e1:(zau (l.take k)).length=k * 3:=by rw[zcf,List.length_take];omega
  have e2:(zau (l.drop k)).length=(n - k) * 3:=by rw[zcf,List.length_drop];omega
  by_cases e:c=k
  ·have hkn:k=n:=by omega
   have hd:zau (l.drop k)=[]:=List.eq_nil_of_length_eq_zero (by rw[e2];omega)
   rw[if_pos e,hd]
   exact .inr ⟨a,n - k,c - k,rfl,by omega,by omega,by simp;omega,fun i u hu=>by simp at hu⟩
  ·rw[if_neg e]
   refine .inr ⟨a.add (k * 3),n - k,c - k,rfl,by omega,by omega,e2,fun i u hu=>?_⟩
   rw[Addr.add_add]
   obtain⟨a',ea,d⟩:=hg (k * 3+i) u (by rw[e0,List.getElem?_append_right (by omega),e1,Nat.add_sub_cancel_left];exact hu)
   cases ea
   exact d
theorem zj0{w:World}{s:Option Addr}{n c:Nat}{l:List PL}(h:SliceIs w (.slice s n c) 3 (zau l)):n=l.length∧n≤c∧c≤maxLen:=by
 obtain⟨s',n',c',e,hn,h1,h2,_⟩:=h.get
 cases e
 rw[zcf] at hn
 exact⟨by omega,h1,h2⟩
theorem zoe{w:World}{ad:Addr}{n c:Nat}{l:List PS}(h:SliceIs w (.slice (some ad) n c) 2 (zcw l)){k:Nat}(hk:k<l.length):
  w.cell? (ad.add (k * 2))=some (.string (bs l[k].k))∧w.cell? ⟨(ad.add (k * 2)).block,(ad.add (k * 2)).off+1,none⟩=some (.string (bs l[k].n)):=by
 obtain⟨s',n',c',e,_,_,_,hg⟩:=h.get
 cases e
 obtain⟨x0,x1⟩:=zf5 l k hk
 obtain⟨a,e,d0⟩:=hg _ _ x0
 cases e
 obtain⟨a,e,d1⟩:=hg _ _ x1
 cases e
 exact⟨d0,zao d1⟩
theorem zo9(E:Nat→Addr)(a t:List PL)(v1 v2:Value)(w:World)(h1:SliceIs w v1 3 (zau a))(h2:SliceIs w v2 3 (zau t))(ha:LWF a)(ht:LWF t)(hB:Has E w 2)(hN:Has E w 5)(hF:Has E w 8)(hO:Has E w 9):
  Calls Tryz.prog 102 #[v1,v2] w fun e w'=>∃r,e=.returned (.tuple #[r,.nilIface])∧w'.ownsRow w.heap.size 179 2 r (zb3 a t).length (zcw (zb3 a t))∧Below w.heap.size w w':=by
 have hfa:=ha.few
 have hft:=ht.few
 have hna:∀x∈a,x.n.length≤maxLen:=fun x hx=>by have:=((zbi _).1 (ha.each x hx).1).2.1;unfold maxLen;omega
 have hnt:∀x∈t,x.n.length≤maxLen:=fun x hx=>by have:=((zbi _).1 (ht.each x hx).1).2.1;unfold maxLen;omega
 have CH:=zgz E a v1 w h1 hna (by omega) hB hN hF hO
 rw[(zd6 a).2 ha] at CH
 have HCH:=hid CH
 have C2:=fun(w':World)(b:Below w.heap.size w w')=>zgz E t v2 w' (h2.below b) hnt (by omega) (hB.below b) (hN.below b) (hF.below b) (hO.below b)
 rw[(zd6 t).2 ht] at C2
 have HC2:=hid C2
 have HPL:=hid (zh6 a t)
 have H1:=hid h1
 have H2:=hid h2
 obtain⟨i0,hi,hz0,hz1,hz2⟩:=info_parts ykc
 obtain⟨sa,na,ca,rfl,qa⟩:=h1.get
 obtain⟨st,nt,ct,rfl,qt⟩:=h2.get
 clear qa qt
 clear h1 h2 hB hN hF hO CH C2 hna hnt
 go_enter Tryz.func102,Tryz.ntmps102
 go_wp2_with fail
 refine HCH.out.mono ?_
 rintro e w1⟨r,rfl,fe,b1⟩
 obtain rfl:=fe.zero
 clear fe HCH
 go_wp2_with fail
 refine(HC2.out _ b1).mono ?_
 rintro e w2⟨r,rfl,fe,b2⟩
 obtain rfl:=fe.zero
 have B2:=hid (zaa b1 b2)
 clear fe b1 b2 HC2
 go_wp2_with fail
 go_loopw [0,1,8,9,10,11] (fun f o r _ _ _ wr=>∃(A T:List PL)(D:List PS)(s1 s2:Option Addr)(n1 c1 n2 c2:Nat),f=.slice s1 n1 c1∧o=.slice s2 n2 c2∧SliceIs w (.slice s1 n1 c1) 3 (zau A)∧SliceIs w (.slice s2 n2 c2) 3 (zau T)∧A.length≤20∧T.length≤20∧D++zb3 A T=zb3 a t∧wr.ownsRow w.heap.size 179 2 r D.length (zcw D)∧Below w.heap.size w wr) (fun f o _ _ _ _ _=>lenOf f+lenOf o)
 case atStart=>exact⟨a,t,[],sa,st,na,ca,nt,ct,rfl,rfl,H1.out,H2.out,by omega,by omega,rfl,by rw[zog];exact World.ownsRow_nil _ _ _ _,B2.out⟩
 case round=>
  obtain⟨A,T,D,s1,s2,n1,c1,n2,c2,rfl,rfl,q1,q2,u1,u2,hinv,hown,bel⟩:=hrel
  obtain⟨m1,m2,m3⟩:=zj0 q1
  obtain⟨p1,p2,p3⟩:=zj0 q2
  unfold maxLen at m3 p3
  have hDl:D.length+(zb3 A T).length=(zb3 a t).length:=by rw[←hinv,List.length_append]
  have hPl:=HPL.out
  have BW:=hid bel
  have HO:=hid hown
  have Q1:=hid q1
  have Q2:=hid q2
  obtain⟨va,vc,rfl⟩:=zab hown
  clear bel hown q1 q2
  by_cases hn:A=[]∧T=[]
  ·obtain⟨rfl,rfl⟩:=hn
   rw[List.length_nil] at m1 p1
   subst m1 p1
   clear u1 u2 hPl hDl
   have hD:D=zb3 a t:=by rw[←hinv,zz9,List.append_nil]
   subst hD
   go_wp2_with fail
   go_ret2
   exact⟨_,rfl,HO.out,BW.out⟩
  ·have hST:=zz8 hn
   obtain⟨z1,z2,z3⟩:=zpz A T
   have z3:=z3 hn
   have ST:=hid (fun (w':World) h1 h2=>ya4 A T (.slice s1 n1 c1) (.slice s2 n2 c2) w' h1 h2 hn)
   obtain⟨sH,nH,cH,rH,g1⟩:=zo0 Q1.out (zbg A T).2.1 (by omega)
   obtain⟨sI,nI,cI,rI,g2⟩:=zo0 Q2.out (zbg A T).2.2 (by omega)
   obtain⟨m1',_,_⟩:=zj0 g1
   obtain⟨p1',_,_⟩:=zj0 g2
   rw[List.length_drop] at m1' p1'
   subst m1 p1 m1' p1'
   have hsum:(0:Int)<(A.length:Int)+T.length:=by omega
   generalize zbg A T=s at *
   obtain⟨x,k1,k2⟩:=s
   obtain⟨xk,xn⟩:=x
   simp only[PS.val_is] at ST hST rH rI g1 g2 z1 z2 z3
   have Y:=hid (show(D++[⟨xk,xn⟩])++zb3 (A.drop k1) (T.drop k2)=zb3 a t by rw[List.append_assoc,←hST];exact hinv)
   have G1:=hid g1
   have G2:=hid g2
   have hst:(zb3 A T).length≥1:=by rw[hST];simp
   have HN1:Hid (D.length+1≤maxLen):=by show _≤_;unfold maxLen;omega
   have HN2:Hid ((D.length+1) * 32≤140737488355328):=by show _≤_;omega
   clear hinv hST g1 g2 hst hDl hPl
   go_wp2_with fail
   refine(ST.out _ (Q1.out.below BW.out) (Q2.out.below BW.out)).mono ?_
   rintro e w3⟨rfl,b3⟩
   have HO3:=hid (zad HO.out b3)
   have B3:=hid (zaa BW.out b3)
   have BX:=hid b3
   clear b3
   have NEWB:Hid (((w3.alloc (.cells #[.string (bs xk),.string (bs xn)] 179)).alloc (.cells #[.string (bs xk),.string (bs xn)] 179)).heap[w3.heap.size+1]?=some (.cells #[.string (bs xk),.string (bs xn)] 179 (0,0))):=by
    have h:=heap_alloc_new (w3.alloc (.cells #[.string (bs xk),.string (bs xn)] 179)) (.cells #[.string (bs xk),.string (bs xn)] 179)
    have e:(w3.alloc (.cells #[.string (bs xk),.string (bs xn)] 179)).heap.size=w3.heap.size+1:=by simp
    rw[e] at h;exact h
   go_wp2_with (at_builtin;refine zak rfl (.tmp 35) (.tmp 37) 176 rfl w.heap.size 179 i0 _ 2 32 Tryz.underlying176 hi hz0 hz1 hz2 rfl (by decide) _ D.length _ rfl ((HO3.out.alloc _).alloc _) _ 1 [.string (bs xk),.string (bs xn)] rfl (zze NEWB.out) rfl (fun u hu=>by simp at hu;rcases hu with rfl|rfl<;>rfl) HN1.out HN2.out (by have:=B3.out.size;simp;omega) ?_;intro v' w5 hown5 hgrow _;have HO5:=hid hown5;have B5:=hid (((B3.out.alloc B3.out.size _).alloc (B3.out.alloc B3.out.size _).size _).grown hgrow (by have:=B3.out.size;simp;omega) (fun j hj=>(HO3.out.lt j hj).1));clear hown5 hgrow)
   go_region_law (fail)
   all_goals
    simp[go_sem,Act.put]
    go_wp2_with fail
    go_roundw
    case rel=>exact⟨A.drop k1,T.drop k2,D++[⟨xk,xn⟩],_,_,_,_,_,_,rfl,rfl,G1.out,G2.out,by rw[List.length_drop];omega,by rw[List.length_drop];omega,Y.out,by rw[zjh,zof,List.length_append];exact HO5.out,zac B5.out 1⟩
    case measure=>simp[lenOf];omega
end Go.Proofs.YtakhkcaihhpehaaGreatDoor
