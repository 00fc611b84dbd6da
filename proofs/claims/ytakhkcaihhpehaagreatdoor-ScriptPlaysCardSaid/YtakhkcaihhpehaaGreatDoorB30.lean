/- Texts of one proof, one behind the other: XferDel, XferTurn. -/
import Derived.Test.YtakhkcaihhpehaaGreatDoorB29
import Derived.Deep.RegionLaw
import Derived.Test.YtakhkcaihhpehaaGreatDoorB02
namespace Go.Proofs.YtakhkcaihhpehaaGreatDoor
open Go.RowKit
open Lib (hid)
set_option linter.unusedVariables false
set_option maxRecDepth 100000
set_option maxHeartbeats 51200000
section
variable{α:Type}
def yj7(l:List α)(k:Nat):List α→List α
 | []=>l
 | x::m=>yj7 (l.set k x) (k+1) m
theorem yoe(m:List α):∀(l:List α)(k:Nat),k+m.length≤l.length→yj7 l k m=l.take k++m++l.drop (k+m.length):=by
 induction m with
 | nil=>intro l k h;simp[yj7]
 | cons x m ih=>
  intro l k h
  rw[List.length_cons] at h
  unfold yj7
  have hk:k<l.length:=by omega
  rw[ih _ _ (by rw[List.length_set];omega)]
  have e1:(l.set k x).take (k+1)=l.take k++[x]:=by
   rw[List.take_succ_eq_append_getElem (by rw[List.length_set];exact hk),List.getElem_set_self,List.take_set_of_le (Nat.le_refl k)]
  have e2:(l.set k x).drop (k+1+m.length)=l.drop (k+(m.length+1)):=by
   rw[List.drop_set_of_lt (by omega)]
   congr 1
   omega
  rw[e1,e2]
  simp
theorem yaq{l:List α}{k:Nat}(h:k<l.length):(yj7 l k (l.drop (k+1))).take (l.length - 1)=l.eraseIdx k:=by
 rw[yoe _ _ _ (by rw[List.length_drop];omega),List.eraseIdx_eq_take_drop_succ]
 rw[List.take_append_of_le_length (by simp;omega)]
 exact List.take_of_length_le (by simp;omega)
variable(f g:α→Value)
theorem yjm{base g0 cap n:Nat}{e:TypeId}(m:List α):∀{w:World} {l:List α} (k:Nat),w.ownsRow base e 2 (.slice (some ⟨g0,0,none⟩) n cap) n (zip f g l)→
  (w.setCells g0 (k * 2) (zip f g m)).ownsRow base e 2 (.slice (some ⟨g0,0,none⟩) n cap) n (zip f g (yj7 l k m))∧w.grownBy (w.setCells g0 (k * 2) (zip f g m)) (some g0):=by
 induction m with
 | nil=>intro w l k h;exact⟨h,rfl,rfl,rfl,Nat.le_refl _,fun _ _ _=>rfl⟩
 | cons x m ih=>
  intro w l k h
  have h1:=zko f g h k x
  obtain⟨h2,h3⟩:=ih (k+1) h1
  rw[show(k+1) * 2=k * 2+1+1 by omega] at h2 h3
  refine⟨h2,?_⟩
  exact zam (zam (zap w g0 (k * 2) (f x)) (zap _ g0 (k * 2+1) (g x))) h3
end
theorem zu8(l:List (List UInt8×Bool))(k:Nat):(zcb l).drop (k * 2)=zcb (l.drop k):=by
 induction l generalizing k with
 | nil=>simp[zcb,zip]
 | cons o l ih=>
  match k with
  | 0=>simp
  | k+1=>
   rw[List.drop_succ_cons,←ih k,show(k+1) * 2=k * 2+2 by omega]
   rfl
theorem yp4(w:World):(zeroValue 248).run Tryz.prog w=.ok (.agg #[.string ⟨#[]⟩,.bool false]) w:=by kernel_rfl
theorem zjs{w:World}{base n:Nat}{e:TypeId}{size:Nat}{v:Value}{xs:List Value}(h:w.ownsRow base e size v n xs)(hn:0<n):∃g cap,v=.slice (some ⟨g,0,none⟩) n cap∧n≤cap∧cap≤maxLen:=by
 rcases h.2 with⟨rfl,h0⟩|⟨g,cap,cur,hv,hg,hh,h3,h4,h5,h6⟩
 ·first|omega|(have:=h.1;simp_all)
 ·exact⟨g,cap,hv,h3,h4⟩
section
theorem zjc(l:List (List UInt8×Bool))(base k:Nat)(v:Value)(w:World)(hown:w.ownsRow base 248 2 v l.length (zcb l))(hk:k<l.length)(hl:l.length≤1000000000):
  Calls Tryz.prog 153 #[v,.int .i64 k,.int .i64 ((k:Int)+1)] w fun e w'=>∃r,e=.returned r∧w'.ownsRow base 248 2 r (l.eraseIdx k).length (zcb (l.eraseIdx k))∧w.grownBy w' v.ownBlock:=by
 obtain⟨g,cap,rfl,hc1,hc2⟩:=zjs hown (by omega)
 obtain⟨i0,hi,hs0,hs1,hs2⟩:=info_parts yfu
 have HO:=hid hown
 obtain⟨n,hn⟩:∃n,l.length=n:=⟨_,rfl⟩
 rw[hn] at hk hl hc1 hown ⊢
 have y1:(0:Int)≤k:=by omega
 have y2:(k:Int).toNat=k:=by omega
 have y3:((k:Int)+1).toNat=k+1:=by omega
 have y4:(k:Int)+1≤n:=by omega
 have y5:(k:Int)≤(k:Int)+1:=by omega
 have y6:(n:Int)≤cap:=by omega
 have y7:(0:Int)≤(k:Int)+1:=by omega
 have y8:((k:Int)==(k:Int)+1)=false:=by rw[beq_eq_false_iff_ne];omega
 have SRC:∀j u,(zcb (l.drop (k+1)))[j]?=some u→w.cell? ((⟨g,(k+1) * 2,none⟩:Addr).add j)=some u:=by
  intro j u hj
  have hlt:=(List.getElem?_eq_some_iff.1 hj).1
  rw[zkn,List.length_drop] at hlt
  have:=HO.out.cellAt ((k+1) * 2+j) (by omega)
  rw[show((⟨g,(k+1) * 2,none⟩:Addr).add j)=⟨g,(k+1) * 2+j,none⟩ from by simp[Addr.add_lit],this,←hj,←zu8,List.getElem?_drop]
 have NL:(zcb (l.drop (k+1))).length=(n - (k+1)) * 2:=by rw[zkn,List.length_drop,hn]
 have HONE:=hid (show ∀u∈zcb (l.drop (k+1)),u.oneCell'=true from zk3 _ _ (fun _=>⟨rfl,rfl⟩) _)
 have SPARE:∀j,j<(zcb (l.drop (k+1))).length→(w.cell? ⟨g,0+k * 2+j,none⟩).isSome=true∧w.frozen? ⟨g,0+k * 2+j,none⟩=false:=by
  intro j hj
  refine⟨?_,HO.out.frozenAt _⟩
  rw[HO.out.cellAt _ (by omega),List.getElem?_eq_getElem (by rw[zkn];omega)]
  rfl
 obtain⟨OL,GL⟩:(w.drew.setCells g (k * 2) (zcb (l.drop (k+1)))).ownsRow base 248 2 (.slice (some ⟨g,0,none⟩) l.length cap) l.length (zcb (yj7 l k (l.drop (k+1))))∧w.drew.grownBy (w.drew.setCells g (k * 2) (zcb (l.drop (k+1)))) (some g):=by
  have:=zad HO.out (Below.drew (Below.refl _ _))
  exact yjm pk0 pk1 (l.drop (k+1)) k this
 have SRC:=hid SRC
 have NL:=hid NL
 have SPARE:=hid SPARE
 have z1:k+(n - (k+1))=n - 1:=by omega
 rw[hn] at OL
 obtain⟨w3,hrun,O3,G3⟩:=zji (P:=Tryz.prog) (t:=239) (k:=n - 1) OL (by omega) (by decide) Tryz.underlying239 (yp4 _) rfl (by intro u hu;simp[Value.cells] at hu;rcases hu with rfl|rfl<;>rfl)
 have R1:=hid (show zcb (l.eraseIdx k)=(zcb (yj7 l k (l.drop (k+1)))).take ((n - 1) * 2) by unfold zcb;rw[zmb,←hn,yaq (by omega)])
 have R2:=hid (show(l.eraseIdx k).length=n - 1 by rw[List.length_eraseIdx_of_lt (by omega),hn])
 have O4:=hid O3
 clear O3
 have G4:=hid (zam (zam (zdt (Below.drew (Below.refl _ _))) GL) G3)
 have y9:((n - 1:Nat):Int).toNat=n - 1:=by omega
 have y10:((n - 1:Nat):Int)≤n:=by omega
 have y11:(0:Int)≤((n - 1:Nat):Int):=by omega
 have y12:¬cap=n - 1:=by omega
 clear hown OL GL
 have hsz:i0.size=2:=by first|exact hs1|exact hs2
 have y13:(k:Int)≤cap:=by omega
 have y14:(k:Int)+1≤cap:=by omega
 have y15:((n - 1:Nat):Int)≤cap:=by omega
 generalize zcb (yj7 l k (l.drop (k+1)))=lay at *
 generalize zcb (l.drop (k+1))=news at *
 by_cases hcap:cap=k+1
 ·subst hcap
  obtain rfl:n=k+1:=by omega
  have hnn:news=[]:=List.eq_nil_of_length_eq_zero (by have:=NL.out;omega)
  subst hnn
  have NN:=hid (show([]:List Value).length=0 * 2 from rfl)
  have NS:=hid (show ∀j u,([]:List Value)[j]?=some u→w.drew.cell? ((⟨g,0,none⟩:Addr).add j)=some u from fun j u h=>by simp at h)
  have HONE:=hid (show ∀u∈([]:List Value),u.oneCell'=true from fun u h=>by cases h)
  have SPARE:=hid (show ∀j,j<([]:List Value).length→(w.drew.cell? ⟨g,0+k * 2+j,none⟩).isSome=true∧w.drew.frozen? ⟨g,0+k * 2+j,none⟩=false from fun j h=>by simp at h)
  go_enter Tryz.func153,Tryz.ntmps153
  go_wp2_with fail
  go_region_law (refine step_append_room rfl (.tmp 22) (.tmp 25) 239 rfl 248 i0 2 Tryz.underlying239 hi hsz g 0 k (k+1) (by simp[Act.eval,Act.put]) ⟨g,0,none⟩ 0 0 [] (by simp[Act.eval,Act.put]) NN.out NS.out HONE.out (by omega) SPARE.out ?_)
  all_goals
   generalize w.drew.setCells g (k * 2) []=w2 at *
   simp only[Nat.add_sub_cancel,Nat.add_sub_cancel_left] at hrun
   go_wp2_with fail
   go_ret
   exact⟨_,rfl,by rw[R1.out,R2.out];exact O4.out,G4.out⟩
 ·go_enter Tryz.func153,Tryz.ntmps153
  go_wp2_with fail
  go_region_law (refine step_append_room rfl (.tmp 22) (.tmp 25) 239 rfl 248 i0 2 Tryz.underlying239 hi hsz g 0 k cap (by simp[Act.eval,Act.put]) ⟨g,(k+1) * 2,none⟩ (n - (k+1)) (cap - (k+1)) news (by simp[Act.eval,Act.put]) NL.out (SRC.out) HONE.out (by omega) SPARE.out ?_)
  generalize w.drew.setCells g (k * 2) news=w2 at *
  go_wp2_with fail
  go_ret
  exact⟨_,rfl,by rw[R1.out,R2.out];exact O4.out,G4.out⟩
end
section
variable{E:Nat→Addr}{w0 w:World}{xb:Nat}{A:XA}{x:XS}
theorem XAt.netTo(h:XAt w0 w xb A x){w':World}{v':Value}{net':List (List UInt8×Bool)}(hg:w.grownBy w' A.vn.ownBlock)(hn:w'.ownsRow w0.heap.size 248 2 v' net'.length (zcb net')):
  XAt w0 (w'.setCell ⟨xb,3,none⟩ v') xb {A with vn:=v'} {x with net:=net'}:=by
 have hc:Chg w w' (fun b=>A.vn.ownBlock=some b):=⟨hg.os,hg.tape,hg.output,hg.size,fun k hk hn=>hg.block k hk (fun e=>hn e.symm)⟩
 obtain⟨es,c,hm⟩:=h.fu.isMap
 have h1:XCell w' xb A (.pointer (some ⟨A.fb,0,none⟩)) (.map (some A.ub)) x:=(hc.block xb (lt_of_block h.cells) (zcj h.rest.nt h.cells (by decide))).trans h.cells
 have h2:FlowAt w' A.fb x.W x.L x.T x.G:=(hc.block A.fb h.fl.lt (zcj h.rest.nt h.fl (by decide))).trans h.fl
 have h3:FMapIs w' A.ub x.fu.length x.fu:=h.fu.kept (hc.block A.ub h.fu.lt (zbl h.rest.nt hm))
 have hr:=h.rest.netAt hc hn
 have hc2:=XCell.chg w' xb 3 v'
 have hs:XCell (w'.setCell ⟨xb,3,none⟩ v') xb {A with vn:=v'} (.pointer (some ⟨A.fb,0,none⟩)) (.map (some A.ub)) {x with net:=net'}:=h1.set 3 v' rfl
 obtain⟨es2,c2,hm2⟩:=h3.isMap
 refine⟨hs,hr.at hc2 h1 (by decide) h.lx,?_,?_,h.ne,h.lx,h.lf,h.lu⟩
 ·exact(hc2.block A.fb h2.lt (zb2 h2 h1 (by decide))).trans h2
 ·exact h3.kept (hc2.block A.ub h3.lt (fun e=>zcp h1 hm2 e.symm))
theorem XAt.netCell(h:XAt w0 w xb A x){w':World}(hg:w.grownBy w' A.vn.ownBlock):w'.frozen? ⟨xb,3,none⟩=false∧w'.cell? ⟨xb,3,none⟩=some A.vn:=by
 have h1:XCell w' xb A (.pointer (some ⟨A.fb,0,none⟩)) (.map (some A.ub)) x:=(hg.block xb (lt_of_block h.cells) (fun e=>zcj h.rest.nt h.cells (by decide) e.symm)).trans h.cells
 exact⟨h1.fz 3,h1.cs.2.2.2.1⟩
end
section
variable{E:Nat→Addr}{w0 w w':World}{xb:Nat}{A:XA}{x:XS}
theorem XAt.netSet(h:XAt w0 w xb A x){net':List (List UInt8×Bool)}(hc:Chg w w' (fun b=>A.vn.ownBlock=some b))(hn:w'.ownsRow w0.heap.size 248 2 A.vn net'.length (zcb net')):XAt w0 w' xb A {x with net:=net'}:=by
 obtain⟨es,c,hm⟩:=h.fu.isMap
 have h1:XCell w' xb A (.pointer (some ⟨A.fb,0,none⟩)) (.map (some A.ub)) x:=(hc.block xb (lt_of_block h.cells) (zcj h.rest.nt h.cells (by decide))).trans h.cells
 have h2:FlowAt w' A.fb x.W x.L x.T x.G:=(hc.block A.fb h.fl.lt (zcj h.rest.nt h.fl (by decide))).trans h.fl
 have h3:FMapIs w' A.ub x.fu.length x.fu:=h.fu.kept (hc.block A.ub h.fu.lt (zbl h.rest.nt hm))
 have hr:=h.rest.netAt hc hn
 exact⟨h1,hr,h2,h3,h.ne,h.lx,h.lf,h.lu⟩
theorem yb0(q:Nat)(h:XAt w0 w xb A x)(hq:q≤1152921504606846976)(p:List UInt8×Bool)(r:List (List UInt8×Bool))(hnet:x.net=p::r)(hl:x.net.length≤1000000000)(h0:0<p.1.length)(h1:p.1.length≤100000):
  Calls Tryz.prog 154 #[.pointer (some ⟨xb,0,none⟩),.int .i64 q] w fun e w'=>e=.returned (.tuple #[])∧∃A',XAt w0 w' xb A' (x.turn q):=by
 have hlen:x.net.length=r.length+1:=by rw[hnet];rfl
 have HX:=hid h
 have c3:=h.cells.cs.2.2.2.1
 obtain⟨g,cap,hv,hc1,hc2⟩:=zjs h.rest.nt (by omega)
 have HO:=h.rest.nt
 rw[hv] at HO c3
 have d0:=HO.cellAt (0 * 2) (by omega)
 have d1:=HO.cellAt (0 * 2+1) (by omega)
 have hp0:x.net[0]'(by omega)=p:=by simp[hnet]
 rw[(zb8 x.net 0 (by omega)).1,hp0] at d0
 rw[(zb8 x.net 0 (by omega)).2,hp0] at d1
 simp only[Nat.zero_mul,Nat.zero_add] at d0 d1
 have fz0:=HO.frozenAt 0
 have fz1:=HO.frozenAt 1
 have hlI:(0:Int)<x.net.length:=by omega
 have XT:x.turn q=if p.2=true then x else {x with net:=(XS.flip p.1 q,true)::r}:=by unfold XS.turn;rw[hnet]
 cases hp2:p.2 with
 | true=>
  rw[hp2] at d1 XT
  rw[XT,if_pos rfl]
  clear h XT HO hnet hp0 hv
  go_enter Tryz.func154,Tryz.ntmps154
  go_wp2_with fail
  go_returns
  exact⟨rfl,A,HX.out⟩
 | false=>
  rw[hp2] at d1 XT
  rw[XT,if_neg (by simp)]
  obtain⟨L,hL⟩:∃L,p.1=L:=⟨_,rfl⟩
  rw[hL] at d0 h0 h1 ⊢
  obtain⟨m,hm⟩:∃m,m=q % (8 * L.length):=⟨_,rfl⟩
  have hml:m<8 * L.length:=by rw[hm];exact Nat.mod_lt _ (by omega)
  have hwm:IntKind.i64.wrap (8 * (L.length:Int))=8 * (L.length:Int):=IntWalk.i64_in _ (by omega)
  have hmm:(q:Int) % (8 * (L.length:Int))=(m:Int):=by rw[hm];simp
  have hmt:(q:Int).tmod (8 * (L.length:Int))=(m:Int):=by rw[Int.tmod_eq_emod_of_nonneg (by omega)];exact hmm
  have hmw:IntKind.i64.wrap ((q:Int).tmod (8 * (L.length:Int)))=(m:Int):=by rw[hmt];exact IntWalk.i64_in _ (by omega)
  have hmw2:IntKind.i64.wrap (m:Int)=(m:Int):=IntWalk.i64_in _ (by omega)
  have hne0:((8 * (L.length:Int))==0)=false:=by rw[beq_eq_false_iff_ne];omega
  obtain⟨pp,hpp⟩:∃pp,pp=m / 8:=⟨_,rfl⟩
  obtain⟨qq,hqq⟩:∃qq,qq=m % 8:=⟨_,rfl⟩
  have hpl:pp<L.length:=by omega
  have hps:pp<(bs L).size:=by rw[zae];exact hpl
  have hq8:qq<8:=by omega
  have e1:(m:Int) / 8=(pp:Int):=by omega
  have e2:(m:Int) % 8=(qq:Int):=by omega
  obtain⟨cap',o,hcv,hcap,hcell,hfr⟩:=ybn (P:=Tryz.prog) w 9 105 5 (bs L) Tryz.underlying9 Tryz.underlying105 Tryz.underlying5
  have hc:=hcell pp hps
  have hfz:=hfr pp hps
  obtain⟨z,hz⟩:∃z:UInt8,z=UInt8.ofNat (2 ^ qq):=⟨_,rfl⟩
  have hq256:2 ^ qq<256:=by
   have:=Nat.pow_lt_pow_right (show 1<2 by decide) hq8
   simpa using this
  have hzn:z.toNat=2 ^ qq:=by rw[hz];simp;omega
  have hpw:(2:Int) ^ qq % 256=(z.toNat:Int):=by
   have h2:((2:Int) ^ qq)=((2 ^ qq:Nat):Int):=by simp
   rw[h2,hzn]
   generalize (2 ^ qq:Nat)=z at *
   omega
  obtain⟨y,hy⟩:∃y:UInt8,y=(bs L)[pp] ^^^ z:=⟨_,rfl⟩
  have hxor:bits .xor .u8 ((bs L)[pp].toNat:Int) (z.toNat:Int)=(y.toNat:Int):=by
   rw[u8_xor_nat _ _ (bs L)[pp].toNat_lt z.toNat_lt,hy,UInt8.toNat_xor]
  have hback:=ybo (P:=Tryz.prog) (w.alloc o).drew 105 9 5 w.heap.size cap' pp (bs L) y Tryz.underlying105 Tryz.underlying5 Tryz.underlying9 hps hcell
  have hbp:(bs L)[pp]=L[pp]:=by show(bs L).data[pp]=_;simp[bs]
  have hly:(⟨((bs L).data.toList.set pp y).toArray⟩:ByteArray)=bs (L.set pp y):=by rw[zai];unfold bs;rfl
  rw[hly,zae] at hback
  replace hback:(convert 105 9 (.slice (some ⟨w.heap.size,0,none⟩) L.length cap')).run Tryz.prog (((w.alloc o).setCell ⟨w.heap.size,pp,none⟩ (.int .u8 y.toNat)).drew.drew)=.ok (.string (bs (L.set pp y))) (((w.alloc o).setCell ⟨w.heap.size,pp,none⟩ (.int .u8 y.toNat)).drew.drew):=hback
  have hwz:IntKind.u8.wrap ((2:Int) ^ qq)=(z.toNat:Int):=by rw[←hpw];rfl
  have hfl:XS.flip L q=L.set pp y:=by
   unfold XS.flip
   rw[←hm,←hpp,←hqq,List.getElem?_eq_getElem hpl,hy,hbp]
   congr 1
   show L[pp] ^^^ (1 <<< UInt8.ofNat qq)=L[pp] ^^^ z
   rw[hz]
   congr 1
   have:qq=0∨qq=1∨qq=2∨qq=3∨qq=4∨qq=5∨qq=6∨qq=7:=by omega
   rcases this with h|h|h|h|h|h|h|h<;>subst h<;>decide
  rw[hfl]
  have HSET:=hid (show x.net.set 0 (L.set pp y,true)=(L.set pp y,true)::r by rw[hnet];rfl)
  have HGL:=hid (HX.out.rest.nt.lt g (by rw[hv];rfl))
  have HV:=hid hv
  clear h XT HO hnet hp0 hv hm hpp hqq hq256 hzn hz hy hbp hly hfl hcell hfr
  go_enter Tryz.func154,Tryz.ntmps154
  go_wp2_with fail
  have hwp:IntKind.i64.wrap (pp:Int)=(pp:Int):=IntWalk.i64_in _ (by omega)
  have htm:(m:Int).tmod 8=(qq:Int):=by rw[Int.tmod_eq_emod_of_nonneg (by omega)];exact e2
  have hwq:IntKind.i64.wrap (qq:Int)=(qq:Int):=IntWalk.i64_in _ (by omega)
  have hp1:(0:Int)≤pp:=by omega
  have hp2:(pp:Int)<L.length:=by omega
  have hp3:(pp:Int).toNat=pp:=by omega
  have hq1:(0:Int)≤qq:=by omega
  have hq3:(qq:Int).toNat=qq:=by omega
  have hc2:(w.alloc o).drew.drew.cell? ⟨w.heap.size,pp,none⟩=some (.int .u8 (bs L)[pp].toNat):=hc
  have hfz2:(w.alloc o).drew.drew.frozen? ⟨w.heap.size,pp,none⟩=false:=hfz
  go_region_law (fail)
  have B8:=hid (((Below.refl w.heap.size w).alloc (Nat.le_refl _) o).setCell (p:=⟨w.heap.size,pp,none⟩) (Nat.le_refl _) (.int .u8 y.toNat)).drew.drew
  clear hc hfz hc2 hfz2 hwz hxor hpw hwp htm hwq hp1 hp2 hp3 hq1 hq3
  generalize (((w.alloc o).setCell ⟨w.heap.size,pp,none⟩ (.int .u8 y.toNat)).drew.drew)=w8 at *
  have X8:=hid (HX.out.below B8.out)
  have HO8:=X8.out.rest.nt
  rw[HV.out] at HO8
  have ST:=hid (zko pk0 pk1 HO8 0 (L.set pp y,true))
  have fz80:=HO8.frozenAt 0
  have fz81:=HO8.frozenAt 1
  have d80:w8.cell? ⟨g,0,none⟩=some (.string (bs L)):=(B8.out.cell (World.block_lt_of_cell? w _ d0)).trans d0
  have d81:w8.cell? ⟨g,1,none⟩=some (.bool false):=(B8.out.cell (World.block_lt_of_cell? w _ d1)).trans d1
  simp only[Nat.zero_mul,Nat.zero_add] at ST
  have CH:=hid (show Chg w8 ((w8.setCell ⟨g,0,none⟩ (.string (bs (L.set pp y)))).setCell ⟨g,1,none⟩ (.bool true)) (fun b=>A.vn.ownBlock=some b) from
   ((Chg.refl w8 _).set ⟨g,0,none⟩ (.inl (by rw[HV.out];rfl)) _).set ⟨g,1,none⟩ (.inl (by rw[HV.out];rfl)) _)
  clear HO8 B8
  go_wp2_with fail
  go_returns
  refine⟨rfl,A,X8.out.netSet (net':=(L.set pp y,true)::r) CH.out ?_⟩
  have:=ST.out
  rw[HV.out]
  rw[HSET.out] at this
  have e:((L.set pp y,true)::r).length=x.net.length:=by rw[hlen];rfl
  rw[e]
  exact this
end
end Go.Proofs.YtakhkcaihhpehaaGreatDoor
