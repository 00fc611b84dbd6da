/- Texts of one proof, one behind the other: FilLines, FilText. -/
import Derived.Test.YtakhkcaihhpehaaGreatDoorB15
import Derived.Test.YtakhkcaihhpehaaGreatDoorB03
import Derived.Test.YtakhkcaihhpehaaGreatDoorB06
namespace Go.Proofs.YtakhkcaihhpehaaGreatDoor
open Go.RowKit
open Lib (hid)
set_option linter.unusedVariables false
set_option maxRecDepth 100000
set_option maxHeartbeats 51200000
def PF.line(f:PF):PL:=⟨f.n,f.d.length,za5 f.d⟩
theorem zx4:(Tryz.prog.info? 173).map (fun i=>(i.zero,i.size,i.bytes))=some (some (.agg #[.string ⟨#[]⟩,.int .i64 0,.int .u32 0]),3,32):=by kernel_rfl
theorem zd0{w:World}{b:Nat}{u0 u1 u2:Value}{t:TypeId}(h:w.heap[b]?=some (.cells #[u0,u1,u2] t (0,0))):∀j u',[u0,u1,u2][j]?=some u'→w.cell? ((⟨b,0,none⟩:Addr).add j)=some u':=by
 intro j u' hj
 match j,hj with
 | 0,hj=>simp at hj;subst hj;simp[World.cell?,h,Addr.add]
 | 1,hj=>simp at hj;subst hj;simp[World.cell?,h,Addr.add]
 | 2,hj=>simp at hj;subst hj;simp[World.cell?,h,Addr.add]
theorem zgf(E:Nat→Addr)(l:List PF)(v:Value)(w:World)(hl:SliceIs w v 2 (zah l))(hd:FOk l)(hB:Has E w 2)(hN:Has E w 5)(hF:Has E w 8)(hO:Has E w 9)(hf:FWF l):
  Calls Tryz.prog 98 #[v] w fun e w'=>∃r,e=.returned (.tuple #[r,.nilIface])∧w'.ownsRow w.heap.size 173 3 r l.length (zau (l.map PF.line))∧Below w.heap.size w w':=by
 have hfew:=hf.few
 have CK:=hid (zdf E l v w hl hd (by omega) hB hN hF hO)
 have HF0:=hid ((zbd l).2 hf)
 have HE:=hid hf.each
 obtain⟨s,m,c,rfl,hn,h1,h2,hg⟩:=hl.get
 rw[zat] at hn
 obtain rfl:m=l.length:=by omega
 unfold maxLen at h2
 have HSL:=hid hl
 obtain⟨i0,hi,hz0,hz1,hz2⟩:=info_parts zx4
 clear hl hB hN hF hO hf hg
 go_enter Tryz.func98,Tryz.ntmps98
 go_wp2_with fail
 refine CK.out.mono ?_
 rintro e w1⟨r,rfl,fe,b1⟩
 rw[HF0.out] at fe
 obtain rfl:=fe.zero
 have B1:=hid b1
 clear fe b1 CK
 go_wp2_with fail
 go_loopw [15,5,7] (fun i o _ wr=>∃k:Nat,i=.int .i64 k∧k≤l.length∧wr.ownsRow w.heap.size 173 3 o k (zau ((l.take k).map PF.line))∧Below w.heap.size w wr) (fun i _ _ _=>l.length - (intOf i).toNat)
 case atStart=>exact⟨0,rfl,by omega,World.ownsRow_nil _ _ _ _,B1.out⟩
 case round=>
  obtain⟨k,rfl,hk,hown,bel⟩:=hrel
  by_cases hlt:k<l.length
  ·have hltI:(k:Int)<l.length:=by omega
   obtain⟨s0',n0',c0',e1,_,_,_,g1⟩:=(HSL.out.below bel).get
   cases e1
   obtain⟨g2,g3⟩:=zb9 l k hlt
   obtain⟨ad,rfl,d0⟩:=g1 _ _ g2
   obtain⟨a',e',d1⟩:=g1 _ _ g3
   cases e'
   clear g1 g2 g3
   have NX:=hid (show zau ((l.take (k+1)).map PF.line)=zau ((l.take k).map PF.line)++[.string (bs l[k].n),.int .i64 (l[k].d.length:Int),.int .u32 (za5 l[k].d)] by
    rw[List.take_succ_eq_append_getElem hlt,List.map_append,zdr];rfl)
   have hdl:=(HE.out l[k] (List.getElem_mem _)).2
   have KK:=hid (show k+1≤l.length by omega)
   have x1:(0:Int)≤k:=by omega
   have x2:(k:Int).toNat=k:=by omega
   generalize l[k]=x at d0 d1 NX hdl
   have d1:=zao d1
   have hsz:(bs x.d).size=x.d.length:=zae _
   have SM:=hid (fun w'=>zhc (bs x.d) w' (by rw[zae];omega))
   simp only[zai] at SM
   have HSZ:=hid bel.size
   have HO:=hid hown
   have HN1:Hid (k+1≤maxLen):=by show _≤_;unfold maxLen;omega
   have HN2:Hid ((k+1) * 32≤140737488355328):=by show _≤_;omega
   obtain⟨va,vc,rfl⟩:=zab hown
   have BA:=hid (bel.alloc bel.size (.cells #[.string (bs x.n),.string (bs x.d)] 126))
   have HOA:=hid (HO.out.alloc (.cells #[.string (bs x.n),.string (bs x.d)] 126))
   clear hown
   go_wp2_with fail
   have q0:(wr.alloc (.cells #[.string (bs x.n),.string (bs x.d)] 126)).cell? ⟨wr.heap.size,0,none⟩=some (.string (bs x.n)):=by simp
   have q1:(wr.alloc (.cells #[.string (bs x.n),.string (bs x.d)] 126)).cell? ⟨wr.heap.size,1,none⟩=some (.string (bs x.d)):=by simp
   have hws:wr.heap.size<(wr.alloc (.cells #[.string (bs x.n),.string (bs x.d)] 126)).heap.size:=by simp
   generalize wr.alloc (.cells #[.string (bs x.n),.string (bs x.d)] 126)=W0 at *
   have HN3:=hid (fun(o:Obj)=>show w.heap.size≤((W0.alloc o).drew).heap.size by have:=BA.out.size;simp;omega)
   go_region_law (first|(refine za7 rfl (.tmp 19) (.tmp 29) 169 rfl w.heap.size 173 i0 _ 3 32 Tryz.underlying169 hi hz0 hz1 hz2 rfl (by decide) (.slice va k vc) k _ rfl (HOA.out.alloc _).drew ⟨W0.heap.size,0,none⟩ 1 1 [.string (bs x.n),.int .i64 (x.d.length:Int),.int .u32 (za5 x.d)] rfl rfl (zd0 (heap_alloc_new _ _)) (fun u hu=>by simp at hu;rcases hu with rfl|rfl|rfl<;>rfl) HN1.out HN2.out (HN3.out _) ?_;intro v' w5 hown5 hgrow _;have HO5:=hid hown5;have HG5:=hid (zbu hgrow))|(go_simp;go_at_call 114;refine(SM.out _).mono ?_;rintro e w'⟨rfl,rfl⟩))
   all_goals
    go_wp2_with fail
    go_roundw
    case rel=>exact⟨k+1,by go_num,KK.out,by rw[NX.out];exact HO5.out,(BA.out.alloc BA.out.size _).grown HG5.out (by have:=BA.out.size;simp;omega) (fun j hj=>(HO.out.lt j hj).1)⟩
    case measure=>simp[intOf];omega
  ·have hltI:¬(k:Int)<l.length:=by omega
   have HEQ:=hid (show l.take k=l from List.take_of_length_le (by omega))
   obtain rfl:k=l.length:=by omega
   rw[HEQ.out] at hown
   go_wp2_with fail
   go_ret2
   exact⟨_,rfl,hown,bel⟩
def zdq(l:List PL):List UInt8:=l.flatMap fun x=>(num x.n.length++x.n)++num x.N.toNat++num x.S
theorem zov:zdq []=[]:=rfl
theorem zqv(a b:List PL):zdq (a++b)=zdq a++zdq b:=by simp[zdq]
theorem yan(x:PL):zdq [x]=(num x.n.length++x.n)++num x.N.toNat++num x.S:=by simp[zdq]
theorem zm7(x:PL)(l:List PL):zdq (x::l)=(num x.n.length++x.n)++num x.N.toNat++num x.S++zdq l:=by simp[zdq]
theorem zow(l:List PL)(h:∀x∈l,x.n.length≤12):(zdq l).length≤40 * l.length:=by
 induction l with
 | nil=>simp[zdq]
 | cons x l ih=>
  rw[zm7]
  have:=zar x.n.length
  have:=zar x.N.toNat
  have:=zar x.S
  have:=h x (by simp)
  have:=ih (fun y hy=>h y (List.mem_cons_of_mem _ hy))
  simp only[List.length_append,List.length_cons]
  omega
def zey(l:List PL):List UInt8:=num l.length++zdq l
theorem znk(l:List PL):zey l=num l.length++zdq l:=rfl
attribute [irreducible] zdq zey
theorem ya3(E:Nat→Addr)(l:List PL)(v:Value)(w:World)(hl:SliceIs w v 3 (zau l))(hS:∀b∈l,b.S<4294967296)(hB:Has E w 2)(hN:Has E w 5)(hF:Has E w 8)(hO:Has E w 9)
  (hok:LWF l) :
  Calls Tryz.prog 217 #[v] w fun e w'=>e=.returned (.tuple #[.string (bs (zey l)),.nilIface])∧Below w.heap.size w w':=by
 have hfew:=hok.few
 have HEA:=hid (fun(x:PL)(hx:x∈l)=>(show zbc x.n=true∧0≤x.N∧x.N≤4000∧x.n.length≤12 from have h:=hok.each x hx;⟨h.1,h.2.1,h.2.2,((zbi _).1 h.1).2.1⟩))
 have CH:=zgz E l v w hl (fun x hx=>by have:=(HEA.out x hx).2.2.2;unfold maxLen;omega) (by omega) hB hN hF hO
 rw[(zd6 l).2 hok] at CH
 obtain⟨s0,n0,c0,rfl,hn,h1,h2,hg⟩:=hl.get
 rw[zcf] at hn
 obtain rfl:n0=l.length:=by omega
 unfold maxLen at h2
 have HLS:=hid hl
 have HB:=hid hB
 have HCH:=hid CH
 have HSS:=hid hS
 have HST:=hid (znk l)
 have hfin:=zeb
 have HFIN:=hid hfin
 have HEZ:=hid (zaj E)
 clear hfin hl hB hN hF hO CH hS hok hg
 go_enter Tryz.func217,Tryz.ntmps217
 go_wp2_with fail
 refine HCH.out.mono ?_
 rintro e w1⟨v,rfl,fe,b1⟩
 rw[fe.zero]
 clear fe
 go_wp2_with fail
 have W0:=WAt.new E w1
 have bA:=b1.alloc b1.size (.cells #[.slice none 0 0,.nilIface] 305)
 have hb:w.heap.size≤w1.heap.size:=b1.size
 generalize w1.alloc (.cells #[.slice none 0 0,.nilIface] 305)=w2 at W0 bA ⊢
 generalize w1.heap.size=b at W0 hb ⊢
 clear b1
 refine(zdd E b _ _ _ (by simp) W0 (HB.out.below bA) (by omega) (by omega)).mono ?_
 rintro e w4⟨rfl,W4,K4⟩
 have b4:=K4.old bA hb W0.lt
 clear K4 bA W0
 go_wp2_with fail
 go_loopw [21,7] (fun i _ wr=>∃k:Nat,i=.int .i64 k∧k≤l.length∧WAt E wr b (num l.length++zdq (l.take k)) 0∧Below w.heap.size w wr) (fun i _ _=>l.length - (intOf i).toNat)
 case atStart=>exact⟨0,rfl,by omega,by simpa [zov] using W4,b4⟩
 case round=>
  clear W4 b4
  obtain⟨k,rfl,hk,W,bel⟩:=hrel
  by_cases hlt:k<l.length
  ·have hltI:(k:Int)<l.length:=by omega
   obtain⟨s0',n0',c0',e1,_,_,_,g1⟩:=(HLS.out.below bel).get
   cases e1
   obtain⟨g2,g3,g4⟩:=zd8 l k hlt
   obtain⟨ad,rfl,d0⟩:=g1 _ _ g2
   obtain⟨a',e',d1⟩:=g1 _ _ g3
   cases e'
   obtain⟨a',e',d2⟩:=g1 _ _ g4
   cases e'
   clear g1 g2 g3 g4
   have KK:=hid (show k+1≤l.length by omega)
   have x1:(0:Int)≤k:=by omega
   have x2:(k:Int).toNat=k:=by omega
   have hea:=HEA.out _ (List.getElem_mem hlt)
   have hs:=HSS.out _ (List.getElem_mem hlt)
   have htk:=hid (List.take_succ_eq_append_getElem hlt)
   have hlen:=zow (l.take k) (fun x hx=>(HEA.out x (List.mem_of_mem_take hx)).2.2.2)
   have hlen2:(l.take k).length≤4000:=by simp;omega
   have hn2:=zar l.length
   generalize l[k]'hlt=bk at d0 d1 d2 hea hs htk
   obtain⟨bn,bN,bS⟩:=bk
   have d1:=zao d1
   have d2:=zao d2
   simp only[] at d0 d1 d2 hea hs
   obtain⟨y1,y2,y3,y4⟩:=hea
   have hn3:=zar bn.length
   have hn4:=zar bN.toNat
   have hsz:(bs bn).size=bn.length:=zae _
   have hgb:b<wr.heap.size:=W.lt
   have W1:=W.below (zaf wr (.cells #[.string (bs bn),.int .i64 bN,.int .u32 bS] 173))
   have bel1:=bel.alloc bel.size (.cells #[.string (bs bn),.int .i64 bN,.int .u32 bS] 173)
   have G1:(wr.alloc (.cells #[.string (bs bn),.int .i64 bN,.int .u32 bS] 173)).heap[wr.heap.size]?=some (.cells #[.string (bs bn),.int .i64 bN,.int .u32 bS] 173 (0,0)):=heap_alloc_new _ _
   go_wp2_with fail
   generalize wr.alloc (.cells #[.string (bs bn),.int .i64 bN,.int .u32 bS] 173)=v1 at W1 bel1 G1 ⊢
   generalize wr.heap.size=g at G1 hgb ⊢
   clear W bel
   refine(zgo E b _ _ _ (by simp only[List.length_append];omega) W1 (HB.out.below bel1) (by omega)).mono ?_
   rintro e v2⟨rfl,W2,K2⟩
   rw[zae,zai] at W2
   have bel2:=K2.old bel1 hb W1.lt
   have G2:=K2.obj G1 (by omega) (by decide)
   clear K2 bel1 W1 G1
   have f1:v2.cell? ⟨g,1,none⟩=some (.int .i64 bN):=by simp[World.cell?,G2]
   go_wp2_with fail
   refine(zdd E b _ _ _ (by simp only[List.length_append];omega) W2 (HB.out.below bel2) (by omega) (by omega)).mono ?_
   rintro e v3⟨rfl,W3,K3⟩
   have bel3:=K3.old bel2 hb W2.lt
   have G3:=K3.obj G2 (by omega) (by decide)
   clear K3 bel2 W2 G2
   have f2:v3.cell? ⟨g,2,none⟩=some (.int .u32 bS):=by simp[World.cell?,G3]
   go_wp2_with fail
   refine(zdd E b _ _ _ (by simp only[List.length_append];omega) W3 (HB.out.below bel3) (by omega) (by omega)).mono ?_
   rintro e v4⟨rfl,W4,K4⟩
   have bel4:=K4.old bel3 hb W3.lt
   clear K4 bel3 W3 G3
   go_wp2_with fail
   go_roundw
   case rel=>exact⟨k+1,by go_num,KK.out,by rw[htk.out,zqv,yan];simpa [List.append_assoc] using W4,bel4⟩
   case measure=>simp[intOf];omega
  ·have hltI:¬(k:Int)<l.length:=by omega
   have htk:l.take k=l:=List.take_of_length_le (by omega)
   rw[htk,←HST.out] at W
   have D:=zf4 E b _ 0 wr (fun _=>by rw[HST.out];have:=zkp l.length;simp;omega) W
   rw[HFIN.out,HEZ.out] at D
   have HD:=hid D
   clear D htk W
   go_wp2_with fail
   refine HD.out.mono ?_
   rintro e w9⟨rfl,b9⟩
   go_wp2_with fail
   go_ret2
   exact⟨rfl,zaa bel (b9.below _)⟩
end Go.Proofs.YtakhkcaihhpehaaGreatDoor
