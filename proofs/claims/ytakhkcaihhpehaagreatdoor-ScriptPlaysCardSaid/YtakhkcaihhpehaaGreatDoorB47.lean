/- Texts of one proof, one behind the other: RefDelta. -/
import Derived.Test.YtakhkcaihhpehaaGreatDoorB26
import Derived.Test.YtakhkcaihhpehaaGreatDoorB13
import Derived.Test.YtakhkcaihhpehaaGreatDoorB27
namespace Go.Proofs.YtakhkcaihhpehaaGreatDoor
open Go.RowKit
open Lib (hid)
set_option linter.unusedVariables false
set_option maxRecDepth 100000
set_option maxHeartbeats 51200000
theorem zup(L:List UInt8)(i k e:Nat)(h:e=i+k∧e≤L.length∨e=L.length∧L.length≤i+k):(bs L).extract i e=bs ((L.drop i).take k):=by
 apply zg0
 rcases h with⟨h,_⟩|⟨h,h'⟩
 ·subst h;simp
 ·subst h
  simp
  omega
theorem zmt{w:World}{base:Nat}{v:Value}{m:List POp}{o:POp}(h:w.ownsRow base 104 4 v (m.length+1) (za3 (m++[o]))):∃g cap,v=.slice (some ⟨g,0,none⟩) (m.length+1) cap∧base≤g∧m.length+1≤cap∧cap≤maxLen∧w.cell? ⟨g,m.length * 4,none⟩=some (.string (bs o.kind))∧w.cell? ⟨g,m.length * 4+1,none⟩=some (.int .i64 o.a)∧
  w.cell? ⟨g,m.length * 4+2,none⟩=some (.int .i64 o.n)∧w.cell? ⟨g,m.length * 4+3,none⟩=some (.string (bs o.data))∧(∀j,w.frozen? ⟨g,j,none⟩=false):=by
 obtain⟨g,cap,hv,hg,_,h3,h4,hc,hf⟩:=zgc h (by simp)
 obtain⟨g0,g1,g2,g3⟩:=zh8 (m++[o]) m.length (by simp)
 simp only[List.getElem_append_right (Nat.le_refl _),Nat.sub_self,List.getElem_singleton] at g0 g1 g2 g3
 exact⟨g,cap,hv,by omega,by simpa using h3,h4,hc _ _ g0,hc _ _ g1,hc _ _ g2,hc _ _ g3,hf⟩
theorem zor{w:World}{base g cap:Nat}{m:List POp}{o p:POp}(j:Nat)(u:Value)(h:w.ownsRow base 104 4 (.slice (some ⟨g,0,none⟩) (m.length+1) cap) (m.length+1) (za3 (m++[o])))(hj:j<4)(hp:o.vals.set j u=p.vals):
  (w.setCell ⟨g,m.length * 4+j,none⟩ u).ownsRow base 104 4 (.slice (some ⟨g,0,none⟩) (m.length+1) cap) (m.length+1) (za3 (m++[p])):=by
 have hs:=h.stored (m.length * 4+j) u
 have hc:(za3 (m++[o])).set (m.length * 4+j) u=za3 (m++[p]):=by
  rw[zcl,zcl,zdi,zdi,List.set_append_right _ _ (by rw[zgd];omega),zgd,Nat.add_sub_cancel_left,hp]
 rw[←hc];exact hs.1
theorem yhh{l:List Blk}{size:Int}(h:(chk l size).1=0):chk l size=(0,-1):=by
 have hA:∀(l:List Blk)(i:Nat)(all:Int),(zlw size l i all).1=0→zlw size l i all=(0,-1):=by
  intro l
  induction l with
  | nil=>intro i all _;rw[zlw]
  | cons b l ih=>
   intro i all h
   rw[zlw] at h ⊢
   split
   ·rename_i hb;rw[if_pos hb] at h;simp at h
   ·rename_i hb
    rw[if_neg hb] at h
    split
    ·rename_i hf;rw[if_pos hf] at h;simp at h
    ·rename_i hf;rw[if_neg hf] at h;exact ih _ _ h
 by_cases hs:1≤size∧size≤64
 ·rw[znu hs] at h ⊢;exact hA _ _ _ h
 ·rw[zyr hs] at h;simp at h
theorem zg8{ops:Array Oper}{rest:List Oper}{o:Oper}{a:Act}{Q:Exit→Act→World→Prop}{n:Nat}{W wr:World}{X:Obj}{V:Array Value}{m:List POp}{v:Value}{q:POp}(hgd:o.guard=none)(s x:Operand)(ho:o.op=.call {callee:=.builtin .append,args:=#[s,x],argTypes:=#[98,98]})(hs:a.eval s=v)(hown:wr.ownsRow W.heap.size 104 4 v n (za3 m))(hn:n=m.length)(bel:Below W.heap.size W wr)(hm:n≤10000000)(hV:V.toList=q.vals)(hx:a.eval x=.slice (some ⟨wr.heap.size+1,0,none⟩) 1 1)
  (h:∀v' w',w'.ownsRow W.heap.size 104 4 v' (m++[q]).length (za3 (m++[q]))→Below W.heap.size W w'→wpList Tryz.prog ops Q rest (a.put o.dst v') w'):wpList Tryz.prog ops Q (o::rest) a ((wr.alloc X).alloc (.cells V 104)):=by
 obtain⟨i0,hi,hz0,hz1,hz2⟩:=info_parts zng
 subst hn
 have hb:=bel.size
 have e:(wr.alloc X).heap.size=wr.heap.size+1:=by simp
 have hh:=heap_alloc_new (wr.alloc X) (.cells V 104)
 rw[e] at hh
 have hV':V=q.vals.toArray:=by rw[←hV]
 subst hV'
 refine wpList_append_own _ hgd s x 98 ho W.heap.size 104 i0 _ 4 48 Tryz.underlying98 hi hz0 hz1 hz2 rfl (by decide) v m.length (za3 m) hs ((hown.alloc X).alloc _) ⟨wr.heap.size+1,0,none⟩ 1 1 q.vals hx rfl (zfp hh) (fun u hu=>by simp[POp.vals] at hu;rcases hu with rfl|rfl|rfl|rfl<;>rfl) (by unfold maxLen;omega) (by omega) (by simp;omega) ?_
 intro v' w5 ho5 hg _
 refine h v' w5 (by rw[zcl,zdi,List.length_append];exact ho5) (((bel.alloc hb X).alloc (by simp;omega) _).grown hg (by simp;omega) (fun j hj=>(hown.lt j hj).1))
theorem zzt(s0:Option Addr)(n0 c0:Nat)(l:List Blk)(z:Nat)(S:List UInt8)(w:World)(hl:SliceIs w (.slice s0 n0 c0) 3 (zba l))(hck:(chk l (z:Int)).1=0)(hS:S.length≤4000):
  Calls Tryz.prog 41 #[.slice s0 n0 c0,.int .i64 z,.string (bs S)] w fun e w'=>∃v,e=.returned (.tuple #[v,.agg #[.int .i64 0,.int .i64 (-1)]])∧w'.ownsRow w.heap.size 104 4 v (zc1 l z S).length (za3 (zc1 l z S))∧Below w.heap.size w w':=by
 obtain⟨i0,hi,hz0,hz1,hz2⟩:=info_parts zng
 obtain⟨k1,k2,k3,k4⟩:=zyq hck
 have HB0:=hid (zb0 w (.cells #[.int .i64 0,.int .i64 0] 64))
 have hfz:(w.alloc (.cells #[.int .i64 0,.int .i64 0] 64)).heap[w.heap.size]?=some (.cells #[.int .i64 0,.int .i64 0] 64 (0,0)):=heap_alloc_new _ _
 have HZ:=hid hfz
 have RS:=yno s0 n0 c0 l (z:Int) _ (hl.below HB0.out)
 have hcp:chk l (z:Int)=(0,-1):=yhh hck
 rw[zdz,hcp] at RS
 simp only[] at RS
 rw[show((0:Nat):Int)=0 from rfl] at RS
 have hSI:¬(4000:Int)<S.length:=by omega
 have HLS:=hid (hl.below HB0.out)
 have HMK:Hid (zc1 l z S=mkA l z S.length (S.drop 0) []):=by show _=_;unfold zc1;simp
 have HK3:=hid k3
 have HRS:=hid RS
 have HCK:=hid hck
 clear hl hfz RS hck k4
 go_enter Tryz.func41,Tryz.ntmps41
 go_wp2_with fail
 refine HRS.out.mono ?_
 rintro e wf⟨rfl,bf⟩
 have hzf:=(bf.block w.heap.size (lt_of_block HZ.out)).trans HZ.out
 have bf0:=zaa HB0.out bf
 have HLF:=hid (HLS.out.below bf)
 have bg:=zb0 wf (.cells #[.int .i64 (0:Int),.int .i64 (-1)] 64)
 have hzg:=(bg.block w.heap.size (lt_of_block hzf)).trans hzf
 have bg0:=zaa bf0 bg
 have HLG:=hid (HLF.out.below bg)
 go_wp2_with fail
 generalize wf.alloc (.cells #[.int .i64 (0:Int),.int .i64 (-1)] 64)=wg at *
 have HZG:=hid hzg
 have BG0:=hid bg0
 clear hzf bf0 HLF bg hzg bg0 bf HLS HRS
 go_loopw [9,10,11,12,13,14] (fun o t _ _ _ _ wr=>∃(p f:Nat)(out:List POp),t=.int .i64 p∧p≤S.length∧S.length≤f+p∧zc1 l z S=mkA l z f (S.drop p) out∧OkOut out p∧wr.ownsRow wg.heap.size 104 4 o out.length (za3 out)∧Below wg.heap.size wg wr) (fun _ t _ _ _ _ _=>S.length - (intOf t).toNat)
 case atStart=>exact⟨0,S.length,[],rfl,by omega,by omega,HMK.out,OkOut.nil 0,by rw[zfc];exact World.ownsRow_nil _ _ _ _,Below.refl _ _⟩
 case round=>
  obtain⟨p,f,out,rfl,hp,hf,hmk,hok,hown,bel⟩:=hrel
  have HMKA:=hid hmk
  have HOK:=hid hok
  clear hmk hok
  by_cases hlt:p<S.length
  ·have hltI:(p:Int)<S.length:=by omega
   obtain⟨f',rfl⟩:∃f',f=f'+1:=⟨f - 1,by omega⟩
   have hne:S.drop p≠[]:=by intro h;have:=congrArg List.length h;simp at this;omega
   have FO:=ydb s0 n0 c0 l (bs ((S.drop p).take z)) wr (by rw[zae,List.length_take];omega) (HLG.out.below bel)
   rw[zai] at FO
   have hbd:=zlr l (blk ((S.drop p).take z))
   have CP:=hid (fun h=>HMKA.out.trans (zjy (l:=l) (size:=z) (f:=f') (out:=out) hne h))
   have DT:=hid (fun h=>HMKA.out.trans (zjx (l:=l) (size:=z) (f:=f') (out:=out) hne h))
   have hx1:p+z≤S.length→(bs S).extract p (p+z)=bs ((S.drop p).take z):=fun h=>zup S p z (p+z) (.inl ⟨rfl,h⟩)
   have hx2:¬p+z≤S.length→(bs S).extract p S.length=bs ((S.drop p).take z):=fun h=>zup S p z S.length (.inr ⟨rfl,by omega⟩)
   have hx3:(bs S).extract p (p+1)=bs ((S.drop p).take 1):=zup S p 1 (p+1) (.inl ⟨rfl,by omega⟩)
   have hd1:((S.drop p).take 1).length=1:=by rw[List.length_take,List.length_drop];omega
   have HFO:=hid FO
   have HX1:=hid hx1
   have HX2:=hid hx2
   have HX3:=hid hx3
   have HD1:=hid hd1
   generalize zeo l (blk ((S.drop p).take z))=kk at *
   have y1:(p:Int).toNat=p:=by omega
   have y2:((p:Int)+(z:Int)).toNat=p+z:=by omega
   have y3:(0:Int)≤p:=by omega
   clear FO hx1 hx2 hx3 hne hd1
   have TW:(∃q,Hid (q=p+z)∧¬(S.length:Int)<(p:Int)+z∧(p:Int)≤(p:Int)+(z:Int)∧(p:Int)+(z:Int)≤S.length∧(bs S).extract p (p+z)=bs ((S.drop p).take z)∧Hid ((S.drop p).drop z=S.drop q)∧p+1≤q∧Hid (q≤S.length)∧Hid (S.length≤f'+q))∨(∃q,Hid (q=S.length)∧(S.length:Int)<(p:Int)+z∧(p:Int)≤(S.length:Int)∧((S.length:Int)).toNat=S.length∧(bs S).extract p S.length=bs ((S.drop p).take z)∧Hid ((S.drop p).drop z=S.drop q)∧p+1≤q∧Hid (q≤S.length)∧Hid (S.length≤f'+q)):=by
    by_cases hto:p+z≤S.length
    ·exact .inl ⟨p+z,hid rfl,by omega,by omega,by omega,HX1.out hto,hid (by rw[List.drop_drop]),by omega,hid hto,hid (by omega)⟩
    ·exact .inr ⟨S.length,hid rfl,by omega,by omega,by omega,HX2.out hto,hid (by rw[List.drop_drop,List.drop_eq_nil_of_le (by omega),List.drop_eq_nil_of_le (by omega)]),by omega,hid (Nat.le_refl _),hid (by omega)⟩
   rcases TW with⟨q,HE,htoI,y5,y6,hex,HD2,hq3,hq1,hq2⟩|⟨q,HE,htoI,y5,y6,hex,HD2,hq3,hq1,hq2⟩
   all_goals
    rcases zd1 out with rfl|⟨m,oo,rfl⟩
    ·obtain⟨A,cap,rfl⟩:=zab hown
     go_wp2_with fail
     refine HFO.out.mono ?_
     rintro e wq⟨rfl,rfl⟩
     by_cases hk:0≤kk
     ·have hmk:=CP.out (by omega)
      rw[zeg] at hmk
      have HMK2:=hid hmk
      have HOK2:=hid (zeg kk▸(HOK.out.copy (k:=kk) ⟨by omega,by omega⟩).mono (j:=q) (by omega))
      clear hmk
      go_wp2_with (at_builtin;refine zg8 rfl _ _ rfl rfl hown (by simp) bel (by first|omega|simp) (q:=⟨zbz,kk,1,[]⟩) (zik _).symm rfl ?_;intro v' w5 hown' bel5)
      go_roundw
      case rel=>exact⟨q,f',_,by rw[HE.out];try go_num,hq1.out,hq2.out,by rw[←HD2.out];exact HMK2.out,HOK2.out,hown',bel5⟩
      case measure=>simp[intOf];omega
     ·have hmk:=DT.out (by omega)
      rw[zee] at hmk
      have hx:=HX3.out
      have hOK:=(HOK.out.data (d:=(S.drop p).take 1) HD1.out)
      rw[zee] at hOK
      generalize (S.drop p).take 1=d at *
      have HMK2:=hid hmk
      have HOK2:=hid hOK
      clear hmk hOK
      have z1:((p:Int)+1).toNat=p+1:=by omega
      have z2:(p:Int)≤(p:Int)+1:=by omega
      have z3:(p:Int)+1≤S.length:=by omega
      go_wp2_with (at_builtin;refine zg8 rfl _ _ rfl rfl hown (by simp) bel (by first|omega|simp) (q:=⟨zcg,0,0,d⟩) (zlt _).symm rfl ?_;intro v' w5 hown' bel5)
      go_roundw
      case rel=>exact⟨p+1,f',_,by go_num,by omega,by omega,by rw[←List.drop_drop];exact HMK2.out,HOK2.out,hown',bel5⟩
      case measure=>simp[intOf];omega
    ·obtain⟨hol,hob⟩:=HOK.out.bounds (by omega)
     have hlen:(m++[oo]).length=m.length+1:=by simp
     rw[hlen] at hown hol
     obtain⟨b1,b2,b3,b4,b5⟩:=hob oo (by simp)
     obtain⟨g,cap,rfl,hg,hc1,hc2,d0,d1,d2,d3,df⟩:=zmt hown
     clear hob hlen d0 d1 d2 d3 df
     obtain⟨g',cap',hgg,_,_,_,d0,d1,d2,d3,df⟩:=zmt (hown.alloc (.cells #[.string ⟨#[]⟩,.int .i64 0,.int .i64 0,.string ⟨#[]⟩] 104))
     cases hgg
     unfold maxLen at hc2
     obtain⟨K,a,n,D⟩:=oo
     obtain⟨g',cap',hgg,_,_,_,_,_,_,_,df⟩:=zmt (hown.alloc (.cells #[.string (bs K),.int .i64 a,.int .i64 n,.string (bs D)] 104))
     cases hgg
     have f2:=df (m.length * 4+2)
     have f3:=df (m.length * 4+3)
     clear df
     simp only[] at b1 b2 b3 b4 b5 d0 d1 d2 d3
     go_wp2_with fail
     refine HFO.out.mono ?_
     rintro e wq⟨rfl,rfl⟩
     by_cases hk:0≤kk
     ·by_cases hkk:K=zbz
      ·have k1:=zc3 K [99,111,112,121] (by rw[hkk,ze3])
       by_cases hak:a+n=kk
       ·have q1:(a+n==kk)=true:=by simp[hak]
        have hac:=zet m ⟨K,a,n,D⟩ kk ⟨hkk,hak⟩
        have hmk:=CP.out (by omega)
        rw[hac] at hmk
        have HMK2:=hid hmk
        have HOK2:=hid (hac▸(HOK.out.copy (k:=kk) ⟨by omega,by omega⟩).mono (j:=q) (by omega))
        clear hmk hac hkk hak
        have OWN1:=hid (hown.alloc (.cells #[.string (bs K),.int .i64 a,.int .i64 n,.string (bs D)] 104))
        have BEL1:=hid (bel.alloc bel.size (.cells #[.string (bs K),.int .i64 a,.int .i64 n,.string (bs D)] 104))
        clear hown
        go_wp2_with fail
        have hown':=zor (p:=⟨K,a,n+1,D⟩) 2 (.int .i64 (n+1)) OWN1.out (by decide) rfl
        have bel5:=BEL1.out.setCell (p:=⟨g,m.length * 4+2,none⟩) hg (.int .i64 (n+1))
        go_roundw
        case rel=>exact⟨q,f',_,by rw[HE.out];try go_num,hq1.out,hq2.out,by rw[←HD2.out];exact HMK2.out,HOK2.out,by rw[show(m++[(⟨K,a,n+1,D⟩:POp)]).length=m.length+1 by simp];exact hown',bel5⟩
        case measure=>simp[intOf];omega
       ·have q1:(a+n==kk)=false:=by simp[hak]
        have hac:=zdg m ⟨K,a,n,D⟩ kk (fun h=>hak h.2)
        have hmk:=CP.out (by omega)
        rw[hac] at hmk
        have HMK2:=hid hmk
        have HOK2:=hid (hac▸(HOK.out.copy (k:=kk) ⟨by omega,by omega⟩).mono (j:=q) (by omega))
        clear hmk hac hkk
        go_wp2_with (at_builtin;refine zg8 rfl _ _ rfl rfl hown (by simp) bel (by first|omega|simp) (q:=⟨zbz,kk,1,[]⟩) (zik _).symm rfl ?_;intro v' w5 hown' bel5)
        go_roundw
        case rel=>exact⟨q,f',_,by rw[HE.out];try go_num,hq1.out,hq2.out,by rw[←HD2.out];exact HMK2.out,HOK2.out,hown',bel5⟩
        case measure=>simp[intOf];omega
      ·have k1:=zbj K [99,111,112,121] (by rw[←ze3];exact hkk)
       have hac:=zdg m ⟨K,a,n,D⟩ kk (fun h=>hkk h.1)
       have hmk:=CP.out (by omega)
       rw[hac] at hmk
       have HMK2:=hid hmk
       have HOK2:=hid (hac▸(HOK.out.copy (k:=kk) ⟨by omega,by omega⟩).mono (j:=q) (by omega))
       clear hmk hac hkk
       go_wp2_with (at_builtin;refine zg8 rfl _ _ rfl rfl hown (by simp) bel (by first|omega|simp) (q:=⟨zbz,kk,1,[]⟩) (zik _).symm rfl ?_;intro v' w5 hown' bel5)
       go_roundw
       case rel=>exact⟨q,f',_,by rw[HE.out];try go_num,hq1.out,hq2.out,by rw[←HD2.out];exact HMK2.out,HOK2.out,hown',bel5⟩
       case measure=>simp[intOf];omega
     ·have hmk:=DT.out (by omega)
      have hx:=HX3.out
      have hOK:=(HOK.out.data (d:=(S.drop p).take 1) HD1.out)
      have hd1:=HD1.out
      generalize (S.drop p).take 1=d at *
      have z1:((p:Int)+1).toNat=p+1:=by omega
      have z2:(p:Int)≤(p:Int)+1:=by omega
      have z3:(p:Int)+1≤S.length:=by omega
      by_cases hkk:K=zcg
      ·have k1:=zc3 K [100,97,116,97] (by rw[hkk,ze2])
       rw[zes m ⟨K,a,n,D⟩ d hkk] at hmk hOK
       have HMK2:=hid hmk
       have HOK2:=hid hOK
       have hcat:¬9223372036854775807<D.length+d.length:=by omega
       clear hmk hOK hkk
       have OWN1:=hid (hown.alloc (.cells #[.string (bs K),.int .i64 a,.int .i64 n,.string (bs D)] 104))
       have BEL1:=hid (bel.alloc bel.size (.cells #[.string (bs K),.int .i64 a,.int .i64 n,.string (bs D)] 104))
       clear hown
       have zw:IntKind.i64.wrap ((p:Int)+1)=(p:Int)+1:=IntWalk.i64_in _ (by omega)
       go_wp2_with fail
       go_region_with (fail)
       go_wp2_with fail
       have hown':=zor (p:=⟨K,a,n,D++d⟩) 3 (.string (bs D++bs d)) OWN1.out (by decide) (by rw[yrp];rfl)
       have bel5:=(BEL1.out.setCell (p:=⟨g,m.length * 4+3,none⟩) hg (.string (bs D++bs d))).drew
       go_roundw
       case rel=>exact⟨p+1,f',_,by go_num,by omega,by omega,by rw[←List.drop_drop];exact HMK2.out,HOK2.out,by rw[show(m++[(⟨K,a,n,D++d⟩:POp)]).length=m.length+1 by simp];exact hown',bel5⟩
       case measure=>simp[intOf];omega
      ·have k1:=zbj K [100,97,116,97] (by rw[←ze2];exact hkk)
       rw[zft m ⟨K,a,n,D⟩ d hkk] at hmk hOK
       have HMK2:=hid hmk
       have HOK2:=hid hOK
       clear hmk hOK hkk
       go_wp2_with (at_builtin;refine zg8 rfl _ _ rfl rfl hown (by simp) bel (by first|omega|simp) (q:=⟨zcg,0,0,d⟩) (zlt _).symm rfl ?_;intro v' w5 hown' bel5)
       go_roundw
       case rel=>exact⟨p+1,f',_,by go_num,by omega,by omega,by rw[←List.drop_drop];exact HMK2.out,HOK2.out,hown',bel5⟩
       case measure=>simp[intOf];omega
  ·have hltI:¬(p:Int)<S.length:=by omega
   have hEX:zc1 l z S=out:=by rw[HMKA.out,List.drop_eq_nil_of_le (by omega),zm2]
   have HEX:=hid hEX
   have hz1:=(bel.block w.heap.size (lt_of_block HZG.out)).trans HZG.out
   have HZR:=hid hz1
   have bel0:=zaa BG0.out bel
   have OWN:=hid hown
   have hwg:=BG0.out.size
   clear hEX hz1 bel hown
   go_wp2_with fail
   refine(zhg _).mono ?_
   rintro e w1⟨rfl,b1⟩
   have hz1:=(b1.block w.heap.size (lt_of_block HZR.out)).trans HZR.out
   have bx:=zaa bel0 b1
   have f0:w1.frozen? ⟨w.heap.size,0,none⟩=false:=by simp[World.frozen?,hz1]
   have f1:w1.frozen? ⟨w.heap.size,1,none⟩=false:=by simp[World.frozen?,hz1]
   have e0:w1.cell? ⟨w.heap.size,0,none⟩=some (.int .i64 0):=by simp[World.cell?,hz1]
   have e1:w1.cell? ⟨w.heap.size,1,none⟩=some (.int .i64 0):=by simp[World.cell?,hz1]
   obtain⟨r0,r1⟩:=zut hz1 (.int .i64 0) (.int .i64 (-1))
   have bb:=(bx.setCell (p:=⟨w.heap.size,0,none⟩) (Nat.le_refl _) (.int .i64 0)).setCell (p:=⟨w.heap.size,1,none⟩) (Nat.le_refl _) (.int .i64 (-1))
   have OW:=hid (ownsRow_setCell_below (ownsRow_setCell_below (zad OWN.out b1) (a:=⟨w.heap.size,0,none⟩) (by have:=BG0.out;have:=lt_of_block HZG.out;exact this) (.int .i64 0)) (a:=⟨w.heap.size,1,none⟩) (by have:=lt_of_block HZG.out;exact this) (.int .i64 (-1)))
   go_wp2_with fail
   generalize (w1.setCell ⟨w.heap.size,0,none⟩ (.int .i64 0)).setCell ⟨w.heap.size,1,none⟩ (.int .i64 (-1))=w2 at r0 r1 bb OW ⊢
   (try simp only[Exit.inBlock,Exit.then])
   refine bodyPost_ret (by simp[results,Tryz.results41,go_sem,r0,r1];try rfl) rfl ?_
   exact⟨_,rfl,by rw[HEX.out];exact zhj OW.out (Nat.le_of_lt (lt_of_block HZG.out)),bb⟩
end Go.Proofs.YtakhkcaihhpehaaGreatDoor
