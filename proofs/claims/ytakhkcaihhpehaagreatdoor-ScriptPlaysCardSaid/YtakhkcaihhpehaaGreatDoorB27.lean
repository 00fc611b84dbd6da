/- Texts of one proof, one behind the other: SubBs, RefSign2. -/
import Derived.Test.YtakhkcaihhpehaaGreatDoorB22
import Derived.Test.YtakhkcaihhpehaaGreatDoorB06
import Derived.Test.YtakhkcaihhpehaaGreatDoorB26
import Derived.Test.YtakhkcaihhpehaaGreatDoorB13
namespace Go.Proofs.YtakhkcaihhpehaaGreatDoor
open Go.RowKit
open Lib (hid)
set_option linter.unusedVariables false
set_option maxRecDepth 100000
set_option maxHeartbeats 51200000
theorem zrx(b:List UInt8)(i k:Nat):(bs b).extract i k=bs ((b.drop i).take (k - i)):=by
 apply zg0
 rw[Lib.extract_data,zai]
theorem yhn(b:List UInt8)(k:Nat)(h:k<(bs b).size):b[k]?=some ((bs b)[k]'h):=by
 have:=ymt (bs b) k h
 rwa [zai] at this
def zbw(l:List (List UInt8)):List Value:=l.map fun x=>Value.string (bs x)
theorem zcz(l:List (List UInt8))(x:List UInt8):zbw (l++[x])=zbw l++[Value.string (bs x)]:=by unfold zbw;simp
theorem ydb(s0:Option Addr)(n0 c0:Nat)(l:List Blk)(s:ByteArray)(w:World)(hs:s.size≤100000)(hl:SliceIs w (.slice s0 n0 c0) 3 (zba l)):
  Calls Tryz.prog 61 #[.slice s0 n0 c0,.string s] w fun e w'=>e=.returned (.int .i64 (zeo l (blk s.data.toList)))∧w=w':=by
 have hlen:l.length=n0∧c0≤maxLen∧n0≤c0:=by
  obtain⟨s0',n0',c0',e1,e2,e3,e4,_⟩:=hl.get
  cases e1
  rw[zfg] at e2
  exact⟨by omega,e4,e3⟩
 obtain⟨rfl,hc0,hc1⟩:=hlen
 unfold maxLen at hc0
 have HLS:=hid hl
 clear hl
 have hwl:=ym8 s.data.toList
 obtain⟨hw0,hw1⟩:=hwl
 have hsl:s.data.toList.length=s.size:=by simp
 have hx:blk s.data.toList=⟨s.size,ws s.data.toList,za5 s.data.toList⟩:=by rw[zny,hsl]
 rw[hx]
 clear hx hsl
 have SO:=hid (fun w=>zhd s w (by omega))
 have WO:=hid (fun w=>zod s w hs)
 have hcl:=zdv s.data.toList
 have hcm:((za5 s.data.toList:Nat):Int) % 4294967296=(za5 s.data.toList:Nat):=by omega
 have HI:=hid (fun(e:zeo l ⟨s.size,ws s.data.toList,za5 s.data.toList⟩=zf0 (l.drop 0) ⟨s.size,ws s.data.toList,za5 s.data.toList⟩ 0)=>e)
 have HI2:Hid (zeo l ⟨s.size,ws s.data.toList,za5 s.data.toList⟩=zf0 (l.drop 0) ⟨s.size,ws s.data.toList,za5 s.data.toList⟩ 0):=hid rfl
 generalize ws s.data.toList=sw at *
 generalize za5 s.data.toList=sc at *
 clear HI
 go_enter Tryz.func61,Tryz.ntmps61
 go_wp2_with (first|(go_at_call 62;refine(WO.out _).mono ?_;rintro e w'⟨rfl,rfl⟩)|(go_at_call 39;refine(SO.out _).mono ?_;rintro e w'⟨rfl,rfl⟩))
 go_loop [7] (fun i=>∃k:Nat,i=.int .i64 k∧k≤l.length∧zeo l ⟨s.size,sw,sc⟩=zf0 (l.drop k) ⟨s.size,sw,sc⟩ k) (fun i=>l.length - (intOf i).toNat)
 case atStart=>exact⟨0,rfl,by omega,HI2.out⟩
 case round=>
  obtain⟨k,rfl,hk,hf⟩:=hrel
  have HF:=hid hf
  clear hf
  by_cases hlt:k<l.length
  ·have hltI:(k:Int)<l.length:=by omega
   obtain⟨s0',n0',c0',e1,_,_,_,g1⟩:=HLS.out.get
   cases e1
   obtain⟨g2,g3,g4⟩:=zgk l k hlt
   obtain⟨a,rfl,d0⟩:=g1 _ _ g2
   obtain⟨a',e',d1⟩:=g1 _ _ g3
   cases e'
   obtain⟨a',e',d2⟩:=g1 _ _ g4
   cases e'
   clear g1 g2 g3 g4
   have KK:=hid (show k+1≤l.length by omega)
   have HIT:=hid (zix l ⟨s.size,sw,sc⟩ k hlt)
   have MISS:=hid (zhs l ⟨s.size,sw,sc⟩ k hlt)
   have x1:(0:Int)≤k:=by omega
   have x2:(k:Int).toNat=k:=by omega
   generalize l[k]=b at d0 d1 d2 HIT MISS
   obtain⟨bn,bw,bS⟩:=b
   simp only[] at d0 d1 d2
   have d1:=zao d1
   have d2:=zao d2
   by_cases e0:bn=s.size
   ·subst e0
    by_cases e1:bw=sw
    ·subst e1
     by_cases e2:bS=sc
     ·subst e2
      go_wp2_with fail
      go_ret
      exact⟨zc0 (by rw[HF.out,HIT.out (by simp)]),rfl⟩
     ·have hb:((bS:Int)==((sc:Nat):Int))=false:=by simp;omega
      have M:=hid (MISS.out (by intro h;cases h;exact e2 rfl))
      clear e2
      go_wp2_with fail
      go_round
      case rel=>exact⟨k+1,by go_num,KK.out,by rw[HF.out,M.out]⟩
      case measure=>simp[intOf];omega
    ·have hb:(bw==sw)=false:=by simp[e1]
     have M:=hid (MISS.out (by intro h;cases h;exact e1 rfl))
     clear e1
     go_wp2_with fail
     go_round
     case rel=>exact⟨k+1,by go_num,KK.out,by rw[HF.out,M.out]⟩
     case measure=>simp[intOf];omega
   ·have hb:(bn==(s.size:Int))=false:=by simp[e0]
    have M:=hid (MISS.out (by intro h;cases h;exact e0 rfl))
    clear e0
    go_wp2_with fail
    go_round
    case rel=>exact⟨k+1,by go_num,KK.out,by rw[HF.out,M.out]⟩
    case measure=>simp[intOf];omega
  ·have hltI:¬(k:Int)<l.length:=by omega
   have hend:=hid (zj8 l ⟨s.size,sw,sc⟩ k (by omega))
   go_wp2_with fail
   go_ret
   exact⟨zc0 (by rw[HF.out,hend.out]),rfl⟩
theorem ycg(s:ByteArray)(i k e:Nat)(hk:e=i+k):s.extract i e=bs ((s.data.toList.drop i).take k):=by
 apply zg0
 subst hk
 simp
theorem zu0(s:ByteArray)(size:Nat)(w:World)(hs:s.size≤4000)(h1:1≤size)(h2:size≤64):
  Calls Tryz.prog 42 #[.string s,.int .i64 size] w fun e w'=>∃v,e=.returned v∧w'.ownsRow w.heap.size 138 3 v (zeu size s.data.toList).length (zba (zeu size s.data.toList))∧Below w.heap.size w w':=by
 obtain⟨i0,hi,hz0,hz1,hz2⟩:=info_parts zqy
 have SUB:=fun i k e hk=>ycg s i k e hk
 obtain⟨L,hL⟩:∃L,L=s.data.toList:=⟨_,rfl⟩
 rw[←hL] at SUB ⊢
 have hlen:L.length=s.size:=by rw[hL];simp
 have HL:=hid hlen
 have HSUB:=hid SUB
 clear hL hlen SUB
 go_enter Tryz.func42,Tryz.ntmps42
 go_wp2_with fail
 go_loopw [5,6,7,8] (fun out t _ _ wr=>∃j:Nat,t=.int .i64 (j * size:Nat)∧j * size<s.size+size∧wr.ownsRow w.heap.size 138 3 out j (zba (zf2 size L j))∧Below w.heap.size w wr) (fun _ t _ _ _=>s.size+size - (intOf t).toNat)
 case atStart=>exact⟨0,by simp,by omega,by rw[zpl,zgj];exact World.ownsRow_nil _ _ _ _,Below.refl _ _⟩
 case round=>
  obtain⟨j,rfl,hj,hown,bel⟩:=hrel
  obtain⟨R,hR⟩:∃R,R=(L.drop (j * size)).take size:=⟨_,rfl⟩
  have hRl:R.length≤size:=by rw[hR];simp;omega
  have hsu:zf2 size L (j+1)=zf2 size L j++[blk R]:=by rw[zpm,hR]
  have hjm:(j+1) * size=j * size+size:=by rw[Nat.add_mul];omega
  have hjl:j≤j * size:=Nat.le_mul_of_pos_right _ (by omega)
  have hend:¬j * size<s.size→zc8 size L.length=j:=fun h=>ymw (by rw[HL.out];omega) (by rw[HL.out];omega)
  have EX1:j * size+size≤s.size→s.extract (j * size) (j * size+size)=bs R:=fun h=>by rw[HSUB.out _ size _ rfl,←hR]
  have EX2:¬j * size+size≤s.size→j * size<s.size→s.extract (j * size) s.size=bs R:=fun h h'=>by
   rw[HSUB.out _ (s.size - j * size) _ (by omega),hR]
   congr 1
   rw[List.take_of_length_le (by rw[List.length_drop,HL.out];omega),List.take_of_length_le (by rw[List.length_drop,HL.out];omega)]
  have hrel:∀w2 v v',wr.ownsRow w.heap.size 138 3 v j (zba (zf2 size L j))→w2.ownsRow w.heap.size 138 3 v' (j+1) (zba (zf2 size L j)++(blk R).cells)→
    (wr.alloc (.cells #[.int .i64 R.length,.int .i64 (ws R),.int .u32 (za5 R)] 138)).grownBy w2 v.ownBlock→
    w2.ownsRow w.heap.size 138 3 v' (j+1) (zba (zf2 size L (j+1)))∧Below w.heap.size w w2:=by
   intro w2 v v' h0 h1 hg
   refine⟨by rw[hsu,zdx,zdl];exact h1,(bel.alloc bel.size _).grown hg (Nat.le_trans bel.size (by simp)) (fun k hk=>(h0.lt k hk).1)⟩
  have hcells:(blk R).cells=[.int .i64 R.length,.int .i64 (ws R),.int .u32 (za5 R)]:=by rw[zny];rfl
  have hJM:Hid ((j+1) * size=j * size+size):=hid hjm
  generalize j * size=m at *
  have HEND:=hid hend
  have HREL:=hid hrel
  have HCELLS:=hid hcells
  have WO:=hid (fun w'=>zod (bs R) w' (by rw[zae];omega))
  have SO:=hid (fun w'=>zhd (bs R) w' (by rw[zae];omega))
  rw[zai] at WO SO
  have hcl:=zdv R
  have hcm:((za5 R:Nat):Int) % 4294967296=(za5 R:Nat):=by omega
  have HEX1:=hid EX1
  have HEX2:=hid EX2
  have HN3:Hid (∀j u',(blk R).cells[j]?=some u'→(wr.alloc (.cells #[.int .i64 R.length,.int .i64 (ws R),.int .u32 (za5 R)] 138)).cell? ((⟨wr.heap.size,0,none⟩:Addr).add j)=some u'):=by
   show ∀j u',_
   rw[HCELLS.out];exact ze7 (heap_alloc_new _ _)
  have HON:Hid (∀u∈(blk R).cells,u.oneCell'=true):=fun u hu=>zi7 [blk R] u (by rw[zdl];exact hu)
  have HBL:Hid ((blk R).cells.length=1 * 3):=Blk.cells_len _
  have bsz:=bel.size
  have x1:(0:Int)≤m:=by omega
  have x2:(m:Int).toNat=m:=by omega
  clear hR hsu hjm hend hrel EX1 EX2 hcells
  by_cases hpos:m<s.size
  ·have hposI:(m:Int)<s.size:=by omega
   by_cases hle:m+size≤s.size
   ·have hleI:¬(s.size:Int)<(m:Int)+size:=by omega
    have x3:((m:Int)+(size:Int)).toNat=m+size:=by omega
    have hex:=HEX1.out hle
    have x5:(m:Int)≤(m:Int)+(size:Int):=by omega
    have x6:(m:Int)+(size:Int)≤s.size:=by omega
    go_wp2_with (first|(go_at_call 62;refine(WO.out _).mono ?_;rintro e w'⟨rfl,rfl⟩)|(go_at_call 39;refine(SO.out _).mono ?_;rintro e w'⟨rfl,rfl⟩)|(at_builtin;refine wpList_append_own _ rfl _ _ 101 rfl w.heap.size 138 i0 _ 3 24 Tryz.underlying101 hi hz0 hz1 hz2 rfl (by decide) _ _ _ rfl (hown.alloc _) ⟨wr.heap.size,0,none⟩ 1 1 (blk R).cells rfl rfl HN3.out HON.out (by unfold maxLen;omega) (by omega) (by simp;omega) ?_;intro v' w2 hown' hgrow _))
    go_roundw
    case rel=>exact⟨j+1,by rw[hJM.out];go_num,by rw[hJM.out];omega,(HREL.out _ _ _ hown hown' hgrow).1,(HREL.out _ _ _ hown hown' hgrow).2⟩
    case measure=>simp[intOf];omega
   ·have hleI:(s.size:Int)<(m:Int)+size:=by omega
    have hex:=HEX2.out hle hpos
    have x5:(m:Int)≤s.size:=by omega
    have x3:((m:Int)+(size:Int)).toNat=m+size:=by omega
    go_wp2_with (first|(go_at_call 62;refine(WO.out _).mono ?_;rintro e w'⟨rfl,rfl⟩)|(go_at_call 39;refine(SO.out _).mono ?_;rintro e w'⟨rfl,rfl⟩)|(at_builtin;refine wpList_append_own _ rfl _ _ 101 rfl w.heap.size 138 i0 _ 3 24 Tryz.underlying101 hi hz0 hz1 hz2 rfl (by decide) _ _ _ rfl (hown.alloc _) ⟨wr.heap.size,0,none⟩ 1 1 (blk R).cells rfl rfl HN3.out HON.out (by unfold maxLen;omega) (by omega) (by simp;omega) ?_;intro v' w2 hown' hgrow _))
    go_roundw
    case rel=>exact⟨j+1,by rw[hJM.out];go_num,by rw[hJM.out];omega,(HREL.out _ _ _ hown hown' hgrow).1,(HREL.out _ _ _ hown hown' hgrow).2⟩
    case measure=>simp[intOf];omega
  ·have hposI:¬(m:Int)<s.size:=by omega
   have hc:=hid (HEND.out hpos)
   clear HEX1 HEX2
   go_wp2_with fail
   go_ret
   refine⟨_,rfl,?_,bel⟩
   rw[ze5]
   unfold zeu
   rw[hc.out]
   exact hown
end Go.Proofs.YtakhkcaihhpehaaGreatDoor
