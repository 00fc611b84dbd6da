/- Texts of one proof, one behind the other: Sign, Check, SignText. -/
import Derived.Test.YtakhkcaihhpehaaGreatDoorB03
import Derived.Test.YtakhkcaihhpehaaGreatDoorB01
import Derived.Test.YtakhkcaihhpehaaGreatDoorB10
import Derived.Test.YtakhkcaihhpehaaGreatDoorB04
import Derived.Test.YtakhkcaihhpehaaGreatDoorB06
import Derived.Handy
namespace Go.Proofs.YtakhkcaihhpehaaGreatDoor
open Go.RowKit
open Lib (hid)
set_option linter.unusedVariables false
set_option maxRecDepth 100000
set_option maxHeartbeats 51200000
theorem zw0(b:Int)(w:World):Calls Tryz.prog 239 #[.int .i64 b] w fun e w'=>e=.returned (.int .i64 (za8 b))∧w=w':=by
 have fin:∀n:Nat,(n=4∧b≤16∨n=8∧16<b∧b≤64∨n=16∧64<b∧b≤256∨n=32∧256<b∧b≤1024∨n=64∧1024<b)→n=za8 b:=by
  intro n h;unfold za8
  rcases h with⟨rfl,h⟩|⟨rfl,h,h'⟩|⟨rfl,h,h'⟩|⟨rfl,h,h'⟩|⟨rfl,h⟩<;>((repeat' split)<;>omega)
 have FIN:=hid fin
 clear fin
 go_enter Tryz.func239,Tryz.ntmps239
 go_wp2_with fail
 go_loop [3] (fun v=>∃n:Nat,v=.int .i64 n∧(n=4∨n=8∧16<b∨n=16∧64<b∨n=32∧256<b∨n=64∧1024<b)) (fun v=>64 - (intOf v).toNat)
 case atStart=>exact⟨4,rfl,.inl rfl⟩
 case round=>
  obtain⟨n,rfl,h⟩:=hrel
  rcases h with rfl|⟨rfl,h⟩|⟨rfl,h⟩|⟨rfl,h⟩|⟨rfl,h⟩
  ·by_cases t:(16:Int)<b
   ·go_wp2_with fail
    go_round
    case rel=>exact⟨8,by go_num,by omega⟩
    case measure=>simp[intOf]
   ·go_wp2_with fail
    go_ret
    exact⟨zc0 (by rw[←FIN.out 4 (by omega)];rfl),rfl⟩
  ·by_cases t:(64:Int)<b
   ·go_wp2_with fail
    go_round
    case rel=>exact⟨16,by go_num,by omega⟩
    case measure=>simp[intOf]
   ·go_wp2_with fail
    go_ret
    exact⟨zc0 (by rw[←FIN.out 8 (by omega)];rfl),rfl⟩
  ·by_cases t:(256:Int)<b
   ·go_wp2_with fail
    go_round
    case rel=>exact⟨32,by go_num,by omega⟩
    case measure=>simp[intOf]
   ·go_wp2_with fail
    go_ret
    exact⟨zc0 (by rw[←FIN.out 16 (by omega)];rfl),rfl⟩
  ·by_cases t:(1024:Int)<b
   ·go_wp2_with fail
    go_round
    case rel=>exact⟨64,by go_num,by omega⟩
    case measure=>simp[intOf]
   ·go_wp2_with fail
    go_ret
    exact⟨zc0 (by rw[←FIN.out 32 (by omega)];rfl),rfl⟩
  ·go_wp2_with fail
   go_ret
   exact⟨zc0 (by rw[←FIN.out 64 (by omega)];rfl),rfl⟩
theorem zrw(n:Int)(w:World)(h:1≤n∧n≤64):Calls Tryz.prog 144 #[.int .i64 n] w fun e w'=>e=.returned (.bool true)∧w=w':=by
 obtain⟨h1,h2⟩:=h
 go_enter Tryz.func144,Tryz.ntmps144
 go_wp2_with fail
 go_ret
 exact⟨by first|rfl|exact zjm (by simp[*]),rfl⟩
theorem zws(n:Int)(w:World)(h:¬(1≤n∧n≤64)):Calls Tryz.prog 144 #[.int .i64 n] w fun e w'=>e=.returned (.bool false)∧w=w':=by
 have h':n<1∨1≤n∧64<n:=by omega
 clear h
 rcases h' with h1|⟨h1,h2⟩
 all_goals
  go_enter Tryz.func144,Tryz.ntmps144
  go_wp2_with fail
  go_ret
  exact⟨by first|rfl|exact zjm (by simp[*]),rfl⟩
def Blk.val(b:Blk):Value:=.agg #[.int .i64 b.N,.int .i64 b.W,.int .u32 b.S]
theorem zt1(s:ByteArray)(w:World)(hs:s.size≤100000):
  Calls Tryz.prog 145 #[.string s] w fun e w'=>e=.returned (blk s.data.toList).val∧Below w.heap.size w w':=by
 have hl:s.data.toList.length=s.size:=by simp
 have HL:=hid hl
 clear hl
 go_enter Tryz.func145,Tryz.ntmps145
 go_wp2_with (first|(go_at_call 181;refine(zl2 _ _ (by omega)).mono ?_;rintro e w'⟨rfl,rfl⟩)|(go_at_call 114;refine(zhc _ _ (by omega)).mono ?_;rintro e w'⟨rfl,rfl⟩))
 go_returns
 refine⟨?_,(Below.refl _ w).alloc (Nat.le_refl _) _⟩
 rw[zny,HL.out]
 rfl
theorem zqy:(Tryz.prog.info? 138).map (fun i=>(i.zero,i.size,i.bytes))=some (some (.agg #[.int .i64 0,.int .i64 0,.int .u32 0]),3,24):=by kernel_rfl
theorem ze7{w:World}{b:Nat}{u0 u1 u2:Value}(h:w.heap[b]?=some (.cells #[u0,u1,u2] 138 (0,0))):∀j u',[u0,u1,u2][j]?=some u'→w.cell? ((⟨b,0,none⟩:Addr).add j)=some u':=by
 intro j u' hj
 match j,hj with
 | 0,hj=>simp at hj;subst hj;simp[World.cell?,h,Addr.add]
 | 1,hj=>simp at hj;subst hj;simp[World.cell?,h,Addr.add]
 | 2,hj=>simp at hj;subst hj;simp[World.cell?,h,Addr.add]
theorem of_no(E:Nat→Addr)(s:ByteArray)(size:Int)(w:World)(h:¬(s.size≤4000∧1≤size∧size≤64))(hB:Has E w 2):
  Calls Tryz.prog 104 #[.string s,.int .i64 size] w fun e w'=>e=.returned (.tuple #[.slice none 0 0,ev E 2])∧Drew w w':=by
 have c2:w.cell? ⟨0,0,none⟩=some (za0 (E 2)):=hB
 clear hB
 rw[za9 E (by decide)]
 by_cases h1:s.size≤4000
 ·have hI:¬(4000:Int)<s.size:=by omega
  have h2:¬(1≤size∧size≤64):=by omega
  have H2:=hid h2
  clear h h1 h2
  go_enter Tryz.func104,Tryz.ntmps104
  go_wp2_with (go_at_call 144;refine(zws _ _ H2.out).mono ?_;rintro e w'⟨rfl,rfl⟩)
  go_quiet (fail)
  go_wp2_with fail
  go_ret2
  exact⟨rfl,Drew.drewN _ _⟩
 ·have hI:(4000:Int)<s.size:=by omega
  clear h h1
  go_enter Tryz.func104,Tryz.ntmps104
  go_wp2_with fail
  go_quiet (fail)
  go_wp2_with fail
  go_ret2
  exact⟨rfl,Drew.drewN _ _⟩
theorem ymp(s:ByteArray)(size:Nat)(w:World)(hs:s.size≤4000)(h1:1≤size)(h2:size≤64):
  Calls Tryz.prog 104 #[.string s,.int .i64 size] w fun e w'=>∃v,e=.returned (.tuple #[v,.nilIface])∧w'.ownsRow w.heap.size 138 3 v (zeu size s.data.toList).length (zba (zeu size s.data.toList))∧Below w.heap.size w w':=by
 obtain⟨i0,hi,hz0,hz1,hz2⟩:=info_parts zqy
 obtain⟨L,hL⟩:∃L,L=s.data.toList:=⟨_,rfl⟩
 rw[←hL]
 have hlen:L.length=s.size:=by rw[hL];simp
 have hsL:s=bs (L.drop (0 * size)):=by rw[hL];simp[zoa]
 have HL:=hid hlen
 have HS:=hid hsL
 clear hL hlen hsL
 have hI:¬(4000:Int)<s.size:=by omega
 have H2:=hid (show 1≤(size:Int)∧(size:Int)≤64 from⟨by omega,by omega⟩)
 go_enter Tryz.func104,Tryz.ntmps104
 go_wp2_with (go_at_call 144;refine(zrw _ _ H2.out).mono ?_;rintro e w'⟨rfl,rfl⟩)
 go_loopw [0,6,7] (fun t out _ wr=>∃j:Nat,t=.string (bs (L.drop (j * size)))∧j * size<s.size+size∧wr.ownsRow w.heap.size 138 3 out j (zba (zf2 size L j))∧Below w.heap.size w wr) (fun t _ _ _=>yl5 t)
 case atStart=>exact⟨0,congrArg Value.string HS.out,by omega,by rw[zpl,zgj];exact World.ownsRow_nil _ _ _ _,Below.refl _ _⟩
 case round=>
  obtain⟨j,rfl,hj,hown,bel⟩:=hrel
  obtain⟨R,hR⟩:∃R,R=L.drop (j * size):=⟨_,rfl⟩
  have hRl:R.length=s.size - j * size:=by rw[hR,List.length_drop,HL.out]
  have hnx:(R.drop size)=L.drop ((j+1) * size):=by rw[hR,List.drop_drop];congr 1;rw[Nat.add_mul];omega
  have hsu:zf2 size L (j+1)=zf2 size L j++[blk (R.take size)]:=by rw[zpm,hR]
  have hjm:(j+1) * size=j * size+size:=by rw[Nat.add_mul];omega
  have hjl:j≤j * size:=Nat.le_mul_of_pos_right _ (by omega)
  have hend:¬0<R.length→zc8 size L.length=j:=fun h=>ymw (by rw[HL.out];omega) (by rw[HL.out];omega)
  have hrel:∀w1 w2 v v' B,wr.ownsRow w.heap.size 138 3 v j (zba (zf2 size L j))→blk (R.take size)=B→w2.ownsRow w.heap.size 138 3 v' (j+1) (zba (zf2 size L j)++B.cells)→Below w.heap.size w w1→w1.heap.size≤(w1.alloc (.cells #[.int .i64 B.N,.int .i64 B.W,.int .u32 B.S] 138)).heap.size→
    (w1.alloc (.cells #[.int .i64 B.N,.int .i64 B.W,.int .u32 B.S] 138)).grownBy w2 v.ownBlock→
    0<R.length→(j+1) * size<s.size+size∧w2.ownsRow w.heap.size 138 3 v' (j+1) (zba (zf2 size L (j+1)))∧Below w.heap.size w w2:=by
   intro w1 w2 v v' B h0 hB h1 hb _ hg hp
   refine⟨by omega,by rw[hsu,hB,zdx,zdl];exact h1,(hb.alloc hb.size _).grown hg (Nat.le_trans hb.size (by simp)) (fun k hk=>(h0.lt k hk).1)⟩
  rw[←hR]
  generalize j * size=m at hj hRl hjm hjl
  have HN:=hid hnx
  have HJM:=hid hjm
  have HRL:=hid hRl
  have HEND:=hid hend
  have HREL:=hid hrel
  have hRle:R.length≤4000:=by omega
  have hj4:0<R.length→j≤4000:=by omega
  clear hR hnx hsu hjm hRl hend hrel
  by_cases hpos:0<R.length
  ·have hposI:(0:Int)<R.length:=by omega
   by_cases hle:size≤R.length
   ·have hleI:(size:Int)≤R.length:=by omega
    have BA:∀w,Calls Tryz.prog 145 #[.string ((bs R).extract 0 size)] w fun e w'=>e=.returned (blk (R.take size)).val∧Below w.heap.size w w':=fun w=>by
     have:=zt1 ((bs R).extract 0 size) w (by rw[zcv];simp;omega)
     rw[zcv,zai,zai] at this
     rw[zcv,zai]
     exact this
    have hex:(bs R).extract size R.length=bs (R.drop size):=by have:=zhv (bs R) size;simpa using this
    have HEX:=hid hex
    clear hex
    generalize hB:blk (R.take size)=B at BA
    have HB:=hid hB
    unfold Blk.val at BA
    have HBA:=hid BA
    clear BA hB
    have KL:=hid (show j≤4000 by exact hj4 hpos)
    clear hj4
    go_wp2_with fail
    refine(HBA.out _).mono ?_
    rintro e w1⟨rfl,b1⟩
    have hown1:=zad hown b1
    have bel1:=zaa bel b1
    clear bel b1
    go_wp2_with (at_builtin;refine wpList_append_own _ rfl _ _ 101 rfl w.heap.size 138 i0 _ 3 24 Tryz.underlying101 hi hz0 hz1 hz2 rfl (by decide) _ _ _ rfl (hown1.alloc _) ⟨w1.heap.size,0,none⟩ 1 1 B.cells rfl rfl (ze7 (heap_alloc_new _ _)) (fun u hu=>zi7 [B] u (by rw[zdl];exact hu)) (by have:=KL.out;unfold maxLen;omega) (by have:=KL.out;omega) (by have:=bel1.size;simp;omega) ?_;intro v' w2 hown' hgrow _)
    have F:=HREL.out w1 w2 _ v' B hown HB.out hown' bel1 (by simp) hgrow hpos
    exact⟨⟨j+1,by rw[HEX.out,HN.out],F.1,F.2.1,F.2.2⟩,by rw[HEX.out,zjf,zjf,zae,zae,List.length_drop];omega⟩
   ·have hleI:(R.length:Int)<size:=by omega
    have htk:R.take size=R:=List.take_of_length_le (by omega)
    have hdr:R.drop size=[]:=List.drop_eq_nil_of_le (by omega)
    have BA:∀w,Calls Tryz.prog 145 #[.string ((bs R).extract 0 R.length)] w fun e w'=>e=.returned (blk (R.take size)).val∧Below w.heap.size w w':=fun w=>by
     have:=zt1 ((bs R).extract 0 R.length) w (by rw[zcv];simp;omega)
     rw[zcv,zai,zai,List.take_length] at this
     rw[zcv,zai,List.take_length,htk]
     exact this
    have hex:(bs R).extract R.length R.length=bs (R.drop size):=by have:=zhv (bs R) R.length;simpa [hdr] using this
    have HEX:=hid hex
    have HDR:=hid hdr
    clear hex htk hdr
    generalize hB:blk (R.take size)=B at BA
    have HB:=hid hB
    unfold Blk.val at BA
    have HBA:=hid BA
    clear BA hB
    have KL:=hid (show j≤4000 by exact hj4 hpos)
    clear hj4
    go_wp2_with fail
    refine(HBA.out _).mono ?_
    rintro e w1⟨rfl,b1⟩
    have hown1:=zad hown b1
    have bel1:=zaa bel b1
    clear bel b1
    go_wp2_with (at_builtin;refine wpList_append_own _ rfl _ _ 101 rfl w.heap.size 138 i0 _ 3 24 Tryz.underlying101 hi hz0 hz1 hz2 rfl (by decide) _ _ _ rfl (hown1.alloc _) ⟨w1.heap.size,0,none⟩ 1 1 B.cells rfl rfl (ze7 (heap_alloc_new _ _)) (fun u hu=>zi7 [B] u (by rw[zdl];exact hu)) (by have:=KL.out;unfold maxLen;omega) (by have:=KL.out;omega) (by have:=bel1.size;simp;omega) ?_;intro v' w2 hown' hgrow _)
    have F:=HREL.out w1 w2 _ v' B hown HB.out hown' bel1 (by simp) hgrow hpos
    exact⟨⟨j+1,by rw[←HN.out,HDR.out,bs_nil];rfl,F.1,F.2.1,F.2.2⟩,by rw[show ByteArray.empty=bs [] from bs_nil.symm,zjf,zjf,zae,zae];simpa using hpos⟩
  ·have hposI:¬(0:Int)<R.length:=by omega
   go_wp2_with fail
   have hc:=hid (HEND.out hpos)
   go_ret2
   refine⟨_,rfl,?_,bel⟩
   rw[ze5]
   unfold zeu
   rw[hc.out]
   exact hown
theorem yku(s0:Option Addr)(n0 c0:Nat)(l:List Blk)(s:ByteArray)(w:World)(hs:s.size≤100000)(hl:SliceIs w (.slice s0 n0 c0) 3 (zba l)):
  Calls Tryz.prog 147 #[.slice s0 n0 c0,.string s] w fun e w'=>e=.returned (.int .i64 (zeo l (blk s.data.toList)))∧Below w.heap.size w w':=by
 have hlen:l.length=n0∧c0≤maxLen∧n0≤c0:=by
  obtain⟨s0',n0',c0',e1,e2,e3,e4,_⟩:=hl.get
  cases e1
  rw[zfg] at e2
  exact⟨by omega,e4,e3⟩
 obtain⟨rfl,hc0,hc1⟩:=hlen
 unfold maxLen at hc0
 have HLS:=hid hl
 clear hl
 have hwl:=ym8 s.data.toList
 obtain⟨hw0,hw1⟩:=hwl
 have hsl:s.data.toList.length=s.size:=by simp
 have hx:blk s.data.toList=⟨s.size,ws s.data.toList,za5 s.data.toList⟩:=by rw[zny,hsl]
 rw[hx]
 clear hx hsl
 go_enter Tryz.func147,Tryz.ntmps147
 go_wp2_with (go_at_call 181;refine(zl2 _ _ (by omega)).mono ?_;rintro e w'⟨rfl,rfl⟩)
 go_loopw [12,6,7] (fun i _ _ wr=>∃k:Nat,i=.int .i64 k∧k≤l.length∧zeo l ⟨s.size,ws s.data.toList,za5 s.data.toList⟩=zf0 (l.drop k) ⟨s.size,ws s.data.toList,za5 s.data.toList⟩ k∧Below w.heap.size w wr) (fun i _ _ _=>l.length - (intOf i).toNat)
 case atStart=>exact⟨0,rfl,by omega,rfl,Below.refl _ _⟩
 case round=>
  obtain⟨k,rfl,hk,hf,bel⟩:=hrel
  have HF:=hid hf
  clear hf
  by_cases hlt:k<l.length
  ·have hltI:(k:Int)<l.length:=by omega
   obtain⟨s0',n0',c0',e1,_,_,_,g1⟩:=(HLS.out.below bel).get
   cases e1
   obtain⟨g2,g3,g4⟩:=zgk l k hlt
   obtain⟨a,rfl,d0⟩:=g1 _ _ g2
   obtain⟨a',e',d1⟩:=g1 _ _ g3
   cases e'
   obtain⟨a',e',d2⟩:=g1 _ _ g4
   cases e'
   clear g1 g2 g3 g4
   have KK:=hid (show k+1≤l.length by omega)
   have HIT:=hid (zix l ⟨s.size,ws s.data.toList,za5 s.data.toList⟩ k hlt)
   have MISS:=hid (zhs l ⟨s.size,ws s.data.toList,za5 s.data.toList⟩ k hlt)
   have x1:(0:Int)≤k:=by omega
   have x2:(k:Int).toNat=k:=by omega
   generalize l[k]=b at d0 d1 d2 HIT MISS
   obtain⟨bn,bw,bS⟩:=b
   simp only[] at d0 d1 d2
   have d1:=zao d1
   have d2:=zao d2
   have SUM:=hid (fun w=>zhc s w hs)
   have belA:=(bel.alloc bel.size (.cells #[.int .i64 bn,.int .i64 bw,.int .u32 bS] 138))
   by_cases e0:bn=s.size
   ·subst e0
    by_cases e1:bw=ws s.data.toList
    ·subst e1
     by_cases e2:bS=za5 s.data.toList
     ·subst e2
      go_wp2_with fail
      go_quiet ((go_at_call 114;first|exact ze9 (SUM.out _)|exact zcq (SUM.out _)))
      go_wp2_with fail
      go_ret
      exact⟨zc0 (by rw[HF.out,HIT.out (by simp)]),zac belA _⟩
     ·have hb:((bS:Int)==((za5 s.data.toList:Nat):Int))=false:=by simp;omega
      have M:=hid (MISS.out (by intro h;cases h;exact e2 rfl))
      clear e2
      go_wp2_with fail
      go_quiet ((go_at_call 114;first|exact ze9 (SUM.out _)|exact zcq (SUM.out _)))
      go_wp2_with fail
      go_roundw
      case rel=>exact⟨k+1,by go_num,KK.out,by rw[HF.out,M.out],zac belA _⟩
      case measure=>simp[intOf];omega
    ·have hb:(bw==ws s.data.toList)=false:=by simp[e1]
     have M:=hid (MISS.out (by intro h;cases h;exact e1 rfl))
     clear e1
     go_wp2_with fail
     go_quiet (fail)
     go_wp2_with fail
     go_roundw
     case rel=>exact⟨k+1,by go_num,KK.out,by rw[HF.out,M.out],zac belA _⟩
     case measure=>simp[intOf];omega
   ·have hb:(bn==(s.size:Int))=false:=by simp[e0]
    have M:=hid (MISS.out (by intro h;cases h;exact e0 rfl))
    clear e0
    go_wp2_with fail
    go_quiet (fail)
    go_wp2_with fail
    go_roundw
    case rel=>exact⟨k+1,by go_num,KK.out,by rw[HF.out,M.out],zac belA _⟩
    case measure=>simp[intOf];omega
  ·have hltI:¬(k:Int)<l.length:=by omega
   have hend:=hid (zj8 l ⟨s.size,ws s.data.toList,za5 s.data.toList⟩ k (by omega))
   go_wp2_with fail
   go_ret
   exact⟨zc0 (by rw[HF.out,hend.out]),bel⟩
theorem znw(E:Nat→Addr)(s0:Option Addr)(n0 c0:Nat)(l:List Blk)(size:Int)(w:World)(hl:SliceIs w (.slice s0 n0 c0) 3 (zba l))(hB:Has E w 2)(hF:Has E w 8):
  Calls Tryz.prog 146 #[.slice s0 n0 c0,.int .i64 size] w fun e w'=>∃v,e=.returned v∧FErr E w' v (chk l size).1 (chk l size).2∧Below w.heap.size w w':=by
 have hlen:l.length=n0∧c0≤maxLen∧n0≤c0:=by
  obtain⟨s0',n0',c0',e1,e2,e3,e4,_⟩:=hl.get
  cases e1
  rw[zfg] at e2
  exact⟨by omega,e4,e3⟩
 obtain⟨rfl,hc0,hc1⟩:=hlen
 unfold maxLen at hc0
 have HLS:=hid hl
 have HB:=hid hB
 have HFL:=hid hF
 clear hl hF
 by_cases hs:1≤size∧size≤64
 ·have hchk:=znu (l:=l) hs
  have HCH:=hid hchk
  have HSW:=hid (fun w=>zrw size w hs)
  obtain⟨hs1,hs2⟩:=hs
  clear hchk hB
  go_enter Tryz.func146,Tryz.ntmps146
  go_wp2_with (go_at_call 144;refine(HSW.out _).mono ?_;rintro e w'⟨rfl,rfl⟩)
  go_loopw [15,5,6,7,8] (fun i all _ _ _ wr=>∃(k:Nat)(a:Int),i=.int .i64 k∧k≤l.length∧all=.int .i64 a∧0≤a∧a≤4000∧chk l size=zlw size (l.drop k) k a∧Below w.heap.size w wr) (fun i _ _ _ _ _=>l.length - (intOf i).toNat)
  case atStart=>exact⟨0,0,rfl,by omega,rfl,by omega,by omega,HCH.out,Below.refl _ _⟩
  case round=>
   obtain⟨k,a,rfl,hk,rfl,ha0,ha1,hf,bel⟩:=hrel
   have HF:=hid hf
   clear hf
   by_cases hlt:k<l.length
   ·have hltI:(k:Int)<l.length:=by omega
    obtain⟨s0',n0',c0',e1,_,_,_,g1⟩:=(HLS.out.below bel).get
    cases e1
    obtain⟨g2,g3,g4⟩:=zgk l k hlt
    obtain⟨ad,rfl,d0⟩:=g1 _ _ g2
    obtain⟨a',e',d1⟩:=g1 _ _ g3
    cases e'
    obtain⟨a',e',d2⟩:=g1 _ _ g4
    cases e'
    clear g1 g2 g3 g4
    have KK:=hid (show k+1≤l.length by omega)
    have BAD:=hid (fun hb=>HF.out.trans (zys (size:=size) (all:=a) hlt hb))
    have FULL:=hid (fun hb hf=>HF.out.trans (zty (size:=size) (all:=a) hlt hb hf))
    have NEXT:=hid (fun hb hf=>HF.out.trans (znv (size:=size) (all:=a) hlt hb hf))
    have x1:(0:Int)≤k:=by omega
    have x2:(k:Int).toNat=k:=by omega
    have c2:wr.cell? ⟨0,0,none⟩=some (za0 (E 2)):=HB.out.below bel
    have belA:=fun o=>bel.alloc bel.size o
    have c8:wr.cell? ⟨7,0,none⟩=some (za0 (E 8)):=HFL.out.below bel
    have z2:0<wr.heap.size:=World.block_lt_of_cell? wr _ c2
    have z8:7<wr.heap.size:=World.block_lt_of_cell? wr _ c8
    unfold za0 at c2 c8
    generalize l[k]=b at d0 d1 d2 BAD FULL NEXT
    obtain⟨bn,bw,bS⟩:=b
    have d1:=zao d1
    have d2:=zao d2
    simp only[] at d0 d1 d2
    have CASES:bn<1∨(¬bn<1∧size<bn)∨(¬bn<1∧¬size<bn∧bn<size∧l.length≠k+1)∨((¬bn<1∧¬size<bn)∧(¬bn<size∨bn<size∧l.length=k+1)):=by omega
    rcases CASES with b1|⟨b1,b2⟩|⟨b1,b2,b3,b4⟩|⟨⟨b1,b2⟩,b3⟩
    ·have hb:=hid (BAD.out (.inl b1))
     clear BAD FULL NEXT
     go_wp2_with fail
     go_ret
     exact⟨_,rfl,FErr.new E _ _ (by decide) _ _ (by simp) _ hb.out,(belA _).alloc (belA _).size _⟩
    ·have hb:=hid (BAD.out (.inr (.inl b2)))
     clear BAD FULL NEXT
     go_wp2_with fail
     go_ret
     exact⟨_,rfl,FErr.new E _ _ (by decide) _ _ (by simp) _ hb.out,(belA _).alloc (belA _).size _⟩
    ·have hb:=hid (BAD.out (.inr (.inr (.inl ⟨b3,by simpa using b4⟩))))
     have hlb:((k:Int)==(l.length:Int) - 1)=false:=by simp;omega
     clear BAD FULL NEXT b4
     go_wp2_with fail
     go_ret
     exact⟨_,rfl,FErr.new E _ _ (by decide) _ _ (by simp) _ hb.out,(belA _).alloc (belA _).size _⟩
    ·have b3':¬bn<size∨bn<size∧((k:Int)==(l.length:Int) - 1)=true:=by
      rcases b3 with h|⟨h,h'⟩
      ·exact .inl h
      ·exact .inr ⟨h,by simp;omega⟩
     have GOODB:Hid (0≤bw→bw<4294967296→¬zyx ⟨bn,bw,bS⟩ size (decide (l.length=k+1))):=fun h1 h2 h=>by
      unfold zyx at h
      simp only[decide_eq_false_iff_not] at h
      omega
     clear b3
     by_cases b5:bw<0
     ·have hb:=hid (BAD.out (.inr (.inr (.inr (.inl b5)))))
      clear BAD FULL NEXT GOODB
      rcases b3' with b3|⟨b3,b4⟩
      all_goals
       go_wp2_with fail
       go_ret
       exact⟨_,rfl,FErr.new E _ _ (by decide) _ _ (by simp) _ hb.out,(belA _).alloc (belA _).size _⟩
     ·by_cases b6:4294967296≤bw
      ·have hb:=hid (BAD.out (.inr (.inr (.inr (.inr b6)))))
       clear BAD FULL NEXT GOODB
       rcases b3' with b3|⟨b3,b4⟩
       all_goals
        go_wp2_with fail
        go_ret
        exact⟨_,rfl,FErr.new E _ _ (by decide) _ _ (by simp) _ hb.out,(belA _).alloc (belA _).size _⟩
      ·have b6':¬bw≥4294967296:=b6
       have HG:=hid (GOODB.out (by omega) (by omega))
       clear GOODB BAD
       by_cases b7:4000<a+bn
       ·have hb:=hid (FULL.out HG.out b7)
        clear FULL NEXT
        rcases b3' with b3|⟨b3,b4⟩
        all_goals
         go_wp2_with fail
         go_ret
         exact⟨_,rfl,FErr.new E _ _ (by decide) _ _ (by simp) _ hb.out,(belA _).alloc (belA _).size _⟩
       ·have hb:=hid (NEXT.out HG.out b7)
        clear FULL NEXT
        rcases b3' with b3|⟨b3,b4⟩
        all_goals
         go_wp2_with fail
         go_roundw
         case rel=>exact⟨k+1,_,by go_num,KK.out,rfl,by omega,by omega,hb.out,belA _⟩
         case measure=>simp[intOf];omega
   ·have hltI:¬(k:Int)<l.length:=by omega
    have hb:=hid (HF.out.trans (zrg (size:=size) (all:=a) (by omega:l.length≤k)))
    go_wp2_with fail
    go_ret
    exact⟨_,rfl,by rw[hb.out];exact FErr.nil E _,bel⟩
 ·have c2:w.cell? ⟨0,0,none⟩=some (za0 (E 2)):=hB
  have hchk:=zyr (l:=l) hs
  have HCH:=hid hchk
  have HSW:=hid (fun w=>zws size w hs)
  clear hs hchk hB
  go_enter Tryz.func146,Tryz.ntmps146
  go_wp2_with (go_at_call 144;refine(HSW.out _).mono ?_;rintro e w'⟨rfl,rfl⟩)
  go_ret
  exact⟨_,rfl,by rw[HCH.out];exact FErr.bare E w (by decide),Below.refl _ _⟩
def zgl(l:List Blk):List UInt8:=l.flatMap fun b=>num b.N.toNat++num b.W.toNat++num b.S
theorem zt3:zgl []=[]:=rfl
theorem zt5(a b:List Blk):zgl (a++b)=zgl a++zgl b:=by simp[zgl]
theorem yhs(b:Blk):zgl [b]=num b.N.toNat++num b.W.toNat++num b.S:=by simp[zgl]
theorem zpn(b:Blk)(l:List Blk):zgl (b::l)=num b.N.toNat++num b.W.toNat++num b.S++zgl l:=by simp[zgl]
theorem zt4(l:List Blk):(zgl l).length≤21 * l.length:=by
 induction l with
 | nil=>simp[zgl]
 | cons b l ih=>
  rw[zpn]
  have:=zar b.N.toNat
  have:=zar b.W.toNat
  have:=zar b.S
  simp only[List.length_append,List.length_cons]
  omega
def zla(l:List Blk)(size:Int):List UInt8:=num size.toNat++num l.length++zgl l
theorem zp4(l:List Blk)(size:Int):zla l size=num size.toNat++num l.length++zgl l:=rfl
attribute [irreducible] zgl zla
theorem ych(E:Nat→Addr)(s0:Option Addr)(n0 c0:Nat)(l:List Blk)(size:Int)(w:World)(hl:SliceIs w (.slice s0 n0 c0) 3 (zba l))(hS:∀b∈l,b.S<4294967296)(hB:Has E w 2)(hF:Has E w 8)
  (hok:(chk l size).1=0) :
  Calls Tryz.prog 240 #[.slice s0 n0 c0,.int .i64 size] w fun e w'=>e=.returned (.tuple #[.string (bs (zla l size)),.nilIface])∧Below w.heap.size w w':=by
 have CH:=znw E s0 n0 c0 l size w hl hB hF
 rw[hok] at CH
 obtain⟨k1,k2,k3,k4⟩:=zyq hok
 have hlen:l.length=n0∧c0≤maxLen∧n0≤c0:=by
  obtain⟨s0',n0',c0',e1,e2,e3,e4,_⟩:=hl.get
  cases e1
  rw[zfg] at e2
  exact⟨by omega,e4,e3⟩
 obtain⟨rfl,hc0,hc1⟩:=hlen
 unfold maxLen at hc0
 have HLS:=hid hl
 have HB:=hid hB
 have HCH:=hid CH
 have HEA:=hid k4
 have HSS:=hid hS
 have hst:=zp4 l size
 have HST:=hid hst
 have hfin:=zeb
 have HFIN:=hid hfin
 have HEZ:=hid (zaj E)
 clear hst hfin hl hB hF CH k4 hS hok
 go_enter Tryz.func240,Tryz.ntmps240
 go_wp2_with fail
 refine HCH.out.mono ?_
 rintro e w1⟨v,rfl,fe,b1⟩
 rw[fe.zero]
 clear fe
 go_wp2_with fail
 have W0:=WAt.new E w1
 have bA:=b1.alloc b1.size (.cells #[.slice none 0 0,.nilIface] 305)
 have hb:w.heap.size≤w1.heap.size:=b1.size
 generalize w1.alloc (.cells #[.slice none 0 0,.nilIface] 305)=w2 at W0 bA ⊢
 generalize w1.heap.size=b at W0 hb ⊢
 clear b1
 refine(zdd E b _ _ _ (by simp) W0 (HB.out.below bA) (by omega) (by omega)).mono ?_
 rintro e w3⟨rfl,W3,K3⟩
 have b3:=K3.old bA hb W0.lt
 clear K3 bA W0
 go_wp2_with fail
 refine(zdd E b _ _ _ (by have:=zar size.toNat;simp;omega) W3 (HB.out.below b3) (by omega) (by omega)).mono ?_
 rintro e w4⟨rfl,W4,K4⟩
 have b4:=K4.old b3 hb W3.lt
 clear K4 b3 W3
 go_wp2_with fail
 go_loopw [28,9] (fun i _ wr=>∃k:Nat,i=.int .i64 k∧k≤l.length∧WAt E wr b (num size.toNat++num l.length++zgl (l.take k)) 0∧Below w.heap.size w wr) (fun i _ _=>l.length - (intOf i).toNat)
 case atStart=>exact⟨0,rfl,by omega,by simpa [zt3] using W4,b4⟩
 case round=>
  clear W4 b4
  obtain⟨k,rfl,hk,W,bel⟩:=hrel
  by_cases hlt:k<l.length
  ·have hltI:(k:Int)<l.length:=by omega
   obtain⟨s0',n0',c0',e1,_,_,_,g1⟩:=(HLS.out.below bel).get
   cases e1
   obtain⟨g2,g3,g4⟩:=zgk l k hlt
   obtain⟨ad,rfl,d0⟩:=g1 _ _ g2
   obtain⟨a',e',d1⟩:=g1 _ _ g3
   cases e'
   obtain⟨a',e',d2⟩:=g1 _ _ g4
   cases e'
   clear g1 g2 g3 g4
   have KK:=hid (show k+1≤l.length by omega)
   have x1:(0:Int)≤k:=by omega
   have x2:(k:Int).toNat=k:=by omega
   have hea:=HEA.out _ (List.getElem_mem hlt)
   have hs:=HSS.out _ (List.getElem_mem hlt)
   have htk:=hid (List.take_succ_eq_append_getElem hlt)
   have hlen:=zt4 (l.take k)
   have hlen2:(l.take k).length≤4000:=by simp;omega
   have hn1:=zar size.toNat
   have hn2:=zar l.length
   generalize l[k]=bk at d0 d1 d2 hea hs htk
   obtain⟨bn,bw,bS⟩:=bk
   have d1:=zao d1
   have d2:=zao d2
   simp only[] at d0 d1 d2 hea hs
   obtain⟨y1,y2,y3,y4⟩:=hea
   have hn3:=zar bn.toNat
   have hn4:=zar bw.toNat
   have hgb:b<wr.heap.size:=W.lt
   have W1:=W.below (zaf wr (.cells #[.int .i64 bn,.int .i64 bw,.int .u32 bS] 138))
   have bel1:=bel.alloc bel.size (.cells #[.int .i64 bn,.int .i64 bw,.int .u32 bS] 138)
   have G1:(wr.alloc (.cells #[.int .i64 bn,.int .i64 bw,.int .u32 bS] 138)).heap[wr.heap.size]?=some (.cells #[.int .i64 bn,.int .i64 bw,.int .u32 bS] 138 (0,0)):=heap_alloc_new _ _
   go_wp2_with fail
   generalize wr.alloc (.cells #[.int .i64 bn,.int .i64 bw,.int .u32 bS] 138)=v1 at W1 bel1 G1 ⊢
   generalize wr.heap.size=g at G1 hgb ⊢
   clear W bel
   refine(zdd E b _ _ _ (by simp only[List.length_append];omega) W1 (HB.out.below bel1) (by omega) (by omega)).mono ?_
   rintro e v2⟨rfl,W2,K2⟩
   have bel2:=K2.old bel1 hb W1.lt
   have G2:=K2.obj G1 (by omega) (by decide)
   clear K2 bel1 W1 G1
   have f1:v2.cell? ⟨g,1,none⟩=some (.int .i64 bw):=by simp[World.cell?,G2]
   go_wp2_with fail
   refine(zdd E b _ _ _ (by simp only[List.length_append];omega) W2 (HB.out.below bel2) (by omega) (by omega)).mono ?_
   rintro e v3⟨rfl,W3,K3⟩
   have bel3:=K3.old bel2 hb W2.lt
   have G3:=K3.obj G2 (by omega) (by decide)
   clear K3 bel2 W2 G2
   have f2:v3.cell? ⟨g,2,none⟩=some (.int .u32 bS):=by simp[World.cell?,G3]
   go_wp2_with fail
   refine(zdd E b _ _ _ (by simp only[List.length_append];omega) W3 (HB.out.below bel3) (by omega) (by omega)).mono ?_
   rintro e v4⟨rfl,W4,K4⟩
   have bel4:=K4.old bel3 hb W3.lt
   clear K4 bel3 W3 G3
   go_wp2_with fail
   go_roundw
   case rel=>exact⟨k+1,by go_num,KK.out,by rw[htk.out,zt5,yhs];simpa [List.append_assoc] using W4,bel4⟩
   case measure=>simp[intOf];omega
  ·have hltI:¬(k:Int)<l.length:=by omega
   have htk:l.take k=l:=List.take_of_length_le (by omega)
   rw[htk,←HST.out] at W
   have D:=zf4 E b _ 0 wr (fun _=>by rw[HST.out];have:=zkp size.toNat;simp;omega) W
   rw[HFIN.out,HEZ.out] at D
   have HD:=hid D
   clear D htk W
   go_wp2_with fail
   refine HD.out.mono ?_
   rintro e w9⟨rfl,b9⟩
   go_wp2_with fail
   go_ret2
   exact⟨rfl,zaa bel (b9.below _)⟩
end Go.Proofs.YtakhkcaihhpehaaGreatDoor
