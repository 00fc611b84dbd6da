/- Texts of one proof, one behind the other: TapDisk, RefCut. -/
import Derived.Test.YtakhkcaihhpehaaGreatDoorB07
import Derived.Test.YtakhkcaihhpehaaGreatDoorB09
import Derived.Deep.RegionLaw
import Derived.Test.YtakhkcaihhpehaaGreatDoorB27
namespace Go.Proofs.YtakhkcaihhpehaaGreatDoor
open Go.RowKit
open Lib (hid)
set_option linter.unusedVariables false
set_option maxRecDepth 100000
set_option maxHeartbeats 51200000
structure DiskAt(w:World)(base db:Nat)(v:Value)(d:TP):Prop where
 cells:w.heap[db]?=some (.cells #[v,.bool d.off,.int .i64 d.cut] 107 (0,0))
 buf:BufIs w base 5 v (d.b.map bv)
 ne:v.ownBlock≠some db
 lo:base≤db
 cut:-1≤d.cut∧d.cut≤9223372036854775807
def ypy(db:Nat)(v:Value):Nat→Prop:=fun x=>x=db∨v.ownBlock=some x
def DiskTo(w w':World)(base db:Nat)(v:Value)(d:TP):Prop:=
 ∃v',DiskAt w' base db v' d∧Chg w w' (ypy db v)∧∀x,v'.ownBlock=some x→v.ownBlock=some x∨w.heap.size≤x
theorem DiskAt.lt{w:World}{base db:Nat}{v:Value}{d:TP}(h:DiskAt w base db v d):db<w.heap.size:=lt_of_block h.cells
theorem DiskAt.cs{w:World}{base db:Nat}{v:Value}{d:TP}(h:DiskAt w base db v d):(w.cell? ⟨db,0,none⟩=some v∧w.cell? ⟨db,1,none⟩=some (.bool d.off)∧w.cell? ⟨db,2,none⟩=some (.int .i64 d.cut))∧∀k,w.frozen? ⟨db,k,none⟩=false:=by
 refine⟨⟨?_,?_,?_⟩,fun k=>?_⟩<;>simp[World.cell?,World.frozen?,h.cells]
theorem DiskAt.kept{w w':World}{base db:Nat}{v:Value}{d:TP}{S:Nat→Prop}(h:DiskAt w base db v d)(hc:Chg w w' S)(h1:¬S db)(h2:∀x,v.ownBlock=some x→¬S x):DiskAt w' base db v d:=
 ⟨(hc.block db h.lt h1).trans h.cells,h.buf.kept fun b hb=>hc.block b (h.buf.at hb).2 (h2 b hb),h.ne,h.lo,h.cut⟩
theorem DiskAt.below{w w':World}{base db:Nat}{v:Value}{d:TP}(h:DiskAt w base db v d)(hb:Below w.heap.size w w'):DiskAt w' base db v d:=
 h.kept (Chg.of_below hb (fun _=>False)) (fun h=>h) (fun _ _ h=>h)
theorem DiskTo.same{w w':World}{base db:Nat}{v:Value}{d:TP}(h:DiskAt w base db v d)(hb:Below w.heap.size w w'):DiskTo w w' base db v d:=
 ⟨v,h.below hb,Chg.of_below hb _,fun x hx=>.inl hx⟩
theorem DiskAt.val{w:World}{base db:Nat}{v:Value}{d:TP}(h:DiskAt w base db v d):∃a c,v=.slice a d.b.length c:=by
 obtain⟨a,c,e⟩:=h.buf.val
 rw[List.length_map] at e
 exact⟨a,c,e⟩
theorem DiskAt.off{w:World}{base db:Nat}{v:Value}{d:TP}(h:DiskAt w base db v d)(o:Bool):DiskAt (w.setCell ⟨db,1,none⟩ (.bool o)) base db v ⟨d.b,o,d.cut⟩∧Chg w (w.setCell ⟨db,1,none⟩ (.bool o)) (fun x=>x=db):=by
 have hc:=(Chg.refl w (fun x=>x=db)).set ⟨db,1,none⟩ (.inl rfl) (.bool o)
 refine⟨⟨by simpa using za2 (k:=1) (u:=.bool o) h.cells,h.buf.kept fun b hb=>hc.block b (h.buf.at hb).2 (fun e=>h.ne (e▸hb)),h.ne,h.lo,h.cut⟩,hc⟩
theorem DiskAt.setcut{w:World}{base db:Nat}{v:Value}{d:TP}(h:DiskAt w base db v d)(c:Int)(h2:-1≤c∧c≤9223372036854775807):DiskAt (w.setCell ⟨db,2,none⟩ (.int .i64 c)) base db v ⟨d.b,d.off,c⟩∧Chg w (w.setCell ⟨db,2,none⟩ (.int .i64 c)) (fun x=>x=db):=by
 have hc:=(Chg.refl w (fun x=>x=db)).set ⟨db,2,none⟩ (.inl rfl) (.int .i64 c)
 refine⟨⟨by simpa using za2 (k:=2) (u:=.int .i64 c) h.cells,h.buf.kept fun b hb=>hc.block b (h.buf.at hb).2 (fun e=>h.ne (e▸hb)),h.ne,h.lo,h2⟩,hc⟩
theorem DiskAt.setbuf{w w1:World}{base db:Nat}{v v':Value}{d:TP}{l:List UInt8}(h:DiskAt w base db v d)(hbuf:BufIs w1 base 5 v' (l.map bv))(hg:w.grownBy w1 v.ownBlock)(ha:v'.ownBlock=v.ownBlock∨v'.ownBlock=some w.heap.size):
  DiskTo w (w1.setCell ⟨db,0,none⟩ v') base db v ⟨l,d.off,d.cut⟩:=by
 have hcell:w1.heap[db]?=some (.cells #[v,.bool d.off,.int .i64 d.cut] 107 (0,0)):=(hg.block db h.lt (fun e=>h.ne e.symm)).trans h.cells
 have hne:v'.ownBlock≠some db:=by
  rcases ha with ha|ha
  ·rw[ha];exact h.ne
  ·rw[ha];intro e;have:=h.lt;simp at e;omega
 have hc1:Chg w w1 (ypy db v):=⟨hg.os,hg.tape,hg.output,hg.size,fun k hk hn=>hg.block k hk (fun e=>hn (.inr e.symm))⟩
 have hc2:=(Chg.refl w1 (fun x=>x=db)).set ⟨db,0,none⟩ (.inl rfl) v'
 refine⟨v',⟨by simpa using za2 (k:=0) (u:=v') hcell,hbuf.kept fun b hb=>hc2.block b (hbuf.at hb).2 (fun e=>hne (e▸hb)),hne,h.lo,h.cut⟩,hc1.trans hc2 (fun x _ hx=>.inl hx),fun x hx=>?_⟩
 rcases ha with ha|ha
 ·rw[ha] at hx;exact .inl hx
 ·rw[ha] at hx;right;simp at hx;omega
theorem DiskTo.trans{w w1 w2:World}{base db:Nat}{v:Value}{d d2:TP}(h:DiskTo w w1 base db v d)(k:∀v',DiskAt w1 base db v' d→DiskTo w1 w2 base db v' d2):DiskTo w w2 base db v d2:=by
 obtain⟨v1,h1,hc1,ha1⟩:=h
 obtain⟨v2,h2,hc2,ha2⟩:=k v1 h1
 refine⟨v2,h2,hc1.trans hc2 (fun x hx hf=>?_),fun x hx=>?_⟩
 ·rcases hf with rfl|hf
  ·exact .inl rfl
  ·rcases ha1 x hf with h|h
   ·exact .inr h
   ·omega
 ·rcases ha2 x hx with h|h
  ·exact ha1 x h
  ·have:=hc1.size;exact .inr (by omega)
theorem DiskTo.of{w w1:World}{base db:Nat}{v:Value}{d:TP}(h:DiskAt w1 base db v d)(hc:Chg w w1 (fun x=>x=db)):DiskTo w w1 base db v d:=
 ⟨v,h,hc.more (fun x _ hx=>.inl hx),fun x hx=>.inl hx⟩
theorem zvg(s:ByteArray)(w:World)(hs:s.size≤1048576):
  Calls Tryz.prog 16 #[.string s] w fun e w'=>∃db,e=.returned (.tuple #[.pointer (some ⟨db,0,none⟩),.nilIface])∧(∃v,DiskAt w' w.heap.size db v ⟨s.data.toList,false,-1⟩)∧Below w.heap.size w w':=by
 have hI:¬(1048576:Int)<s.size:=by omega
 have hcv:=fun w'=>Lib.run_convert_string_bytes (P:=Tryz.prog) w' 9 105 5 s Tryz.underlying9 Tryz.underlying105 Tryz.underlying5
 go_enter Tryz.func16,Tryz.ntmps16
 go_wp2_with fail
 have B0:=BufIs.conv w w.heap.size 5 s (Nat.le_refl _) (by unfold maxLen;omega)
 have b0:=Lib.bytesWorld_below w 5 s
 go_ret2
 have hsz:(Lib.bytesWorld w 5 s).heap.size=w.heap.size+1:=Lib.bytesWorld_size _ _ _
 have hn:=heap_alloc_new (Lib.bytesWorld w 5 s) (.cells #[.slice (some ⟨w.heap.size,0,none⟩) s.size (grownCap w s.size 0 5),.bool false,.int .i64 (-1)] 107)
 have b1:=zag (Lib.bytesWorld w 5 s) (.cells #[.slice (some ⟨w.heap.size,0,none⟩) s.size (grownCap w s.size 0 5),.bool false,.int .i64 (-1)] 107)
 have e1:Lib.strCells s=s.data.toList.map bv:=by rw[←zoa s,zgq,zai]
 rw[e1] at B0
 exact⟨_,rfl,⟨_,hn,B0.below b1,by simp[Value.ownBlock,hsz],by omega,⟨by simp,by simp⟩⟩,zaa b0 b1⟩
theorem ylb(E:Nat→Addr)(base db:Nat)(v:Value)(d:TP)(n:Int)(w:World)(h:DiskAt w base db v d)(hn:n≤9223372036854775807)(hB:Has E w 2)(hO:Has E w 12):
  Calls Tryz.prog 120 #[.pointer (some ⟨db,0,none⟩),.int .i64 n] w fun e w'=>e=.returned (ev E (ctC d n))∧DiskTo w w' base db v (ctT d n):=by
 obtain⟨⟨c0,c1,c2⟩,cf⟩:=h.cs
 have f2:=cf 2
 have cB:w.cell? ⟨0,0,none⟩=some (za0 (E 2)):=hB
 have cO:w.cell? ⟨8,0,none⟩=some (za0 (E 12)):=hO
 have HD:=hid h
 clear h hB hO cf
 by_cases h1:n<0
 ·have e1:ctC d n=2:=by unfold ctC;rw[if_pos h1]
  have e2:ctT d n=d:=by unfold ctT;rw[if_pos h1]
  rw[e1,e2,za9 E (by decide)]
  clear e1 e2
  go_enter Tryz.func120,Tryz.ntmps120
  go_wp2_with fail
  go_ret
  exact⟨rfl,DiskTo.same HD.out (Below.refl _ _)⟩
 ·cases ho:d.off with
  | true=>
   have e1:ctC d n=12:=by unfold ctC;rw[if_neg h1,if_pos ho]
   have e2:ctT d n=d:=by unfold ctT;rw[if_neg h1,if_pos ho]
   rw[e1,e2,za9 E (by decide)]
   rw[ho] at c1
   clear e1 e2 ho
   go_enter Tryz.func120,Tryz.ntmps120
   go_wp2_with fail
   go_ret
   exact⟨rfl,DiskTo.same HD.out (Below.refl _ _)⟩
  | false=>
   have e1:ctC d n=0:=by unfold ctC;rw[if_neg h1,if_neg (by simp[ho])]
   have e2:ctT d n=⟨d.b,d.off,n⟩:=by unfold ctT;rw[if_neg h1,if_neg (by simp[ho])]
   rw[e1,e2,zaj]
   rw[ho] at c1
   have T:=hid (HD.out.setcut n (by omega))
   clear e1 e2 ho
   go_enter Tryz.func120,Tryz.ntmps120
   go_wp2_with fail
   go_ret
   exact⟨rfl,DiskTo.of T.out.1 T.out.2⟩
theorem yox(base db:Nat)(v:Value)(d:TP)(w:World)(h:DiskAt w base db v d):
  Calls Tryz.prog 161 #[.pointer (some ⟨db,0,none⟩)] w fun e w'=>e=.returned (.tuple #[])∧DiskTo w w' base db v (onT d):=by
 obtain⟨⟨c0,c1,c2⟩,cf⟩:=h.cs
 have f1:=cf 1
 have f2:=cf 2
 have T1:=h.off false
 have T2:=T1.1.setcut (-1) (by decide)
 have T:=hid (DiskTo.of T2.1 (T1.2.trans T2.2 (fun x _ hx=>hx)))
 clear h cf T1 T2
 go_enter Tryz.func161,Tryz.ntmps161
 go_wp2_with fail
 go_returns
 exact⟨rfl,T.out⟩
theorem zjj{w:World}{base:Nat}{v:Value}{l:List UInt8}(h:BufIs w base 5 v (l.map bv)):(convert 105 9 v).run Tryz.prog w=.ok (.string (bs l)) w:=by
 rcases h.slice with⟨rfl,e⟩|⟨a,len,cap,rfl,h1,h2,h3,h4⟩
 ·have:l=[]:=by simpa using e
  subst this
  have:=run_convert_bytes_back (P:=Tryz.prog) w 105 9 5 ⟨0,0,none⟩ 0 [] Tryz.underlying105 Tryz.underlying5 Tryz.underlying9 (fun j hj=>by simp at hj)
  simp[convert,run_underlying Tryz.underlying105,run_underlying Tryz.underlying9,run_underlying Tryz.underlying5,Conv.bytesToString] at this ⊢
  unfold bs
  rfl
 ·have hl:l.length=len:=by simpa using h3
  have:=run_convert_bytes_back (P:=Tryz.prog) w 105 9 5 a cap l Tryz.underlying105 Tryz.underlying5 Tryz.underlying9 (fun j hj=>by
   have:=h4 j (bv l[j]) (by simp[hj])
   simpa [bv] using this)
  rw[hl] at this
  rw[this]
  congr 2
  exact zg0 (by simp)
theorem ybh(base db:Nat)(v:Value)(d:TP)(w:World)(h:DiskAt w base db v d):
  Calls Tryz.prog 117 #[.pointer (some ⟨db,0,none⟩)] w fun e w'=>e=.returned (.string (bs d.b))∧w'=w:=by
 obtain⟨⟨c0,c1,c2⟩,cf⟩:=h.cs
 have hcv:=zjj h.buf
 clear h cf c1 c2
 go_enter Tryz.func117,Tryz.ntmps117
 go_wp2_with fail
 go_ret
 exact⟨rfl,rfl⟩
section
theorem yo1{c:UInt8}{l:List UInt8}{done:List (List UInt8)}{f i:Nat}(hg:l[i]?=some c)(h:zcn c l=done++((l.drop f).take (i - f)++(ziy c (l.drop i)).1)::(ziy c (l.drop i)).2):
  zcn c l=(done++[(l.drop f).take (i - f)])++((l.drop (i+1)).take (i+1 - (i+1))++(ziy c (l.drop (i+1))).1)::(ziy c (l.drop (i+1))).2:=by
 obtain⟨hl,e⟩:=List.getElem?_eq_some_iff.1 hg
 rw[h,List.drop_eq_getElem_cons hl,e,zp0]
 simp
theorem yrk{b c:UInt8}{l:List UInt8}{done:List (List UInt8)}{f i:Nat}(hb:b≠c)(hf:f≤i)(hg:l[i]?=some b)(h:zcn c l=done++((l.drop f).take (i - f)++(ziy c (l.drop i)).1)::(ziy c (l.drop i)).2):
  zcn c l=done++((l.drop f).take (i+1 - f)++(ziy c (l.drop (i+1))).1)::(ziy c (l.drop (i+1))).2:=by
 obtain⟨hl,e⟩:=List.getElem?_eq_some_iff.1 hg
 have e2:(l.drop f).take (i+1 - f)=(l.drop f).take (i - f)++[b]:=by
  rw[show i+1 - f=(i - f)+1 by omega,List.take_succ_eq_append_getElem (by rw[List.length_drop];omega),List.getElem_drop]
  congr 2
  rw[←e]
  congr 1
  omega
 rw[h,List.drop_eq_getElem_cons hl,e,zuq hb,e2]
 simp
theorem yo4{c:UInt8}{l:List UInt8}{done:List (List UInt8)}{f i:Nat}(hi:l.length≤i)(h:zcn c l=done++((l.drop f).take (i - f)++(ziy c (l.drop i)).1)::(ziy c (l.drop i)).2):
  zcn c l=done++[l.drop f]:=by
 rw[h,List.drop_of_length_le hi,List.take_of_length_le (by rw[List.length_drop];omega)]
 simp[ziy]
attribute [local irreducible] zcn ziy
theorem zqf(c:UInt8)(z:Int)(hz:z=c.toNat)(b:List UInt8)(w:World)(hb:b.length≤1000000000):
  Calls Tryz.prog 11 #[.string (bs b),.int .u8 z] w fun e w'=>∃v,e=.returned v∧w'.ownsRow w.heap.size 9 1 v (zcn c b).length (zbw (zcn c b))∧Below w.heap.size w w':=by
 obtain⟨i0,hi,hz0,hz1,hz2⟩:=info_parts zgw
 have hsz:(bs b).size=b.length:=zae b
 have HGET:=hid (fun k h=>yhn b k h)
 have GV:Hid (∀(k:Nat)(h:k<(bs b).size),((bs b)[k]'h).toNat<256):=fun k h=>((bs b)[k]'h).toNat_lt
 have SUB:=hid (fun i k=>zrx b i k)
 have HLB:=hid (show b.length≤1000000000 from hb)
 have CY:=hid (fun(done:List (List UInt8))(f i:Nat)=>yo1 (c:=c) (l:=b) (done:=done) (f:=f) (i:=i))
 have CN:=hid (fun(x:UInt8)(done:List (List UInt8))(f i:Nat)=>yrk (b:=x) (c:=c) (l:=b) (done:=done) (f:=f) (i:=i))
 have CE:=hid (fun(done:List (List UInt8))(f i:Nat)=>yo4 (c:=c) (l:=b) (done:=done) (f:=f) (i:=i))
 have HZ0:Hid (zcn c b=[]++((b.drop 0).take (0 - 0)++(ziy c (b.drop 0)).1)::(ziy c (b.drop 0)).2):=hid (by unfold zcn;simp)
 subst hz
 generalize zcn c b=R at *
 go_enter Tryz.func11,Tryz.ntmps11
 go_wp2_with fail
 go_loopw [5,6,7] (fun o f i wr=>∃(n m:Nat)(done:List (List UInt8)),i=.int .i64 n∧f=.int .i64 m∧n≤b.length∧m≤n∧done.length≤n∧wr.ownsRow w.heap.size 9 1 o done.length (zbw done)∧R=done++((b.drop m).take (n - m)++(ziy c (b.drop n)).1)::(ziy c (b.drop n)).2∧Below w.heap.size w wr) (fun _ _ i _=>b.length - (intOf i).toNat)
 case atStart=>exact⟨0,0,[],rfl,rfl,by omega,by omega,by simp,World.ownsRow_nil _ _ _ _,HZ0.out,Below.refl _ _⟩
 case round=>
  obtain⟨n,m,done,rfl,rfl,hn,hm,hdn,hown,hR,bel⟩:=hrel
  have HR:=hid hR
  have HO:=hid hown
  have BW:=hid bel
  have BS:=hid bel.size
  obtain⟨va,vc,rfl⟩:=zab hown
  have hn64:n≤1000000000:=by omega
  have hm64:m≤1000000000:=by omega
  have HN1:Hid (done.length+1≤maxLen):=by show _≤_;unfold maxLen;omega
  have HN2:Hid ((done.length+1) * 16≤140737488355328):=by show _≤_;omega
  clear hR bel hown HZ0
  have x1:(0:Int)≤n:=by omega
  have y1:(0:Int)≤m:=by omega
  have y2:(m:Int)≤n:=by omega
  by_cases hlt:n<b.length
  ·have hltI:(n:Int)<b.length:=by omega
   have y3:(n:Int)≤b.length:=by omega
   have hjs:n<(bs b).size:=by omega
   have hg:=HGET.out n hjs
   have hcv:=GV.out n hjs
   have KK:=hid (show n+1≤b.length∧done.length+1≤n+1∧m≤n+1∧done.length≤n+1 by omega)
   by_cases hc:((bs b)[n]'hjs)=c
   ·have hcE:((((bs b)[n]'hjs).toNat:Int)==(c.toNat:Int))=true:=by rw[hc];simp
    have EX:=SUB.out m n
    have NX:=hid (CY.out done m n (by rw[hg,hc]) HR.out)
    have hc256:c.toNat<256:=c.toNat_lt
    clear hc hg HR CY CN CE hdn
    generalize (b.drop m).take (n - m)=s at *
    go_wp2_with (at_builtin;refine wpList_append_own _ rfl _ _ 22 rfl w.heap.size 9 i0 _ 1 16 Tryz.underlying22 hi hz0 hz1 hz2 rfl (by decide) _ _ _ rfl (HO.out.alloc _) ⟨wr.heap.size,0,none⟩ 1 1 [.string (bs s)] rfl rfl (zc4 (by simp)) (zbs rfl) HN1.out HN2.out (by have:=BS.out;simp;omega) ?_;intro v' w5 hown5 hgrow _;have HO5:=hid hown5;have B5:=hid ((BW.out.alloc BS.out _).grown hgrow (by have:=BS.out;simp;omega) (fun j hj=>(HO.out.lt j hj).1));clear hown5 hgrow)
    go_roundw
    case rel=>exact⟨n+1,n+1,done++[s],by go_num,by go_num,KK.out.1,by omega,by simpa using KK.out.2.1,by rw[zcz,List.length_append];exact HO5.out,NX.out,B5.out⟩
    case measure=>have:=KK.out;simp[intOf];omega
   ·have hc256:c.toNat<256:=c.toNat_lt
    have hcE:((((bs b)[n]'hjs).toNat:Int)==(c.toNat:Int))=false:=by
     rw[beq_eq_false_iff_ne]
     intro e
     exact hc (UInt8.toNat_inj.1 (by omega))
    have NX:=hid (CN.out _ done m n hc hm hg HR.out)
    clear hc hg HR CY CN CE hdn
    go_wp2_with fail
    go_roundw
    case rel=>exact⟨n+1,m,done,by go_num,rfl,KK.out.1,KK.out.2.2.1,KK.out.2.2.2,HO.out,NX.out,BW.out⟩
    case measure=>have:=KK.out;simp[intOf];omega
  ·have hltI:¬(n:Int)<b.length:=by omega
   have y3:(m:Int)≤b.length:=by omega
   have EX:=SUB.out m b.length
   have EQ:(b.drop m).take (b.length - m)=b.drop m:=List.take_of_length_le (by rw[List.length_drop];omega)
   rw[EQ] at EX
   have NX:=hid (CE.out done m n (by omega) HR.out)
   clear HR CY CN CE hdn EQ
   generalize b.drop m=s at *
   go_wp2_with (at_builtin;refine wpList_append_own _ rfl _ _ 22 rfl w.heap.size 9 i0 _ 1 16 Tryz.underlying22 hi hz0 hz1 hz2 rfl (by decide) _ _ _ rfl (HO.out.alloc _) ⟨wr.heap.size,0,none⟩ 1 1 [.string (bs s)] rfl rfl (zc4 (by simp)) (zbs rfl) HN1.out HN2.out (by have:=BS.out;simp;omega) ?_;intro v' w5 hown5 hgrow _;have HO5:=hid hown5;have B5:=hid ((BW.out.alloc BS.out _).grown hgrow (by have:=BS.out;simp;omega) (fun j hj=>(HO.out.lt j hj).1));clear hown5 hgrow)
   go_ret
   rw[NX.out]
   exact⟨_,rfl,by rw[zcz,List.length_append];exact HO5.out,B5.out⟩
end
end Go.Proofs.YtakhkcaihhpehaaGreatDoor
