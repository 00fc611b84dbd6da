/- Texts of one proof, one behind the other: Maker2, SignLaws, Make, DeltaText, OpRead, DeltaRead, ArgGen, ArgOps, DeltaLaws, Flow0, SameOps, SignSizes. -/
import Derived.Test.YtakhkcaihhpehaaGreatDoorB12
import Derived.Test.YtakhkcaihhpehaaGreatDoorB04
import Derived.Test.YtakhkcaihhpehaaGreatDoorB01
import Derived.Deep.Slices
import Derived.Deep.Fields
import Derived.Test.YtakhkcaihhpehaaGreatDoorRows
import Derived.OneCell
import Derived.IntWalk
import Derived.Handy
import Derived.Test.YtakhkcaihhpehaaGreatDoorB11
import Derived.Test.YtakhkcaihhpehaaGreatDoorB03
namespace Go.Proofs.YtakhkcaihhpehaaGreatDoor
open Go.RowKit
open Lib (hid)
set_option linter.unusedVariables false
set_option maxRecDepth 100000
set_option maxHeartbeats 51200000
theorem yfb(b:Nat)(l:List POp)(d:List UInt8)(w:World)(h:MAt w b l)(hl:l.length≤1000000)(hb:∀o∈l,0≤o.a∧o.a≤1000000∧0≤o.n∧o.n≤1000000∧o.data.length≤1000000)(hd:d.length≤1000000):
  Calls Tryz.prog 149 #[.pointer (some ⟨b,0,none⟩),.string (bs d)] w fun e w'=>e=.returned (.tuple #[])∧MAt w' b (zef l d)∧Below b w w':=by
 obtain⟨i0,hi,hz0,hz1,hz2⟩:=info_parts zng
 obtain⟨v,h⟩:=h
 have c0:=h.c0
 rcases zd1 l with rfl|⟨m,o,rfl⟩
 ·have HR:=hid h
  have hown:=h.2
  obtain⟨A,cap,rfl⟩:=zdo hown
  rw[zee]
  clear h hb hl hown
  have NEWC:Hid (∀u∈([.string ⟨#[100,97,116,97]⟩,.int .i64 0,.int .i64 0,.string (bs d)]:List Value),u.oneCell'=true):=fun u hu=>by simp at hu;rcases hu with rfl|rfl|rfl|rfl<;>rfl
  have OWN:=hid (show World.ownsRow w (b+1) 104 4 _ 0 _ from HR.out.2)
  have WR:=hid (show MRaw w b _ _ from HR.out)
  have HM1:Hid (0+1≤maxLen):=by show _≤_;unfold maxLen;omega
  have HM2:Hid ((0+1) * 48≤140737488355328):=by show _≤_;omega
  have HM3:Hid (b+1≤(w.alloc (.cells #[.string ⟨#[100,97,116,97]⟩,.int .i64 0,.int .i64 0,.string (bs d)] 104)).heap.size):=by show _≤_;have:=HR.out.lt;simp;omega
  go_enter Tryz.func149,Tryz.ntmps149
  go_wp2_with (at_builtin;refine wpList_append_own _ rfl _ _ 98 rfl (b+1) 104 i0 _ 4 48 Tryz.underlying98 hi hz0 hz1 hz2 rfl (by decide) _ _ _ rfl (OWN.out.alloc _) ⟨w.heap.size,0,none⟩ 1 1 [.string ⟨#[100,97,116,97]⟩,.int .i64 0,.int .i64 0,.string (bs d)] rfl rfl (zfp (heap_alloc_new w _)) (fun u hu=>NEWC.out u hu) HM1.out HM2.out HM3.out ?_;intro v' w3 hown' hgrow _;obtain⟨A',q',rfl⟩:=zdo hown';have fb:=MRaw.fg WR.out hgrow;have cb:=MRaw.cg WR.out hgrow)
  have T:=MRaw.tail (p:=⟨zcg,0,0,d⟩) WR.out (by rw[zlt];exact hown') hgrow
  go_returns
  exact⟨rfl,T.1,by first|exact T.2|exact zdk T.2⟩
 ·obtain⟨g,cap,rfl,hg,hc1,hc2,d0,d1,d2,d3,df⟩:=h.last
  obtain⟨y1,y2,y3,y4,y5⟩:=hb o (by simp)
  have hml:m.length≤1000000:=by simp at hl;omega
  have HR:=hid h
  have HDF:=hid df
  clear h hb hl df
  unfold maxLen at hc2
  by_cases hkk:o.kind=zcg
  ·have k1:=zc3 o.kind [100,97,116,97] (by rw[hkk,ze2])
   rw[zes m o d hkk]
   have f2:=HDF.out (m.length * 4+3)
   have hcat:¬9223372036854775807<o.data.length+d.length:=by omega
   clear hkk
   go_enter Tryz.func149,Tryz.ntmps149
   go_wp2_with fail
   have T:=(MRaw.store (w:=w) (p:=⟨o.kind,o.a,o.n,o.data++d⟩) 3 (.string (bs o.data++bs d)) HR.out (by decide) (by rw[yrp];rfl))
   go_returns
   exact⟨rfl,T.1,T.2⟩
  ·have k1:=zbj o.kind [100,97,116,97] (by rw[←ze2];exact hkk)
   rw[zft m o d hkk]
   have HLEN:(m++[o]).length=m.length+1:=by simp
   clear hkk
   have HLN:=hid HLEN
   clear HLEN
   have NEWC:Hid (∀u∈([.string ⟨#[100,97,116,97]⟩,.int .i64 0,.int .i64 0,.string (bs d)]:List Value),u.oneCell'=true):=fun u hu=>by simp at hu;rcases hu with rfl|rfl|rfl|rfl<;>rfl
   have OWN:=hid (show World.ownsRow w (b+1) 104 4 (.slice (some ⟨g,0,none⟩) (m.length+1) cap) (m.length+1) (za3 (m++[o])) from(by have:=HR.out.2;rw[HLN.out] at this;exact this))
   have WR:=hid (show MRaw w b _ _ from HR.out)
   have HM1:Hid ((m.length+1)+1≤maxLen):=by show _≤_;unfold maxLen;omega
   have HM2:Hid (((m.length+1)+1) * 48≤140737488355328):=by show _≤_;omega
   have HM3:Hid (b+1≤(w.alloc (.cells #[.string ⟨#[100,97,116,97]⟩,.int .i64 0,.int .i64 0,.string (bs d)] 104)).heap.size):=by show _≤_;have:=HR.out.lt;simp;omega
   go_enter Tryz.func149,Tryz.ntmps149
   go_wp2_with (at_builtin;refine wpList_append_own _ rfl _ _ 98 rfl (b+1) 104 i0 _ 4 48 Tryz.underlying98 hi hz0 hz1 hz2 rfl (by decide) _ _ _ rfl (OWN.out.alloc _) ⟨w.heap.size,0,none⟩ 1 1 [.string ⟨#[100,97,116,97]⟩,.int .i64 0,.int .i64 0,.string (bs d)] rfl rfl (zfp (heap_alloc_new w _)) (fun u hu=>NEWC.out u hu) HM1.out HM2.out HM3.out ?_;intro v' w3 hown' hgrow _;obtain⟨A',q',rfl⟩:=zdo hown';have fb:=MRaw.fg WR.out hgrow;have cb:=MRaw.cg WR.out hgrow)
   have T:=MRaw.tail (p:=⟨zcg,0,0,d⟩) WR.out (by rw[zlt,HLN.out];exact hown') hgrow
   go_returns
   exact⟨rfl,T.1,by first|exact T.2|exact zdk T.2⟩
theorem zyv(size:Nat)(L:List UInt8)(k:Nat)(h:k<(zeu size L).length):(zeu size L)[k]=blk ((L.drop (k * size)).take size):=by
 have hk:k<zc8 size L.length:=by rw[←ze5];exact h
 have h2:(zeu size L)[k]?=some (blk ((L.drop (k * size)).take size)):=by unfold zeu zf2;rw[List.getElem?_map,List.getElem?_range hk];rfl
 exact(List.getElem_eq_iff h).2 h2
theorem zyo{size len k:Nat}(hs:0<size)(h:k<zc8 size len):k * size<len:=by
 unfold zc8 at h
 have h1:=(Nat.le_div_iff_mul_le hs).1 (show k+1≤(len+size - 1) / size by omega)
 rw[Nat.add_mul] at h1
 omega
def zn5(size len k:Nat):Nat:=if k * size≤len then k * size else len
theorem yn5{size len k:Nat}(hs:0<size)(h:k<zc8 size len):zn5 size len k=k * size:=by
 have:=zyo hs h;unfold zn5;rw[if_pos (by omega)]
theorem blkN(size:Nat)(L:List UInt8)(k:Nat)(hs:0<size)(h:k<zc8 size L.length):
  (blk ((L.drop (k * size)).take size)).N=((zn5 size L.length (k+1) - zn5 size L.length k:Nat):Int)∧1≤zn5 size L.length (k+1) - zn5 size L.length k∧zn5 size L.length (k+1) - zn5 size L.length k≤size∧
   zn5 size L.length k≤zn5 size L.length (k+1)∧zn5 size L.length (k+1)≤L.length∧(k+1≠zc8 size L.length→zn5 size L.length (k+1) - zn5 size L.length k=size):=by
 have h1:=zyo hs h
 have h2:=yn5 (len:=L.length) hs h
 have h3:(k+1) * size=k * size+size:=by rw[Nat.add_mul];omega
 have h4:k+1≠zc8 size L.length→(k+1) * size≤L.length:=fun hne=>by
  have:=zyo (size:=size) (len:=L.length) (k:=k+1) hs (by omega);omega
 rw[h2]
 rw[zny]
 simp only[List.length_take,List.length_drop]
 unfold zn5
 rw[h3] at h4 ⊢
 split
 ·refine⟨by omega,by omega,by omega,by omega,by omega,fun _=>by omega⟩
 ·refine⟨by omega,by omega,by omega,by omega,by omega,fun h=>by have:=h4 h;omega⟩
theorem zly(size:Nat)(L:List UInt8)(h1:1≤size)(h2:size≤64)(hL:L.length≤4000):chk (zeu size L) size=(0,-1):=by
 rw[znu (by omega)]
 have H:∀j k,k+j=(zeu size L).length→zlw size ((zeu size L).drop k) k (zn5 size L.length k)=(0,-1):=by
  intro j
  induction j with
  | zero=>intro k hk;exact zrg (by omega)
  | succ j ih=>
   intro k hk
   have hlt:k<(zeu size L).length:=by omega
   have hc:k<zc8 size L.length:=by rw[←ze5];exact hlt
   obtain⟨q1,q2,q3,q4,q5,q6⟩:=blkN size L k h1 hc
   have hb:=zyv size L k hlt
   have hw:=ym8 ((L.drop (k * size)).take size)
   have hN:((zeu size L)[k]).N=((zn5 size L.length (k+1) - zn5 size L.length k:Nat):Int):=by rw[hb];exact q1
   have hW:((zeu size L)[k]).W=ws ((L.drop (k * size)).take size):=by rw[hb,zny]
   rw[znv hlt]
   ·have:=ih (k+1) (by omega)
    rw[hN]
    have e:(zn5 size L.length k:Int)+((zn5 size L.length (k+1) - zn5 size L.length k:Nat):Int)=(zn5 size L.length (k+1):Int):=by omega
    rw[e];exact this
   ·intro hbad
    unfold zyx at hbad
    rw[hN,hW] at hbad
    rw[ze5] at hbad
    rcases hbad with h|h|⟨h,h'⟩|h|h
    ·omega
    ·omega
    ·have:=q6 (by simp at h';omega);omega
    ·omega
    ·omega
   ·rw[hN];omega
 have:=H (zeu size L).length 0 (by omega)
 simpa [zn5] using this
theorem ymz(size:Nat)(L:List UInt8):∀b∈zeu size L,b.S<4294967296:=by
 intro b hb
 obtain⟨k,hk,rfl⟩:=List.getElem_of_mem hb
 rw[zyv,zny]
 exact zdv _
theorem zzv(b:Blk)(more:List UInt8)(h:1≤b.N∧b.N≤64∧0≤b.W∧b.W<4294967296)(hS:b.S<4294967296):zmm (num b.N.toNat++num b.W.toNat++num b.S++more)=(b,more,0):=by
 have e:num b.N.toNat++num b.W.toNat++num b.S++more=num b.N.toNat++(num b.W.toNat++(num b.S++more)):=by simp
 rw[e]
 obtain⟨p1,p2,p3⟩:=zf9 b.N.toNat (num b.W.toNat++(num b.S++more)) (by omega)
 obtain⟨q1,q2,q3⟩:=zf9 b.W.toNat (num b.S++more) (by omega)
 obtain⟨r1,r2,r3⟩:=zf9 b.S more (by omega)
 rw[zqe _ _ _ _ _ p2 p3 q2 q3,p1,q1,r1,r2,r3]
 rw[if_neg (by omega)]
 have e1:((b.N.toNat:Nat):Int)=b.N:=by omega
 have e2:((b.W.toNat:Nat):Int)=b.W:=by omega
 have e3:b.S % 4294967296=b.S:=by omega
 rw[e1,e2,e3]
theorem zmj:∀(l:List Blk)(out:List Blk)(more:List UInt8),(∀b∈l,1≤b.N∧b.N≤64∧0≤b.W∧b.W<4294967296)→(∀b∈l,b.S<4294967296)→zg5 l.length (zgl l++more) 0 out=(out++l,more,0)
 | [],out,more,_,_=>by simp[zt3,zon]
 | b::l,out,more,h,hS=>by
  rw[zpn,List.append_assoc]
  rw[zml (by simp),zzv b _ (h b (by simp)) (hS b (by simp))]
  simp only[List.length_cons,Nat.add_sub_cancel]
  rw[zmj l _ more (fun x hx=>h x (by simp[hx])) (fun x hx=>hS x (by simp[hx]))]
  simp
theorem yde(l:List Blk)(size:Nat)(hc:(chk l size).1=0)(hS:∀b∈l,b.S<4294967296):zem (zla l size)=(l,size,0):=by
 obtain⟨k1,k2,k3,k4⟩:=zyq hc
 have e:zla l size=num size++(num l.length++(zgl l++[])):=by rw[zp4];simp
 obtain⟨p1,p2,p3⟩:=zf9 size (num l.length++(zgl l++[])) (by omega)
 obtain⟨q1,q2,q3⟩:=zf9 l.length (zgl l++[]) (by omega)
 have hr:rd0 (zla l size)=(l,[],0):=by
  rw[e,ymg p2 p3 q2 q3,q1,zmj l [] [] (fun b hb=>by have:=k4 b hb;omega) hS];simp
 have hn:rnN (zla l size) 0=size:=by rw[e];exact p1
 have:=zsa hr ze0 (by rw[hn];exact hc)
 rw[this,hn]
def mkA(l:List Blk)(size:Nat):Nat→List UInt8→List POp→List POp
 | 0,_,out=>out
 | f+1,s,out=>if s=[] then out else
   if 0≤zeo l (blk (s.take size)) then mkA l size f (s.drop size) (zeh out (zeo l (blk (s.take size))))
   else mkA l size f (s.drop 1) (zef out (s.take 1))
def zc1(l:List Blk)(size:Nat)(s:List UInt8):List POp:=mkA l size s.length s []
theorem zm2(l:List Blk)(size f:Nat)(out:List POp):mkA l size f [] out=out:=by cases f<;>simp[mkA]
theorem zjy{l:List Blk}{size f:Nat}{s:List UInt8}{out:List POp}(hs:s≠[])(h:0≤zeo l (blk (s.take size))):
  mkA l size (f+1) s out=mkA l size f (s.drop size) (zeh out (zeo l (blk (s.take size)))):=by rw[mkA,if_neg hs,if_pos h]
theorem zjx{l:List Blk}{size f:Nat}{s:List UInt8}{out:List POp}(hs:s≠[])(h:¬0≤zeo l (blk (s.take size))):
  mkA l size (f+1) s out=mkA l size f (s.drop 1) (zef out (s.take 1)):=by rw[mkA,if_neg hs,if_neg h]
attribute [irreducible] mkA
def OkOp(o:POp)(i:Nat):Prop:=(o.kind=zbz∧o.data=[]∧0≤o.a∧o.a≤4000∧1≤o.n∧o.n≤i)∨(o.kind=zcg∧o.a=0∧o.n=0∧1≤o.data.length∧o.data.length≤i)
def OkOut(out:List POp)(i:Nat):Prop:=out.length≤i∧zb7 out≤i∧∀o∈out,OkOp o i
theorem OkOp.mono{o:POp}{i j:Nat}(h:OkOp o i)(hj:i≤j):OkOp o j:=by
 rcases h with⟨h1,h2,h3,h4,h5,h6⟩|⟨h1,h2,h3,h4,h5⟩
 ·exact .inl ⟨h1,h2,h3,h4,h5,by omega⟩
 ·exact .inr ⟨h1,h2,h3,h4,by omega⟩
theorem OkOut.nil(i:Nat):OkOut [] i:=⟨by simp,by rw[zgh];omega,by simp⟩
theorem OkOut.mono{out:List POp}{i j:Nat}(h:OkOut out i)(hj:i≤j):OkOut out j:=⟨by have:=h.1;omega,by have:=h.2.1;omega,fun o ho=>(h.2.2 o ho).mono hj⟩
theorem OkOut.copy{out:List POp}{i:Nat}{k:Int}(h:OkOut out i)(hk:0≤k∧k≤4000):OkOut (zeh out k) (i+1):=by
 obtain⟨h1,h2,h3⟩:=h
 have hnew:OkOp ⟨zbz,k,1,[]⟩ (i+1):=.inl ⟨rfl,rfl,hk.1,hk.2,by simp,by simp only[];omega⟩
 rcases zd1 out with rfl|⟨m,o,rfl⟩
 ·rw[zeg]
  exact⟨by simp,by rw[zaw,zgh,zbr];simp,fun o ho=>by simp at ho;subst ho;exact hnew⟩
 ·by_cases hc:o.kind=zbz∧o.a+o.n=k
  ·rw[zet m o k hc]
   refine⟨by simp at h1 ⊢;omega,by rw[zaw,zbr] at h2 ⊢;simp only[];omega,fun x hx=>?_⟩
   rcases List.mem_append.1 hx with hx|hx
   ·exact(h3 x (by simp[hx])).mono (by omega)
   ·simp at hx;subst hx
    rcases h3 o (by simp) with⟨g1,g2,g3,g4,g5,g6⟩|⟨g1,_⟩
    ·exact .inl ⟨g1,g2,g3,g4,by simp only[];omega,by simp only[];omega⟩
    ·rw[hc.1] at g1;exact absurd g1.symm kne
  ·rw[zdg m o k hc]
   refine⟨by simp at h1 ⊢;omega,by rw[zaw,zbr];simp only[List.length_nil];omega,fun x hx=>?_⟩
   rcases List.mem_append.1 hx with hx|hx
   ·exact(h3 x hx).mono (by omega)
   ·simp at hx;subst hx;exact hnew
theorem OkOut.data{out:List POp}{i:Nat}{d:List UInt8}(h:OkOut out i)(hd:d.length=1):OkOut (zef out d) (i+1):=by
 obtain⟨h1,h2,h3⟩:=h
 have hnew:OkOp ⟨zcg,0,0,d⟩ (i+1):=.inr ⟨rfl,rfl,rfl,by simp only[];omega,by simp only[];omega⟩
 rcases zd1 out with rfl|⟨m,o,rfl⟩
 ·rw[zee]
  exact⟨by simp,by rw[zaw,zgh,zbr];simp only[];omega,fun o ho=>by simp at ho;subst ho;exact hnew⟩
 ·by_cases hc:o.kind=zcg
  ·rw[zes m o d hc]
   refine⟨by simp at h1 ⊢;omega,by rw[zaw,zbr] at h2 ⊢;simp only[List.length_append];omega,fun x hx=>?_⟩
   rcases List.mem_append.1 hx with hx|hx
   ·exact(h3 x (by simp[hx])).mono (by omega)
   ·simp at hx;subst hx
    rcases h3 o (by simp) with⟨g1,_⟩|⟨g1,g2,g3,g4,g5⟩
    ·rw[hc] at g1;exact absurd g1 kne
    ·exact .inr ⟨g1,g2,g3,by simp only[List.length_append];omega,by simp only[List.length_append];omega⟩
  ·rw[zft m o d hc]
   refine⟨by simp at h1 ⊢;omega,by rw[zaw,zbr];simp only[];omega,fun x hx=>?_⟩
   rcases List.mem_append.1 hx with hx|hx
   ·exact(h3 x hx).mono (by omega)
   ·simp at hx;subst hx;exact hnew
theorem OkOut.bounds{out:List POp}{i:Nat}(h:OkOut out i)(hi:i≤4000):out.length≤1000000∧∀o∈out,0≤o.a∧o.a≤1000000∧0≤o.n∧o.n≤1000000∧o.data.length≤1000000:=by
 refine⟨by have:=h.1;omega,fun o ho=>?_⟩
 rcases h.2.2 o ho with⟨g1,g2,g3,g4,g5,g6⟩|⟨g1,g2,g3,g4,g5⟩
 ·rw[g2];refine⟨g3,by omega,by omega,by omega,by simp⟩
 ·rw[g2,g3];refine⟨by omega,by omega,by omega,by omega,by omega⟩
theorem OkOut.chk{out:List POp}{i:Nat}(h:OkOut out i)(hi:i≤4000):∀o∈out,opC o=0:=by
 intro o ho
 rcases h.2.2 o ho with⟨g1,g2,g3,g4,g5,g6⟩|⟨g1,g2,g3,g4,g5⟩
 ·exact zxn g1 g2 ⟨⟨g3,g4⟩,g5,by omega⟩
 ·exact zxl (by rw[g1];exact kne) g1 ⟨g2,g3⟩ ⟨g4,by omega⟩
theorem zyb:∀(l:List Blk)(x:Blk)(i:Nat),-1≤zf0 l x i∧zf0 l x i<(i+l.length:Nat)∧(0≤zf0 l x i→∃j,∃h:j<l.length,zf0 l x i=(i+j:Nat)∧l[j]=x)
 | [],x,i=>by
  have e:zf0 ([]:List Blk) x i=-1:=by have:=zj8 [] x i (by simp);simpa using this
  rw[e];simp;omega
 | b::l,x,i=>by
  rw[zpb]
  split
  ·rename_i h
   exact⟨by omega,by simp;omega,fun _=>⟨0,by simp,by simp,h⟩⟩
  ·obtain⟨h1,h2,h3⟩:=zyb l x (i+1)
   refine⟨h1,by simp;omega,fun h=>?_⟩
   obtain⟨j,hj,e1,e2⟩:=h3 h
   exact⟨j+1,by simpa using hj,by rw[e1];omega,by simpa using e2⟩
theorem zlr(l:List Blk)(x:Blk):-1≤zeo l x∧zeo l x<l.length:=by
 have:=zyb l x 0
 unfold zeo;omega
theorem zwt(s:ByteArray)(i k e:Nat)(hk:e=i+k):(s.extract i e).data.toList=(s.data.toList.drop i).take k:=by
 subst hk
 simp[List.extract_eq_take_drop]
theorem zxy(E:Nat→Addr)(s0:Option Addr)(n0 c0:Nat)(l:List Blk)(size:Int)(s:ByteArray)(w:World)(hl:SliceIs w (.slice s0 n0 c0) 3 (zba l))(hB:Has E w 2)(hF:Has E w 8)
  (hck:(chk l size).1=0) (hs:s.size≤4000) :
  Calls Tryz.prog 105 #[.slice s0 n0 c0,.int .i64 size,.string s] w fun e w'=>∃v,e=.returned (.tuple #[v,.nilIface])∧
   w'.ownsRow w.heap.size 104 4 v (zc1 l size.toNat s.data.toList).length (za3 (zc1 l size.toNat s.data.toList))∧Below w.heap.size w w':=by
 obtain⟨z1,z2,z3,_⟩:=zyq hck
 obtain⟨z,rfl⟩:∃z:Nat,size=z:=⟨size.toNat,by omega⟩
 rw[Int.toNat_natCast]
 have hlen:l.length=n0:=by
  obtain⟨s0',n0',c0',e1,e2,_,_,_⟩:=hl.get
  cases e1
  rw[zfg] at e2;omega
 have CK:=znw E s0 n0 c0 l z w hl hB hF
 rw[hck] at CK
 have HCK:=hid CK
 have HLS:=hid hl
 have hLl:s.data.toList.length=s.size:=by simp
 have HM:Hid (zc1 l z s.data.toList=mkA l z s.size (s.data.toList.drop 0) []):=by
  show _=_
  unfold zc1
  rw[hLl];rfl
 have hsI:¬(4000:Int)<s.size:=by omega
 have hz1:1≤z:=by omega
 have hz2:z≤64:=by omega
 have HLEN:=hid hLl
 clear CK hck hl hB hF z1 z2 hLl
 go_enter Tryz.func105,Tryz.ntmps105
 go_wp2_with fail
 refine HCK.out.mono ?_
 rintro e w1⟨v1,rfl,fe,b1⟩
 rw[fe.zero]
 clear fe
 have M0:=MAt.new w1
 have bA:=b1.alloc b1.size (.cells #[.slice none 0 0] 237)
 have hb:w.heap.size≤w1.heap.size:=b1.size
 go_wp2_with fail
 generalize w1.alloc (.cells #[.slice none 0 0] 237)=w2 at M0 bA ⊢
 generalize w1.heap.size=b at M0 hb ⊢
 clear b1
 go_loopw [10,11,12] (fun i _ _ wr=>∃(k f:Nat)(out:List POp),i=.int .i64 k∧k≤s.size∧s.size≤k+f∧OkOut out k∧zc1 l z s.data.toList=mkA l z f (s.data.toList.drop k) out∧MAt wr b out∧Below w.heap.size w wr) (fun i _ _ _=>s.size - (intOf i).toNat)
 case atStart=>exact⟨0,s.size,[],rfl,by omega,by omega,OkOut.nil 0,HM.out,M0,bA⟩
 case round=>
  clear M0 bA
  obtain⟨k,f,out,rfl,hk,hf,hok,hm,M,bel⟩:=hrel
  have HMM:=hid hm
  have HOK:=hid hok
  obtain⟨hb1,hb2⟩:=hok.bounds (by omega)
  have HB2:=hid hb2
  clear hm hok hb2
  by_cases hlt:k<s.size
  ·have hltI:(k:Int)<s.size:=by omega
   obtain⟨g,rfl⟩:∃g,f=g+1:=⟨f - 1,by omega⟩
   have hne:s.data.toList.drop k≠[]:=by
    intro e
    have:=congrArg List.length e
    simp at this;omega
   have HC:=hid (fun h=>HMM.out.trans (zjy (l:=l) (size:=z) (f:=g) (out:=out) hne h))
   have HD:=hid (fun h=>HMM.out.trans (zjx (l:=l) (size:=z) (f:=g) (out:=out) hne h))
   clear hne
   rw[List.drop_drop] at HC HD
   obtain⟨j,hj,hj1,hj2⟩:∃j:Nat,((z:Int)≤(s.size:Int) - k∧j=z∨(s.size:Int) - k<z∧j=s.size - k)∧1≤j∧k+j≤s.size:=by
    by_cases h:(z:Int)≤(s.size:Int) - k
    ·exact⟨z,.inl ⟨h,rfl⟩,hz1,by omega⟩
    ·exact⟨s.size - k,.inr ⟨by omega,rfl⟩,by omega,by omega⟩
   have HX:Hid ((s.extract k (k+j)).data.toList=(s.data.toList.drop k).take z):=by
    show _=_
    rw[zwt s k j (k+j) rfl]
    rcases hj with⟨_,h⟩|⟨h0,h⟩
    ·rw[h]
    ·rw[List.take_of_length_le (by simp;omega),List.take_of_length_le (by simp;omega)]
   have HX1:Hid (s.extract k (k+1)=bs ((s.data.toList.drop k).take 1)):=zg0 (zwt s k 1 (k+1) rfl)
   have HDR:Hid (s.data.toList.drop (k+z)=s.data.toList.drop (k+j)):=by
    show _=_
    rcases hj with⟨_,h⟩|⟨h0,h⟩
    ·rw[h]
    ·rw[List.drop_eq_nil_of_le (by simp;omega),List.drop_eq_nil_of_le (by simp;omega)]
   have FI:=yku s0 n0 c0 l (s.extract k (k+j)) wr (by simp;omega) (HLS.out.below bel)
   rw[HX.out] at FI
   have hfb:=zlr l (blk ((s.data.toList.drop k).take z))
   generalize zeo l (blk ((s.data.toList.drop k).take z))=fi at FI HC HD hfb
   have HFI:=hid FI
   have x1:(0:Int)≤k:=by omega
   have x2:(k:Int)≤(k:Int)+j:=by omega
   have x3:(k:Int)+j≤s.size:=by omega
   have x4:((k:Int)+j).toNat=k+j:=by omega
   have x5:(k:Int)≤(k:Int)+1:=by omega
   have x6:(k:Int)+1≤s.size:=by omega
   have x7:((k:Int)+1).toNat=k+1:=by omega
   clear FI
   have hj':((z:Int)≤(s.size:Int) - k∧j=z)∨((s.size:Int) - k<z∧Value.int .i64 ((s.size:Int) - k)=Value.int .i64 j):=by
    rcases hj with⟨h1,h2⟩|⟨h1,h2⟩
    ·exact .inl ⟨h1,h2⟩
    ·exact .inr ⟨h1,by congr 1;omega⟩
   clear hj
   rcases hj' with⟨h,rfl⟩|⟨h,e3⟩
   all_goals
    by_cases hfi:0≤fi
    ·have HC':=hid (HC.out hfi)
     clear HC HD
     go_wp2_with fail
     refine HFI.out.mono ?_
     rintro e w3⟨rfl,b3⟩
     have M3:=M.below b3
     have bel3:=zaa bel b3
     clear b3 M bel HFI
     go_wp2_with fail
     refine(yfc b out fi w3 M3 hb1 HB2.out (by omega)).mono ?_
     rintro e w4⟨rfl,M4,b4⟩
     have bel4:=bel3.trans (b4.mono hb)
     clear b4 M3 bel3
     have REL:=hid (HC'.out)
     try rw[HDR.out] at REL
     have HOK':=hid ((HOK.out.copy (k:=fi) (by omega)).mono (show k+1≤k+j by omega))
     have HK':=hid (show k+j≤s.size∧s.size≤k+j+g by omega)
     go_wp2_with fail
     go_roundw
     case rel=>exact⟨k+j,g,_,by go_num,HK'.out.1,HK'.out.2,HOK'.out,REL.out,M4,bel4⟩
     case measure=>simp[intOf];omega
    ·have HD':=hid (HD.out hfi)
     clear HC HD
     go_wp2_with fail
     refine HFI.out.mono ?_
     rintro e w3⟨rfl,b3⟩
     have M3:=M.below b3
     have bel3:=zaa bel b3
     clear b3 M bel HFI
     go_wp2_with fail
     have MD:=yfb b out ((s.data.toList.drop k).take 1) w3 M3 hb1 HB2.out (by simp;omega)
     rw[←HX1.out] at MD
     refine MD.mono ?_
     rintro e w4⟨rfl,M4,b4⟩
     have bel4:=bel3.trans (b4.mono hb)
     clear b4 M3 bel3 MD
     have HOK':=hid (HOK.out.data (d:=(s.data.toList.drop k).take 1) (by simp;omega))
     have HK':=hid (show k+1≤s.size∧s.size≤k+1+g by omega)
     go_wp2_with fail
     go_roundw
     case rel=>exact⟨k+1,g,_,by go_num,HK'.out.1,HK'.out.2,HOK'.out,HD'.out,M4,bel4⟩
     case measure=>simp[intOf];omega
  ·have hltI:¬(k:Int)<s.size:=by omega
   have hdn:s.data.toList.drop k=[]:=List.drop_eq_nil_of_le (by simp;omega)
   have HME:=HMM.out
   rw[hdn,zm2] at HME
   obtain⟨v,hv⟩:=M
   have c0:=hv.c0
   have HOWN:=hid (zhj hv.2 (show w.heap.size≤b+1 by omega))
   have HE:=hid HME
   clear HME hdn hv
   go_wp2_with fail
   go_ret2
   exact⟨v,rfl,by rw[HE.out];exact HOWN.out,bel⟩
def zhl(o:POp):List UInt8:=if o.kind=zbz then num 0++num o.a.toNat++num o.n.toNat else num 1++(num o.data.length++o.data)
def zmu(l:List POp):List UInt8:=l.flatMap zhl
def zhm(l:List POp):List UInt8:=num l.length++zmu l
theorem zmy{o:POp}(h:o.kind=zbz):zhl o=num 0++num o.a.toNat++num o.n.toNat:=by unfold zhl;rw[if_pos h]
theorem zmx{o:POp}(h:o.kind≠zbz):zhl o=num 1++(num o.data.length++o.data):=by unfold zhl;rw[if_neg h]
theorem zqo:zmu []=[]:=rfl
theorem ziz(a b:List POp):zmu (a++b)=zmu a++zmu b:=by simp[zmu]
theorem zxg(o:POp):zmu [o]=zhl o:=by simp[zmu]
theorem zsn(o:POp)(l:List POp):zmu (o::l)=zhl o++zmu l:=by simp[zmu]
theorem zln(l:List POp):zhm l=num l.length++zmu l:=rfl
theorem yah(o:POp):(zhl o).length≤21+o.data.length:=by
 unfold zhl
 split
 ·have:=zar 0;have:=zar o.a.toNat;have:=zar o.n.toNat;simp only[List.length_append];omega
 ·have:=zar 1;have:=zar o.data.length;simp only[List.length_append];omega
theorem zxh(l:List POp):(zmu l).length≤21 * l.length+zb7 l:=by
 induction l with
 | nil=>simp[zqo]
 | cons o l ih=>rw[zsn,ybm];have:=yah o;simp only[List.length_append,List.length_cons];omega
theorem yen(l:List POp)(k:Nat):(zmu (l.take k)).length≤(zmu l).length:=by
 have:=ziz (l.take k) (l.drop k)
 rw[List.take_append_drop] at this
 rw[this];simp
def dtC(l:List POp):Nat×Int:=if (zb4 l).1≠0 then zb4 l else if 20000<(zhm l).length then (2,-1) else (0,-1)
def dtL(l:List POp):List UInt8:=if (dtC l).1=0 then zhm l else []
theorem yrh{l:List POp}(h:(zb4 l).1≠0):dtC l=zb4 l∧dtL l=[]:=by
 have e:dtC l=zb4 l:=by unfold dtC;rw[if_pos h]
 exact⟨e,by unfold dtL;rw[e,if_neg h]⟩
theorem yow{l:List POp}(h:(zb4 l).1=0)(h2:20000<(zhm l).length):dtC l=(2,-1)∧dtL l=[]:=by
 have e:dtC l=(2,-1):=by unfold dtC;rw[if_neg (by simp[h]),if_pos h2]
 exact⟨e,by unfold dtL;rw[e,if_neg (by decide)]⟩
theorem ygy{l:List POp}(h:(zb4 l).1=0)(h2:¬20000<(zhm l).length):dtC l=(0,-1)∧dtL l=zhm l:=by
 have e:dtC l=(0,-1):=by unfold dtC;rw[if_neg (by simp[h]),if_neg h2]
 exact⟨e,by unfold dtL;rw[e,if_pos rfl]⟩
attribute [irreducible] zhl zmu zhm dtC dtL
theorem ygx(E:Nat→Addr)(s0:Option Addr)(n0 c0:Nat)(l:List POp)(w:World)(hl:SliceIs w (.slice s0 n0 c0) 4 (za3 l))(h2:Has E w 2)(h3:Has E w 3)(h4:Has E w 4)
  (hlen:l.length≤1000000) (hlong:(zmu l).length≤100000000) :
  Calls Tryz.prog 219 #[.slice s0 n0 c0] w fun e w'=>∃v,e=.returned (.tuple #[.string (bs (dtL l)),v])∧FErr E w' v (dtC l).1 (dtC l).2∧Below w.heap.size w w':=by
 have CH:=hid (zky E s0 n0 c0 l w hl h2 h3 h4)
 by_cases hok:(zb4 l).1=0
 ·obtain⟨rfl,hc0,hc1⟩:=zqn hl
  have HLS:=hid hl
  have HB:=hid h2
  have HOK:=hid hok
  have HOKE:=hid ((zgi l).1 hok)
  have HOT:=hid (zln l)
  have HEZ:=hid (zaj E)
  have HFIN:=hid zeb
  clear hl h2 h3 h4 hok
  go_enter Tryz.func219,Tryz.ntmps219
  go_wp2_with fail
  refine CH.out.mono ?_
  rintro e w1⟨v,rfl,fe,b1⟩
  rw[HOK.out] at fe
  rw[fe.zero]
  clear fe CH
  go_wp2_with fail
  have W0:=WAt.new E w1
  have bA:=b1.alloc b1.size (.cells #[.slice none 0 0,.nilIface] 305)
  have hb:w.heap.size≤w1.heap.size:=b1.size
  generalize w1.alloc (.cells #[.slice none 0 0,.nilIface] 305)=w2 at W0 bA ⊢
  generalize w1.heap.size=b at W0 hb ⊢
  clear b1
  refine(zdd E b _ _ _ (by simp) W0 (HB.out.below bA) (by omega) (by omega)).mono ?_
  rintro e w3⟨rfl,W3,K3⟩
  have b3:=K3.old bA hb W0.lt
  have x0:((l.length:Int)).toNat=l.length:=by omega
  rw[List.nil_append,x0] at W3
  clear K3 bA W0 x0
  go_wp2_with fail
  go_loopw [23,7] (fun i _ wr=>∃k:Nat,i=.int .i64 k∧k≤l.length∧WAt E wr b (num l.length++zmu (l.take k)) 0∧Below w.heap.size w wr) (fun i _ _=>l.length - (intOf i).toNat)
  case atStart=>exact⟨0,rfl,by omega,by simpa [zqo] using W3,b3⟩
  case round=>
   clear W3 b3
   obtain⟨k,rfl,hk,W,bel⟩:=hrel
   by_cases hlt:k<l.length
   ·have hltI:(k:Int)<l.length:=by omega
    obtain⟨ad,rfl,d0,d1,d2,d3⟩:=zjt (HLS.out.below bel) k hlt
    have KK:=hid (show k+1≤l.length by omega)
    have x1:(0:Int)≤k:=by omega
    have x2:(k:Int).toNat=k:=by omega
    have hop:=HOKE.out _ (List.getElem_mem hlt)
    have htk:=hid (List.take_succ_eq_append_getElem hlt)
    have hlen1:=yen l k
    have hn2:=zar l.length
    generalize l[k]=o at d0 d1 d2 d3 hop htk
    have hgb:b<wr.heap.size:=W.lt
    have W1:=W.below (zaf wr (.cells #[.string (bs o.kind),.int .i64 o.a,.int .i64 o.n,.string (bs o.data)] 104))
    have bel1:=bel.alloc bel.size (.cells #[.string (bs o.kind),.int .i64 o.a,.int .i64 o.n,.string (bs o.data)] 104)
    have G1:(wr.alloc (.cells #[.string (bs o.kind),.int .i64 o.a,.int .i64 o.n,.string (bs o.data)] 104)).heap[wr.heap.size]?=some (.cells #[.string (bs o.kind),.int .i64 o.a,.int .i64 o.n,.string (bs o.data)] 104 (0,0)):=heap_alloc_new _ _
    by_cases hkd:o.kind=zbz
    ·obtain⟨y0,y1,y2,y3,y4⟩:=zqq hop hkd
     clear y0
     have hTX:=hid (zmy hkd)
     have HTC:Hid (((bs o.kind).toList==[99,111,112,121])=true):=by show _=_;exact zc3 _ _ (by rw[hkd,ze3])
     have htc:=HTC.out
     have hm1:=zar o.a.toNat
     have hm0:=zar (Int.toNat 0)
     clear hop hkd
     go_wp2_with fail
     generalize wr.alloc (.cells #[.string (bs o.kind),.int .i64 o.a,.int .i64 o.n,.string (bs o.data)] 104)=v1 at W1 bel1 G1 ⊢
     generalize wr.heap.size=g at G1 hgb ⊢
     clear W bel d0 d1 d2 d3
     refine(zdd E b _ _ _ (by simp only[List.length_append];omega) W1 (HB.out.below bel1) (by omega) (by omega)).mono ?_
     rintro e v2⟨rfl,W2,K2⟩
     have bel2:=K2.old bel1 hb W1.lt
     have G2:=K2.obj G1 (by omega) (by decide)
     clear K2 bel1 W1 G1
     have f1:v2.cell? ⟨g,1,none⟩=some (.int .i64 o.a):=by simp[World.cell?,G2]
     go_wp2_with fail
     refine(zdd E b _ _ _ (by simp only[List.length_append];omega) W2 (HB.out.below bel2) (by omega) (by omega)).mono ?_
     rintro e v3⟨rfl,W3,K3⟩
     have bel3:=K3.old bel2 hb W2.lt
     have G3:=K3.obj G2 (by omega) (by decide)
     clear K3 bel2 W2 G2
     have f2:v3.cell? ⟨g,2,none⟩=some (.int .i64 o.n):=by simp[World.cell?,G3]
     go_wp2_with fail
     refine(zdd E b _ _ _ (by simp only[List.length_append];omega) W3 (HB.out.below bel3) (by omega) (by omega)).mono ?_
     rintro e v4⟨rfl,W4,K4⟩
     have bel4:=K4.old bel3 hb W3.lt
     clear K4 bel3 W3 G3
     go_wp2_with fail
     go_roundw
     case rel=>exact⟨k+1,by go_num,KK.out,by rw[htk.out,ziz,zxg,hTX.out];simpa [List.append_assoc] using W4,bel4⟩
     case measure=>simp[intOf];omega
    ·have hkd2:o.kind=zcg:=(zlm hop).resolve_left hkd
     obtain⟨y01,y02,y1,y2⟩:=zqp hop hkd2
     clear y01 y02
     have hTX:=hid (zmx hkd)
     have HTC:Hid (((bs o.kind).toList==[99,111,112,121])=false):=by show _=_;exact zbj _ _ (by rw[←ze3];exact hkd)
     have htc:=HTC.out
     have hm0:=zar (Int.toNat 1)
     clear hop hkd hkd2
     go_wp2_with fail
     generalize wr.alloc (.cells #[.string (bs o.kind),.int .i64 o.a,.int .i64 o.n,.string (bs o.data)] 104)=v1 at W1 bel1 G1 ⊢
     generalize wr.heap.size=g at G1 hgb ⊢
     clear W bel d0 d1 d2 d3
     refine(zdd E b _ _ _ (by simp only[List.length_append];omega) W1 (HB.out.below bel1) (by omega) (by omega)).mono ?_
     rintro e v2⟨rfl,W2,K2⟩
     have bel2:=K2.old bel1 hb W1.lt
     have G2:=K2.obj G1 (by omega) (by decide)
     clear K2 bel1 W1 G1
     have f1:v2.cell? ⟨g,3,none⟩=some (.string (bs o.data)):=by simp[World.cell?,G2]
     go_wp2_with fail
     refine(zgo E b _ _ _ (by simp only[List.length_append];omega) W2 (HB.out.below bel2) (by rw[zae];omega)).mono ?_
     rintro e v3⟨rfl,W3,K3⟩
     have bel3:=K3.old bel2 hb W2.lt
     rw[zae,zai] at W3
     clear K3 bel2 W2 G2
     go_wp2_with fail
     go_roundw
     case rel=>exact⟨k+1,by go_num,KK.out,by rw[htk.out,ziz,zxg,hTX.out];simpa [List.append_assoc] using W3,bel3⟩
     case measure=>simp[intOf];omega
   ·have hltI:¬(k:Int)<l.length:=by omega
    have htk:l.take k=l:=List.take_of_length_le (by omega)
    rw[htk,←HOT.out] at W
    have hol:(zhm l).length≤100000007:=by rw[HOT.out];have:=zar l.length;simp only[List.length_append];omega
    have D:=zf4 E b _ 0 wr (fun _=>by rw[HOT.out];have:=zkp l.length;simp only[List.length_append];omega) W
    rw[HFIN.out,HEZ.out] at D
    have HD:=hid D
    clear D htk W
    by_cases h20:20000<(zhm l).length
    ·have h20I:(20000:Int)<(zhm l).length:=by omega
     have Z:=hid (yow HOK.out h20)
     go_wp2_with fail
     refine HD.out.mono ?_
     rintro e w9⟨rfl,b9⟩
     have bel9:=zaa bel (b9.below _)
     have c2:w9.cell? ⟨0,0,none⟩=some (za0 (E 2)):=HB.out.below bel9
     unfold za0 at c2
     clear bel b9
     go_wp2_with fail
     go_ret2
     exact⟨.iface 338 (.pointer (some (E 2))),zqb (by rw[Z.out.2,bs_nil];rfl) rfl,by rw[Z.out.1];have h:=FErr.ev E w9 2;rw[zep E (by decide)] at h;exact h,bel9⟩
    ·have h20I:¬(20000:Int)<(zhm l).length:=by omega
     have Z:=hid (ygy HOK.out h20)
     go_wp2_with fail
     refine HD.out.mono ?_
     rintro e w9⟨rfl,b9⟩
     have bel9:=zaa bel (b9.below _)
     clear bel b9
     go_wp2_with fail
     go_ret2
     exact⟨.nilIface,zqb (by rw[Z.out.2];rfl) rfl,by rw[Z.out.1];exact FErr.nil E _,bel9⟩
 ·have Z:=hid (yrh hok)
  have HOK:=hid hok
  clear hl h2 h3 h4 hok hlen hlong
  rw[Z.out.1,Z.out.2]
  go_enter Tryz.func219,Tryz.ntmps219
  go_wp2_with fail
  refine CH.out.mono ?_
  rintro e w1⟨v,rfl,fe,b1⟩
  obtain⟨t,p,hv⟩:=fe.some HOK.out
  have FE:=hid fe
  clear fe
  rw[hv] at FE ⊢
  go_wp2_with fail
  go_ret2
  exact⟨.iface t (.pointer (some p)),zqb (by rw[bs_nil];rfl) rfl,FE.out,b1⟩
def zop:POp:=⟨[],0,0,[]⟩
def zmi(l:List UInt8):POp×List UInt8×Nat:=
 if rnC l 0≠0 then (zop,rnR l 0,rnC l 0)
 else if rnN l 0=0 then (⟨zbz,rnN (rnR l 0) 0,rnN (rnR (rnR l 0) 0) (rnC (rnR l 0) 0),[]⟩,rnR (rnR (rnR l 0) 0) (rnC (rnR l 0) 0),rnC (rnR (rnR l 0) 0) (rnC (rnR l 0) 0))
 else if rnN l 0=1 then (⟨zcg,0,0,rtT (rnR l 0) 0⟩,rtR (rnR l 0) 0,rtC (rnR l 0) 0)
 else (zop,rnR l 0,1)
theorem zqd{l:List UInt8}(h:rnC l 0≠0):zmi l=(zop,rnR l 0,rnC l 0):=by unfold zmi;rw[if_pos h]
theorem zjo{l l1 l2:List UInt8}{c2:Nat}(h:rnC l 0=0)(hn:rnN l 0=0)(h1:rnR l 0=l1)(h2:rnR l1 0=l2)(h3:rnC l1 0=c2):zmi l=(⟨zbz,rnN l1 0,rnN l2 c2,[]⟩,rnR l2 c2,rnC l2 c2):=by
 subst h1 h2 h3;unfold zmi;rw[if_neg (by simp[h]),if_pos hn]
theorem zjn{l l1:List UInt8}(h:rnC l 0=0)(hn:rnN l 0=1)(h1:rnR l 0=l1):zmi l=(⟨zcg,0,0,rtT l1 0⟩,rtR l1 0,rtC l1 0):=by
 subst h1;unfold zmi;rw[if_neg (by simp[h]),if_neg (by omega),if_pos hn]
theorem zmh{l:List UInt8}(h:rnC l 0=0)(hn:rnN l 0≠0)(hn1:rnN l 0≠1):zmi l=(zop,rnR l 0,1):=by
 unfold zmi;rw[if_neg (by simp[h]),if_neg hn,if_neg hn1]
theorem yi2(l:List UInt8)(h:(zmi l).2.2=0):(zmi l).2.1.length<l.length:=by
 by_cases h0:rnC l 0=0
 ·have hs:=zq5 l (zh0 h0).2
  rw[←(zhf l).2.1] at hs
  by_cases h1:rnN l 0=0
  ·rw[zjo h0 h1 rfl rfl rfl]
   have a:=zb5 (rnR l 0) 0
   have b:=zb5 (rnR (rnR l 0) 0) (rnC (rnR l 0) 0)
   show(rnR (rnR (rnR l 0) 0) (rnC (rnR l 0) 0)).length<_
   omega
  ·by_cases h2:rnN l 0=1
   ·rw[zjn h0 h2 rfl]
    have a:=zuv (rnR l 0) 0
    show(rtR (rnR l 0) 0).length<_
    omega
   ·rw[zmh h0 h1 h2] at h;simp at h
 ·rw[zqd h0] at h;exact absurd h h0
theorem yns(l:List UInt8):(zmi l).2.1.length≤l.length:=by
 have a0:=zb5 l 0
 by_cases h0:rnC l 0=0
 ·by_cases h1:rnN l 0=0
  ·rw[zjo h0 h1 rfl rfl rfl]
   have a:=zb5 (rnR l 0) 0
   have b:=zb5 (rnR (rnR l 0) 0) (rnC (rnR l 0) 0)
   show(rnR (rnR (rnR l 0) 0) (rnC (rnR l 0) 0)).length≤_
   omega
  ·by_cases h2:rnN l 0=1
   ·rw[zjn h0 h2 rfl]
    have a:=zuv (rnR l 0) 0
    show(rtR (rnR l 0) 0).length≤_
    omega
   ·rw[zmh h0 h1 h2];exact a0
 ·rw[zqd h0];exact a0
attribute [irreducible] zmi
theorem zj2{E:Nat→Addr}{w w':World}{c b d:Nat}{l:List UInt8}(h:Has E w c)(R:RAt E w b l d)(g:w.grownBy w' (some b)):Has E w' c:=by
 have hne:gOf c≠b:=by
  intro e
  have:=R.cs.1
  unfold Has at h
  rw[e,this] at h
  unfold za0 at h
  simp at h
 unfold Has at *
 exact g.cell h (by intro e;exact hne (Option.some.inj e))
theorem copyV(x y:Int):POp.val ⟨zbz,x,y,[]⟩=.agg #[.string ⟨#[99,111,112,121]⟩,.int .i64 x,.int .i64 y,.string ⟨#[]⟩]:=by simp only[POp.val,zyu,bs_nil]
theorem dataV(d:List UInt8):POp.val ⟨zcg,0,0,d⟩=.agg #[.string ⟨#[100,97,116,97]⟩,.int .i64 0,.int .i64 0,.string (bs d)]:=by simp only[POp.val,zyt]
theorem zj3{w v:World}{b g k:Nat}{y:Value}(h:w.grownBy v (some b))(hg:w.heap.size≤g):w.grownBy (v.setCell ⟨g,k,none⟩ y) (some b):=
 ⟨h.os,h.tape,h.output,by rw[World.size_setCell];exact h.size,fun j hj hne=>by rw[Below.heap_setCell _ _ _ _ (by show j≠g;omega)];exact h.block j hj hne⟩
theorem set4{E:Nat→Addr}{w v:World}{b g:Nat}{x0 x1 x2 x3:Value}{t:TypeId}{m:List UInt8}{c:Nat}(h:v.heap[g]?=some (.cells #[x0,x1,x2,x3] t (0,0)))(hb:g≠b)(R:RAt E v b m c)(hg:w.grownBy v (some b))(hgw:w.heap.size≤g)(y0 y1 y2 y3:Value):
  ∃v',v'=(((v.setCell ⟨g,0,none⟩ y0).setCell ⟨g,1,none⟩ y1).setCell ⟨g,2,none⟩ y2).setCell ⟨g,3,none⟩ y3∧v'.cell? ⟨g,0,none⟩=some y0∧v'.cell? ⟨g,1,none⟩=some y1∧v'.cell? ⟨g,2,none⟩=some y2∧v'.cell? ⟨g,3,none⟩=some y3∧RAt E v' b m c∧w.grownBy v' (some b):=by
 have h1:=za2 (k:=3) (u:=y3) (za2 (k:=2) (u:=y2) (za2 (k:=1) (u:=y1) (za2 (k:=0) (u:=y0) h)))
 refine⟨_,rfl,?_,?_,?_,?_,?_,zj3 (zj3 (zj3 (zj3 hg hgw) hgw) hgw) hgw⟩
 ·simp[World.cell?,h1]
 ·simp[World.cell?,h1]
 ·simp[World.cell?,h1]
 ·simp[World.cell?,h1]
 ·unfold RAt at R ⊢
  rw[Below.heap_setCell _ _ _ _ (by exact fun e=>hb e.symm),Below.heap_setCell _ _ _ _ (by exact fun e=>hb e.symm),Below.heap_setCell _ _ _ _ (by exact fun e=>hb e.symm),Below.heap_setCell _ _ _ _ (by exact fun e=>hb e.symm)]
  exact R
theorem zyh{v:World}{g:Nat}{x0 x1 x2 x3:Value}{t:TypeId}(h:v.heap[g]?=some (.cells #[x0,x1,x2,x3] t (0,0))):
  (v.cell? ⟨g,0,none⟩=some x0∧v.cell? ⟨g,1,none⟩=some x1∧v.cell? ⟨g,2,none⟩=some x2∧v.cell? ⟨g,3,none⟩=some x3)∧∀k,v.frozen? ⟨g,k,none⟩=false:=by
 refine⟨⟨?_,?_,?_,?_⟩,fun k=>?_⟩<;>simp[World.cell?,World.frozen?,h]
theorem yjn(E:Nat→Addr)(b:Nat)(l:List UInt8)(w:World)(hl:l.length≤1000000000)(h:RAt E w b l 0)(hT:Has E w 1)(hB:Has E w 2):
  Calls Tryz.prog 260 #[.pointer (some ⟨b,0,none⟩)] w fun e w'=>e=.returned (zmi l).1.val∧RAt E w' b (zmi l).2.1 (zmi l).2.2∧w.grownBy w' (some b):=by
 have hbg:b<w.heap.size:=h.lt
 have hne:w.heap.size≠b:=by omega
 have b0:=zaf w (.cells #[.string ⟨#[]⟩,.int .i64 0,.int .i64 0,.string ⟨#[]⟩] 104)
 have R0:=h.below b0
 have HB:=hid hB
 have HT:=hid hT
 have G0:(w.alloc (.cells #[.string ⟨#[]⟩,.int .i64 0,.int .i64 0,.string ⟨#[]⟩] 104)).heap[w.heap.size]?=some (.cells #[.string ⟨#[]⟩,.int .i64 0,.int .i64 0,.string ⟨#[]⟩] 104 (0,0)):=heap_alloc_new _ _
 have hz0:w.heap.size<(w.alloc (.cells #[.string ⟨#[]⟩,.int .i64 0,.int .i64 0,.string ⟨#[]⟩] 104)).heap.size:=by simp
 have K0:=zdt (r:=some b) b0
 have hBx:=HB.out.below b0
 have hTx:=HT.out.below b0
 obtain⟨g,hgd⟩:∃g,g=w.heap.size:=⟨_,rfl⟩
 have hgw:w.heap.size≤g:=by omega
 have HGW:=hid hgw
 obtain⟨l1,e1⟩:∃x,rnR l 0=x:=⟨_,rfl⟩
 obtain⟨c1,e2⟩:∃x,rnC l 0=x:=⟨_,rfl⟩
 obtain⟨k,e3⟩:∃x,rnN l 0=x:=⟨_,rfl⟩
 have N1:=hid (fun (w:World) h=>zcx E b l 0 w hl h)
 rw[e1,e2,e3] at N1
 have HE1:=hid e1
 have HE2:=hid e2
 have HE3:=hid e3
 have HZ:=hid (show POp.val zop=.agg #[.string ⟨#[]⟩,.int .i64 0,.int .i64 0,.string ⟨#[]⟩] by unfold zop POp.val;rw[bs_nil])
 have hl1:=zb5 l 0
 rw[e1] at hl1
 have hk:=zw7 l 0
 rw[e3] at hk
 have h0:=h
 clear e1 e2 e3 h hB hT
 have HNE:=hid hne
 go_enter Tryz.func260,Tryz.ntmps260
 go_wp2_with fail
 rw[←hgd] at G0 hz0 ⊢
 have hne2:g≠b:=by omega
 clear hgd
 generalize w.alloc (.cells #[.string ⟨#[]⟩,.int .i64 0,.int .i64 0,.string ⟨#[]⟩] 104)=w0 at *
 refine(N1.out _ R0 hTx hBx).mono ?_
 rintro e w1⟨rfl,R1,g1⟩
 have K1:=zam K0 g1
 have G1:=(g1.block g hz0 (fun h=>hne2 (Option.some.inj h))).trans G0
 have HTw:=hid (zj2 HT.out h0 K1)
 have HBw:=hid (zj2 HB.out h0 K1)
 clear h0 R0 b0 G0 hz0 K0 g1 hBx hTx N1
 obtain⟨⟨q0,q1⟩,fzb⟩:=(⟨R1.cs,R1.fz⟩:(_∧_)∧_)
 obtain⟨⟨d0,d1,d2,d3⟩,fz⟩:=zyh G1
 have f0:=fz 0
 have f1:=fz 1
 have f2:=fz 2
 have f3:=fz 3
 by_cases hc:c1=0
 ·subst hc
  rw[zaj] at q1
  by_cases hk0:k=0
  ·subst hk0
   obtain⟨l2,a1⟩:∃x,rnR l1 0=x:=⟨_,rfl⟩
   obtain⟨c2,a2⟩:∃x,rnC l1 0=x:=⟨_,rfl⟩
   have hrd:=zjo HE2.out HE3.out HE1.out a1 a2
   have P1:=hid (fun (w:World) h=>zcx E b l1 0 w (by omega) h)
   have hl2:=zb5 l1 0
   rw[a1] at hl2
   have P2:=hid (fun (w:World) h=>zcx E b l2 c2 w (by omega) h)
   rw[a1,a2] at P1
   generalize rnN l1 0=x at *
   generalize rnN l2 c2=y at *
   generalize rnR l2 c2=l3 at *
   generalize rnC l2 c2=c3 at *
   have HRD:=hid hrd
   clear a1 a2 hrd fz
   go_wp2_with fail
   refine(P1.out _ R1 HTw.out HBw.out).mono ?_
   rintro e w2⟨rfl,R2,g2⟩
   have K2:=zam K1 g2
   have G2:=(g2.block g (lt_of_block G1) (fun h=>hne2 (Option.some.inj h))).trans G1
   have HTw2:=hid (zj2 HTw.out R1 g2)
   have HBw2:=hid (zj2 HBw.out R1 g2)
   clear R1 G1 K1 g2 d0 d1 d2 d3 f0 f1 f2 f3 q0 q1 fzb
   go_wp2_with fail
   refine(P2.out _ R2 HTw2.out HBw2.out).mono ?_
   rintro e w3⟨rfl,R3,g3⟩
   have K3:=zam K2 g3
   have G3:=(g3.block g (lt_of_block G2) (fun h=>hne2 (Option.some.inj h))).trans G2
   clear R2 G2 K2 g3
   obtain⟨⟨d0,d1,d2,d3⟩,fz⟩:=zyh G3
   have f0:=fz 0
   have f1:=fz 1
   have f2:=fz 2
   have f3:=fz 3
   obtain⟨v',hv',r0,r1,r2,r3,R4,K4⟩:=set4 G3 hne2 R3 K3 HGW.out (.string ⟨#[99,111,112,121]⟩) (.int .i64 x) (.int .i64 y) (.string ⟨#[]⟩)
   clear fz G3 R3 K3
   go_wp2_with fail
   rw[←hv']
   clear hv' d0 d1 d2 d3 f0 f1 f2 f3
   (try simp only[Exit.inBlock,Exit.then])
   refine bodyPost_ret (by simp[results,Tryz.results260,go_sem,r0,r1,r2,r3];try rfl) rfl ?_
   exact⟨by rw[HRD.out,copyV],by rw[HRD.out];exact R4,K4⟩
  ·have hk0b:((k:Int)==0)=false:=by rw[beq_eq_false_iff_ne];omega
   by_cases hk1:k=1
   ·subst hk1
    have hrd:=zjn HE2.out HE3.out HE1.out
    have P1:=hid (fun (w:World) h=>zfj E b l1 0 w (by omega) h)
    generalize rtT l1 0=x at *
    generalize rtR l1 0=l3 at *
    generalize rtC l1 0=c3 at *
    have HRD:=hid hrd
    clear hrd fz hk0 hk0b
    go_wp2_with fail
    refine(P1.out _ R1 HTw.out HBw.out).mono ?_
    rintro e w3⟨rfl,R3,g3⟩
    have K3:=zam K1 g3
    have G3:=(g3.block g (lt_of_block G1) (fun h=>hne2 (Option.some.inj h))).trans G1
    clear R1 G1 K1 g3 d0 d1 d2 d3 f0 f1 f2 f3 q0 q1 fzb
    obtain⟨⟨d0,d1,d2,d3⟩,fz⟩:=zyh G3
    have f0:=fz 0
    have f1:=fz 1
    have f2:=fz 2
    have f3:=fz 3
    obtain⟨v',hv',r0,r1,r2,r3,R4,K4⟩:=set4 G3 hne2 R3 K3 HGW.out (.string ⟨#[100,97,116,97]⟩) (.int .i64 0) (.int .i64 0) (.string (bs x))
    clear fz G3 R3 K3
    go_wp2_with fail
    rw[←hv']
    clear hv' d0 d1 d2 d3 f0 f1 f2 f3
    (try simp only[Exit.inBlock,Exit.then])
    refine bodyPost_ret (by simp[results,Tryz.results260,go_sem,r0,r1,r2,r3];try rfl) rfl ?_
    exact⟨by rw[HRD.out,dataV],by rw[HRD.out];exact R4,K4⟩
   ·have hk1b:((k:Int)==1)=false:=by rw[beq_eq_false_iff_ne];omega
    have HRD:=hid (zmh HE2.out (by rw[HE3.out];exact hk0) (by rw[HE3.out];exact hk1))
    rw[HE1.out] at HRD
    have t1:w1.cell? ⟨1,0,none⟩=some (za0 (E 1)):=HTw.out
    unfold za0 at t1
    have fb1:=fzb 1
    have R2:=R1.set1 1 _ (za9 E (c:=1) (by decide)).symm
    unfold za0 at R2
    have K2:=zam K1 (zap w1 b 1 (.iface 338 (.pointer (some (E 1)))))
    have G2:(w1.setCell ⟨b,1,none⟩ (.iface 338 (.pointer (some (E 1))))).heap[g]?=some (.cells #[.string ⟨#[]⟩,.int .i64 0,.int .i64 0,.string ⟨#[]⟩] 104 (0,0)):=(Below.heap_setCell _ _ _ _ (by exact hne2)).trans G1
    obtain⟨w2,hw2⟩:∃w2,w2=w1.setCell ⟨b,1,none⟩ (.iface 338 (.pointer (some (E 1)))):=⟨_,rfl⟩
    rw[←hw2] at R2 K2 G2
    obtain⟨⟨d0',d1',d2',d3'⟩,fz'⟩:=zyh G2
    obtain⟨v',hv',r0,r1,r2,r3,R4,K4⟩:=set4 G2 hne2 R2 K2 HGW.out (.string ⟨#[]⟩) (.int .i64 0) (.int .i64 0) (.string ⟨#[]⟩)
    have f0':=fz' 0
    have f1':=fz' 1
    have f2':=fz' 2
    have f3':=fz' 3
    rw[hw2] at d0' d1' d2' d3' f0' f1' f2' f3'
    rw[hw2] at hv'
    clear fz fz' hk0 hk1 R1 K1 G1 R2 K2 G2 hw2
    go_wp2_with fail
    rw[←hv']
    (try simp only[Exit.inBlock,Exit.then])
    refine bodyPost_ret (by simp[results,Tryz.results260,go_sem,r0,r1,r2,r3];try rfl) rfl ?_
    exact⟨by rw[HRD.out,HZ.out],by rw[HRD.out];exact R4,K4⟩
 ·have HRD:=hid (zqd (l:=l) (by rw[HE2.out];exact hc))
  rw[HE1.out,HE2.out] at HRD
  rw[zep E hc] at q1
  obtain⟨v',hv',r0,r1,r2,r3,R4,K4⟩:=set4 G1 hne2 R1 K1 HGW.out (.string ⟨#[]⟩) (.int .i64 0) (.int .i64 0) (.string ⟨#[]⟩)
  clear fz hc R1 K1 G1
  go_wp2_with fail
  rw[←hv']
  (try simp only[Exit.inBlock,Exit.then])
  refine bodyPost_ret (by simp[results,Tryz.results260,go_sem,r0,r1,r2,r3];try rfl) rfl ?_
  exact⟨by rw[HRD.out,HZ.out],by rw[HRD.out];exact R4,K4⟩
def roL:Nat→List UInt8→Nat→List POp→List POp×List UInt8×Nat
 | 0,l,c,out=>(out,l,c)
 | f+1,l,c,out=>if c=0 then roL f (zmi l).2.1 (zmi l).2.2 (out++[(zmi l).1]) else (out,l,c)
theorem yc7(l:List UInt8)(c:Nat)(out:List POp):roL 0 l c out=(out,l,c):=rfl
theorem ynq(f:Nat)(l:List UInt8){c:Nat}(h:c≠0)(out:List POp):roL f l c out=(out,l,c):=by
 cases f with
 | zero=>rfl
 | succ f=>simp[roL,h]
theorem zw6{f:Nat}(hf:0<f)(l:List UInt8)(out:List POp):roL f l 0 out=roL (f - 1) (zmi l).2.1 (zmi l).2.2 (out++[(zmi l).1]):=by
 obtain⟨g,rfl⟩:∃g,f=g+1:=⟨f - 1,by omega⟩
 simp[roL]
def ro0(L:List UInt8):List POp×List UInt8×Nat:=roL (rnN L 0) (rnR L 0) (rnC L 0) []
def zhh(L:List UInt8):List POp×Nat:=
 if 20000<L.length then ([],2)
 else if zg6 (ro0 L).2.1 (ro0 L).2.2≠0 then ([],zg6 (ro0 L).2.1 (ro0 L).2.2)
 else if (zb4 (ro0 L).1).1≠0 then ([],(zb4 (ro0 L).1).1) else ((ro0 L).1,0)
theorem zzq{L:List UInt8}(h:20000<L.length):zhh L=([],2):=by simp[zhh,h]
theorem ydf{L l:List UInt8}{c:Nat}{out:List POp}(h0:¬20000<L.length)(h:ro0 L=(out,l,c))(h1:zg6 l c≠0):zhh L=([],zg6 l c):=by unfold zhh;rw[if_neg h0,h];simp[h1]
theorem ydg{L l:List UInt8}{c:Nat}{out:List POp}(h0:¬20000<L.length)(h:ro0 L=(out,l,c))(h1:zg6 l c=0)(h2:(zb4 out).1≠0):zhh L=([],(zb4 out).1):=by unfold zhh;rw[if_neg h0,h];simp[h1,h2]
theorem zw9{L l:List UInt8}{c:Nat}{out:List POp}(h0:¬20000<L.length)(h:ro0 L=(out,l,c))(h1:zg6 l c=0)(h2:(zb4 out).1=0):zhh L=(out,0):=by unfold zhh;rw[if_neg h0,h];simp[h1,h2]
theorem yl8{L l1:List UInt8}{c1 m:Nat}(h0:rnN L 0=m)(h1:rnR L 0=l1)(h2:rnC L 0=c1):ro0 L=roL m l1 c1 []:=by subst h0 h1 h2;rfl
attribute [irreducible] roL ro0 zhh
theorem yg1(E:Nat→Addr)(s:ByteArray)(w:World)(hs:s.size≤1000000000)(hT:Has E w 1)(hB:Has E w 2)(h3:Has E w 3)(h4:Has E w 4):
  Calls Tryz.prog 248 #[.string s] w fun e w'=>∃v,e=.returned (.tuple #[v,ev E (zhh s.data.toList).2])∧
   w'.ownsRow w.heap.size 104 4 v (zhh s.data.toList).1.length (za3 (zhh s.data.toList).1)∧Below w.heap.size w w':=by
 obtain⟨i0,hi,hz0,hz1,hz2⟩:=info_parts zng
 obtain⟨L,hL⟩:∃L,L=s.data.toList:=⟨_,rfl⟩
 have hLl:L.length=s.size:=by rw[hL];simp
 rw[←hL]
 have hsb:s=bs L:=by rw[hL,zoa]
 have hLb:L.length≤1000000000:=by omega
 clear hLl hL hs
 subst hsb
 have HB:=hid hB
 have HT:=hid hT
 have H3:=hid h3
 have H4:=hid h4
 by_cases hlong:20000<L.length
 ·have hlI:(20000:Int)<L.length:=by omega
  have HR:=hid (zzq hlong)
  have c2:w.cell? ⟨0,0,none⟩=some (za0 (E 2)):=hB
  unfold za0 at c2
  clear hT hB h3 h4
  go_enter Tryz.func248,Tryz.ntmps248
  go_wp2_with fail
  go_quiet (fail)
  go_wp2_with fail
  go_ret2
  refine⟨.slice none 0 0,by rw[HR.out,zep E (by decide)];rfl,?_,Drew.below (Drew.drewN _ _) _⟩
  rw[HR.out]
  simp only[]
  rw[zfc]
  exact World.ownsRow_nil _ _ _ _
 have hlI:¬(20000:Int)<L.length:=by omega
 have HLONG:=hid hlong
 obtain⟨l1,e1⟩:∃x,rnR L 0=x:=⟨_,rfl⟩
 obtain⟨c1,e2⟩:∃x,rnC L 0=x:=⟨_,rfl⟩
 obtain⟨many,e0⟩:∃x,rnN L 0=x:=⟨_,rfl⟩
 have hr0:=yl8 e0 e1 e2
 have hl1:=zb5 L 0
 rw[e1] at hl1
 have N1:=hid (fun b (w:World) h=>zcx E b L 0 w hLb h)
 rw[e0,e1,e2] at N1
 have HR0:=hid hr0
 have hml:=zw7 L 0
 rw[e0] at hml
 have HEZ:=hid (zaj E)
 clear e0 e1 e2 hr0 hB hT h3 h4 hlong
 have R0:RAt E (w.alloc (.cells #[.string (bs L),.nilIface] 297)) w.heap.size L 0:=by unfold RAt;rw[zaj];exact heap_alloc_new _ _
 have b0:=zaf w (.cells #[.string (bs L),.nilIface] 297)
 go_enter Tryz.func248,Tryz.ntmps248
 go_wp2_with fail
 refine(N1.out _ _ R0 (HT.out.below b0) (HB.out.below b0)).mono ?_
 rintro e w1⟨rfl,R1,g1⟩
 have b1:=b0.grown g1 b0.size (fun k hk=>by cases hk;exact Nat.le_refl _)
 clear R0 b0 g1
 go_wp2_with fail
 go_loopw [6,7] (fun o i wr=>∃(k:Nat)(out:List POp)(l:List UInt8)(c:Nat),i=.int .i64 k∧k≤many∧out.length=k∧out.length≤L.length+1∧(c=0→out.length+l.length≤L.length)∧l.length≤L.length∧
   ro0 L=roL (many - k) l c out∧RAt E wr w.heap.size l c∧wr.ownsRow (w.heap.size+1) 104 4 o k (za3 out)∧Below w.heap.size w wr) (fun _ i _=>many - (intOf i).toNat)
 case atStart=>exact⟨0,[],l1,c1,rfl,by omega,rfl,by simp,fun _=>by simp;omega,by omega,HR0.out,R1,by rw[zfc];exact World.ownsRow_nil _ _ _ _,b1⟩
 case round=>
  clear R1 b1
  obtain⟨k,out,l,c,rfl,hk,hok,ho1,ho2,hll,hrd,R,hown,bel⟩:=hrel
  have HRD:=hid hrd
  have HOK:=hid hok
  have HO2:=hid ho2
  obtain⟨r0,r1⟩:=R.cs
  clear hrd hok ho2
  by_cases hgo:k<many∧c=0
  ·obtain⟨hlt,rfl⟩:=hgo
   have hltI:(k:Int)<many:=by omega
   rw[zaj] at r1
   have hstep:=HRD.out.trans (zw6 (by omega) l out)
   have hshort:=yi2 l
   have hle:=yns l
   have P1:=hid (fun b (w:World) h=>yjn E b l w (by omega) h)
   generalize zmi l=rd at *
   obtain⟨o1,m,d⟩:=rd
   simp only[] at hstep hshort hle P1
   have HSTEP:=hid hstep
   have HSH:=hid hshort
   have KK:=hid (show k+1≤many∧many - (k+1)=many - k - 1 by omega)
   have HO3:=hid (HO2.out rfl)
   clear hstep hshort
   have hsz0:=R.lt
   unfold POp.val at P1
   go_wp2_with fail
   refine(P1.out _ _ R (HT.out.below bel) (HB.out.below bel)).mono ?_
   rintro e v3⟨rfl,R3,g3⟩
   have bel3:=bel.grown g3 bel.size (fun k hk=>by cases hk;exact Nat.le_refl _)
   have hown3:=zbp hown (Nat.lt_succ_self _) g3
   clear R bel g3 hown r0 r1
   have hsz3:=R3.lt
   have OWN:=hid hown3
   have RR:=hid R3
   have HSZ3:=hid hsz3
   have HM1:Hid (k+1≤maxLen):=by show _≤_;unfold maxLen;omega
   have HM2:Hid ((k+1) * 48≤140737488355328):=by show _≤_;have:=HOK.out;omega
   have HM3:Hid (w.heap.size+1≤(v3.alloc (.cells #[.string (bs o1.kind),.int .i64 o1.a,.int .i64 o1.n,.string (bs o1.data)] 104)).heap.size):=by show _≤_;have:=bel3.size;have:=HSZ3.out;simp;omega
   have NEWC:Hid (∀u∈[Value.string (bs o1.kind),.int .i64 o1.a,.int .i64 o1.n,.string (bs o1.data)],u.oneCell'=true):=fun u hu=>zvb [o1] u (by rw[zdi];exact hu)
   go_wp2_with (at_builtin;refine wpList_append_own _ rfl _ _ 98 rfl (w.heap.size+1) 104 i0 _ 4 48 Tryz.underlying98 hi hz0 hz1 hz2 rfl (by decide) _ _ _ rfl (OWN.out.alloc _) ⟨v3.heap.size,0,none⟩ 1 1 [.string (bs o1.kind),.int .i64 o1.a,.int .i64 o1.n,.string (bs o1.data)] rfl rfl (zfp (heap_alloc_new _ _)) (fun u hu=>NEWC.out u hu) HM1.out HM2.out HM3.out ?_;intro v' v5 hown' hgrow _)
   have bel5:=(bel3.alloc bel3.size (.cells #[.string (bs o1.kind),.int .i64 o1.a,.int .i64 o1.n,.string (bs o1.data)] 104)).grown hgrow (by have:=bel3.size;simp;omega) (fun j hj=>by have:=(OWN.out.lt j hj).1;omega)
   have hne:some w.heap.size≠Value.ownBlock u6:=fun e=>by have:=(OWN.out.lt _ e.symm).1;omega
   have R5:=(RAt.below RR.out (zaf _ (.cells #[.string (bs o1.kind),.int .i64 o1.a,.int .i64 o1.n,.string (bs o1.data)] 104))).grown hgrow hne
   have hcells:za3 (out++[o1])=za3 out++[.string (bs o1.kind),.int .i64 o1.a,.int .i64 o1.n,.string (bs o1.data)]:=by
    rw[zcl,zdi];simp only[POp.vals]
   go_roundw
   case rel=>exact⟨k+1,out++[o1],m,d,by go_num,KK.out.1,by simp[HOK.out],by have:=HO3.out;simp;omega,(fun h=>by have:=HSH.out h;have:=HO3.out;simp;omega),by omega,by rw[KK.out.2];exact HSTEP.out,R5,by rw[hcells];exact hown',bel5⟩
   case measure=>simp[intOf];omega
  ·have hEX:ro0 L=(out,l,c):=by
    rw[HRD.out]
    by_cases hc:c=0
    ·have:many - k=0:=by omega
     rw[this,yc7]
    ·exact ynq _ _ hc _
   have HEX:=hid hEX
   clear hEX
   have WAYS:¬(k:Int)<many∨(k:Int)<many∧c≠0:=by omega
   have EN:=hid (zh1 E w.heap.size l c wr R (HT.out.below bel))
   clear hgo
   obtain⟨A,cap,rfl⟩:=zab hown
   have WAYS2:¬(k:Int)<many∨(k:Int)<many∧∃x,ev E c=.iface 338 x:=by
    rcases WAYS with h|⟨h,hc⟩
    ·exact .inl h
    ·exact .inr ⟨h,_,zep E hc⟩
   clear WAYS
   rcases WAYS2 with h|⟨h,x,hx⟩
   all_goals
    try rw[hx] at r1
    try clear hx
    go_wp2_with fail
    refine EN.out.mono ?_
    rintro e v4⟨rfl,R4,g4⟩
    have bel4:=bel.grown g4 bel.size (fun k hk=>by cases hk;exact Nat.le_refl _)
    have hown4:=zbp hown (Nat.lt_succ_self _) g4
    clear bel g4 hown R R4 r0 r1
    by_cases he:zg6 l c=0
    ·have CK:=zky E A k cap out v4 (SliceIs.ownedK hown4) (HB.out.below bel4) (H3.out.below bel4) (H4.out.below bel4)
     have HCK:=hid CK
     clear CK
     by_cases hcode:(zb4 out).1=0
     ·have HR:=hid (zw9 HLONG.out HEX.out he hcode)
      have HC:=hid hcode
      rw[he,zaj]
      clear he hcode
      go_wp2_with fail
      refine HCK.out.mono ?_
      rintro e v5⟨v,rfl,fe,b5⟩
      rw[HC.out] at fe
      rw[fe.zero]
      clear fe
      go_wp2_with fail
      go_ret2
      refine⟨_,by rw[HR.out,zaj];rfl,?_,zaa bel4 b5⟩
      rw[HR.out]
      simp only[]
      rw[HOK.out]
      exact zhj (zad hown4 b5) (by omega)
     ·have HR:=hid (ydg HLONG.out HEX.out he hcode)
      have HC:=hid hcode
      rw[he,zaj]
      clear he hcode
      go_wp2_with fail
      refine HCK.out.mono ?_
      rintro e v5⟨v,rfl,fe,b5⟩
      have BA:=hid (zrl E v _ _ v5 fe)
      obtain⟨t,p,hv⟩:=fe.some HC.out
      rw[hv] at BA ⊢
      clear fe hv
      go_wp2_with fail
      refine BA.out.mono ?_
      rintro e v6⟨rfl,rfl⟩
      go_wp2_with fail
      go_ret2
      refine⟨.slice none 0 0,by rw[HR.out];rfl,?_,zaa bel4 b5⟩
      rw[HR.out]
      simp only[]
      rw[zfc]
      exact World.ownsRow_nil _ _ _ _
    ·have HR:=hid (ydf HLONG.out HEX.out he)
     have hev:=za9 E he
     rw[hev]
     have HEV:=hid hev
     unfold za0 at HEV ⊢
     clear hev he
     go_wp2_with fail
     go_ret2
     refine⟨.slice none 0 0,by rw[HR.out,HEV.out];rfl,?_,bel4⟩
     rw[HR.out]
     simp only[]
     rw[zfc]
     exact World.ownsRow_nil _ _ _ _
section
open Go.ChangeShapes Go.WideShapes Go.Deep
section
variable{H:Type}{enc:TypeId×Value→H}{P:Program}{w:World}{base:Nat}{spare:Nat→Bool}{held:Bool}
end
end
section
open Go.ChangeShapes Go.WideShapes Go.Deep
end
theorem ybl(out:List POp)(k:Int):zb7 (zeh out k)=zb7 out:=by
 rcases zd1 out with rfl|⟨m,o,rfl⟩
 ·rw[zeg,zaw,zbr];simp
 ·by_cases hc:o.kind=zbz∧o.a+o.n=k
  ·rw[zet m o k hc,zaw,zaw,zbr,zbr]
  ·rw[zdg m o k hc,zaw,zbr];simp
theorem ybk(out:List POp)(d:List UInt8):zb7 (zef out d)=zb7 out+d.length:=by
 rcases zd1 out with rfl|⟨m,o,rfl⟩
 ·rw[zee,zaw,zbr]
 ·by_cases hc:o.kind=zcg
  ·rw[zes m o d hc,zaw,zaw,zbr,zbr];simp;omega
  ·rw[zft m o d hc,zaw,zbr]
theorem zxv(l:List Blk)(size:Nat)(s:List UInt8)(out:List POp):mkA l size 0 s out=out:=by unfold mkA;rfl
theorem zrd(l:List Blk)(size:Nat):∀(f:Nat)(s:List UInt8)(out:List POp),zb7 (mkA l size f s out)≤zb7 out+s.length
 | 0,s,out=>by rw[zxv];omega
 | f+1,s,out=>by
  by_cases hs:s=[]
  ·subst hs;rw[zm2];omega
  ·by_cases h:0≤zeo l (blk (s.take size))
   ·rw[zjy hs h]
    have:=zrd l size f (s.drop size) (zeh out (zeo l (blk (s.take size))))
    rw[ybl,List.length_drop] at this
    omega
   ·rw[zjx hs h]
    have:=zrd l size f (s.drop 1) (zef out (s.take 1))
    rw[ybk] at this
    have hl:0<s.length:=List.length_pos_iff.2 hs
    rw[List.length_take,List.length_drop] at this;omega
theorem zou(l:List Blk)(size:Nat)(s:List UInt8):zb7 (zc1 l size s)≤s.length:=by
 have:=zrd l size s.length s []
 unfold zc1
 rw[zgh] at this;omega
theorem yfa(l:List Blk)(size:Nat)(hz:1≤size)(hl:l.length≤4000):∀(f:Nat)(s:List UInt8)(out:List POp)(i:Nat),OkOut out i→OkOut (mkA l size f s out) (i+s.length)
 | 0,s,out,i,h=>by rw[zxv];exact h.mono (by omega)
 | f+1,s,out,i,h=>by
  by_cases hs:s=[]
  ·subst hs;rw[zm2];exact h.mono (by omega)
  ·have hp:0<s.length:=List.length_pos_iff.2 hs
   by_cases hf:0≤zeo l (blk (s.take size))
   ·rw[zjy hs hf]
    have hb:=zlr l (blk (s.take size))
    exact(yfa l size hz hl f (s.drop size) _ (i+1) (h.copy ⟨hf,by omega⟩)).mono (by simp;omega)
   ·rw[zjx hs hf]
    exact(yfa l size hz hl f (s.drop 1) _ (i+1) (h.data (by simp;omega))).mono (by simp;omega)
theorem zlp(l:List Blk)(size:Nat)(s:List UInt8)(hz:1≤size)(hl:l.length≤4000):OkOut (zc1 l size s) s.length:=by
 have:=yfa l size hz hl s.length s [] 0 (OkOut.nil 0)
 unfold zc1;rw[Nat.zero_add] at this;exact this
theorem ya9(l:List Blk)(x:Blk)(i:Nat)(h:∀b∈l,b≠x):zf0 l x i=-1:=by
 induction l generalizing i with
 | nil=>have:=zj8 ([]:List Blk) x i (by simp);simpa using this
 | cons b l ih=>rw[zpb,if_neg (h b (by simp))];exact ih (i+1) (fun c hc=>h c (by simp[hc]))
def FlowAt(w:World)(b:Nat)(W L T G:Int):Prop:=w.heap[b]?=some (.cells #[.int .i64 W,.int .i64 L,.int .i64 T,.int .i64 G] 291 (0,0))
theorem FlowAt.lt{w:World}{b:Nat}{W L T G:Int}(h:FlowAt w b W L T G):b<w.heap.size:=lt_of_block h
theorem FlowAt.c0{w:World}{b:Nat}{W L T G:Int}(h:FlowAt w b W L T G):w.cell? ⟨b,0,none⟩=some (.int .i64 W):=by unfold FlowAt at h;simp[World.cell?,h]
theorem FlowAt.c1{w:World}{b:Nat}{W L T G:Int}(h:FlowAt w b W L T G):w.cell? ⟨b,1,none⟩=some (.int .i64 L):=by unfold FlowAt at h;simp[World.cell?,h]
theorem FlowAt.c2{w:World}{b:Nat}{W L T G:Int}(h:FlowAt w b W L T G):w.cell? ⟨b,2,none⟩=some (.int .i64 T):=by unfold FlowAt at h;simp[World.cell?,h]
theorem FlowAt.c3{w:World}{b:Nat}{W L T G:Int}(h:FlowAt w b W L T G):w.cell? ⟨b,3,none⟩=some (.int .i64 G):=by unfold FlowAt at h;simp[World.cell?,h]
theorem FlowAt.fz{w:World}{b:Nat}{W L T G:Int}(h:FlowAt w b W L T G)(k:Nat):w.frozen? ⟨b,k,none⟩=false:=by unfold FlowAt at h;simp[World.frozen?,h]
theorem FlowAt.s0{w:World}{b:Nat}{W L T G:Int}(h:FlowAt w b W L T G)(x:Int):FlowAt (w.setCell ⟨b,0,none⟩ (.int .i64 x)) b x L T G:=za2 h
theorem FlowAt.s1{w:World}{b:Nat}{W L T G:Int}(h:FlowAt w b W L T G)(x:Int):FlowAt (w.setCell ⟨b,1,none⟩ (.int .i64 x)) b W x T G:=za2 h
theorem FlowAt.s2{w:World}{b:Nat}{W L T G:Int}(h:FlowAt w b W L T G)(x:Int):FlowAt (w.setCell ⟨b,2,none⟩ (.int .i64 x)) b W L x G:=za2 h
theorem FlowAt.s3{w:World}{b:Nat}{W L T G:Int}(h:FlowAt w b W L T G)(x:Int):FlowAt (w.setCell ⟨b,3,none⟩ (.int .i64 x)) b W L T x:=za2 h
theorem FlowAt.drewN{w:World}{b:Nat}{W L T G:Int}(h:FlowAt w b W L T G)(n:Nat):FlowAt (w.drewN n) b W L T G:=h
def zgm(W L T G:Int):Prop:=1≤W∧W≤32∧1≤L∧L≤32∧2≤T∧T≤64∧0≤G∧G≤32
def yay(W L G:Int):Int:=if L≤W∧G+1<W then W else if W+1≤32 then W+1 else 32
def yaz(W L G:Int):Int:=if L≤W∧G+1<W then G+1 else 0
def ym0(W:Int):Int:=if 1≤W / 2 then W / 2 else 1
def ylp(T:Int):Int:=if 2 * T≤64 then 2 * T else 64
theorem yos{W L T G:Int}(h:zgm W L T G):zgm (yay W L G) L 2 (yaz W L G):=by
 obtain⟨h1,h2,h3,h4,h5,h6,h7,h8⟩:=h
 unfold yay yaz
 refine⟨?_,?_,h3,h4,by omega,by omega,?_,?_⟩<;>(repeat' split)<;>omega
theorem yrs{W L T G:Int}(h:zgm W L T G):zgm 1 (ym0 W) (ylp T) 0:=by
 obtain⟨h1,h2,h3,h4,h5,h6,h7,h8⟩:=h
 unfold ym0 ylp
 refine⟨by omega,by omega,?_,?_,?_,?_,by omega,by omega⟩<;>(repeat' split)<;>omega
theorem yca(b:Nat)(W L T G:Int)(w:World)(h:FlowAt w b W L T G):
  Calls Tryz.prog 184 #[.pointer (some ⟨b,0,none⟩)] w fun e w'=>e=.returned (.int .i64 T)∧w'=w:=by
 have c2:=h.c2
 go_enter Tryz.func184,Tryz.ntmps184
 go_wp2_with fail
 go_ret
 exact⟨rfl,rfl⟩
theorem yq1(w:World):
  Calls Tryz.prog 182 #[] w fun e w'=>e=.returned (.pointer (some ⟨w.heap.size,0,none⟩))∧FlowAt w' w.heap.size 1 32 2 0∧Below w.heap.size w w':=by
 go_enter Tryz.func182,Tryz.ntmps182
 go_wp2_with fail
 go_ret
 exact⟨rfl,heap_alloc_new _ _,(Below.refl _ w).alloc (Nat.le_refl _) _⟩
theorem yf0(b:Nat)(W L T G:Int)(w:World)(h:FlowAt w b W L T G)(ok:zgm W L T G):
  Calls Tryz.prog 222 #[.pointer (some ⟨b,0,none⟩)] w fun e w'=>e=.returned (.tuple #[])∧FlowAt w' b (yay W L G) L 2 (yaz W L G)∧w.grownBy w' (some b):=by
 have c2:=h.c2
 have f2:=h.fz 2
 obtain⟨o1,o2,o3,o4,o5,o6,o7,o8⟩:=ok
 have h1:=h.s2 2
 have g1:=zap w b 2 (.int .i64 2)
 have fin:∀w',FlowAt w' b (if L≤W∧G+1<W then W else if W+1≤32 then W+1 else 32) L 2 (if L≤W∧G+1<W then G+1 else 0)→FlowAt w' b (yay W L G) L 2 (yaz W L G):=fun _ h=>h
 have FIN:=hid fin
 clear fin
 go_enter Tryz.func222,Tryz.ntmps222
 go_wp2_with fail
 generalize w.setCell ⟨b,2,none⟩ (.int .i64 2)=w1 at h1 g1 ⊢
 have d0:=h1.c0
 have d1:=h1.c1
 have d3:=h1.c3
 have e0:=h1.fz 0
 have e3:=h1.fz 3
 have w1':IntKind.i64.wrap (G+1)=G+1:=IntWalk.i64_in _ (by omega)
 have w2':IntKind.i64.wrap (W+1)=W+1:=IntWalk.i64_in _ (by omega)
 have tail:∀(w3:World)(G0 x:Int),FlowAt w3 b W L 2 G0→w.grownBy w3 (some b)→(L≤W∧G+1<W→False)→x=(if W+1≤32 then W+1 else 32)→
   FlowAt ((w3.setCell ⟨b,3,none⟩ (.int .i64 0)).setCell ⟨b,0,none⟩ (.int .i64 x)) b (yay W L G) L 2 (yaz W L G)∧
   w.grownBy ((w3.setCell ⟨b,3,none⟩ (.int .i64 0)).setCell ⟨b,0,none⟩ (.int .i64 x)) (some b):=by
  intro w3 G0 x f g hno hx
  refine⟨FIN.out _ ?_,zam (zam g (zap _ _ _ _)) (zap _ _ _ _)⟩
  rw[if_neg (fun h=>hno h),if_neg (fun h=>hno h),←hx]
  exact(f.s3 0).s0 _
 have TAIL:=hid tail
 clear tail
 by_cases t1:L≤W
 ·go_quiet (fail)
  go_wp2_with fail
  have h3:=(h1.drewN nq).s3 (G+1)
  have g3:=zam (zc5 g1 nq) (zap (w1.drewN nq) b 3 (.int .i64 (G+1)))
  generalize (w1.drewN nq).setCell ⟨b,3,none⟩ (.int .i64 (G+1))=w2 at h3 g3 ⊢
  clear d0 d1 d3 e0 e3 h1 g1
  have d0:=h3.c0
  have d3:=h3.c3
  have e0:=h3.fz 0
  have e3:=h3.fz 3
  by_cases t2:G+1<W
  ·go_quiet (fail)
   go_wp2_with fail
   go_returns
   refine⟨rfl,FIN.out _ ?_,zc5 g3 _⟩
   rw[if_pos ⟨t1,t2⟩,if_pos ⟨t1,t2⟩]
   exact h3.drewN _
  ·go_quiet (fail)
   go_wp2_with fail
   all_goals
    go_returns
    exact⟨rfl,TAIL.out _ _ _ (h3.drewN _) (zc5 g3 _) (fun h=>by omega) (by first|rw[if_pos (by omega)]|rw[if_neg (by omega)])⟩
 ·go_quiet (fail)
  go_wp2_with fail
  all_goals
   go_returns
   exact⟨rfl,TAIL.out _ _ _ (h1.drewN _) (zc5 g1 _) (fun h=>by omega) (by first|rw[if_pos (by omega)]|rw[if_neg (by omega)])⟩
theorem yrt(b:Nat)(W L T G:Int)(w:World)(h:FlowAt w b W L T G)(ok:zgm W L T G):
  Calls Tryz.prog 185 #[.pointer (some ⟨b,0,none⟩)] w fun e w'=>e=.returned (.tuple #[])∧FlowAt w' b 1 (ym0 W) (ylp T) 0∧w.grownBy w' (some b):=by
 have c0:=h.c0
 have c1:=h.c1
 have c2:=h.c2
 have c3:=h.c3
 have f0:=h.fz 0
 have f1:=h.fz 1
 have f2:=h.fz 2
 have f3:=h.fz 3
 obtain⟨o1,o2,o3,o4,o5,o6,o7,o8⟩:=ok
 have w1':IntKind.i64.wrap (2 * T)=2 * T:=IntWalk.i64_in _ (by omega)
 have w2':IntKind.i64.wrap (W.tdiv 2)=W / 2:=by rw[Int.tdiv_eq_ediv_of_nonneg (by omega)];exact IntWalk.i64_in _ (by omega)
 have fin:∀x y,x=ym0 W→y=ylp T→FlowAt ((((w.setCell ⟨b,1,none⟩ (.int .i64 x)).setCell ⟨b,0,none⟩ (.int .i64 1)).setCell ⟨b,3,none⟩ (.int .i64 0)).setCell ⟨b,2,none⟩ (.int .i64 y)) b 1 (ym0 W) (ylp T) 0∧
   w.grownBy ((((w.setCell ⟨b,1,none⟩ (.int .i64 x)).setCell ⟨b,0,none⟩ (.int .i64 1)).setCell ⟨b,3,none⟩ (.int .i64 0)).setCell ⟨b,2,none⟩ (.int .i64 y)) (some b):=by
  intro x y hx hy
  rw[←hx,←hy]
  exact⟨((((h.s1 x).s0 1).s3 0).s2 y),zam (zam (zam (zap _ _ _ _) (zap _ _ _ _)) (zap _ _ _ _)) (zap _ _ _ _)⟩
 have FIN:=hid fin
 clear fin
 go_enter Tryz.func185,Tryz.ntmps185
 go_wp2_with fail
 all_goals
  go_returns
  exact⟨rfl,FIN.out _ _ (by unfold ym0;first|rw[if_pos (by omega)]|(rw[if_neg (by omega)];omega)|(split<;>omega)) (by unfold ylp;first|rw[if_pos (by omega)]|(rw[if_neg (by omega)];omega)|(split<;>omega))⟩
end Go.Proofs.YtakhkcaihhpehaaGreatDoor
