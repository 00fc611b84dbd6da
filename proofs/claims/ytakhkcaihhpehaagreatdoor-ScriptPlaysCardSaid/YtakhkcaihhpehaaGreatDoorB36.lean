/- Texts of one proof, one behind the other: BasText, BasRead, BasFar. -/
import Derived.Test.YtakhkcaihhpehaaGreatDoorB22
import Derived.Test.YtakhkcaihhpehaaGreatDoorB14
import Derived.Test.YtakhkcaihhpehaaGreatDoorB23
import Derived.Test.YtakhkcaihhpehaaGreatDoorB03
import Derived.Test.YtakhkcaihhpehaaGreatDoorB09
import Derived.Test.YtakhkcaihhpehaaGreatDoorB01
import Derived.Test.YtakhkcaihhpehaaGreatDoorB06
namespace Go.Proofs.YtakhkcaihhpehaaGreatDoor
open Go.RowKit
open Lib (hid)
set_option linter.unusedVariables false
set_option maxRecDepth 100000
set_option maxHeartbeats 51200000
section
def PMk.vals(m:PMk):List Value:=[.string (bs m.n),.int .i64 m.N,.int .u32 m.S]
def PMk.val(m:PMk):Value:=.agg #[.string (bs m.n),.int .i64 m.N,.int .u32 m.S]
def zd5(l:List PMk):List Value:=l.flatMap PMk.vals
theorem PMk.vals_len(m:PMk):m.vals.length=3:=rfl
theorem zvh(l:List PMk):(zd5 l).length=l.length * 3:=zlq _ 3 PMk.vals_len l
theorem zsw(l:List PMk)(m:PMk):zd5 (l++[m])=zd5 l++m.vals:=by unfold zd5;simp
theorem zvi(l:List PMk)(k:Nat)(h:k<l.length):(zd5 l)[k * 3]?=some (.string (bs l[k].n))∧(zd5 l)[k * 3+1]?=some (.int .i64 l[k].N)∧(zd5 l)[k * 3+2]?=some (.int .u32 l[k].S):=by
 refine⟨?_,?_,?_⟩
 ·have:=zcy PMk.vals 3 PMk.vals_len l k 0 h (by omega);rw[Nat.add_zero] at this;exact this
 ·exact zcy PMk.vals 3 PMk.vals_len l k 1 h (by omega)
 ·exact zcy PMk.vals 3 PMk.vals_len l k 2 h (by omega)
theorem yam{w:World}{b:Nat}{u0 u1 u2:Value}{t:TypeId}(h:w.heap[b]?=some (.cells #[u0,u1,u2] t (0,0))):w.cell? ⟨b,0,none⟩=some u0∧w.cell? ⟨b,1,none⟩=some u1∧w.cell? ⟨b,2,none⟩=some u2:=by
 refine⟨?_,?_,?_⟩<;>simp[World.cell?,h]
attribute [local irreducible] zbc
theorem yhm(E:Nat→Addr)(m:PMk)(w:World)(hw:LibW E w)(hn:m.n.length≤1000000000)(hS:m.S≤4294967295)(h5:Has E w 5)(h2:Has E w 2):
  Calls Tryz.prog 113 #[m.val] w fun e w'=>e=.returned (.tuple #[.string (bs (mkX m)),ev E (mkC m)])∧Below w.heap.size w w':=by
 obtain⟨n,N,S⟩:=m
 simp only at hn hS
 have B0:=hid (zag w (.cells #[.string (bs n),.int .i64 N,.int .u32 S] 196))
 have HX:=hid (heap_alloc_new w (.cells #[.string (bs n),.int .i64 N,.int .u32 S] 196))
 have NM:=hid (fun w'=>zie n w' (by unfold maxLen;omega))
 have XK:=hid (fun(w':World)(b:Below (w.alloc (.cells #[.string (bs n),.int .i64 N,.int .u32 S] 196)).heap.size (w.alloc (.cells #[.string (bs n),.int .i64 N,.int .u32 S] 196)) w')=>yam ((b.block w.heap.size (by simp)).trans HX.out))
 have E5:=hid (fun(w':World)(b:Below (w.alloc (.cells #[.string (bs n),.int .i64 N,.int .u32 S] 196)).heap.size (w.alloc (.cells #[.string (bs n),.int .i64 N,.int .u32 S] 196)) w')=>show w'.cell? ⟨5,0,none⟩=some (za0 (E 5)) from(h5.below B0.out).below b)
 have E2:=hid (fun(w':World)(b:Below (w.alloc (.cells #[.string (bs n),.int .i64 N,.int .u32 S] 196)).heap.size (w.alloc (.cells #[.string (bs n),.int .i64 N,.int .u32 S] 196)) w')=>show w'.cell? ⟨0,0,none⟩=some (za0 (E 2)) from(h2.below B0.out).below b)
 have LW:=hid (fun(w':World)(b:Below (w.alloc (.cells #[.string (bs n),.int .i64 N,.int .u32 S] 196)).heap.size (w.alloc (.cells #[.string (bs n),.int .i64 N,.int .u32 S] 196)) w')=>(hw.below B0.out).below b)
 have c0:=(yam HX.out).1
 clear h5 h2 hw
 show Calls _ _ #[.agg #[.string (bs n),.int .i64 N,.int .u32 S]] _ _
 by_cases hnm:zbc n=true
 ·rw[hnm] at NM
  by_cases hN:0≤N∧N≤4000
  ·obtain⟨hN1,hN2⟩:=hN
   obtain⟨K,rfl⟩:=Int.eq_ofNat_of_zero_le hN1
   have hC:mkC ⟨n,K,S⟩=0:=by unfold mkC;rw[if_neg (by simp[hnm]),if_neg (by simp only;omega)]
   have hX:mkX ⟨n,K,S⟩=n++32::(Lib.decDigits K++32::Lib.decDigits S):=by unfold mkX mkT;rw[if_pos hC];simp
   rw[hC,hX,zaj]
   have hl1:=zay (n:=K) (k:=18) (by omega)
   have hl2:=zay (n:=S) (k:=18) (by omega)
   have HFIN:Hid (((bs n++⟨#[32]⟩++bs (Lib.decDigits K))++⟨#[32]⟩)++bs (Lib.decDigits S)=bs (n++32::(Lib.decDigits K++32::Lib.decDigits S))):=hid (by
    apply zg0
    simp)
   have IT:=hid (fun(w':World)(h:LibW E w')=>ze4 E K w' h (by omega))
   have FU:=hid (fun(w':World)(h:LibW E w')=>zni E S w' h hS)
   have hsz:(bs n).size=n.length:=zae n
   have hI1:¬((K:Int)<0):=by omega
   have hI2:¬(4000:Int)<K:=by omega
   have k1:¬9223372036854775807<n.length+1:=by omega
   have k2:¬9223372036854775807<n.length+1+(Lib.decDigits K).length:=by omega
   have k3:¬9223372036854775807<n.length+1+(Lib.decDigits K).length+1:=by omega
   have k4:¬9223372036854775807<n.length+1+(Lib.decDigits K).length+1+(Lib.decDigits S).length:=by omega
   have hw64:IntKind.u64.wrap (S:Int)=S:=IntWalk.u64_in _ (by omega)
   clear hC hX hl1 hl2 E5 E2
   generalize Lib.decDigits K=dk at *
   generalize Lib.decDigits S=ds at *
   go_enter Tryz.func113,Tryz.ntmps113
   go_wp2_with fail
   refine(NM.out _).mono ?_
   rintro e w1⟨rfl,b1⟩
   obtain⟨d0,d1,d2⟩:=XK.out _ b1
   have SS:=And.intro d0 (And.intro d1 d2)
   have SB:=hid b1
   have KK:=hid (fun(w':World)(b:Below w1.heap.size w1 w')=>XK.out _ (zaa SB.out b))
   have LL:=hid (fun(w':World)(b:Below w1.heap.size w1 w')=>LW.out _ (zaa SB.out b))
   have BR:=Below.refl w1.heap.size w1
   clear b1 c0 XK LW NM
   go_wp2_with fail
   go_region_held3 (fun w'=>w'.cell? ⟨w.heap.size,0,none⟩=some (.string (bs n))∧w'.cell? ⟨w.heap.size,1,none⟩=some (.int .i64 K)∧w'.cell? ⟨w.heap.size,2,none⟩=some (.int .u32 S)) (first|assumption|exact SS|exact KK.out _ (Below.drew BR))
    (first
    | (go_at_call 99;refine(IT.out _ (LL.out _ (by first|assumption|exact BR|exact Below.drew BR))).mono ?_;rintro e w2⟨rfl,b2⟩;have bb2:=zaa (by first|assumption|exact BR|exact Below.drew BR) b2;have SS2:=KK.out _ bb2;clear b2)
    | (go_at_call 100;refine(FU.out _ (LL.out _ (by first|assumption|exact BR|exact Below.drew BR))).mono ?_;rintro e w3⟨rfl,b3⟩;have bb3:=zaa (by first|assumption|exact BR|exact Below.drew BR) b3;have SS3:=KK.out _ bb3;clear b3))
   all_goals
    have BF:=hid (zaa SB.out bb3)
    go_wp2_with fail
    go_ret2
    rw[←HFIN.out]
    exact⟨rfl,zaa B0.out BF.out⟩
  ·have hC:mkC ⟨n,N,S⟩=2:=by unfold mkC;rw[if_neg (by simp[hnm]),if_pos (by simp only;omega)]
   have hX:mkX ⟨n,N,S⟩=[]:=by unfold mkX;rw[if_neg (by rw[hC];decide)]
   rw[hC,hX,za9 E (by decide),bs_nil]
   have hor:N<0∨¬N<0∧4000<N:=by omega
   clear hC hX hN E5 LW
   rcases hor with h1|⟨h1,h3⟩
   all_goals
    go_enter Tryz.func113,Tryz.ntmps113
    go_wp2_with fail
    refine(NM.out _).mono ?_
    rintro e w1⟨rfl,b1⟩
    obtain⟨d0,d1,d2⟩:=XK.out _ b1
    have d5:=E2.out _ b1
    have SB:=hid (zaa B0.out b1)
    clear b1 c0 d0 d2 XK NM E2
    go_wp2_with fail
    go_quiet (fail)
    go_wp2_with fail
    go_ret2
    exact⟨rfl,zac SB.out _⟩
 ·have hnm':zbc n=false:=by simpa using hnm
  rw[hnm'] at NM
  have hC:mkC ⟨n,N,S⟩=5:=by unfold mkC;rw[if_pos hnm']
  have hX:mkX ⟨n,N,S⟩=[]:=by unfold mkX;rw[if_neg (by rw[hC];decide)]
  rw[hC,hX,za9 E (by decide),bs_nil]
  clear hC hX hnm hnm' E2 LW
  go_enter Tryz.func113,Tryz.ntmps113
  go_wp2_with fail
  refine(NM.out _).mono ?_
  rintro e w1⟨rfl,b1⟩
  have d5:=E5.out _ b1
  have SB:=hid (zaa B0.out b1)
  clear b1 c0 XK NM E5
  go_wp2_with fail
  go_quiet (fail)
  go_wp2_with fail
  go_ret2
  exact⟨rfl,zac SB.out _⟩
end
section
theorem zhz(E:Nat→Addr)(c:UInt8)(sep:ByteArray)(hsep:sep=bs [c])(l:List UInt8)(w:World)(hl:l.length≤1000000000)(hw:LibW E w):
  Calls Tryz.prog 45 #[.string (bs l),.string sep] w fun e w'=>e=.returned (.slice (some ⟨w.heap.size,0,none⟩) (zcn c l).length (zcn c l).length)∧w'=w.alloc (.cells ((zcn c l).map fun x=>Value.string (bs x)).toArray 9):=by
 subst hsep
 obtain⟨m,hm⟩:=hw.ml
 obtain⟨e1,e2⟩:=yqn c l
 refine(Tryz.strings_Split (bs l) (bs [c]) m w (by rw[zae];omega) hm (by rw[zae];simp)).mono ?_
 rintro e w'⟨rfl,rfl⟩
 rw[e1,e2,List.map_map]
 exact⟨rfl,rfl⟩
theorem zcd{w:World}{b:Nat}{u0 u1 u2:Value}{t:TypeId}(h:w.heap[b]?=some (.cells #[u0,u1,u2] t (0,0))):(w.cell? ⟨b,0,none⟩=some u0∧w.cell? ⟨b,1,none⟩=some u1∧w.cell? ⟨b,2,none⟩=some u2)∧∀k,w.frozen? ⟨b,k,none⟩=false:=
 ⟨yam h,fun k=>by simp[World.frozen?,h]⟩
theorem zxd{w:World}{b:Nat}{u0 u1 u2:Value}{t:TypeId}(h:w.heap[b]?=some (.cells #[u0,u1,u2] t (0,0)))(x y z:Value):(((w.setCell ⟨b,0,none⟩ x).setCell ⟨b,1,none⟩ y).setCell ⟨b,2,none⟩ z).heap[b]?=some (.cells #[x,y,z] t (0,0)):=by
 have h0:=za2 (k:=0) (u:=x) h
 have h1:=za2 (k:=1) (u:=y) h0
 simpa using za2 (k:=2) (u:=z) h1
theorem zbo{w W:World}{b:Nat}(h:Below w.heap.size w W)(hb:w.heap.size≤b)(x y z:Value):Below w.heap.size w (((W.setCell ⟨b,0,none⟩ x).setCell ⟨b,1,none⟩ y).setCell ⟨b,2,none⟩ z):=
 ((h.setCell (p:=⟨b,0,none⟩) hb x).setCell (p:=⟨b,1,none⟩) hb y).setCell (p:=⟨b,2,none⟩) hb z
theorem zki:zmk.val=.agg #[.string ⟨#[]⟩,.int .i64 0,.int .u32 ((0:Nat):Int)]:=by unfold zmk PMk.val;rw[bs_nil]
theorem zwr{α:Type}(L:List α):(∃a b c,L=[a,b,c])∨L.length≠3:=by
 match L with
 | []=>right;simp
 | [_]=>right;simp
 | [_,_]=>right;simp
 | [a,b,c]=>exact .inl ⟨a,b,c,rfl⟩
 | _::_::_::_::r=>right;simp
theorem yme{s:List UInt8}(h:(zcn 32 s).length≠3):rdM s=(zmk,1):=by
 unfold rdM
 split
 ·rename_i e;rw[e] at h;simp at h
 ·rfl
theorem ymd{s a b c:List UInt8}(h:zcn 32 s=[a,b,c]):rdM s=rdW a b c:=by unfold rdM;rw[h]
theorem ydi{a b c:List UInt8}(h:nmL 10 b=none):rdW a b c=(zmk,1):=by unfold rdW;rw[h]
theorem ydh{a b c:List UInt8}(h:nmL 10 c=none):rdW a b c=(zmk,1):=by unfold rdW;rw[h];cases nmL 10 b<;>rfl
theorem zxa{a b c:List UInt8}{n k:Nat}(h:nmL 10 b=some n)(h2:nmL 10 c=some k)(h3:zbc a=false):rdW a b c=(zmk,5):=by unfold rdW;rw[h,h2];simp only;rw[if_pos h3]
theorem zmg{a b c:List UInt8}{n k:Nat}(h:nmL 10 b=some n)(h2:nmL 10 c=some k)(h3:zbc a=true)(h4:4000<n∨4294967295<k):rdW a b c=(zmk,2):=by unfold rdW;rw[h,h2];simp only;rw[if_neg (by simp[h3]),if_pos h4]
theorem ymc{a b c:List UInt8}{n k:Nat}(h:nmL 10 b=some n)(h2:nmL 10 c=some k)(h3:zbc a=true)(h4:¬(4000<n∨4294967295<k)):rdW a b c=(⟨a,n,k⟩,0):=by unfold rdW;rw[h,h2];simp only;rw[if_neg (by simp[h3]),if_neg h4]
attribute [local irreducible] rdM rdW nmL zbc zcn
theorem yho(E:Nat→Addr)(s:List UInt8)(w:World)(hw:LibW E w)(hs:s.length≤1000000000)(h1:Has E w 1)(h2:Has E w 2)(h5:Has E w 5):
  Calls Tryz.prog 118 #[.string (bs s)] w fun e w'=>e=.returned (.tuple #[(rdM s).1.val,ev E (rdM s).2])∧Below w.heap.size w w':=by
 have B0:=hid (zag w (.cells #[.string ⟨#[]⟩,.int .i64 0,.int .u32 0] 196))
 have HX:=hid (heap_alloc_new w (.cells #[.string ⟨#[]⟩,.int .i64 0,.int .u32 0] 196))
 have SP:=zhz E 32 ⟨#[32]⟩ (by unfold bs;rfl) s _ hs (hw.below B0.out)
 have LW:=hid (fun(w':World)(b:Below w.heap.size w w')=>hw.below b)
 have E1:=hid (fun(w':World)(b:Below w.heap.size w w')=>show w'.cell? ⟨1,0,none⟩=some (za0 (E 1)) from h1.below b)
 have E2:=hid (fun(w':World)(b:Below w.heap.size w w')=>show w'.cell? ⟨0,0,none⟩=some (za0 (E 2)) from h2.below b)
 have E5:=hid (fun(w':World)(b:Below w.heap.size w w')=>show w'.cell? ⟨5,0,none⟩=some (za0 (E 5)) from h5.below b)
 have LEN:=hid (fun x hx=>(zlg (c:=32) s.length s (Nat.le_refl _) x hx).1)
 have z1:1<w.heap.size:=World.block_lt_of_cell? w _ h1
 have z2:0<w.heap.size:=World.block_lt_of_cell? w _ h2
 have z5:5<w.heap.size:=World.block_lt_of_cell? w _ h5
 clear h1 h2 h5 hw
 rcases zwr (zcn 32 s) with⟨a,b,c,h3⟩|h3
 ·have RD0:=hid (ymd h3)
  rw[h3] at SP LEN
  simp only[List.map_cons,List.map_nil,List.length_cons,List.length_nil] at SP
  have SP:=hid SP
  have hla:=LEN.out a (by simp)
  have hlb:=LEN.out b (by simp)
  have hlc:=LEN.out c (by simp)
  have NB:=hid (fun(w':World)(h:LibW E w')=>zd4 E 10 b w' h (by decide) (by omega))
  have NC:=hid (fun(w':World)(h:LibW E w')=>zd4 E 10 c w' h (by decide) (by omega))
  have NM:=hid (fun w'=>zie a w' (by unfold maxLen;omega))
  clear h3 LEN hla hlb hlc
  go_enter Tryz.func118,Tryz.ntmps118
  go_wp2_with fail
  refine SP.out.mono ?_
  rintro e w1⟨rfl,rfl⟩
  have HZ1:=hid (((zag (w.alloc (.cells #[.string ⟨#[]⟩,.int .i64 0,.int .u32 0] 196)) (.cells #[.string (bs a),.string (bs b),.string (bs c)] 9)).block w.heap.size (by simp)).trans HX.out)
  have HL1:=hid (heap_alloc_new (w.alloc (.cells #[.string ⟨#[]⟩,.int .i64 0,.int .u32 0] 196)) (.cells #[.string (bs a),.string (bs b),.string (bs c)] 9))
  have BL1:=hid (zaa B0.out (zag (w.alloc (.cells #[.string ⟨#[]⟩,.int .i64 0,.int .u32 0] 196)) (.cells #[.string (bs a),.string (bs b),.string (bs c)] 9)))
  have esz:(w.alloc (.cells #[.string ⟨#[]⟩,.int .i64 0,.int .u32 0] 196)).heap.size=w.heap.size+1:=by simp
  rw[esz] at HL1
  simp only[esz]
  clear esz SP
  generalize hW1:(w.alloc (.cells #[.string ⟨#[]⟩,.int .i64 0,.int .u32 0] 196)).alloc (.cells #[.string (bs a),.string (bs b),.string (bs c)] 9)=W1 at *
  have LC:=hid (fun(w':World)(bb:Below W1.heap.size W1 w')=>yam ((bb.block _ (lt_of_block HL1.out)).trans HL1.out))
  have HZC:=hid (fun(w':World)(bb:Below W1.heap.size W1 w')=>(bb.block _ (lt_of_block HZ1.out)).trans HZ1.out)
  obtain⟨l0,l1,l2⟩:=LC.out _ (Below.refl _ _)
  clear hW1
  go_wp2_with fail
  refine(NB.out _ (LW.out _ BL1.out)).mono ?_
  rintro e w2⟨⟨vb,rfl,hvb⟩,b2⟩
  obtain⟨m0,m1,m2⟩:=LC.out _ b2
  have B2:=hid b2
  clear b2 l0 l1 l2 NB
  go_wp2_with fail
  refine(NC.out _ (LW.out _ (zaa BL1.out B2.out))).mono ?_
  rintro e W⟨⟨vc,rfl,hvc⟩,b3⟩
  have B3:=hid (zaa B2.out b3)
  obtain⟨n0,n1,n2⟩:=LC.out _ B3.out
  have BW:=hid (zaa BL1.out B3.out)
  clear b3 m0 m1 m2 NC B2 n1 n2
  cases hb:nmL 10 b with
  | none=>
   have RD:=hid (RD0.out.trans (ydi (a:=a) (c:=c) hb))
   have hz:=HZC.out _ B3.out
   have bel:=BW.out
   have ce:=E1.out _ BW.out
   simp only[Option.isSome_none]
   generalize (nmL 10 c).isSome=bc
   clear hvb hvc hb E1 E2 E5 LW NM n0 LC
   obtain⟨⟨q0,q1,q2⟩,fz⟩:=zcd hz
   have f0:=fz 0
   have f1:=fz 1
   have f2:=fz 2
   have HP:=hid (zxd hz ((.string ⟨#[]⟩)) ((.int .i64 0)) ((.int .u32 ((0:Nat):Int))))
   have BB:=hid (zbo bel (Nat.le_refl w.heap.size) ((.string ⟨#[]⟩)) ((.int .i64 0)) ((.int .u32 ((0:Nat):Int))))
   clear fz hz bel
   go_wp2_with fail
   go_region_with (fail)
   all_goals
    go_wp2_with fail
    have bb:=BB.out.drew
    have hp:=(show((((W.setCell ⟨w.heap.size,0,none⟩ (.string ⟨#[]⟩)).setCell ⟨w.heap.size,1,none⟩ (.int .i64 0)).setCell ⟨w.heap.size,2,none⟩ (.int .u32 ((0:Nat):Int))).drew).heap[w.heap.size]?=_ from HP.out)
    generalize (((W.setCell ⟨w.heap.size,0,none⟩ (.string ⟨#[]⟩)).setCell ⟨w.heap.size,1,none⟩ (.int .i64 0)).setCell ⟨w.heap.size,2,none⟩ (.int .u32 ((0:Nat):Int))).drew=w9 at hp bb ⊢
    obtain⟨⟨r0,r1,r2⟩,_⟩:=zcd hp
    (try simp only[Exit.inBlock,Exit.then])
    refine bodyPost_ret (by simp[results,Tryz.results118,go_sem,r0,r1,r2];try rfl) rfl ?_
    exact⟨by rw[RD.out,zki,za9 E (by decide)];rfl,bb⟩
  | some n=>
   obtain rfl:=hvb n hb
   simp only[Option.isSome_some]
   cases hc:nmL 10 c with
   | none=>
    have RD:=hid (RD0.out.trans (ydh (a:=a) (b:=b) hc))
    have hz:=HZC.out _ B3.out
    have bel:=BW.out
    have ce:=E1.out _ BW.out
    simp only[Option.isSome_none]
    clear hvb hvc hb hc E1 E2 E5 LW NM n0 LC
    obtain⟨⟨q0,q1,q2⟩,fz⟩:=zcd hz
    have f0:=fz 0
    have f1:=fz 1
    have f2:=fz 2
    have HP:=hid (zxd hz ((.string ⟨#[]⟩)) ((.int .i64 0)) ((.int .u32 ((0:Nat):Int))))
    have BB:=hid (zbo bel (Nat.le_refl w.heap.size) ((.string ⟨#[]⟩)) ((.int .i64 0)) ((.int .u32 ((0:Nat):Int))))
    clear fz hz bel
    go_wp2_with fail
    go_region_with (fail)
    all_goals
     go_wp2_with fail
     have bb:=BB.out.drew
     have hp:=(show((((W.setCell ⟨w.heap.size,0,none⟩ (.string ⟨#[]⟩)).setCell ⟨w.heap.size,1,none⟩ (.int .i64 0)).setCell ⟨w.heap.size,2,none⟩ (.int .u32 ((0:Nat):Int))).drew).heap[w.heap.size]?=_ from HP.out)
     generalize (((W.setCell ⟨w.heap.size,0,none⟩ (.string ⟨#[]⟩)).setCell ⟨w.heap.size,1,none⟩ (.int .i64 0)).setCell ⟨w.heap.size,2,none⟩ (.int .u32 ((0:Nat):Int))).drew=w9 at hp bb ⊢
     obtain⟨⟨r0,r1,r2⟩,_⟩:=zcd hp
     (try simp only[Exit.inBlock,Exit.then])
     refine bodyPost_ret (by simp[results,Tryz.results118,go_sem,r0,r1,r2];try rfl) rfl ?_
     exact⟨by rw[RD.out,zki,za9 E (by decide)];rfl,bb⟩
   | some k=>
    obtain rfl:=hvc k hc
    simp only[Option.isSome_some]
    have LC2:=hid (fun(w':World)(bb:Below W.heap.size W w')=>(LC.out _ (zaa B3.out bb)).1)
    have HZC2:=hid (fun(w':World)(bb:Below W.heap.size W w')=>HZC.out _ (zaa B3.out bb))
    have BW2:=hid (fun(w':World)(bb:Below W.heap.size W w')=>zaa BW.out bb)
    have HB:=hid hb
    have HC:=hid hc
    clear hvb hvc hb hc LC HZC E1
    by_cases hnm:zbc a=true
    ·rw[hnm] at NM
     have HNM:=hid hnm
     clear hnm
     go_wp2_with fail
     refine(NM.out _).mono ?_
     rintro e w4⟨rfl,b4⟩
     have p0:=LC2.out _ b4
     have bel:=BW2.out _ b4
     have hz:=HZC2.out _ b4
     have ce:=E2.out _ bel
     clear b4 n0 LC2 BW2 HZC2 NM BW B3 E2 E5 LW
     by_cases hbd:4000<n∨4294967295<k
     ·have RD:=hid (RD0.out.trans (zmg HB.out HC.out HNM.out hbd))
      have hor:4000<n∨¬4000<n∧4294967295<k:=by omega
      clear hbd
      rcases hor with hI|⟨hI,hJ⟩
      ·have hI':(4000:Int)<n:=by omega
       obtain⟨⟨q0,q1,q2⟩,fz⟩:=zcd hz
       have f0:=fz 0
       have f1:=fz 1
       have f2:=fz 2
       have HP:=hid (zxd hz ((.string ⟨#[]⟩)) ((.int .i64 0)) ((.int .u32 ((0:Nat):Int))))
       have BB:=hid (zbo bel (Nat.le_refl w.heap.size) ((.string ⟨#[]⟩)) ((.int .i64 0)) ((.int .u32 ((0:Nat):Int))))
       clear fz hz bel
       go_wp2_with fail
       go_region_with (fail)
       all_goals
        go_wp2_with fail
        have bb:=BB.out.drew
        have hp:=(show((((w4.setCell ⟨w.heap.size,0,none⟩ (.string ⟨#[]⟩)).setCell ⟨w.heap.size,1,none⟩ (.int .i64 0)).setCell ⟨w.heap.size,2,none⟩ (.int .u32 ((0:Nat):Int))).drew).heap[w.heap.size]?=_ from HP.out)
        generalize (((w4.setCell ⟨w.heap.size,0,none⟩ (.string ⟨#[]⟩)).setCell ⟨w.heap.size,1,none⟩ (.int .i64 0)).setCell ⟨w.heap.size,2,none⟩ (.int .u32 ((0:Nat):Int))).drew=w9 at hp bb ⊢
        obtain⟨⟨r0,r1,r2⟩,_⟩:=zcd hp
        (try simp only[Exit.inBlock,Exit.then])
        refine bodyPost_ret (by simp[results,Tryz.results118,go_sem,r0,r1,r2];try rfl) rfl ?_
        exact⟨by rw[RD.out,zki,za9 E (by decide)];rfl,bb⟩
      ·have hI':¬(4000:Int)<n:=by omega
       have hJ':(4294967295:Int)<k:=by omega
       obtain⟨⟨q0,q1,q2⟩,fz⟩:=zcd hz
       have f0:=fz 0
       have f1:=fz 1
       have f2:=fz 2
       have HP:=hid (zxd hz ((.string ⟨#[]⟩)) ((.int .i64 0)) ((.int .u32 ((0:Nat):Int))))
       have BB:=hid (zbo bel (Nat.le_refl w.heap.size) ((.string ⟨#[]⟩)) ((.int .i64 0)) ((.int .u32 ((0:Nat):Int))))
       clear fz hz bel
       go_wp2_with fail
       go_region_with (fail)
       all_goals
        go_wp2_with fail
        have bb:=BB.out.drew
        have hp:=(show((((w4.setCell ⟨w.heap.size,0,none⟩ (.string ⟨#[]⟩)).setCell ⟨w.heap.size,1,none⟩ (.int .i64 0)).setCell ⟨w.heap.size,2,none⟩ (.int .u32 ((0:Nat):Int))).drew).heap[w.heap.size]?=_ from HP.out)
        generalize (((w4.setCell ⟨w.heap.size,0,none⟩ (.string ⟨#[]⟩)).setCell ⟨w.heap.size,1,none⟩ (.int .i64 0)).setCell ⟨w.heap.size,2,none⟩ (.int .u32 ((0:Nat):Int))).drew=w9 at hp bb ⊢
        obtain⟨⟨r0,r1,r2⟩,_⟩:=zcd hp
        (try simp only[Exit.inBlock,Exit.then])
        refine bodyPost_ret (by simp[results,Tryz.results118,go_sem,r0,r1,r2];try rfl) rfl ?_
        exact⟨by rw[RD.out,zki,za9 E (by decide)];rfl,bb⟩
     ·have RD:=hid (RD0.out.trans (ymc HB.out HC.out HNM.out hbd))
      have hI':¬(4000:Int)<n:=by omega
      have hJ':¬(4294967295:Int)<k:=by omega
      have hcv:IntKind.u32.wrap (k:Int)=k:=IntWalk.u32_in _ (by omega)
      clear hbd ce
      obtain⟨⟨q0,q1,q2⟩,fz⟩:=zcd hz
      have f0:=fz 0
      have f1:=fz 1
      have f2:=fz 2
      have HP:=hid (zxd hz ((.string (bs a))) ((.int .i64 n)) ((.int .u32 k)))
      have BB:=hid (zbo bel (Nat.le_refl w.heap.size) ((.string (bs a))) ((.int .i64 n)) ((.int .u32 k)))
      clear fz hz bel
      go_wp2_with fail
      have bb:=BB.out
      have hp:=(show((((w4.setCell ⟨w.heap.size,0,none⟩ (.string (bs a))).setCell ⟨w.heap.size,1,none⟩ (.int .i64 n)).setCell ⟨w.heap.size,2,none⟩ (.int .u32 k))).heap[w.heap.size]?=_ from HP.out)
      generalize (((w4.setCell ⟨w.heap.size,0,none⟩ (.string (bs a))).setCell ⟨w.heap.size,1,none⟩ (.int .i64 n)).setCell ⟨w.heap.size,2,none⟩ (.int .u32 k))=w9 at hp bb ⊢
      obtain⟨⟨r0,r1,r2⟩,_⟩:=zcd hp
      (try simp only[Exit.inBlock,Exit.then])
      refine bodyPost_ret (by simp[results,Tryz.results118,go_sem,r0,r1,r2];try rfl) rfl ?_
      exact⟨by rw[RD.out,zaj];rfl,bb⟩
    ·have hnm':zbc a=false:=by simpa using hnm
     rw[hnm'] at NM
     have RD:=hid (RD0.out.trans (zxa HB.out HC.out hnm'))
     clear hnm hnm'
     go_wp2_with fail
     refine(NM.out _).mono ?_
     rintro e w4⟨rfl,b4⟩
     have bel:=BW2.out _ b4
     have hz:=HZC2.out _ b4
     have ce:=E5.out _ bel
     clear b4 n0 LC2 BW2 HZC2 NM BW B3 E2 E5 LW
     obtain⟨⟨q0,q1,q2⟩,fz⟩:=zcd hz
     have f0:=fz 0
     have f1:=fz 1
     have f2:=fz 2
     have HP:=hid (zxd hz ((.string ⟨#[]⟩)) ((.int .i64 0)) ((.int .u32 ((0:Nat):Int))))
     have BB:=hid (zbo bel (Nat.le_refl w.heap.size) ((.string ⟨#[]⟩)) ((.int .i64 0)) ((.int .u32 ((0:Nat):Int))))
     clear fz hz bel
     go_wp2_with fail
     go_region_with (fail)
     all_goals
      go_wp2_with fail
      have bb:=BB.out.drew
      have hp:=(show((((w4.setCell ⟨w.heap.size,0,none⟩ (.string ⟨#[]⟩)).setCell ⟨w.heap.size,1,none⟩ (.int .i64 0)).setCell ⟨w.heap.size,2,none⟩ (.int .u32 ((0:Nat):Int))).drew).heap[w.heap.size]?=_ from HP.out)
      generalize (((w4.setCell ⟨w.heap.size,0,none⟩ (.string ⟨#[]⟩)).setCell ⟨w.heap.size,1,none⟩ (.int .i64 0)).setCell ⟨w.heap.size,2,none⟩ (.int .u32 ((0:Nat):Int))).drew=w9 at hp bb ⊢
      obtain⟨⟨r0,r1,r2⟩,_⟩:=zcd hp
      (try simp only[Exit.inBlock,Exit.then])
      refine bodyPost_ret (by simp[results,Tryz.results118,go_sem,r0,r1,r2];try rfl) rfl ?_
      exact⟨by rw[RD.out,zki,za9 E (by decide)];rfl,bb⟩
 ·have RD:=hid (yme h3)
  have SP:=hid SP
  have hn:(((zcn 32 s).length:Int) != 3)=true:=by simp;omega
  have hn2:(((zcn 32 s).length:Int)==3)=false:=by simp;omega
  clear h3 LEN
  have HZ1:=hid (fun(o:Obj)=>((zag (w.alloc (.cells #[.string ⟨#[]⟩,.int .i64 0,.int .u32 0] 196)) o).block w.heap.size (by simp)).trans HX.out)
  have BL1:=hid (fun(o:Obj)=>zaa B0.out (zag (w.alloc (.cells #[.string ⟨#[]⟩,.int .i64 0,.int .u32 0] 196)) o))
  generalize zcn 32 s=L at *
  go_enter Tryz.func118,Tryz.ntmps118
  go_wp2_with fail
  refine SP.out.mono ?_
  rintro e W⟨rfl,hW⟩
  have hz:W.heap[w.heap.size]?=some (.cells #[.string ⟨#[]⟩,.int .i64 0,.int .u32 0] 196 (0,0)):=by rw[hW];exact HZ1.out _
  have bel:Below w.heap.size w W:=by rw[hW];exact BL1.out _
  have ce:=E1.out _ bel
  clear hW SP HZ1 BL1 E1 E2 E5 LW
  obtain⟨⟨q0,q1,q2⟩,fz⟩:=zcd hz
  have f0:=fz 0
  have f1:=fz 1
  have f2:=fz 2
  have HP:=hid (zxd hz ((.string ⟨#[]⟩)) ((.int .i64 0)) ((.int .u32 ((0:Nat):Int))))
  have BB:=hid (zbo bel (Nat.le_refl w.heap.size) ((.string ⟨#[]⟩)) ((.int .i64 0)) ((.int .u32 ((0:Nat):Int))))
  clear fz hz bel
  go_wp2_with fail
  go_region_with (fail)
  all_goals
   go_wp2_with fail
   have bb:=BB.out.drew
   have hp:=(show((((W.setCell ⟨w.heap.size,0,none⟩ (.string ⟨#[]⟩)).setCell ⟨w.heap.size,1,none⟩ (.int .i64 0)).setCell ⟨w.heap.size,2,none⟩ (.int .u32 ((0:Nat):Int))).drew).heap[w.heap.size]?=_ from HP.out)
   generalize (((W.setCell ⟨w.heap.size,0,none⟩ (.string ⟨#[]⟩)).setCell ⟨w.heap.size,1,none⟩ (.int .i64 0)).setCell ⟨w.heap.size,2,none⟩ (.int .u32 ((0:Nat):Int))).drew=w9 at hp bb ⊢
   obtain⟨⟨r0,r1,r2⟩,_⟩:=zcd hp
   (try simp only[Exit.inBlock,Exit.then])
   refine bodyPost_ret (by simp[results,Tryz.results118,go_sem,r0,r1,r2];try rfl) rfl ?_
   exact⟨by rw[RD.out,zki,za9 E (by decide)];rfl,bb⟩
end
section
def yp0(name data:List UInt8)(m:PMk)(far:Int):Int:=if m.n=name∧far<m.N∧m.N≤data.length∧za5 (data.take m.N.toNat)=m.S then m.N else far
theorem ygs{name data:List UInt8}{l:List PMk}{k:Nat}{far:Int}(h:k<l.length):zyg name data (l.drop k) far=zyg name data (l.drop (k+1)) (yp0 name data l[k] far):=by
 rw[List.drop_eq_getElem_cons h];rfl
theorem ykz{name data:List UInt8}{l:List PMk}{k:Nat}{far:Int}(h:l.length≤k):zyg name data (l.drop k) far=far:=by rw[List.drop_of_length_le h];rfl
theorem yky{name data:List UInt8}{m:PMk}{far:Int}(h:m.n=name∧far<m.N∧m.N≤data.length∧za5 (data.take m.N.toNat)=m.S):yp0 name data m far=m.N:=by unfold yp0;rw[if_pos h]
theorem zq7{name data:List UInt8}{m:PMk}{far:Int}(h:¬(m.n=name∧far<m.N∧m.N≤data.length∧za5 (data.take m.N.toNat)=m.S)):yp0 name data m far=far:=by unfold yp0;rw[if_neg h]
theorem zk8(l:List UInt8):(bs l).toList=l:=by rw[ByteArray.toList_eq,zai]
attribute [local irreducible] zyg yp0
theorem yln(l:List PMk)(v:Value)(name data:List UInt8)(w:World)(hl:SliceIs w v 3 (zd5 l))(hd:data.length≤100000):
  Calls Tryz.prog 119 #[v,.string (bs name),.string (bs data)] w fun e w'=>e=.returned (.int .i64 (zn6 name data l))∧Below w.heap.size w w':=by
 obtain⟨s,m,c,rfl,hn,h1,h2,hg⟩:=hl.get
 rw[zvh] at hn
 obtain rfl:m=l.length:=by omega
 unfold maxLen at h2
 have HSL:=hid hl
 have HS:Hid (zn6 name data l=zyg name data (l.drop 0) 0):=hid rfl
 have hdz:(bs data).size=data.length:=zae data
 have SM:=hid (fun (N:Nat) w'=>zhc (bs (data.take N)) w' (by rw[zae,List.length_take];omega))
 simp only[zai] at SM
 generalize zn6 name data l=r at *
 clear hl hg
 go_enter Tryz.func119,Tryz.ntmps119
 go_wp2_with fail
 go_loopw [7,9,12] (fun f _ i wr=>∃(k:Nat)(far:Int),i=.int .i64 k∧f=.int .i64 far∧k≤l.length∧0≤far∧far≤data.length∧r=zyg name data (l.drop k) far∧Below w.heap.size w wr) (fun _ _ i _=>l.length - (intOf i).toNat)
 case atStart=>exact⟨0,0,rfl,rfl,by omega,by omega,by omega,HS.out,Below.refl _ _⟩
 case round=>
  obtain⟨k,far,rfl,rfl,hk,hf0,hf1,hr,bel⟩:=hrel
  have HR:=hid hr
  clear hr
  by_cases hlt:k<l.length
  ·have hltI:(k:Int)<l.length:=by omega
   obtain⟨s0',n0',c0',e1,_,_,_,g1⟩:=(HSL.out.below bel).get
   cases e1
   obtain⟨g2,g3,g4⟩:=zvi l k hlt
   obtain⟨ad,rfl,d0⟩:=g1 _ _ g2
   obtain⟨a',e',d1⟩:=g1 _ _ g3
   cases e'
   obtain⟨a',e',d2⟩:=g1 _ _ g4
   cases e'
   clear g1 g2 g3 g4
   have ST:=hid (HR.out.trans (ygs hlt))
   have KK:=hid (show k+1≤l.length by omega)
   have x1:(0:Int)≤k:=by omega
   have x2:(k:Int).toNat=k:=by omega
   generalize l[k]=x at d0 d1 d2 ST
   have d1:=zao d1
   have d2:=zao d2
   have BA:=hid (bel.alloc bel.size (.cells #[.string (bs x.n),.int .i64 x.N,.int .u32 x.S] 196))
   obtain⟨xn,xN,xS⟩:=x
   simp only at d0 d1 d2 BA
   by_cases hx:xn=name
   ·have hb:((bs xn).toList==(bs name).toList)=true:=by rw[zk8,zk8];simpa using hx
    have hq:Op.bytesLess (bs xn).toList (bs name).toList=Op.bytesLess (bs xn).toList (bs name).toList:=rfl
    by_cases h3:far<xN
    ·have h3d:decide (far<xN)=true:=by simpa using h3
     by_cases h4:xN≤data.length
     ·have h4d:decide (xN≤(data.length:Int))=true:=by simpa using h4
      obtain⟨N,rfl⟩:=Int.eq_ofNat_of_zero_le (show 0≤xN by omega)
      have hN:N≤data.length:=by omega
      have EX:(bs data).extract 0 N=bs (data.take N):=by rw[zcv,zai]
      have y1:(0:Int)≤(N:Int):=by omega
      have y2:(N:Int).toNat=N:=by omega
      have SMN:=hid (fun w'=>SM.out N w')
      by_cases h5:za5 (data.take N)=xS
      ·have h5b:((za5 (data.take N):Int)==xS)=true:=by rw[beq_iff_eq];omega
       have ST2:=hid (ST.out.trans (by rw[yky ⟨hx,h3,h4,by simpa using h5⟩]))
       generalize za5 (data.take N)=cs at *
       clear hx hq
       go_wp2_with fail
       go_quiet ((go_at_call 114;first|exact Calls.quiet_of_same (SMN.out _)|exact ze9 (SMN.out _)|exact zcq (SMN.out _)))
       go_wp2_with fail
       go_roundw
       case rel=>exact⟨k+1,N,by go_num,rfl,KK.out,by omega,by omega,ST2.out,zac BA.out _⟩
       case measure=>simp[intOf];omega
      ·have h5b:((za5 (data.take N):Int)==xS)=false:=by rw[beq_eq_false_iff_ne];omega
       have ST2:=hid (ST.out.trans (by rw[zq7 (fun h=>h5 (by simpa using h.2.2.2))]))
       generalize za5 (data.take N)=cs at *
       clear hx hq
       go_wp2_with fail
       go_quiet ((go_at_call 114;first|exact Calls.quiet_of_same (SMN.out _)|exact ze9 (SMN.out _)|exact zcq (SMN.out _)))
       go_wp2_with fail
       go_roundw
       case rel=>exact⟨k+1,far,by go_num,rfl,KK.out,hf0,hf1,ST2.out,zac BA.out _⟩
       case measure=>simp[intOf];omega
     ·have h4d:decide (xN≤(data.length:Int))=false:=by simpa using h4
      have ST2:=hid (ST.out.trans (by rw[zq7 (fun h=>h4 h.2.2.1)]))
      clear hx hq
      go_wp2_with fail
      go_quiet (fail)
      go_wp2_with fail
      go_roundw
      case rel=>exact⟨k+1,far,by go_num,rfl,KK.out,hf0,hf1,ST2.out,zac BA.out _⟩
      case measure=>simp[intOf];omega
    ·have h3d:decide (far<xN)=false:=by simpa using h3
     have ST2:=hid (ST.out.trans (by rw[zq7 (fun h=>h3 h.2.1)]))
     clear hx hq
     go_wp2_with fail
     go_quiet (fail)
     go_wp2_with fail
     go_roundw
     case rel=>exact⟨k+1,far,by go_num,rfl,KK.out,hf0,hf1,ST2.out,zac BA.out _⟩
     case measure=>simp[intOf];omega
   ·have hb:((bs xn).toList==(bs name).toList)=false:=by rw[zk8,zk8];simpa using hx
    have ST2:=hid (ST.out.trans (by rw[zq7 (fun h=>hx h.1)]))
    clear hx
    go_wp2_with fail
    go_quiet (fail)
    go_wp2_with fail
    go_roundw
    case rel=>exact⟨k+1,far,by go_num,rfl,KK.out,hf0,hf1,ST2.out,zac BA.out _⟩
    case measure=>simp[intOf];omega
  ·have hltI:¬(k:Int)<l.length:=by omega
   have Y:=hid (HR.out.trans (ykz (by omega:l.length≤k)))
   go_wp2_with fail
   go_ret
   exact⟨by rw[Y.out];rfl,bel⟩
theorem yrb:(Tryz.prog.info? 196).map (fun i=>(i.zero,i.size,i.bytes))=some (some (.agg #[.string ⟨#[]⟩,.int .i64 0,.int .u32 0]),3,32):=by kernel_rfl
theorem zl6{w:World}{b:Nat}{u0 u1 u2:Value}{t:TypeId}(h:w.heap[b]?=some (.cells #[u0,u1,u2] t (0,0))):∀j u',[u0,u1,u2][j]?=some u'→w.cell? ((⟨b,0,none⟩:Addr).add j)=some u':=by
 intro j u' hj
 match j,hj with
 | 0,hj=>simp at hj;subst hj;simp[World.cell?,h,Addr.add]
 | 1,hj=>simp at hj;subst hj;simp[World.cell?,h,Addr.add]
 | 2,hj=>simp at hj;subst hj;simp[World.cell?,h,Addr.add]
attribute [local irreducible] zbc
end
end Go.Proofs.YtakhkcaihhpehaaGreatDoor
