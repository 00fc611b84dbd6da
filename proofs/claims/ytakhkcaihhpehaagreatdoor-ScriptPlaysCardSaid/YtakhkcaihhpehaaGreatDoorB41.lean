/- Texts of one proof, one behind the other: DocUns, DocEnd, DocTell2, RefMark, RefRdMk. -/
import Derived.Test.YtakhkcaihhpehaaGreatDoorB40
import Derived.Test.YtakhkcaihhpehaaGreatDoorB38
import Derived.Test.YtakhkcaihhpehaaGreatDoorB39
import Derived.Test.YtakhkcaihhpehaaGreatDoorB28
import Derived.Test.YtakhkcaihhpehaaGreatDoorB22
import Derived.Test.YtakhkcaihhpehaaGreatDoorB23
import Derived.Test.YtakhkcaihhpehaaGreatDoorB36
namespace Go.Proofs.YtakhkcaihhpehaaGreatDoor
open Go.RowKit
open Lib (hid)
set_option linter.unusedVariables false
set_option maxRecDepth 100000
set_option maxHeartbeats 51200000
def yng(l:List UInt8):Bool:=(zcn 32 l).headD []==[115,105,122,101] || (zcn 32 l).headD []==[109,97,114,107] || (zcn 32 l).headD []==[102,97,114]
theorem ynf(l:List UInt8):yng l=true↔SP.unsure l:=by
 unfold yng SP.unsure
 generalize (zcn 32 l).headD []=x
 constructor
 ·intro h
  simp only[Bool.or_eq_true,beq_iff_eq] at h
  rcases h with(rfl|rfl)|rfl
  ·exact .inl (by kernel_rfl)
  ·exact .inr (.inl (by kernel_rfl))
  ·exact .inr (.inr (by kernel_rfl))
 ·intro h
  simp only[Bool.or_eq_true,beq_iff_eq]
  rcases h with h|h|h
  ·have e:x=[115,105,122,101]:=zil h
   exact .inl (.inl e)
  ·have e:x=[109,97,114,107]:=zil h
   exact .inl (.inr e)
  ·have e:x=[102,97,114]:=zil h
   exact .inr e
theorem zu1(l:List UInt8)(w:World)(hl:l.length≤1000):Calls Tryz.prog 6 #[.string (bs l)] w fun e w'=>e=.returned (.bool (yng l))∧Below w.heap.size w w':=by
 have RC:=hid (zqf 32 32 rfl l w (by omega))
 have UE:yng l=((zcn 32 l).headD []==[115,105,122,101] || (zcn 32 l).headD []==[109,97,114,107] || (zcn 32 l).headD []==[102,97,114]):=rfl
 obtain⟨x,r,hx⟩:=zl9 l
 rw[hx] at RC UE
 rw[UE,List.headD_cons]
 by_cases h0:x=[115,105,122,101]
 ·have k0:=zc3 x [115,105,122,101] h0
  have e:(x==[115,105,122,101] || x==[109,97,114,107] || x==[102,97,114])=true:=by simp[h0]
  rw[e]
  clear e h0 UE hx
  go_enter Tryz.func6,Tryz.ntmps6
  go_wp2_with fail
  refine RC.out.mono ?_
  rintro e w1⟨v,rfl,hr,b1⟩
  obtain⟨ad,c,rfl,hn,_,g⟩:=zbk hr (by simp)
  have d0:=g 0 _ rfl
  rw[zdy] at d0
  have hn1:(0:Int)<((x::r).length:Int):=by simp only[List.length_cons];omega
  have hn2:0<(x::r).length:=by simp
  have B1:=hid b1
  clear RC hr g b1 hn
  generalize (x::r).length=n at *
  go_wp2_with fail
  go_ret
  exact⟨rfl,B1.out⟩
 by_cases h1:x=[109,97,114,107]
 ·have k0:=zbj x [115,105,122,101] h0
  have k1:=zc3 x [109,97,114,107] h1
  have e:(x==[115,105,122,101] || x==[109,97,114,107] || x==[102,97,114])=true:=by simp[h1]
  rw[e]
  clear e h0 h1 UE hx
  go_enter Tryz.func6,Tryz.ntmps6
  go_wp2_with fail
  refine RC.out.mono ?_
  rintro e w1⟨v,rfl,hr,b1⟩
  obtain⟨ad,c,rfl,hn,_,g⟩:=zbk hr (by simp)
  have d0:=g 0 _ rfl
  rw[zdy] at d0
  have hn1:(0:Int)<((x::r).length:Int):=by simp only[List.length_cons];omega
  have hn2:0<(x::r).length:=by simp
  have B1:=hid b1
  clear RC hr g b1 hn
  generalize (x::r).length=n at *
  go_wp2_with fail
  go_ret
  exact⟨rfl,B1.out⟩
 by_cases h2:x=[102,97,114]
 ·have k0:=zbj x [115,105,122,101] h0
  have k1:=zbj x [109,97,114,107] h1
  have k2:=zc3 x [102,97,114] h2
  have e:(x==[115,105,122,101] || x==[109,97,114,107] || x==[102,97,114])=true:=by simp[h2]
  rw[e]
  clear e h0 h1 h2 UE hx
  go_enter Tryz.func6,Tryz.ntmps6
  go_wp2_with fail
  refine RC.out.mono ?_
  rintro e w1⟨v,rfl,hr,b1⟩
  obtain⟨ad,c,rfl,hn,_,g⟩:=zbk hr (by simp)
  have d0:=g 0 _ rfl
  rw[zdy] at d0
  have hn1:(0:Int)<((x::r).length:Int):=by simp only[List.length_cons];omega
  have hn2:0<(x::r).length:=by simp
  have B1:=hid b1
  clear RC hr g b1 hn
  generalize (x::r).length=n at *
  go_wp2_with fail
  go_ret
  exact⟨rfl,B1.out⟩
 have k0:=zbj x [115,105,122,101] h0
 have k1:=zbj x [109,97,114,107] h1
 have k2:=zbj x [102,97,114] h2
 have e:(x==[115,105,122,101] || x==[109,97,114,107] || x==[102,97,114])=false:=by simp[h0,h1,h2]
 rw[e]
 clear e h0 h1 h2 UE hx
 go_enter Tryz.func6,Tryz.ntmps6
 go_wp2_with fail
 refine RC.out.mono ?_
 rintro e w1⟨v,rfl,hr,b1⟩
 obtain⟨ad,c,rfl,hn,_,g⟩:=zbk hr (by simp)
 have d0:=g 0 _ rfl
 rw[zdy] at d0
 have hn1:(0:Int)<((x::r).length:Int):=by simp only[List.length_cons];omega
 have hn2:0<(x::r).length:=by simp
 have B1:=hid b1
 clear RC hr g b1 hn
 generalize (x::r).length=n at *
 go_wp2_with fail
 go_ret
 exact⟨rfl,B1.out⟩
def errD(c:Nat):List UInt8:=[112,97,99,107,104,111,114,115,101,58,32]++([[116,101,120,116],[98,111,117,110,100],[115,104,97,112,101],[107,105,110,100],[110,97,109,101],[110,111,110,101],[101,120,105,115,116],[102,117,108,108],[111,114,100,101,114],[115,117,109],[115,116,97,108,101],[111,102,102]].getD (c - 1) [])
theorem yi7(c:Nat)(w:World)(h1:1≤c)(h2:c≤12):Calls Tryz.prog 8 #[.int .i64 (c:Nat)] w fun e w'=>e=.returned (.string (bs (errD c)))∧Below w.heap.size w w':=by
 have hc:c=1∨c=2∨c=3∨c=4∨c=5∨c=6∨c=7∨c=8∨c=9∨c=10∨c=11∨c=12:=by omega
 rcases hc with rfl|rfl|rfl|rfl|rfl|rfl|rfl|rfl|rfl|rfl|rfl|rfl
 all_goals
  go_enter Tryz.func8,Tryz.ntmps8
  go_wp2_with fail
  go_ret
  exact⟨by unfold errD bs;rfl,zfa _ _⟩
namespace SP
def docAfter:SP→List (List UInt8)→SP
 | s,[]=>s
 | s,l::r=>docAfter (s.docPlay l).1 r
theorem docRun_snoc(s:SP)(l:List (List UInt8))(x:List UInt8):s.docRun (l++[x])=s.docRun l++[told ((s.docAfter l).docPlay x).2]:=by
 induction l generalizing s with
 | nil=>rfl
 | cons a l ih=>simp only[List.cons_append,docRun,docAfter,ih]
theorem docAfter_snoc(s:SP)(l:List (List UInt8))(x:List UInt8):s.docAfter (l++[x])=((s.docAfter l).docPlay x).1:=by
 induction l generalizing s with
 | nil=>rfl
 | cons a l ih=>simp only[List.cons_append,docAfter,ih]
theorem docDoes_okc(s:SP)(c:Cmd)(w:List (List UInt8)):okc (s.docDoes c w).2.2:=by
 unfold docDoes
 split
 ·split<;>exact zbh (by simp)
 ·exact zyj _ _ _
theorem docPlay_okc(s:SP)(line:List UInt8):okc (s.docPlay line).2.2:=by
 have h:=play_okc s line
 unfold play at h
 unfold docPlay
 by_cases hp:wPut.isPrefixOf line=true
 ·rw[if_pos hp] at h ⊢;exact h
 ·rw[if_neg hp]
  cases zci ((zcn 32 line).headD []) with
  | none=>exact zbh (by simp)
  | some c=>
   simp only[]
   split
   ·exact docDoes_okc _ _ _
   ·exact zbh (by simp)
end SP
theorem zv2{s:SP}(h:SInv s)(c:Cmd)(w:List (List UInt8)):SInv (s.docDoes c w).1:=by
 unfold SP.docDoes
 split
 ·split
  ·exact h
  ·exact h.setF false h.fr
 ·exact h.does c w (fun d _=>nm6 d)
theorem zv1{s:SP}(h:SInv s)(line:List UInt8)(hl:line.length≤200):SInv (s.docPlay line).1:=by
 have h2:=zql h line hl nm6
 unfold SP.play at h2
 unfold SP.docPlay
 by_cases hp:SP.wPut.isPrefixOf line=true
 ·rw[if_pos hp] at h2 ⊢;exact h2
 ·rw[if_neg hp]
  cases zci ((zcn 32 line).headD []) with
  | none=>exact h
  | some c=>
   simp only[]
   split
   ·exact zv2 h _ _
   ·exact h
theorem zk7:∀(l:List (List UInt8))(s:SP),SInv s→(∀x∈l,x.length≤200)→SInv (s.docAfter l)
 | [],s,h,_=>h
 | x::l,s,h,hl=>zk7 l _ (zv1 h x (hl x (by simp))) (fun y hy=>hl y (List.mem_cons_of_mem _ hy))
def zfy(l:List UInt8):Bool:=l.take 4==[115,101,110,100]
theorem zzd(l:List UInt8):∃t,l=(zcn 32 l).headD []++t:=by
 by_cases h:(32:UInt8)∈l
 ·obtain⟨a,r,e,ha⟩:=List.eq_append_cons_of_mem h
  subst e
  rw[yim ha]
  exact⟨32::r,rfl⟩
 ·rw[yco h]
  exact⟨[],(List.append_nil _).symm⟩
theorem yir(l:List UInt8)(h:SP.isSend l):zfy l=true:=by
 have h1:_=Cmd.word .send:=zil h
 obtain⟨t,ht⟩:=zzd l
 rw[h1,show Cmd.word .send=[115,101,110,100] from rfl] at ht
 unfold zfy
 rw[ht]
 rfl
theorem zpi(big:List UInt8→Bool)(x:List UInt8):∀(l:List (List UInt8))(b:Bool),SP.clean big b l→((b || l.any big)=true→¬SP.unsure x)→SP.clean big b (l++[x])
 | [],b,_,hx=>⟨fun e=>hx (by rw[e];rfl),trivial⟩
 | a::l,b,h,hx=>⟨h.1,zpi big x l _ h.2 (fun e=>hx (by rw[List.any_cons,←Bool.or_assoc];exact e))⟩
theorem you(c:Nat)(h1:1≤c)(h2:c≤12):errD c=zit c:=by
 have hc:c=1∨c=2∨c=3∨c=4∨c=5∨c=6∨c=7∨c=8∨c=9∨c=10∨c=11∨c=12:=by omega
 rcases hc with rfl|rfl|rfl|rfl|rfl|rfl|rfl|rfl|rfl|rfl|rfl|rfl<;>rfl
theorem yeb{ls:List (List UInt8)}(h:∀x∈ls,x.length≤200)(hc:SP.clean zfy false ls):SP.zero.run ls=SP.zero.docRun ls:=
 yg4 zfy yir nm6 ls SP.zero SP.zero false h zpq (Like.refl _) (fun _=>rfl) hc
theorem yhl{w w':World}{x:Nat}{a:Addr}{v:Value}(hc:Chg w w' (fun y=>y=x))(hx:a.block≠x)(h:w.cell? a=some v):w'.cell? a=some v:=by
 have hb:=hc.block _ (World.block_lt_of_cell? w _ h) hx
 unfold World.cell? at h ⊢
 rw[hb]
 exact h
theorem yet{m l:GM}(h:m.Perm l)(hw:GWF l)(k:List UInt8):(opM m k).Perm (opG l k):=by
 obtain⟨e1,_⟩:=zxm h hw.srt.nodup k
 by_cases hc:zhk l k=0
 ·obtain⟨_,e2,e3,_⟩:=yeo hw h (k:=k) (by rw[e1];exact hc)
  rw[zva hc,←zgy h hw.srt.nodup]
  exact e3
 ·rw[zxk hc,yn2 (by rw[e1];exact hc)]
  exact h
section
variable{w0 w w':World}{B mb:Nat}{A:DmA}{s:SP}
theorem zzz(nm:List UInt8)(n:Nat)(v:Value)(h:DmAt w0 w B mb A s)(hI:SInv s)(hv:w.ownsRow B 9 1 v n (zbw [[111,112,101,110],nm]))(hn:nm.length≤1000000):
  Calls Tryz.prog 14 #[.pointer (some ⟨mb,0,none⟩),v] w (DAns w0 w B mb (s.opens nm)):=by
 obtain⟨ad,c,rfl,rfl,hb,g⟩:=zbk hv (by simp)
 have d0:=g 0 _ rfl
 have d1:=g 1 _ rfl
 rw[zdy] at d0
 rw[zlc] at d1
 have HX:=hid h
 have c2:=h.cs.1.2.2.1
 obtain⟨e1,e2⟩:=zxm h.gp h.gw.srt.nodup nm
 have OL:=hid (yes hI nm)
 have EE:=hid (And.intro e1 (And.intro e2 (yet h.gp h.gw nm)))
 have GW:=hid (h.gw.opG nm)
 have B0:=hid (Below.drew (Below.refl w.heap.size w))
 have OP:=hid (zzl nm (h.below B0.out).gt h.gw (by omega))
 have HX1:=hid (h.below B0.out)
 have S0:=And.intro c2 d1
 have S1:=And.intro (h.below B0.out).cs.1.2.2.1 ((B0.out.cell (World.block_lt_of_cell? w _ d1)).trans d1)
 have DE:=hid (fun w'=>zbt (opN s.gm nm) w' (by have:=yes hI nm;omega))
 have AB:=hid (show ad.block≠A.gb from by have:=h.lg.2;omega)
 have MC:=hid (fun(W:World)(hc:Chg w.drew W (fun x=>x=A.gb))=>yhl (a:=⟨ad.block,ad.off+1,none⟩) hc AB.out S1.2)
 clear hv g hb h hI
 have k0:=zbj [111,112,101,110] [100,114,111,112] (by decide)
 have k1:=zbj [111,112,101,110] [108,105,115,116] (by decide)
 have k2:=zbj [111,112,101,110] [112,108,97,110] (by decide)
 have k3:=zc3 [111,112,101,110] [111,112,101,110] (by decide)
 go_enter Tryz.func14,Tryz.ntmps14
 go_wp2_with fail
 go_region_held3 (fun X=>X.cell? ⟨mb,2,none⟩=some (.pointer (some ⟨A.gb,0,none⟩))∧X.cell? ⟨ad.block,ad.off+1,none⟩=some (.string (bs nm))) (first|exact S1|exact S0|exact S2) ((go_at_call 29;refine OP.out.mono ?_;rintro e w1⟨rfl,⟨gv',hg⟩,hc⟩;have S2:=And.intro (HX1.out.gate (g:=opM s.gm nm) hc hg EE.out.2.2 GW.out).cs.1.2.2.1 (MC.out w1 hc)))
 have HP:=hid (HX1.out.gate (g:=opM s.gm nm) hc hg EE.out.2.2 GW.out)
 have HC:=hid (B0.out.size)
 have CH:=hid ((Chg.of_below B0.out (fun x=>x<B)).trans (hc.more (fun x _ e=>show x<B from by subst e;exact HX.out.lg.2)) (fun _ _ h=>h))
 have DE1:=hid (DE.out w1)
 rw[EE.out.2.1] at DE1
 clear OP hg hc S2
 go_wp2_with fail
 refine DE1.out.mono ?_
 rintro e w2⟨rfl,b2⟩
 have B2:=hid b2
 clear b2
 go_wp2_with fail
 go_returns
 refine⟨?_,⟨_,HP.out.below B2.out⟩,CH.out.trans (Chg.of_below B2.out _) (fun _ _ h=>h)⟩
 show Ending.returned (.tuple #[.string (bs (Lib.decDigits (opN A.gl nm))),.int .i64 (zhk A.gl nm:Nat)])=.returned (.tuple #[.string (bs (Lib.decDigits (opN s.gm nm))),.int .i64 (zhk s.gm nm:Nat)])
 rw[EE.out.1,EE.out.2.1]
theorem zqh(n:Nat)(v:Value)(h:DmAt w0 w B mb A s)(hI:SInv s)(hv:w.ownsRow B 9 1 v n (zbw [[114,101,99,111,118,101,114]])):
  Calls Tryz.prog 14 #[.pointer (some ⟨mb,0,none⟩),v] w (DAns w0 w B mb (s.again)):=by
 obtain⟨ad,c,rfl,rfl,hb,g⟩:=zbk hv (by simp)
 have d0:=g 0 _ rfl
 rw[zdy] at d0
 have HX:=hid h
 have c3:=h.cs.1.2.2.2
 have RC:=hid (yc3 A.tb s.tp w h.tp (by have:=hI.tpb;omega))
 have RL:=hid (show(zas s.tp.b).1.length≤1000000000 from(by have a:=zhi s.tp.b;have b:=zfk s.tp.b;have:=hI.tpb;omega))
 have DE:=hid (fun w'=>zbt (zas s.tp.b).1.length w' (by have:=RL.out;omega))
 clear hv g hb h hI
 have k0:=zbj [114,101,99,111,118,101,114] [100,114,111,112] (by decide)
 have k1:=zbj [114,101,99,111,118,101,114] [108,105,115,116] (by decide)
 have k2:=zbj [114,101,99,111,118,101,114] [112,108,97,110] (by decide)
 have k3:=zbj [114,101,99,111,118,101,114] [111,112,101,110] (by decide)
 have k4:=zbj [114,101,99,111,118,101,114] [102,97,114] (by decide)
 have k5:=zc3 [114,101,99,111,118,101,114] [114,101,99,111,118,101,114] (by decide)
 go_enter Tryz.func14,Tryz.ntmps14
 go_wp2_with fail
 refine RC.out.mono ?_
 rintro e w1⟨r,rfl,hr,ht⟩
 have HP:=hid (HX.out.tape ht)
 have CH:=hid (show Chg w w1 (fun x=>x<B) from ht.2.more (fun x _ e=>show x<B from by subst e;exact HX.out.lt.2))
 obtain⟨ra,rc,rfl⟩:=zab hr
 have DE1:=hid (DE.out w1)
 clear RC hr ht DE
 go_wp2_with fail
 refine DE1.out.mono ?_
 rintro e w2⟨rfl,b2⟩
 have B2:=hid b2
 clear b2
 go_wp2_with fail
 go_returns
 exact⟨rfl,⟨_,HP.out.below B2.out⟩,CH.out.trans (Chg.of_below B2.out _) (fun _ _ h=>h)⟩
end
section
def PMk.rval(m:PMk):Value:=.agg #[.string (bs m.n),.int .i64 m.N,.int .i64 m.S]
attribute [local irreducible] zbc
theorem zqa(m:PMk)(w:World)(hn:m.n.length≤1000000000)(hS:m.S≤4294967295):
  Calls Tryz.prog 38 #[m.rval] w fun e w'=>e=.returned (.tuple #[.string (bs (mkX m)),.int .i64 (mkC m:Nat)])∧Below w.heap.size w w':=by
 obtain⟨n,N,S⟩:=m
 simp only at hn hS
 have B0:=hid (zag w (.cells #[.string (bs n),.int .i64 N,.int .i64 S] 87))
 have HX:=hid (heap_alloc_new w (.cells #[.string (bs n),.int .i64 N,.int .i64 S] 87))
 have NM:=hid (fun w'=>zkw n w' (by omega))
 have XK:=hid (fun(w':World)(b:Below (w.alloc (.cells #[.string (bs n),.int .i64 N,.int .i64 S] 87)).heap.size (w.alloc (.cells #[.string (bs n),.int .i64 N,.int .i64 S] 87)) w')=>yam ((b.block w.heap.size (by simp)).trans HX.out))
 have c0:=(yam HX.out).1
 show Calls _ _ #[.agg #[.string (bs n),.int .i64 N,.int .i64 S]] _ _
 by_cases hnm:zbc n=true
 ·rw[hnm] at NM
  by_cases hN:0≤N∧N≤4000
  ·obtain⟨hN1,hN2⟩:=hN
   obtain⟨K,rfl⟩:=Int.eq_ofNat_of_zero_le hN1
   have hC:mkC ⟨n,K,S⟩=0:=by unfold mkC;rw[if_neg (by simp[hnm]),if_neg (by simp only;omega)]
   have hX:mkX ⟨n,K,S⟩=n++32::(Lib.decDigits K++32::Lib.decDigits S):=by unfold mkX mkT;rw[if_pos hC];simp
   rw[hC,hX]
   have hl1:=zay (n:=K) (k:=18) (by omega)
   have hl2:=zay (n:=S) (k:=18) (by omega)
   have HFIN:Hid (((bs n++⟨#[32]⟩++bs (Lib.decDigits K))++⟨#[32]⟩)++bs (Lib.decDigits S)=bs (n++32::(Lib.decDigits K++32::Lib.decDigits S))):=hid (by
    apply zg0
    simp)
   have DK:=hid (fun(w':World)=>zbt K w' (by omega))
   have DS:=hid (fun(w':World)=>zbt S w' (by omega))
   have hsz:(bs n).size=n.length:=zae n
   have hI1:¬((K:Int)<0):=by omega
   have hI2:¬(4000:Int)<K:=by omega
   have k1:¬9223372036854775807<n.length+1:=by omega
   have k2:¬9223372036854775807<n.length+1+(Lib.decDigits K).length:=by omega
   have k3:¬9223372036854775807<n.length+1+(Lib.decDigits K).length+1:=by omega
   have k4:¬9223372036854775807<n.length+1+(Lib.decDigits K).length+1+(Lib.decDigits S).length:=by omega
   clear hC hX hl1 hl2
   generalize Lib.decDigits K=dk at *
   generalize Lib.decDigits S=ds at *
   go_enter Tryz.func38,Tryz.ntmps38
   go_wp2_with fail
   refine(NM.out _).mono ?_
   rintro e w1⟨rfl,rfl⟩
   obtain⟨d0,d1,d2⟩:=XK.out _ (Below.refl _ _)
   have SS:=And.intro d0 (And.intro d1 d2)
   clear c0 NM
   generalize hW1:w.alloc (.cells #[.string (bs n),.int .i64 K,.int .i64 S] 87)=w1 at *
   have BR:=Below.refl w1.heap.size w1
   go_wp2_with fail
   go_region_held3 (fun w'=>w'.cell? ⟨w.heap.size,0,none⟩=some (.string (bs n))∧w'.cell? ⟨w.heap.size,1,none⟩=some (.int .i64 K)∧w'.cell? ⟨w.heap.size,2,none⟩=some (.int .i64 S)) (first|assumption|exact SS|exact XK.out _ (Below.drew BR))
    (first
    | (go_at_call 26;with_reducible refine(DK.out _).mono ?_;rintro e w2⟨rfl,b2⟩;have bb2:=zaa (by first|assumption|exact BR|exact Below.drew BR) b2;have SS2:=XK.out _ bb2;clear b2)
    | (go_at_call 26;with_reducible refine(DS.out _).mono ?_;rintro e w3⟨rfl,b3⟩;have bb3:=zaa (by first|assumption|exact BR|exact Below.drew BR) b3;have SS3:=XK.out _ bb3;clear b3))
   all_goals
    have BF:=hid bb3
    go_wp2_with fail
    go_ret2
    rw[←HFIN.out]
    exact⟨rfl,zaa B0.out BF.out⟩
  ·have hC:mkC ⟨n,N,S⟩=2:=by unfold mkC;rw[if_neg (by simp[hnm]),if_pos (by simp only;omega)]
   have hX:mkX ⟨n,N,S⟩=[]:=by unfold mkX;rw[if_neg (by rw[hC];decide)]
   rw[hC,hX,bs_nil]
   have hor:N<0∨¬N<0∧4000<N:=by omega
   clear hC hX hN
   rcases hor with h1|⟨h1,h3⟩
   all_goals
    go_enter Tryz.func38,Tryz.ntmps38
    go_wp2_with fail
    refine(NM.out _).mono ?_
    rintro e w1⟨rfl,rfl⟩
    obtain⟨d0,d1,d2⟩:=XK.out _ (Below.refl _ _)
    clear c0 d0 d2 XK NM
    go_wp2_with fail
    go_ret2
    exact⟨rfl,B0.out⟩
 ·have hnm':zbc n=false:=by simpa using hnm
  rw[hnm'] at NM
  have hC:mkC ⟨n,N,S⟩=5:=by unfold mkC;rw[if_pos hnm']
  have hX:mkX ⟨n,N,S⟩=[]:=by unfold mkX;rw[if_neg (by rw[hC];decide)]
  rw[hC,hX,bs_nil]
  clear hC hX hnm hnm'
  go_enter Tryz.func38,Tryz.ntmps38
  go_wp2_with fail
  refine(NM.out _).mono ?_
  rintro e w1⟨rfl,rfl⟩
  clear c0 XK NM
  go_wp2_with fail
  go_ret2
  exact⟨rfl,B0.out⟩
end
section
theorem zhy:zmk.rval=.agg #[.string ⟨#[]⟩,.int .i64 0,.int .i64 ((0:Nat):Int)]:=by unfold zmk PMk.rval;rw[bs_nil]
theorem ye5{most:Nat}{d:List UInt8}(h:nmZ most d<0):nmL most d=none:=by
 cases e:nmL most d with
 | none=>rfl
 | some n=>rw[zdp e] at h;omega
theorem ye6{most n:Nat}{d:List UInt8}(h:nmZ most d=n):nmL most d=some n:=by
 cases e:nmL most d with
 | none=>rw[zdc e] at h;omega
 | some k=>rw[zdp e] at h;congr 1;omega
attribute [local irreducible] rdM rdW nmL nmZ zbc zcn
theorem zp8(s:List UInt8)(w:World)(hs:s.length≤1000000000):
  Calls Tryz.prog 31 #[.string (bs s)] w fun e w'=>e=.returned (.tuple #[(rdM s).1.rval,.int .i64 ((rdM s).2:Nat)])∧Below w.heap.size w w':=by
 have B0:=hid (zag w (.cells #[.string ⟨#[]⟩,.int .i64 0,.int .i64 0] 87))
 have HX:=hid (heap_alloc_new w (.cells #[.string ⟨#[]⟩,.int .i64 0,.int .i64 0] 87))
 have RC:=hid (zqf 32 32 rfl s (w.alloc (.cells #[.string ⟨#[]⟩,.int .i64 0,.int .i64 0] 87)) hs)
 have LEN:=hid (fun x hx=>(zlg (c:=32) s.length s (Nat.le_refl _) x hx).1)
 have RNO:=hid (fun h=>yme (s:=s) h)
 have ROF:=hid (fun a b c h=>ymd (s:=s) (a:=a) (b:=b) (c:=c) h)
 have T3:=zwr (zcn 32 s)
 have W64:Hid ((zcn 32 s).length≤1000000001):=hid (by
  rw[zlh]
  have:=List.count_le_length (a:=(32:UInt8)) (l:=s)
  omega)
 generalize zcn 32 s=L at *
 go_enter Tryz.func31,Tryz.ntmps31
 go_wp2_with fail
 refine RC.out.mono ?_
 rintro e w1⟨v,rfl,own,b1⟩
 obtain⟨va,vc,rfl⟩:=zab own
 have HZ:=hid ((b1.block w.heap.size (by simp)).trans HX.out)
 have B1:=hid (zaa B0.out b1)
 have HO:=hid own
 clear own b1 RC HX B0
 rcases T3 with⟨a,b,c,rfl⟩|h3
 ·have RD0:=hid (ROF.out a b c rfl)
  have hla:=LEN.out a (by simp)
  have hlb:=LEN.out b (by simp)
  have hlc:=LEN.out c (by simp)
  have NB:=hid (fun w'=>zck (bs b) 10 w' (by decide) (by rw[zae];omega))
  have NC:=hid (fun w'=>zck (bs c) 10 w' (by decide) (by rw[zae];omega))
  rw[zai] at NB NC
  have NM:=hid (fun w'=>zkw a w' (by omega))
  obtain⟨_,_,_,e1,_,_,_,gk⟩:=(SliceIs.ownedK HO.out).get
  cases e1
  obtain⟨ad,rfl,l0⟩:=gk 0 (.string (bs a)) rfl
  obtain⟨_,e2,l1⟩:=gk 1 (.string (bs b)) rfl
  cases e2
  obtain⟨_,e2,l2⟩:=gk 2 (.string (bs c)) rfl
  cases e2
  have L0:w1.cell? ad=some (.string (bs a)):=l0
  have L1:w1.cell? ⟨ad.block,ad.off+1,none⟩=some (.string (bs b)):=l1
  have L2:w1.cell? ⟨ad.block,ad.off+2,none⟩=some (.string (bs c)):=l2
  have ZB:=hid (fun h=>ye5 (most:=10) (d:=b) h)
  have ZC:=hid (fun h=>ye5 (most:=10) (d:=c) h)
  have YB:=hid (fun n h=>ye6 (most:=10) (n:=n) (d:=b) h)
  have YC:=hid (fun n h=>ye6 (most:=10) (n:=n) (d:=c) h)
  clear hla hlb hlc LEN RNO ROF W64 gk
  generalize nmZ 10 b=zb at *
  generalize nmZ 10 c=zc at *
  go_wp2_with fail
  refine(NB.out _).mono ?_
  rintro e w2⟨rfl,rfl⟩
  go_wp2_with fail
  refine(NC.out _).mono ?_
  rintro e w3⟨rfl,rfl⟩
  clear NB NC
  by_cases hzb:zb<0
  ·have RD:=hid (RD0.out.trans (ydi (a:=a) (c:=c) (ZB.out hzb)))
   obtain⟨⟨q0,q1,q2⟩,fz⟩:=zcd HZ.out
   have f0:=fz 0
   have f1:=fz 1
   have f2:=fz 2
   have HP:=hid (zxd HZ.out (.string ⟨#[]⟩) (.int .i64 0) (.int .i64 ((0:Nat):Int)))
   have BB:=hid (zbo B1.out (Nat.le_refl w.heap.size) (.string ⟨#[]⟩) (.int .i64 0) (.int .i64 ((0:Nat):Int)))
   clear fz HZ
   go_wp2_with fail
   have bb:=BB.out
   have hp:=HP.out
   generalize ((w1.setCell ⟨w.heap.size,0,none⟩ (.string ⟨#[]⟩)).setCell ⟨w.heap.size,1,none⟩ (.int .i64 0)).setCell ⟨w.heap.size,2,none⟩ (.int .i64 ((0:Nat):Int))=w9 at hp bb ⊢
   obtain⟨⟨r0,r1,r2⟩,_⟩:=zcd hp
   (try simp only[Exit.inBlock,Exit.then])
   refine bodyPost_ret (by simp[results,Tryz.results31,go_sem,r0,r1,r2];try rfl) rfl ?_
   exact⟨by rw[RD.out,zhy];rfl,bb⟩
  ·obtain⟨n,rfl⟩:=Int.eq_ofNat_of_zero_le (show 0≤zb by omega)
   have HB:=hid (YB.out n rfl)
   by_cases hzc:zc<0
   ·have RD:=hid (RD0.out.trans (ydh (a:=a) (b:=b) (ZC.out hzc)))
    obtain⟨⟨q0,q1,q2⟩,fz⟩:=zcd HZ.out
    have f0:=fz 0
    have f1:=fz 1
    have f2:=fz 2
    have HP:=hid (zxd HZ.out (.string ⟨#[]⟩) (.int .i64 0) (.int .i64 ((0:Nat):Int)))
    have BB:=hid (zbo B1.out (Nat.le_refl w.heap.size) (.string ⟨#[]⟩) (.int .i64 0) (.int .i64 ((0:Nat):Int)))
    clear fz HZ
    go_wp2_with fail
    have bb:=BB.out
    have hp:=HP.out
    generalize ((w1.setCell ⟨w.heap.size,0,none⟩ (.string ⟨#[]⟩)).setCell ⟨w.heap.size,1,none⟩ (.int .i64 0)).setCell ⟨w.heap.size,2,none⟩ (.int .i64 ((0:Nat):Int))=w9 at hp bb ⊢
    obtain⟨⟨r0,r1,r2⟩,_⟩:=zcd hp
    (try simp only[Exit.inBlock,Exit.then])
    refine bodyPost_ret (by simp[results,Tryz.results31,go_sem,r0,r1,r2];try rfl) rfl ?_
    exact⟨by rw[RD.out,zhy];rfl,bb⟩
   ·obtain⟨k,rfl⟩:=Int.eq_ofNat_of_zero_le (show 0≤zc by omega)
    have HC:=hid (YC.out k rfl)
    clear ZB ZC YB YC
    by_cases hnm:zbc a=true
    ·rw[hnm] at NM
     have HNM:=hid hnm
     clear hnm
     go_wp2_with fail
     refine(NM.out _).mono ?_
     rintro e w1⟨rfl,rfl⟩
     by_cases hn4:4000<n
     ·have hI':(4000:Int)<n:=by omega
      have RD:=hid (RD0.out.trans (zmg HB.out HC.out HNM.out (.inl hn4)))
      obtain⟨⟨q0,q1,q2⟩,fz⟩:=zcd HZ.out
      have f0:=fz 0
      have f1:=fz 1
      have f2:=fz 2
      have HP:=hid (zxd HZ.out (.string ⟨#[]⟩) (.int .i64 0) (.int .i64 ((0:Nat):Int)))
      have BB:=hid (zbo B1.out (Nat.le_refl w.heap.size) (.string ⟨#[]⟩) (.int .i64 0) (.int .i64 ((0:Nat):Int)))
      clear fz HZ
      go_wp2_with fail
      have bb:=BB.out
      have hp:=HP.out
      generalize ((w1.setCell ⟨w.heap.size,0,none⟩ (.string ⟨#[]⟩)).setCell ⟨w.heap.size,1,none⟩ (.int .i64 0)).setCell ⟨w.heap.size,2,none⟩ (.int .i64 ((0:Nat):Int))=w9 at hp bb ⊢
      obtain⟨⟨r0,r1,r2⟩,_⟩:=zcd hp
      (try simp only[Exit.inBlock,Exit.then])
      refine bodyPost_ret (by simp[results,Tryz.results31,go_sem,r0,r1,r2];try rfl) rfl ?_
      exact⟨by rw[RD.out,zhy];rfl,bb⟩
     ·have hI':¬(4000:Int)<n:=by omega
      by_cases hk4:4294967295<k
      ·have hJ':(4294967295:Int)<k:=by omega
       have RD:=hid (RD0.out.trans (zmg HB.out HC.out HNM.out (.inr hk4)))
       obtain⟨⟨q0,q1,q2⟩,fz⟩:=zcd HZ.out
       have f0:=fz 0
       have f1:=fz 1
       have f2:=fz 2
       have HP:=hid (zxd HZ.out (.string ⟨#[]⟩) (.int .i64 0) (.int .i64 ((0:Nat):Int)))
       have BB:=hid (zbo B1.out (Nat.le_refl w.heap.size) (.string ⟨#[]⟩) (.int .i64 0) (.int .i64 ((0:Nat):Int)))
       clear fz HZ
       go_wp2_with fail
       have bb:=BB.out
       have hp:=HP.out
       generalize ((w1.setCell ⟨w.heap.size,0,none⟩ (.string ⟨#[]⟩)).setCell ⟨w.heap.size,1,none⟩ (.int .i64 0)).setCell ⟨w.heap.size,2,none⟩ (.int .i64 ((0:Nat):Int))=w9 at hp bb ⊢
       obtain⟨⟨r0,r1,r2⟩,_⟩:=zcd hp
       (try simp only[Exit.inBlock,Exit.then])
       refine bodyPost_ret (by simp[results,Tryz.results31,go_sem,r0,r1,r2];try rfl) rfl ?_
       exact⟨by rw[RD.out,zhy];rfl,bb⟩
      ·have hJ':¬(4294967295:Int)<k:=by omega
       have RD:=hid (RD0.out.trans (ymc HB.out HC.out HNM.out (by omega)))
       obtain⟨⟨q0,q1,q2⟩,fz⟩:=zcd HZ.out
       have f0:=fz 0
       have f1:=fz 1
       have f2:=fz 2
       have HP:=hid (zxd HZ.out (.string (bs a)) (.int .i64 (n:Int)) (.int .i64 (k:Int)))
       have BB:=hid (zbo B1.out (Nat.le_refl w.heap.size) (.string (bs a)) (.int .i64 (n:Int)) (.int .i64 (k:Int)))
       clear fz HZ
       go_wp2_with fail
       have bb:=BB.out
       have hp:=HP.out
       generalize ((w1.setCell ⟨w.heap.size,0,none⟩ (.string (bs a))).setCell ⟨w.heap.size,1,none⟩ (.int .i64 (n:Int))).setCell ⟨w.heap.size,2,none⟩ (.int .i64 (k:Int))=w9 at hp bb ⊢
       obtain⟨⟨r0,r1,r2⟩,_⟩:=zcd hp
       (try simp only[Exit.inBlock,Exit.then])
       refine bodyPost_ret (by simp[results,Tryz.results31,go_sem,r0,r1,r2];try rfl) rfl ?_
       exact⟨by rw[RD.out];rfl,bb⟩
    ·have hnm':zbc a=false:=by simpa using hnm
     rw[hnm'] at NM
     have RD:=hid (RD0.out.trans (zxa HB.out HC.out hnm'))
     clear hnm hnm'
     go_wp2_with fail
     refine(NM.out _).mono ?_
     rintro e w1⟨rfl,rfl⟩
     obtain⟨⟨q0,q1,q2⟩,fz⟩:=zcd HZ.out
     have f0:=fz 0
     have f1:=fz 1
     have f2:=fz 2
     have HP:=hid (zxd HZ.out (.string ⟨#[]⟩) (.int .i64 0) (.int .i64 ((0:Nat):Int)))
     have BB:=hid (zbo B1.out (Nat.le_refl w.heap.size) (.string ⟨#[]⟩) (.int .i64 0) (.int .i64 ((0:Nat):Int)))
     clear fz HZ
     go_wp2_with fail
     have bb:=BB.out
     have hp:=HP.out
     generalize ((w1.setCell ⟨w.heap.size,0,none⟩ (.string ⟨#[]⟩)).setCell ⟨w.heap.size,1,none⟩ (.int .i64 0)).setCell ⟨w.heap.size,2,none⟩ (.int .i64 ((0:Nat):Int))=w9 at hp bb ⊢
     obtain⟨⟨r0,r1,r2⟩,_⟩:=zcd hp
     (try simp only[Exit.inBlock,Exit.then])
     refine bodyPost_ret (by simp[results,Tryz.results31,go_sem,r0,r1,r2];try rfl) rfl ?_
     exact⟨by rw[RD.out,zhy];rfl,bb⟩
 ·have RD:=hid (RNO.out h3)
  have h3I:((L.length:Int) != 3)=true:=by rw[bne_iff_ne];omega
  have w64:=W64.out
  clear LEN RNO ROF W64
  obtain⟨⟨q0,q1,q2⟩,fz⟩:=zcd HZ.out
  have f0:=fz 0
  have f1:=fz 1
  have f2:=fz 2
  have HP:=hid (zxd HZ.out (.string ⟨#[]⟩) (.int .i64 0) (.int .i64 ((0:Nat):Int)))
  have BB:=hid (zbo B1.out (Nat.le_refl w.heap.size) (.string ⟨#[]⟩) (.int .i64 0) (.int .i64 ((0:Nat):Int)))
  clear fz HZ
  go_wp2_with fail
  have bb:=BB.out
  have hp:=HP.out
  generalize ((w1.setCell ⟨w.heap.size,0,none⟩ (.string ⟨#[]⟩)).setCell ⟨w.heap.size,1,none⟩ (.int .i64 0)).setCell ⟨w.heap.size,2,none⟩ (.int .i64 ((0:Nat):Int))=w9 at hp bb ⊢
  obtain⟨⟨r0,r1,r2⟩,_⟩:=zcd hp
  (try simp only[Exit.inBlock,Exit.then])
  refine bodyPost_ret (by simp[results,Tryz.results31,go_sem,r0,r1,r2];try rfl) rfl ?_
  exact⟨by rw[RD.out,zhy];rfl,bb⟩
end
end Go.Proofs.YtakhkcaihhpehaaGreatDoor
