/- Texts of one proof, one behind the other: LibW, DoorS, FilName, FilChk, Build, Patch, Apply, PatchLaws, WholeLaws, Whole. -/
import Derived.Test.YtakhkcaihhpehaaGreatDoorB07
import Derived.Test.YtakhkcaihhpehaaGreatDoorB04
import Derived.Test.YtakhkcaihhpehaaGreatDoorB08
import Derived.Lib.AppendIntMem
import Derived.Lib.LaidTab
import Derived.Handed
import Derived.HandedShaped
import Derived.Shelf.Vars
import Derived.Test.YtakhkcaihhpehaaGreatDoorB03
import Derived.Test.YtakhkcaihhpehaaGreatDoorB06
import Derived.Shelf.Abstract
import Derived.Lib.Builder
import Derived.Test.YtakhkcaihhpehaaGreatDoorB12
import Derived.Test.YtakhkcaihhpehaaGreatDoorB13
namespace Go.Proofs.YtakhkcaihhpehaaGreatDoor
open Go.RowKit
open Lib (hid)
set_option linter.unusedVariables false
set_option maxRecDepth 100000
set_option maxHeartbeats 51200000
def TabW(w:World):Prop:=Lib.TabIs Tryz.prog w "internal/strconv.uint64pow10" .u64 Lib.pow10Tab
def MaxW(w:World):Prop:=∃m,w.cell? ⟨9,0,none⟩=some (.int .i64 m)
structure LibW(E:Nat→Addr)(w:World):Prop where
 tab:Lib.TabIs Tryz.prog w "internal/strconv.uint64pow10" .u64 Lib.pow10Tab
 ml:∃m,w.cell? ⟨9,0,none⟩=some (.int .i64 m)
 syn:Has E w 13
 rng:Has E w 14
theorem ycb{P:Program}{w w':World}{n:String}{cs:Array Value}(h:w.var? P n=some cs)(hb:Below w.heap.size w w'):w'.var? P n=some cs:=by
 unfold World.var? at h ⊢
 cases hg:P.globalNamed n with
 | none=>simp[hg] at h
 | some g=>
  simp only[hg,Option.bind_some] at h ⊢
  have hlt:g<w.heap.size:=by
   rcases Nat.lt_or_ge g w.heap.size with h'|h'
   ·exact h'
   ·simp[Array.getElem?_eq_none h'] at h
  rw[hb.block g hlt]
  exact h
theorem LibW.below{E:Nat→Addr}{w w':World}(h:LibW E w)(hb:Below w.heap.size w w'):LibW E w':=by
 obtain⟨m,hm⟩:=h.ml
 exact⟨ycb h.tab hb,⟨m,(hb.cell (p:=⟨9,0,none⟩) (World.block_lt_of_cell? w _ hm)).trans hm⟩,h.syn.below hb,h.rng.below hb⟩
theorem ze4(E:Nat→Addr)(n:Nat)(w:World)(hw:LibW E w)(hn:n≤9223372036854775807):
  Calls Tryz.prog 99 #[.int .i64 n] w fun e w'=>e=.returned (.string (bs (Lib.decDigits n)))∧Below w.heap.size w w':=by
 refine(Tryz.strconv_Itoa (n:Int) (by omega) (by omega) w hw.tab).mono ?_
 rintro e w'⟨rfl,k,os,rfl⟩
 refine⟨?_,Lib.below_grow _ _ (Nat.le_refl _) k os⟩
 rw[Lib.itoa_nonneg]
 unfold bs;rfl
theorem ylq(E:Nat→Addr)(d:List UInt8)(v:Int)(w:World)(hd:d.length≤1000000000)(h:Lib.atoiAll d=.ok v):
  Calls Tryz.prog 143 #[.string (bs d)] w fun e w'=>e=.returned (.tuple #[.int .i64 v,.nilIface])∧Below w.heap.size w w':=by
 refine(Tryz.strconv_Atoi_ok (bs d) (by rw[zae];omega) v (by rw[zai];exact h) w).mono ?_
 rintro e w'⟨rfl,h⟩
 refine⟨rfl,?_⟩
 rcases h with rfl|⟨t,rfl⟩
 ·exact Below.refl _ _
 ·exact Lib.bytesWorld_below w _ t
theorem ypk(E:Nat→Addr)(d:List UInt8)(w:World)(hd:d.length≤1000000000)(hw:LibW E w)(h:∀v,Lib.atoiAll d≠.ok v):
  Calls Tryz.prog 143 #[.string (bs d)] w fun e w'=>∃v t p,e=.returned (.tuple #[.int .i64 v,.iface t p])∧Below w.heap.size w w':=by
 have hs:(bs d).size≤281474976710656:=by rw[zae];omega
 have hY:w.cell? ⟨15,0,none⟩=some (za0 (E 13)):=hw.syn
 have hR:w.cell? ⟨16,0,none⟩=some (za0 (E 14)):=hw.rng
 rcases e:Lib.atoiAll d with v|_|_
 ·exact absurd e (h v)
 ·refine(Tryz.strconv_Atoi_syntax (bs d) hs (by rw[zai];exact e) _ w hY (.inr (by unfold za0;exact⟨_,_,rfl⟩))).mono ?_
  rintro e w'⟨N,rfl,_,_,hb⟩
  exact⟨_,_,_,rfl,hb⟩
 ·refine(Tryz.strconv_Atoi_range (bs d) hs (by rw[zai];exact e) _ w hR (.inr (by unfold za0;exact⟨_,_,rfl⟩))).mono ?_
  rintro e w'⟨N,rfl,_,_,hb⟩
  exact⟨_,_,_,rfl,hb⟩
theorem zp3(E:Nat→Addr)(c:UInt8)(sep:ByteArray)(hsep:sep.data.toList=[c])(l:List UInt8)(w:World)(hl:l.length≤1000000000)(hw:LibW E w):
  Calls Tryz.prog 64 #[.string (bs l),.string sep] w fun e w'=>e=.returned (.tuple #[.string (bs (zec c l)),.string (bs (zcc c l)),.bool (zdu c l).isSome])∧Below w.heap.size w w':=by
 obtain⟨m,hm⟩:=hw.ml
 refine(Tryz.strings_Cut (bs l) sep m w (by rw[zae];omega) hm).mono ?_
 rintro e w'⟨rfl,n,rfl⟩
 refine⟨?_,Drew.below ⟨n,rfl⟩ _⟩
 obtain⟨e1,e2,e3⟩:=cut_a c l
 rw[zai,hsep,e1,e2,e3]
 unfold bs;rfl
section
open Go.ChangeShapes
theorem zel{H:Type}{enc:TypeId×Value→H}{a:Assume}{C:Checked}{os:Os}{f:FuncId}{fn:Func}{s:ChangeSpec}{conds:List PathCond}{apart fresh handsOn again:Bool}{X:World→Array Value→Prop}
  (hX:∀(w w':World)(args:Array Value),w.heap=w'.heap→X w args→X w' args)
  (own:ownKnob C.prog.godebug=none) (started:os.Started) (noInit:C.prog.inits.idxOf? f=none) (hfn:C.prog.funcs[f]?=some fn)
  (witness:∃(w:World)(tape:Tape)(i:Input),w.os=os∧(w.forCall tape i).Shaped C.prog∧i.vars=[]∧Input.okWide C.prog (w.forCall tape i) .any w.heap.size f i∧
   ((s.pre enc C.prog fn conds apart (w.forCall tape i).memory i.args∧X (w.forCall tape i).memory i.args)∧sizedMet enc C.prog fn (OpenSpec.ofChange s) apart (w.forCall tape i).memory i.args)∧a.holds C.prog (lone (Frame.enter C.prog f i.args .normal) [] (w.forCall tape i)))
  (contract:∀(W:World)(base:Nat)(args:Array Value)(ds gs:List (DataW H))(before:List MemPlace),
   (∀(j:Nat) t v,fn.params[j]?=some t→args[j]?=some v→Value.okWide C.prog W .any base t v)→
   DataW.Whole enc C.prog fn.params.toList s.vars apart W args.toList ds gs before→
   conds.all (PathCond.test C.prog ⟨fn.params.toList,ds,s.plain.varTypes C.prog,gs⟩)=true→
   (DataW.weightsEach C.prog (fn.params.toList++s.plain.varTypes C.prog) (ds++gs)).all (·≤reachBytes)=true→X W args→W.ShapedOpen C.prog→
   a.holds C.prog (lone (Frame.enter C.prog f args .normal) [] W)→
   Calls C.prog f args W fun e W'=>∃v,e=.returned v∧s.post enc C.prog fn apart fresh handsOn again W args v W') :
  ReturnsInHanded a C os f .any (fun w args=>(s.pre enc C.prog fn conds apart w args∧X w args)∧sizedMet enc C.prog fn (OpenSpec.ofChange s) apart w args) (s.post enc C.prog fn apart fresh handsOn again):=by
 refine returnsInHanded_of_calls own started noInit witness ?_
 intro w tape i _ hsh _ hok hpre hholds
 obtain⟨_,_,_,fn',hfn',_,_,_,_,hval⟩:=hok
 have e:fn'=fn:=Option.some.inj (hfn'.symm.trans hfn)
 subst e
 obtain⟨⟨⟨ds,gs,before,hw,hc⟩,hx⟩,hz⟩:=hpre
 have hw':=DataW.Whole.of_heap (w':=w.forCall tape i) (by rfl) hw
 refine(contract (w.forCall tape i) w.heap.size i.args ds gs before hval hw' hc (hz.weights hw) (hX _ _ _ (by rfl) hx) hsh hholds).mono fun e W' ⟨v,he,hp⟩=>?_
 subst he
 exact ChangeSpec.post_blind hp
theorem yqr:Tryz.prog.globalNamed "internal/strconv.uint64pow10"=some 13:=by kernel_rfl
theorem yqj{W:World}(h:laidMet Tryz.prog [("internal/strconv.uint64pow10",Lib.tabData .u64 Lib.pow10Tab)] W):TabW W:=by
 exact Lib.tabIs_of_head (t:=280) (e:=175) (n:=20) yqr (by kernel_rfl) Tryz.underlying280 Tryz.underlying175 (by kernel_rfl) (by kernel_rfl) h
theorem yq3{W:World}(h:W.ShapedOpen Tryz.prog):MaxW W:=
 cell_of_shapedOpen_int (P:=Tryz.prog) (g:=9) (t:=3) (zero:=#[.int .i64 0]) h (of_decide_eq_true (by kernel_rfl)) (by kernel_rfl) rfl (by kernel_rfl) (by kernel_rfl) Tryz.underlying3
end
def cutS:List UInt8:=[97,98,99,100,101,102,103,104,105,106,107,108,109,110,111,112,113,114,115,116,117,118,119,120,121,122,48,49,50,51,52,53,54,55,56,57,46,45]
theorem yo3(c:UInt8):cutS.contains c=zlb c:=by
 have h:∀n:Fin 256,cutS.contains (UInt8.ofFin n)=zlb (UInt8.ofFin n):=by decide +kernel
 have:=h c.toFin
 simpa using this
theorem ygw(p:UInt8→Bool)(l:List UInt8):(l.dropWhile p=[]∧∀x∈l,p x=true)∨∃x r,l.dropWhile p=x::r∧p x=false∧x∈l:=by
 induction l with
 | nil=>exact .inl ⟨rfl,by simp⟩
 | cons a l ih=>
  rw[List.dropWhile_cons]
  cases h:p a with
  | false=>exact .inr ⟨a,l,by simp,h,by simp⟩
  | true=>
   simp only[if_true]
   rcases ih with⟨h1,h2⟩|⟨x,r,h1,h2,h3⟩
   ·refine .inl ⟨h1,fun x hx=>?_⟩
    rcases List.mem_cons.1 hx with rfl|hx
    ·exact h
    ·exact h2 x hx
   ·exact .inr ⟨x,r,h1,h2,by simp[h3]⟩
theorem ycd(l cs:List UInt8):(Lib.trimS l cs==[])=l.all (fun c=>cs.contains c):=by
 unfold Lib.trimS Lib.trimRightS Lib.trimLeftS
 rcases ygw (cs.contains ·) l.reverse with⟨h1,h2⟩|⟨x,r,h1,h2,h3⟩
 ·rw[h1]
  have:l.all (fun c=>cs.contains c)=true:=List.all_eq_true.2 (fun x hx=>h2 x (by simpa using hx))
  rw[this];rfl
 ·rw[h1]
  have hf:l.all (fun c=>cs.contains c)=false:=by
   rw[List.all_eq_false]
   exact⟨x,by simpa using h3,by simpa using h2⟩
  rw[hf]
  rcases ygw (cs.contains ·) (x::r).reverse with⟨k1,k2⟩|⟨y,s,k1,k2,k3⟩
  ·have:=k2 x (by simp)
   rw[h2] at this;cases this
  ·rw[k1];rfl
theorem yo2:(⟨cutS.toArray⟩:ByteArray)=⟨#[97,98,99,100,101,102,103,104,105,106,107,108,109,110,111,112,113,114,115,116,117,118,119,120,121,122,48,49,50,51,52,53,54,55,56,57,46,45]⟩:=rfl
theorem yh9(s:List UInt8)(w:World)(hs:s.length≤maxLen):
  Calls Tryz.prog 190 #[.string (bs s),.string ⟨#[97,98,99,100,101,102,103,104,105,106,107,108,109,110,111,112,113,114,115,116,117,118,119,120,121,122,48,49,50,51,52,53,54,55,56,57,46,45]⟩] w fun e w'=>∃t,e=.returned (.string (bs t))∧(t==[])=s.all zlb∧Below w.heap.size w w':=by
 rw[←yo2]
 refine(Tryz.strings_Trim_set (bs s) ⟨cutS.toArray⟩ w (by rw[zae];unfold maxLen at hs;omega) (by decide) (fun j b hb=>?_)).mono ?_
 ·have hm:b∈cutS:=List.mem_of_getElem? (by simpa using hb)
  have:∀c∈cutS,c.toNat<128:=by decide
  exact this b hm
 ·rintro e w'⟨rfl,hb⟩
  refine⟨Lib.trimS (bs s).data.toList cutS,by unfold bs;rfl,?_,hb⟩
  rw[zai]
  show(Lib.trimS s cutS==[])=_
  rw[ycd]
  congr 1
  funext c
  exact yo3 c
theorem zie(s:List UInt8)(w:World)(hs:s.length≤maxLen):
  Calls Tryz.prog 156 #[.string (bs s)] w fun e w'=>e=.returned (.bool (zbc s))∧Below w.heap.size w w':=by
 have hsz:(bs s).size=s.length:=zae s
 have HD:=hid (show zbc s=(decide (1≤s.length) && decide (s.length≤12) && s.all zlb) from rfl)
 have TR:=hid (fun w'=>yh9 s w' hs)
 unfold maxLen at hs
 have htl:(bs s).toList=s:=by rw[ByteArray.toList_eq,zai]
 by_cases h0:s=[]
 ·subst h0
  have HB:=hid (Below.refl w.heap.size w)
  have hnil:(bs []).toList=[]:=htl
  have hd:zbc []=false:=rfl
  rw[hd]
  clear htl hd HD
  go_enter Tryz.func156,Tryz.ntmps156
  go_wp2_with fail
  go_ret
  exact⟨rfl,HB.out⟩
 ·have hne:(bs s).toList.isEmpty=false:=by rw[htl];cases s<;>simp_all
  have hne2:¬(bs s).toList=[]:=by rw[htl];exact h0
  have h1:decide (1≤s.length)=true:=by cases s<;>simp_all
  rw[h1] at HD
  by_cases h12:s.length≤12
  ·have hI:((bs s).size:Int)≤12:=by omega
   have hd2:decide (s.length≤12)=true:=by simpa using h12
   rw[hd2] at HD
   generalize s.all zlb=x at HD TR
   generalize bs s=S at *
   clear htl hd2 h1 hsz
   go_enter Tryz.func156,Tryz.ntmps156
   go_wp2_with fail
   refine(TR.out _).mono ?_
   rintro e w1⟨t,rfl,ht,b1⟩
   have htl:(bs t).toList=t:=by rw[ByteArray.toList_eq,zai]
   cases x with
   | true=>
    have h9:t=[]:=by simpa using ht
    have h9':(bs t).toList=[]:=by rw[htl];exact h9
    clear ht htl h9
    generalize bs t=tt at *
    go_wp2_with fail
    go_ret
    exact⟨by rw[HD.out];rfl,b1⟩
   | false=>
    have h9:t≠[]:=by simpa using ht
    have h9':(bs t).toList.isEmpty=false:=by rw[htl];cases t<;>simp_all
    have h9'':¬(bs t).toList=[]:=by rw[htl];exact h9
    clear ht htl h9
    generalize bs t=tt at *
    go_wp2_with fail
    go_ret
    exact⟨by rw[HD.out];rfl,b1⟩
  ·have hI:¬((bs s).size:Int)≤12:=by omega
   have hd2:decide (s.length≤12)=false:=by simpa using h12
   rw[hd2] at HD
   have HB:=hid (Below.refl w.heap.size w)
   generalize bs s=S at *
   clear htl hd2 h1 hsz TR
   go_enter Tryz.func156,Tryz.ntmps156
   go_wp2_with fail
   go_ret
   exact⟨by rw[HD.out];rfl,HB.out⟩
theorem za4(l:List UInt8):(bs l).toList=l:=by rw[ByteArray.toList_eq,zai]
theorem zp5{P:Program}(t:TypeId)(a b:List UInt8)(w:World):(binOp .leq t (.string (bs a)) (.string (bs b))).run P w=.ok (.bool (!ltL b a)) w:=by
 have:(Op.bytesLess a b || a==b)=!ltL b a:=by
  rcases zev a b with h|h|h
  ·rw[zco h];have:Op.bytesLess a b=true:=h;rw[this];rfl
  ·subst h;rw[zbv];simp
  ·rw[h]
   have h1:Op.bytesLess a b=false:=zco h
   have h2:(a==b)=false:=by simpa using (fun e=>zbm h e.symm)
   rw[h1,h2];rfl
 simp only[binOp,Op.stringOp,za4]
 simp[←this]
theorem zj7(E:Nat→Addr)(l:List PL)(fn:Nat)(lb:Array Value)(eg:∀args w,(callFunc fn args).run Tryz.prog w=.ok (.enter fn args) w)(w:World)(hlen:l.length≤1000000000)(hnm:∀x∈l,x.n.length≤maxLen)
  (hp:∀(W:World)(k:Nat)(h:k<l.length),Below w.heap.size w W→Calls Tryz.prog fn (#[.int .i64 k]++lb) W fun e w'=>e=.returned (.agg #[.string (bs l[k].n),.int .i64 l[k].N,.int .u32 l[k].S])∧Below W.heap.size W w')
  (hB:Has E w 2) (hN:Has E w 5) (hF:Has E w 8) (hO:Has E w 9) :
  Calls Tryz.prog 126 #[.int .i64 l.length,.func (.func fn) #[] lb] w fun e w'=>∃v,e=.returned v∧FErr E w' v (zbb l).1 (zbb l).2∧Below w.heap.size w w':=by
 have HB:=hid hB
 have HN:=hid hN
 have HF:=hid hF
 have HO:=hid hO
 have HP:=hid hp
 have HNM:=hid hnm
 have cF:w.cell? ⟨7,0,none⟩=some (za0 (E 8)):=hF
 unfold za0 at cF
 clear hB hN hF hO hp hnm
 by_cases hfull:20<l.length
 ·have hI:(20:Int)<l.length:=by omega
  have FA:=hid (zk4 hfull)
  go_enter Tryz.func126,Tryz.ntmps126
  go_wp2_with fail
  go_ret
  exact⟨_,rfl,by rw[FA.out];have:=FErr.bare E w (c:=8) (by decide);unfold za0 at this;exact this,Below.refl _ _⟩
 ·have hI:¬(20:Int)<l.length:=by omega
  have FA:=hid (zk5 hfull)
  clear cF
  go_enter Tryz.func126,Tryz.ntmps126
  go_wp2_with fail
  go_loopw [13,5,6,7,8] (fun i last _ _ _ wr=>∃(k:Nat)(la:List UInt8),i=.int .i64 k∧k≤l.length∧last=.string (bs la)∧zbb l=zdj k la (l.drop k)∧Below w.heap.size w wr) (fun i _ _ _ _ _=>l.length - (intOf i).toNat)
  case atStart=>exact⟨0,[],rfl,by omega,by unfold bs;rfl,FA.out,Below.refl _ _⟩
  case round=>
   obtain⟨k,la,rfl,hk,rfl,hf,bel⟩:=hrel
   have HFA:=hid hf
   clear hf
   by_cases hlt:k<l.length
   ·have hltI:(k:Int)<l.length:=by omega
    have CL:=hid (HP.out wr k hlt bel)
    have HX:=hid (HNM.out l[k] (List.getElem_mem _))
    have BAD:=hid (fun c hc h0=>HFA.out.trans (zoy (last:=la) hlt (c:=c) hc h0))
    have NEXT:=hid (fun h0=>HFA.out.trans (zm8 (last:=la) hlt h0))
    generalize l[k]=x at CL HX BAD NEXT
    obtain⟨xn,xN,xS⟩:=x
    simp only[] at CL HX BAD NEXT
    have KK:=hid (show k+1≤l.length by omega)
    have NMX:=hid (fun w'=>zie xn w' HX.out)
    have HBEL:=hid bel
    go_wp2_with fail
    refine CL.out.mono ?_
    rintro e w1⟨rfl,b1⟩
    have bel1:=zaa bel b1
    have belA:=bel1.alloc bel1.size (.cells #[.string (bs xn),.int .i64 xN,.int .u32 xS] 173)
    clear bel
    go_wp2_with fail
    refine(NMX.out _).mono ?_
    rintro e w2⟨rfl,b2⟩
    have bel2:=zaa belA b2
    have p0:w2.cell? ⟨w1.heap.size,0,none⟩=some (.string (bs xn)):=(b2.cell (p:=⟨w1.heap.size,0,none⟩) (by simp)).trans (by simp)
    have p1:w2.cell? ⟨w1.heap.size,1,none⟩=some (.int .i64 xN):=(b2.cell (p:=⟨w1.heap.size,1,none⟩) (by simp)).trans (by simp)
    have c2:w2.cell? ⟨0,0,none⟩=some (za0 (E 2)):=HB.out.below bel2
    have c5:w2.cell? ⟨5,0,none⟩=some (za0 (E 5)):=HN.out.below bel2
    have c9:w2.cell? ⟨10,0,none⟩=some (za0 (E 9)):=HO.out.below bel2
    unfold za0 at c2 c5 c9
    have HBE:=hid bel2
    clear b1 bel1 belA b2 bel2
    cases hnb:zbc xn with
    | false=>
     have hb:=hid (BAD.out 5 (zoz hnb) (by decide))
     clear BAD NEXT c2 c9 p0 p1 hnb
     go_wp2_with fail
     go_ret
     exact⟨_,rfl,FErr.new E _ _ (by decide) _ _ (by simp) _ hb.out,HBE.out.alloc HBE.out.size _⟩
    | true=>
     by_cases hbd:xN<0∨4000<xN
     ·have hb:=hid (BAD.out 2 (zna hnb hbd) (by decide))
      clear BAD NEXT c5 c9 p0 hnb
      rcases(show xN<0∨¬xN<0∧4000<xN by omega) with h|⟨h,h'⟩
      all_goals
       go_wp2_with fail
       go_ret
       exact⟨_,rfl,FErr.new E _ _ (by decide) _ _ (by simp) _ hb.out,HBE.out.alloc HBE.out.size _⟩
     ·have h1:¬xN<0:=by omega
      have h2:¬4000<xN:=by omega
      rcases Nat.eq_zero_or_pos k with hk0|hkp
      ·have hb:=hid (NEXT.out (by rw[hk0];exact zi0 hnb hbd))
       have hkI:¬(0:Int)<k:=by omega
       have hkD:decide ((0:Int)<k)=false:=by simpa using hkI
       clear BAD NEXT hk0 hbd hnb c2 c5 c9
       go_wp2_with fail
       go_roundw
       case rel=>exact⟨k+1,xn,by go_num,KK.out,rfl,hb.out,HBE.out⟩
       case measure=>simp[intOf];omega
      ·have hkb:(k==0)=false:=by simp;omega
       have hkI:(0:Int)<k:=by omega
       cases hor:ltL la xn with
       | true=>
        have hb:=hid (NEXT.out (zkt hnb hbd hor))
        have hle:∀w,(binOp .leq 9 (.string (bs xn)) (.string (bs la))).run Tryz.prog w=.ok (.bool false) w:=fun w=>by rw[zp5,hor];rfl
        clear BAD NEXT hbd hnb hor hkb c2 c5 c9
        go_wp2_with fail
        go_roundw
        case rel=>exact⟨k+1,xn,by go_num,KK.out,rfl,hb.out,HBE.out⟩
        case measure=>simp[intOf];omega
       | false=>
        have hb:=hid (BAD.out 9 (by rw[hkb];exact zm9 hnb hbd hor) (by decide))
        have hle:∀w,(binOp .leq 9 (.string (bs xn)) (.string (bs la))).run Tryz.prog w=.ok (.bool true) w:=fun w=>by rw[zp5,hor];rfl
        clear BAD NEXT hbd hnb hor hkb c2 c5
        go_wp2_with fail
        go_ret
        exact⟨_,rfl,FErr.new E _ _ (by decide) _ _ (by simp) _ hb.out,HBE.out.alloc HBE.out.size _⟩
   ·have hltI:¬(k:Int)<l.length:=by omega
    have hb:=hid (HFA.out.trans (zox (last:=la) (by omega:l.length≤k)))
    go_wp2_with fail
    go_ret
    exact⟨_,rfl,by rw[hb.out];exact FErr.nil E _,bel⟩
def BAt(w:World)(b:Nat)(l:List UInt8):Prop:=Lib.IsBuilder 262 5 b b (l.map bv) w
theorem BAt.lt{w:World}{b:Nat}{l:List UInt8}(h:BAt w b l):b<w.heap.size:=by
 rcases h with h|h
 ·exact h.lt
 ·exact h.lt
theorem BAt.new(w:World):BAt (w.alloc (.cells #[.pointer none,.slice none 0 0] 262)) w.heap.size []:=
 .inl ⟨Nat.le_refl _,.slice none 0 0,heap_alloc_new _ _,World.ownsRow_nil _ _ _ _,by simp[Value.ownBlock]⟩
theorem BAt.below{w w':World}{b:Nat}{l:List UInt8}(h:BAt w b l)(hb:Below w.heap.size w w'):BAt w' b l:=by
 have hlt:=h.lt
 have H:∀p,Lib.BuilderAt 262 5 b b p (l.map bv) w→Lib.BuilderAt 262 5 b b p (l.map bv) w':=by
  intro p h
  obtain⟨hB,v,h1,h2,h3⟩:=h
  exact⟨hB,v,(hb.block b hlt).trans h1,h2.kept (zdt (r:=none) hb) (by
   rcases v.ownBlock with _|j
   ·exact .inl rfl
   ·exact .inr (by simp)),h3⟩
 rcases h with h|h
 ·exact .inl (H _ h)
 ·exact .inr (H _ h)
theorem zwd(b:Nat)(l:List UInt8)(w:World)(h:BAt w b l):
  Calls Tryz.prog 177 #[.pointer (some ⟨b,0,none⟩)] w fun e w'=>e=.returned (.string (bs l))∧Below b w w':=by
 have e:Lib.byteCells l=l.map bv:=rfl
 have:=Tryz.Builder_String_any b b l w (by rw[e];exact h) (Nat.le_of_lt h.lt)
 rw[show bs l=⟨l.toArray⟩ by unfold bs;rfl]
 exact this
theorem zyw(b:Nat)(l:List UInt8)(w:World)(h:BAt w b l):
  Calls Tryz.prog 269 #[.pointer (some ⟨b,0,none⟩)] w fun e w'=>e=.returned (.int .i64 l.length)∧w=w':=by
 have:=Tryz.Builder_Len b b (l.map bv) w h
 simp only[List.length_map] at this
 exact this.mono fun _ _ h=>⟨h.1,h.2.symm⟩
theorem yhr{w w':World}{b:Nat}{p v:Value}(hlt:b<w.heap.size)(hbk:w.heap[b]?=some (.cells #[p,v] 262 (0,0)))(hne:v.ownBlock≠some b)(hg:w.grownBy w' v.ownBlock):
  w'.cell? ⟨b,1,none⟩=some v∧w'.frozen? ⟨b,1,none⟩=false∧w'.heap[b]?=some (.cells #[p,v] 262 (0,0)):=by
 have h:w'.heap[b]?=some (.cells #[p,v] 262 (0,0)):=(hg.block b hlt (fun e=>hne e.symm)).trans hbk
 exact⟨by simp[World.cell?,h],by simp[World.frozen?,h],h⟩
theorem sizeBuilder:(Tryz.prog.info? 262).map (·.size)=some 2:=by kernel_rfl
theorem liesBuilder:liesAt Tryz.prog Tryz.prog.depth 262 (2 / Tryz.prog.cellsOf 262) 0 262 1=true:=by kernel_rfl
theorem zre(b:Nat)(l:List UInt8)(w:World)(h:BAt w b l):
  Calls Tryz.prog 201 #[.pointer (some ⟨b,0,none⟩)] w fun e w'=>e=.returned (.tuple #[])∧Lib.BuilderAt 262 5 b b (.pointer (some ⟨b,0,none⟩)) (l.map bv) w'∧Below b w w':=by
 obtain⟨j,hj,hjs⟩:=Option.map_eq_some_iff.1 sizeBuilder
 rcases h with h|h
 ·have c0:=h.cell0
  have f0:=h.frozen0
  have hsh:=h.shape
  have hu:=hid (h.used (.pointer (some ⟨b,0,none⟩)))
  clear h
  go_enter Tryz.func201,Tryz.ntmps201
  go_wp2_with fail
  rw[Lib.run_to_unsafe w ⟨b,0,none⟩ Tryz.underlying260 Tryz.underlying146 hj (by rw[hjs];decide) hsh (Nat.zero_lt_succ 1)]
  simp only[Result.andThen]
  rw[Oper.upon_value]
  go_wp2_with fail
  rw[run_callFunc_extern Tryz.func234 (by kernel_rfl) (by kernel_rfl) (by kernel_rfl) (e:=Extern.AbiNoEscape.same) (by kernel_rfl)]
  rw[Lib.run_noEscape]
  simp only[Result.andThen]
  rw[Oper.upon_value]
  go_wp2_with fail
  rw[Lib.run_from_unsafe w ⟨b,0,none⟩ Tryz.underlying146 Tryz.underlying260 hj hsh liesBuilder]
  simp only[Result.andThen]
  rw[Oper.upon_value]
  go_wp2_with fail
  go_end0
  exact⟨rfl,hu.out,(Below.refl b w).setCell (p:=⟨b,0,none⟩) (Nat.le_refl _) _⟩
 ·have c0:=h.cell0
  have H:=hid h
  clear h
  go_enter Tryz.func201,Tryz.ntmps201
  go_wp2_with fail
  rw[Lib.run_neq_ptr_same w _ Tryz.underlying260 hj]
  go_wp2_with fail
  go_end0
  exact⟨rfl,H.out,Below.refl b _⟩
theorem ybt(b:Nat)(l m:List UInt8)(w:World)(h:BAt w b l)(hm:l.length+m.length≤1000000000):
  Calls Tryz.prog 176 #[.pointer (some ⟨b,0,none⟩),.string (bs m)] w fun e w'=>e=.returned (.tuple #[.int .i64 m.length,.nilIface])∧BAt w' b (l++m)∧Below b w w':=by
 obtain⟨i0,hi,hz0,hz1,hz2⟩:=info_parts zx3
 have hlt:=h.lt
 have HC:=hid (zre b l w h)
 have HM1:Hid (l.length+(bs m).size≤maxLen):=by show _≤_;rw[zae];unfold maxLen;omega
 have HM2:Hid (l.length+(bs m).size≤140737488355328):=by show _≤_;rw[zae];omega
 have HFIN:Hid (∀w',Lib.BuilderAt 262 5 b b (.pointer (some ⟨b,0,none⟩)) (l.map bv++m.map bv) w'→BAt w' b (l++m)):=fun w' h=>.inr (by rw[List.map_append];exact h)
 clear h hm
 go_enter Tryz.func176,Tryz.ntmps176
 go_wp2_with fail
 refine HC.out.mono ?_
 rintro e w1⟨rfl,h1,hb1⟩
 obtain⟨hB,v,hbk,hown,hne⟩:=h1
 rw[List.length_map] at hown
 have c0:w1.cell? ⟨b,0,none⟩=some (.pointer (some ⟨b,0,none⟩)):=by rw[Lib.cell_of_heap hbk];rfl
 have c1:w1.cell? ⟨b,1,none⟩=some v:=by rw[Lib.cell_of_heap hbk];rfl
 have hlt1:=Nat.lt_of_lt_of_le hlt hb1.size
 have HS:=hid (Nat.le_trans (Nat.le_of_lt hlt) hb1.size)
 go_wp2_with (at_builtin;refine Lib.wpList_append_own_string _ rfl _ _ 105 9 rfl b 5 i0 Tryz.underlying105 Tryz.underlying9 hi hz0 hz1 hz2 _ _ _ rfl hown (bs m) rfl HM1.out HM2.out HS.out ?_;intro v' w2 hown' hgrow _;obtain⟨A',q',rfl⟩:=zdo hown';have T2:=yhr hlt1 hbk hne hgrow;have d1:=T2.1;have f1:=T2.2.1)
 go_ret2
 rw[zgq,zae] at hown'
 exact⟨rfl,HFIN.out _ (Lib.BuilderAt.put (T:=262) (e:=5) hB T2.2.2 (bs':=l.map bv++m.map bv) (by simpa using hown') (by decide)),(hb1.grown hgrow HS.out (fun k hk=>(hown.lt k hk).1)).setCell (p:=⟨b,1,none⟩) hB _⟩
theorem zd3{old:List UInt8}{size:Nat}{o:POp}(h:o.kind=zcg):za6 old size o=(0,o.data):=by unfold za6;rw[if_pos h]
theorem zms{old:List UInt8}{size:Nat}{o:POp}(h:o.kind≠zcg)(h2:(zc8 size old.length:Int)<o.a+o.n):za6 old size o=(6,[]):=by unfold za6;rw[if_neg h,if_pos h2]
theorem zfm{old:List UInt8}{size:Nat}{o:POp}(h:o.kind≠zcg)(h2:¬(zc8 size old.length:Int)<o.a+o.n):za6 old size o=(0,(old.drop (o.a.toNat * size)).take (o.n.toNat * size)):=by unfold za6;rw[if_neg h,if_neg h2]
theorem zwo(m:Nat)(h:m≤1000000000):wrap64 (m:Int)=m:=by
 have:=IntWalk.wrap64_in (m:Int) (by omega)
 exact this
theorem yjt(a size:Nat)(h:a * size≤1000000000):Value.int .i64 (wrap64 ((a:Int) * (size:Int)))=Value.int .i64 ((a * size:Nat):Int):=by
 congr 1
 rw[←Int.natCast_mul];exact zwo _ h
theorem zuh(a n size:Nat)(h:(a+n) * size≤1000000000):Value.int .i64 (wrap64 (((a:Int)+(n:Int)) * (size:Int)))=Value.int .i64 (((a+n) * size:Nat):Int):=by
 congr 1
 rw[←Int.natCast_add,←Int.natCast_mul];exact zwo _ h
theorem zq8(old:List UInt8)(p r q e:Nat)(hq:q=p+r)(he:e=q∧q≤old.length∨e=old.length∧old.length≤q):(bs old).extract p e=bs ((old.drop p).take r):=by
 refine zg0 ?_
 simp only[ByteArray.data_extract,Array.toList_extract,List.extract_eq_take_drop,zai]
 rcases he with⟨h1,h2⟩|⟨h1,h2⟩
 ·congr 1;omega
 ·rw[List.take_of_length_le (by simp;omega),List.take_of_length_le (by simp;omega)]
theorem yeh(E:Nat→Addr)(old:List UInt8)(size:Nat)(o:POp)(w:World)(hold:old.length≤4000)(hs1:1≤size)(hs2:size≤64)(ho:opC o=0)(h6:Has E w 6):
  Calls Tryz.prog 268 #[.string (bs old),.int .i64 size,o.val] w fun e w'=>e=.returned (.tuple #[.string (bs (za6 old size o).2),ev E (za6 old size o).1])∧Below w.heap.size w w':=by
 have z6:3<w.heap.size:=World.block_lt_of_cell? w _ h6
 have c6:w.cell? ⟨3,0,none⟩=some (za0 (E 6)):=h6
 have HA:=hid (fun o=>zaf w o)
 have V0:=hid (zaj E)
 have V6:=hid (za9 E (c:=6) (by decide))
 clear h6
 have HK:=zlm ho
 rcases HK with hk|hk
 ·obtain⟨hD,a1,a2,n1,n2⟩:=zqq ho hk
  clear hD
  have P1:=hid (fun h=>zms (old:=old) (size:=size) (o:=o) (by rw[hk];exact kne.symm) h)
  have P2:=hid (fun h=>zfm (old:=old) (size:=size) (o:=o) (by rw[hk];exact kne.symm) h)
  obtain⟨K,a,n,D⟩:=o
  simp only[] at hk a1 a2 n1 n2 P1 P2
  obtain⟨a,rfl⟩:∃x:Nat,a=x:=⟨a.toNat,by omega⟩
  obtain⟨n,rfl⟩:∃x:Nat,n=x:=⟨n.toNat,by omega⟩
  have k2:=zbj K [100,97,116,97] (by rw[hk,←ze2];exact kne.symm)
  have z0:¬size=0:=by omega
  have hq:((old.length:Int)+size - 1) / size=((zc8 size old.length:Nat):Int):=by
   unfold zc8
   have:((old.length+size - 1:Nat):Int)=(old.length:Int)+size - 1:=by omega
   rw[Int.natCast_ediv,this]
  unfold POp.val
  simp only[]
  clear hk ho
  by_cases hc:((zc8 size old.length:Nat):Int)<(a:Int)+n
  ·have HP:=hid (P1.out hc)
   clear P1 P2
   go_enter Tryz.func268,Tryz.ntmps268
   go_wp2_with fail
   go_quiet (fail)
   go_wp2_with fail
   go_ret2
   exact⟨zqb (by rw[HP.out,bs_nil];rfl) (by rw[HP.out,V6.out];rfl),zac (HA.out _) _⟩
  ·have hp2:=P2.out hc
   have hcI:(a:Int)+n≤((zc8 size old.length:Nat):Int):=by omega
   have hac:a<zc8 size old.length:=by clear hq;omega
   have HQ:=hid hq
   clear hq
   have hal:=zyo (by omega) hac
   have hm2:(a+n) * size=a * size+n * size:=Nat.add_mul _ _ _
   have hm4:n * size≤4000 * 64:=Nat.mul_le_mul (by omega) hs2
   have e1:=yjt a size (by omega)
   have e2:=zuh a n size (by omega)
   have HX:=hid (fun e he=>zq8 old (a * size) (n * size) ((a+n) * size) e hm2 he)
   rw[show((a:Int)).toNat=a by omega,show((n:Int)).toNat=n by omega] at hp2
   have HP2:=hid hp2
   have hpl:a * size≤old.length:=by omega
   have hpq0:a * size≤(a+n) * size:=by omega
   clear P1 P2 hal hac hm2 hm4 hp2
   have hq:=HQ.out
   generalize a * size=p at *
   generalize (a+n) * size=q at *
   generalize n * size=r at *
   by_cases hq2:q≤old.length
   ·have hq2I:(q:Int)≤old.length:=by omega
    have e3:Value.int .i64 (min (q:Int) (old.length:Int))=Value.int .i64 q:=by congr 1;omega
    have hpq:p≤q:=hpq0
    have HX2:=hid (HX.out q (.inl ⟨rfl,hq2⟩))
    go_enter Tryz.func268,Tryz.ntmps268
    go_wp2_with fail
    go_ret2
    exact⟨zqb (by rw[HP2.out];exact congrArg Value.string HX2.out) (by rw[HP2.out,V0.out];rfl),HA.out _⟩
   ·have e3:Value.int .i64 (min (q:Int) (old.length:Int))=Value.int .i64 old.length:=by congr 1;omega
    have hpq:p≤old.length:=hpl
    have HX2:=hid (HX.out old.length (.inr ⟨rfl,by omega⟩))
    go_enter Tryz.func268,Tryz.ntmps268
    go_wp2_with fail
    go_ret2
    exact⟨zqb (by rw[HP2.out];exact congrArg Value.string HX2.out) (by rw[HP2.out,V0.out];rfl),HA.out _⟩
 ·have HP:=hid (zd3 (old:=old) (size:=size) hk)
  have k2:=zc3 o.kind [100,97,116,97] (by rw[hk,←ze2])
  unfold POp.val
  clear hk ho
  go_enter Tryz.func268,Tryz.ntmps268
  go_wp2_with fail
  go_ret2
  exact⟨zqb (by rw[HP.out];rfl) (by rw[HP.out,V0.out];rfl),HA.out _⟩
theorem ylu{old:List UInt8}{size:Nat}{l:List POp}{k:Nat}{out:List UInt8}(h:k<l.length)(hb:(za6 old size l[k]).1≠0):zn1 old size (l.drop k) k out=(((za6 old size l[k]).1,(k:Int)),[]):=by
 rw[List.drop_eq_getElem_cons h,zn1,if_pos hb]
theorem yhy{old:List UInt8}{size:Nat}{l:List POp}{k:Nat}{out:List UInt8}(h:k<l.length)(hb:(za6 old size l[k]).1=0)(hf:4000<out.length+(za6 old size l[k]).2.length):zn1 old size (l.drop k) k out=((8,(k:Int)),[]):=by
 rw[List.drop_eq_getElem_cons h,zn1,if_neg (by simp[hb]),if_pos hf]
theorem yhx{old:List UInt8}{size:Nat}{l:List POp}{k:Nat}{out:List UInt8}(h:k<l.length)(hb:(za6 old size l[k]).1=0)(hf:¬4000<out.length+(za6 old size l[k]).2.length):zn1 old size (l.drop k) k out=zn1 old size (l.drop (k+1)) (k+1) (out++(za6 old size l[k]).2):=by
 rw[List.drop_eq_getElem_cons h,zn1,if_neg (by simp[hb]),if_neg hf]
theorem ylt{old:List UInt8}{size:Nat}{l:List POp}{k:Nat}{out:List UInt8}(h:l.length≤k):zn1 old size (l.drop k) k out=((0,-1),out):=by
 rw[List.drop_eq_nil_of_le h,zn1]
theorem yhv{old:List UInt8}{size:Int}{l:List POp}(h:¬((1≤size∧size≤64)∧old.length≤4000)):zgn old size l=((2,-1),[]):=by unfold zgn;rw[if_neg h]
theorem zy1{old:List UInt8}{size:Int}{l:List POp}(h:(1≤size∧size≤64)∧old.length≤4000)(hc:(zb4 l).1≠0):zgn old size l=(zb4 l,[]):=by unfold zgn;rw[if_pos h,if_neg hc]
theorem zrm{old:List UInt8}{size:Int}{l:List POp}(h:(1≤size∧size≤64)∧old.length≤4000)(hc:(zb4 l).1=0):zgn old size l=zn1 old size.toNat l 0 []:=by unfold zgn;rw[if_pos h,if_pos hc]
theorem zsl(old:List UInt8)(size:Nat)(o:POp):(za6 old size o).1=0∨(za6 old size o).1=6:=by
 unfold za6;(repeat' split)<;>simp
theorem yac{old:List UInt8}{size:Nat}{o:POp}(ho:opC o=0)(hs:old.length≤4000):(za6 old size o).2.length≤4000:=by
 rcases zlm ho with hk|hk
 ·by_cases h2:(zc8 size old.length:Int)<o.a+o.n
  ·rw[zms (by rw[hk];exact kne.symm) h2];simp
  ·rw[zfm (by rw[hk];exact kne.symm) h2];simp;omega
 ·rw[zd3 hk];exact(zqp ho hk).2.2.2
theorem yhu(E:Nat→Addr)(old:List UInt8)(size:Int)(s0:Option Addr)(n0 c0:Nat)(l:List POp)(w:World)(hl:SliceIs w (.slice s0 n0 c0) 4 (za3 l))
  (h2:Has E w 2) (h3:Has E w 3) (h4:Has E w 4) (h6:Has E w 6) (h8:Has E w 8) :
  Calls Tryz.prog 261 #[.string (bs old),.int .i64 size,.slice s0 n0 c0] w fun e w'=>∃v,e=.returned (.tuple #[.string (bs (zgn old size l).2),v])∧FErr E w' v (zgn old size l).1.1 (zgn old size l).1.2∧Below w.heap.size w w':=by
 by_cases hok:(1≤size∧size≤64)∧old.length≤4000
 ·obtain⟨rfl,hc0,hc1⟩:=zqn hl
  have HCK:=hid (zky E s0 l.length c0 l w hl h2 h3 h4)
  obtain⟨⟨hs1,hs2⟩,hol⟩:=id hok
  have holI:¬(4000:Int)<old.length:=by omega
  by_cases hck:(zb4 l).1=0
  ·have happ:=zrm (l:=l) hok hck
   have hall:=(zgi l).1 hck
   obtain⟨z,rfl⟩:∃z:Nat,size=z:=⟨size.toNat,by omega⟩
   have HAP:Hid (zgn old (z:Int) l=zn1 old z (l.drop 0) 0 []):=happ
   have HLS:=hid hl
   have HALL:=hid hall
   have HCC:=hid hck
   have H6:=hid h6
   have H8:=hid h8
   have hz1:1≤z:=by omega
   have hz2:z≤64:=by omega
   clear happ hall hck hl h2 h3 h4 h6 h8 hok
   go_enter Tryz.func261,Tryz.ntmps261
   go_wp2_with fail
   refine HCK.out.mono ?_
   rintro e w1⟨v1,rfl,fe,b1⟩
   rw[HCC.out] at fe
   rw[fe.zero]
   clear fe
   have B0:=BAt.new w1
   have bA:=b1.alloc b1.size (.cells #[.pointer none,.slice none 0 0] 262)
   have hb:w.heap.size≤w1.heap.size:=b1.size
   go_wp2_with fail
   generalize w1.alloc (.cells #[.pointer none,.slice none 0 0] 262)=w2 at B0 bA ⊢
   generalize w1.heap.size=b at B0 hb ⊢
   clear b1
   go_loopw [33,10,11,12,13] (fun i _ _ _ _ wr=>∃(k:Nat)(out:List UInt8),i=.int .i64 k∧k≤l.length∧out.length≤4000∧zgn old (z:Int) l=zn1 old z (l.drop k) k out∧BAt wr b out∧Below w.heap.size w wr) (fun i _ _ _ _ _=>l.length - (intOf i).toNat)
   case atStart=>exact⟨0,[],rfl,by omega,by simp,HAP.out,B0,bA⟩
   case round=>
    clear B0 bA
    obtain⟨k,out,rfl,hk,hout,hf,B,bel⟩:=hrel
    have HF:=hid hf
    clear hf
    by_cases hlt:k<l.length
    ·have hltI:(k:Int)<l.length:=by omega
     obtain⟨ad,rfl,d0,d1,d2,d3⟩:=zjt (HLS.out.below bel) k hlt
     have KK:=hid (show k+1≤l.length by omega)
     have BAD:=hid (fun hb=>HF.out.trans (ylu (old:=old) (size:=z) (out:=out) hlt hb))
     have FULL:=hid (fun hb hf=>HF.out.trans (yhy (old:=old) (size:=z) (out:=out) hlt hb hf))
     have NEXT:=hid (fun hb hf=>HF.out.trans (yhx (old:=old) (size:=z) (out:=out) hlt hb hf))
     have x1:(0:Int)≤k:=by omega
     have x2:(k:Int).toNat=k:=by omega
     have ho:=HALL.out _ (List.getElem_mem hlt)
     generalize l[k]=o at d0 d1 d2 d3 BAD FULL NEXT ho
     have belA:=bel.alloc bel.size (.cells #[.string (bs o.kind),.int .i64 o.a,.int .i64 o.n,.string (bs o.data)] 104)
     have BA:=B.below (zaf wr (.cells #[.string (bs o.kind),.int .i64 o.a,.int .i64 o.n,.string (bs o.data)] 104))
     have PC:=yeh E old z o (wr.alloc (.cells #[.string (bs o.kind),.int .i64 o.a,.int .i64 o.n,.string (bs o.data)] 104)) hol hz1 hz2 ho (H6.out.below belA)
     have hpl:=yac (size:=z) ho hol
     unfold POp.val at PC
     have hcs:=zsl old z o
     generalize (za6 old z o).1=c at *
     generalize (za6 old z o).2=m at *
     by_cases hc:c=0
     ·subst hc
      rw[zaj] at PC
      have HP:=hid PC
      clear PC hcs ho
      by_cases hfull:4000<out.length+m.length
      ·have hfullI:(4000:Int)<(out.length:Int)+m.length:=by omega
       have N:=hid (FULL.out rfl hfull)
       clear BAD FULL NEXT
       go_wp2_with fail
       refine HP.out.mono ?_
       rintro e w3⟨rfl,b3⟩
       have bel3:=zaa belA b3
       have B3:=BA.below b3
       have c8:w3.cell? ⟨7,0,none⟩=some (za0 (E 8)):=H8.out.below bel3
       unfold za0 at c8
       clear BA belA b3 HP B bel
       go_wp2_with (go_at_call 269;refine(zyw b out w3 B3).mono ?_;rintro e w4⟨rfl,rfl⟩)
       go_ret2
       exact⟨_,by rw[N.out,bs_nil];rfl,FErr.new E _ _ (by decide) _ _ (by simp) _ (by rw[N.out]),bel3.alloc bel3.size _⟩
      ·have hfullI:¬(4000:Int)<(out.length:Int)+m.length:=by omega
       have N:=hid (NEXT.out rfl hfull)
       clear BAD FULL NEXT
       go_wp2_with fail
       refine HP.out.mono ?_
       rintro e w3⟨rfl,b3⟩
       have bel3:=zaa belA b3
       have B3:=BA.below b3
       clear BA belA b3 HP B bel
       go_wp2_with (go_at_call 269;refine(zyw b out w3 B3).mono ?_;rintro e w4⟨rfl,rfl⟩)
       refine(ybt b out m w3 B3 (by omega)).mono ?_
       rintro e w4⟨rfl,B4,b4⟩
       have bel4:=bel3.trans (b4.mono hb)
       clear B3 bel3 b4
       go_wp2_with fail
       go_roundw
       case rel=>exact⟨k+1,out++m,by go_num,KK.out,by simp;omega,N.out,B4,bel4⟩
       case measure=>simp[intOf];omega
     ·have N:=hid (BAD.out hc)
      have HC:=hid hc
      rw[za9 E hc] at PC
      unfold za0 at PC
      have HP:=hid PC
      clear PC hcs hc BAD FULL NEXT ho
      go_wp2_with fail
      refine HP.out.mono ?_
      rintro e w3⟨rfl,b3⟩
      have bel3:=zaa belA b3
      clear BA belA b3 HP B bel
      go_wp2_with fail
      go_ret2
      exact⟨_,by rw[N.out,bs_nil];rfl,FErr.new E _ _ HC.out _ _ (by simp) _ (by rw[N.out]),bel3.alloc bel3.size _⟩
    ·have hltI:¬(k:Int)<l.length:=by omega
     have N:=hid (HF.out.trans (ylt (old:=old) (size:=z) (out:=out) (by omega:l.length≤k)))
     have BS:=hid (zwd b out wr B)
     go_wp2_with fail
     refine BS.out.mono ?_
     rintro e w5⟨rfl,b5⟩
     go_wp2_with fail
     go_ret2
     exact⟨_,by rw[N.out];rfl,by rw[N.out];exact FErr.nil E _,bel.trans (b5.mono hb)⟩
  ·have happ:=hid (zy1 (l:=l) hok hck)
   have HC:=hid hck
   clear hl h2 h3 h4 h6 h8 hok hck
   go_enter Tryz.func261,Tryz.ntmps261
   go_wp2_with fail
   refine HCK.out.mono ?_
   rintro e w1⟨v1,rfl,fe,b1⟩
   have FE:=hid fe
   obtain⟨t,p,hv⟩:=fe.some HC.out
   rw[hv] at FE ⊢
   clear fe hv
   go_wp2_with fail
   go_ret2
   exact⟨_,by rw[happ.out,bs_nil];rfl,by rw[happ.out];exact FE.out,b1⟩
 ·have c2:w.cell? ⟨0,0,none⟩=some (za0 (E 2)):=h2
  have happ:=hid (yhv (l:=l) hok)
  have hno:size<1∨¬size<1∧(64<size∨¬64<size∧(4000:Int)<old.length):=by omega
  clear hl h2 h3 h4 h6 h8 hok
  rcases hno with h|⟨h,h'|⟨h',h''⟩⟩
  all_goals
   go_enter Tryz.func261,Tryz.ntmps261
   go_wp2_with fail
   go_quiet (fail)
   go_wp2_with fail
   go_ret2
   exact⟨_,by rw[happ.out,bs_nil];rfl,by rw[happ.out];exact FErr.bare E _ (by decide),zac (Below.refl _ _) _⟩
def zlx(old:List UInt8)(size:Nat)(l:List POp):List UInt8:=l.flatMap fun o=>(za6 old size o).2
theorem zi4(old:List UInt8)(size:Nat)(a b:List POp):zlx old size (a++b)=zlx old size a++zlx old size b:=by simp[zlx]
theorem zt0(old:List UInt8)(size:Nat)(o:POp)(l:List POp):zlx old size (o::l)=(za6 old size o).2++zlx old size l:=by simp[zlx]
theorem zue(old:List UInt8)(size:Nat)(o:POp)(l:List POp)(i:Nat)(out:List UInt8):zn1 old size (o::l) i out=
  if (za6 old size o).1≠0 then (((za6 old size o).1,(i:Int)),[]) else if 4000<out.length+(za6 old size o).2.length then ((8,(i:Int)),[]) else zn1 old size l (i+1) (out++(za6 old size o).2):=by rw[zn1]
theorem zy2(old:List UInt8)(size:Nat)(i:Nat)(out:List UInt8):zn1 old size [] i out=((0,-1),out):=by rw[zn1]
theorem zuc(old:List UInt8)(size:Nat):∀(l:List POp)(i:Nat)(out:List UInt8),out.length≤4000→(zn1 old size l i out).1.1=0→
  (zn1 old size l i out)=((0,-1),out++zlx old size l)∧(∀o∈l,(za6 old size o).1=0)∧out.length+(zlx old size l).length≤4000
 | [],i,out,ho,h=>by rw[zy2];simp[zlx,ho]
 | o::l,i,out,ho,h=>by
  rw[zue] at h ⊢
  split at h
  ·rename_i hb;simp at h;exact absurd h hb
  ·rename_i hb
   split at h
   ·simp at h
   ·rename_i hf
    rw[if_neg hb,if_neg hf]
    obtain⟨h1,h2,h3⟩:=zuc old size l (i+1) _ (by simp;omega) h
    rw[h1,zt0]
    refine⟨by simp,fun x hx=>?_,by simp at h3 ⊢;omega⟩
    rcases List.mem_cons.1 hx with rfl|hx
    ·simpa using hb
    ·exact h2 x hx
theorem zud(old:List UInt8)(size:Nat):∀(l:List POp)(i:Nat)(out:List UInt8),(∀o∈l,(za6 old size o).1=0)→out.length+(zlx old size l).length≤4000→
  zn1 old size l i out=((0,-1),out++zlx old size l)
 | [],i,out,_,_=>by rw[zy2];simp[zlx]
 | o::l,i,out,h,h2=>by
  rw[zt0] at h2 ⊢
  simp at h2
  rw[zue,if_neg (by simp[h o (by simp)]),if_neg (by omega),zud old size l (i+1) _ (fun x hx=>h x (by simp[hx])) (by simp;omega)]
  simp
theorem zub{old:List UInt8}{size:Int}{l:List POp}(h:(zgn old size l).1.1=0):
  ((1≤size∧size≤64)∧old.length≤4000)∧(∀o∈l,opC o=0)∧zgn old size l=((0,-1),zlx old size.toNat l)∧(∀o∈l,(za6 old size.toNat o).1=0)∧(zlx old size.toNat l).length≤4000:=by
 by_cases hok:(1≤size∧size≤64)∧old.length≤4000
 ·by_cases hc:(zb4 l).1=0
  ·rw[zrm hok hc] at h ⊢
   obtain⟨h1,h2,h3⟩:=zuc old size.toNat l 0 [] (by simp) h
   exact⟨hok,(zgi l).1 hc,by rw[h1];simp,h2,by simpa using h3⟩
  ·rw[zy1 hok hc] at h;exact absurd h hc
 ·rw[yhv hok] at h;simp at h
theorem yhw{old:List UInt8}{size:Int}{l:List POp}(hok:(1≤size∧size≤64)∧old.length≤4000)(h1:∀o∈l,opC o=0)(h2:∀o∈l,(za6 old size.toNat o).1=0)(h3:(zlx old size.toNat l).length≤4000):
  zgn old size l=((0,-1),zlx old size.toNat l):=by
 rw[zrm hok ((zgi l).2 h1),zud old size.toNat l 0 [] h2 (by simpa using h3)];simp
theorem zri(old:List UInt8)(size:Nat)(o:POp):zlx old size [o]=(za6 old size o).2:=by simp[zlx]
def Built(old:List UInt8)(size:Nat)(out:List POp)(m:List UInt8):Prop:=zlx old size out=m∧∀o∈out,(za6 old size o).1=0
theorem Built.nil(old:List UInt8)(size:Nat):Built old size [] []:=⟨by simp[zlx],by simp⟩
theorem yog:zbz≠zcg:=fun h=>kne h.symm
theorem zsk{old:List UInt8}{size k:Nat}(hk:k+1≤zc8 size old.length):za6 old size ⟨zbz,k,1,[]⟩=(0,(old.drop (k * size)).take size):=by
 rw[zfm (by exact yog) (by show ¬_<(k:Int)+1;omega)]
 simp
theorem Built.snoc{old:List UInt8}{size:Nat}{out:List POp}{m p:List UInt8}{o:POp}(h:Built old size out m)(hp:za6 old size o=(0,p)):Built old size (out++[o]) (m++p):=by
 refine⟨by rw[zi4,zri,h.1,hp],?_⟩
 intro x hx
 rcases List.mem_append.1 hx with hx|hx
 ·exact h.2 x hx
 ·rw[List.mem_singleton] at hx;rw[hx,hp]
theorem zm0{α:Type}(l:List α):l=[]∨∃m o,l=m++[o]:=by
 rcases List.eq_nil_or_concat l with h|⟨m,o,h⟩
 ·exact .inl h
 ·exact .inr ⟨m,o,by rw[h,List.concat_eq_append]⟩
theorem Built.copy{old:List UInt8}{size k:Nat}{out:List POp}{m:List UInt8}(h:Built old size out m)(hk:k+1≤zc8 size old.length)(hok:∀o∈out,o.kind=zbz→0≤o.a∧0≤o.n):
  Built old size (zeh out k) (m++(old.drop (k * size)).take size):=by
 rcases zm0 out with rfl|⟨l,o,rfl⟩
 ·rw[zeg]
  exact h.snoc (zsk hk)
 ·by_cases hc:o.kind=zbz∧o.a+o.n=(k:Int)
  ·rw[zet l o k hc]
   obtain⟨hkd,hak⟩:=hc
   obtain⟨ha,hn⟩:=hok o (by simp) hkd
   have hkd2:o.kind≠zcg:=by rw[hkd];exact yog
   have hp:=zfm (old:=old) (size:=size) hkd2 (by rw[hak];omega:¬(zc8 size old.length:Int)<o.a+o.n)
   have hp2:=zfm (old:=old) (size:=size) (o:=⟨o.kind,o.a,o.n+1,o.data⟩) hkd2 (by show ¬_<o.a+(o.n+1);omega)
   have h1:Built old size l (zlx old size l):=⟨rfl,fun x hx=>h.2 x (by simp[hx])⟩
   have h2:=h1.snoc hp2
   have hm:=h.1
   rw[zi4,zri,hp] at hm
   refine⟨?_,h2.2⟩
   rw[h2.1,←hm,List.append_assoc]
   congr 1
   have e1:(o.n+1).toNat * size=o.n.toNat * size+size:=by
    rw[show(o.n+1).toNat=o.n.toNat+1 by omega,Nat.add_mul];omega
   have e2:k * size=o.a.toNat * size+o.n.toNat * size:=by rw[←Nat.add_mul];congr 1;omega
   show(old.drop (o.a.toNat * size)).take ((o.n+1).toNat * size)=(old.drop (o.a.toNat * size)).take (o.n.toNat * size)++_
   rw[e1,e2,List.take_add,List.drop_drop]
  ·rw[zdg l o k hc]
   exact h.snoc (zsk hk)
theorem Built.data{old:List UInt8}{size:Nat}{out:List POp}{m d:List UInt8}(h:Built old size out m):Built old size (zef out d) (m++d):=by
 rcases zm0 out with rfl|⟨l,o,rfl⟩
 ·rw[zee]
  exact h.snoc (zd3 rfl)
 ·by_cases hc:o.kind=zcg
  ·rw[zes l o d hc]
   have hp:=zd3 (old:=old) (size:=size) hc
   have hp2:=zd3 (old:=old) (size:=size) (o:=⟨o.kind,o.a,o.n,o.data++d⟩) hc
   have h1:Built old size l (zlx old size l):=⟨rfl,fun x hx=>h.2 x (by simp[hx])⟩
   have h2:=h1.snoc hp2
   have hm:=h.1
   rw[zi4,zri,hp] at hm
   refine⟨?_,h2.2⟩
   rw[h2.1,←hm,List.append_assoc]
  ·rw[zft l o d hc]
   exact h.snoc (zd3 rfl)
theorem OkOut.signs{out:List POp}{i:Nat}(h:OkOut out i):∀o∈out,o.kind=zbz→0≤o.a∧0≤o.n:=by
 intro o ho hk
 rcases h.2.2 o ho with h|h
 ·exact⟨h.2.2.1,by omega⟩
 ·exact absurd (hk.symm.trans h.1) yog
theorem znx(old:List UInt8)(l:List Blk)(size:Nat)(S:List UInt8)(hz:1≤size)(hl:l.length≤4000)
  (H:∀q,q<S.length→0≤zeo l (blk ((S.drop q).take size))→∃j:Nat,zeo l (blk ((S.drop q).take size))=j∧j+1≤zc8 size old.length∧(old.drop (j * size)).take size=(S.drop q).take size) :
  ∀(f q:Nat)(out:List POp)(m:List UInt8),S.length≤f+q→OkOut out q→Built old size out m→Built old size (mkA l size f (S.drop q) out) (m++S.drop q)
 | f,q,out,m,hf,ho,hb=>by
  by_cases hq:S.length≤q
  ·rw[List.drop_eq_nil_of_le hq,zm2]
   simpa using hb
  ·have hne:S.drop q≠[]:=by intro h;have:=congrArg List.length h;simp at this;omega
   cases f with
   | zero=>omega
   | succ f=>
    by_cases hfi:0≤zeo l (blk ((S.drop q).take size))
    ·obtain⟨j,e1,e2,e3⟩:=H q (by omega) hfi
     have hbd:=zlr l (blk ((S.drop q).take size))
     rw[zjy hne hfi,List.drop_drop]
     rw[e1] at hbd ⊢
     have b2:=hb.copy e2 ho.signs
     rw[e3] at b2
     have o2:=(ho.copy (k:=(j:Int)) ⟨by omega,by omega⟩).mono (j:=q+size) (by omega)
     have r1:=znx old l size S hz hl H f (q+size) _ _ (by omega) o2 b2
     rw[List.append_assoc,←List.drop_drop,List.take_append_drop] at r1
     rw[←List.drop_drop];exact r1
    ·rw[zjx hne hfi,List.drop_drop]
     have b2:=hb.data (d:=(S.drop q).take 1)
     have o2:=ho.data (d:=(S.drop q).take 1) (by simp;omega)
     have r1:=znx old l size S hz hl H f (q+1) _ _ (by omega) o2 b2
     rw[List.append_assoc,←List.drop_drop,List.take_append_drop] at r1
     rw[←List.drop_drop];exact r1
theorem zwc(old:List UInt8)(l:List Blk)(size:Nat)(S:List UInt8)(hz:1≤size)(hl:l.length≤4000)
  (H:∀q,q<S.length→0≤zeo l (blk ((S.drop q).take size))→∃j:Nat,zeo l (blk ((S.drop q).take size))=j∧j+1≤zc8 size old.length∧(old.drop (j * size)).take size=(S.drop q).take size) :
  Built old size (zc1 l size S) S:=by
 have h:=znx old l size S hz hl H S.length 0 [] [] (by omega) (OkOut.nil 0) (Built.nil old size)
 unfold zc1
 simpa using h
theorem ybw{old S:List UInt8}{size:Nat}{l:List POp}(hz:1≤size)(hz2:size≤64)(ho:old.length≤4000)(hS:S.length≤4000)(hok:OkOut l S.length)(h:Built old size l S):zgn old size l=((0,-1),S):=by
 have h1:=yhw (old:=old) (size:=(size:Int)) (l:=l) ⟨⟨by omega,by omega⟩,ho⟩ (hok.chk hS) (by simpa using h.2) (by simpa [h.1] using hS)
 rw[h1]
 have:zlx old (size:Int).toNat l=S:=by simpa using h.1
 rw[this]
theorem ygl(x:Blk):zeo [] x=-1:=by have:=ya9 [] x 0 (by simp);unfold zeo;exact this
theorem yb8(S:List UInt8)(size:Nat)(hz:1≤size)(hz2:size≤64)(hS:S.length≤4000):zgn [] size (zc1 [] size S)=((0,-1),S):=by
 refine ybw hz hz2 (by simp) hS (zlp _ size S hz (by simp)) (zwc [] [] size S hz (by simp) ?_)
 intro q _ h
 rw[ygl] at h
 omega
def whC(old:List UInt8)(size:Int)(l:List POp)(n c:Int):Nat×Int:=if (zgn old size l).1.1≠0 then (zgn old size l).1 else if ((zgn old size l).2.length:Int)=n∧(za5 (zgn old size l).2:Int)=c then (0,-1) else (10,-1)
def whL(old:List UInt8)(size:Int)(l:List POp)(n c:Int):List UInt8:=if (whC old size l n c).1=0 then (zgn old size l).2 else []
theorem yl2{old:List UInt8}{size:Int}{l:List POp}{n c:Int}(h:(zgn old size l).1.1≠0):whC old size l n c=(zgn old size l).1∧whL old size l n c=[]:=by
 have e:whC old size l n c=(zgn old size l).1:=by unfold whC;rw[if_pos h]
 exact⟨e,by unfold whL;rw[e,if_neg h]⟩
theorem zun{old:List UInt8}{size:Int}{l:List POp}{n c:Int}(h:(zgn old size l).1.1=0)(h2:((zgn old size l).2.length:Int)=n∧(za5 (zgn old size l).2:Int)=c):whC old size l n c=(0,-1)∧whL old size l n c=(zgn old size l).2:=by
 have e:whC old size l n c=(0,-1):=by unfold whC;rw[if_neg (by simp[h]),if_pos h2]
 exact⟨e,by unfold whL;rw[e,if_pos rfl]⟩
theorem yl1{old:List UInt8}{size:Int}{l:List POp}{n c:Int}(h:(zgn old size l).1.1=0)(h2:¬(((zgn old size l).2.length:Int)=n∧(za5 (zgn old size l).2:Int)=c)):whC old size l n c=(10,-1)∧whL old size l n c=[]:=by
 have e:whC old size l n c=(10,-1):=by unfold whC;rw[if_neg (by simp[h]),if_neg h2]
 exact⟨e,by unfold whL;rw[e,if_neg (by decide)]⟩
attribute [irreducible] whC whL
theorem yb9(E:Nat→Addr)(old:List UInt8)(size:Int)(s0:Option Addr)(n0 c0:Nat)(l:List POp)(n c:Int)(w:World)(hl:SliceIs w (.slice s0 n0 c0) 4 (za3 l))
  (h2:Has E w 2) (h3:Has E w 3) (h4:Has E w 4) (h6:Has E w 6) (h8:Has E w 8) (h10:Has E w 10) :
  Calls Tryz.prog 251 #[.string (bs old),.int .i64 size,.slice s0 n0 c0,.int .i64 n,.int .u32 c] w fun e w'=>∃v,e=.returned (.tuple #[.string (bs (whL old size l n c)),v])∧FErr E w' v (whC old size l n c).1 (whC old size l n c).2∧Below w.heap.size w w':=by
 have AP:=hid (yhu E old size s0 n0 c0 l w hl h2 h3 h4 h6 h8)
 have H10:=hid h10
 clear hl h2 h3 h4 h6 h8 h10
 by_cases hok:(zgn old size l).1.1=0
 ·have hlen:=(zub hok).2.2.2.2
  have hsnd:=(zub hok).2.2.1
  have hl4:(zgn old size l).2.length≤4000:=by rw[hsnd];exact hlen
  have SU:=hid (fun w'=>zhc (bs (zgn old size l).2) w' (by rw[zae];omega))
  rw[zai] at SU
  have YES:=hid (zun (n:=n) (c:=c) hok)
  have NO:=hid (yl1 (n:=n) (c:=c) hok)
  have HOK:=hid hok
  clear hlen hsnd hok
  generalize (zgn old size l).2=out at *
  generalize (zgn old size l).1=p at *
  by_cases hn:(out.length:Int)=n
  ·by_cases hc:(za5 out:Int)=c
   ·have Z:=hid (YES.out ⟨hn,hc⟩)
    subst hn
    subst hc
    clear YES NO
    go_enter Tryz.func251,Tryz.ntmps251
    go_wp2_with fail
    refine AP.out.mono ?_
    rintro e w1⟨v,rfl,fe,b1⟩
    rw[HOK.out] at fe
    rw[fe.zero]
    clear fe
    go_wp2_with (go_at_call 114;refine(SU.out _).mono ?_;rintro e w2⟨rfl,rfl⟩)
    go_ret2
    exact⟨.nilIface,zqb (by rw[Z.out.2];rfl) rfl,by rw[Z.out.1];exact FErr.nil E _,b1⟩
   ·have Z:=hid (NO.out (fun h=>hc h.2))
    subst hn
    have hcb:((za5 out:Int)==c)=false:=by rw[beq_eq_false_iff_ne];exact hc
    clear YES NO hc
    go_enter Tryz.func251,Tryz.ntmps251
    go_wp2_with fail
    refine AP.out.mono ?_
    rintro e w1⟨v,rfl,fe,b1⟩
    rw[HOK.out] at fe
    rw[fe.zero]
    clear fe
    have c10:w1.cell? ⟨14,0,none⟩=some (za0 (E 10)):=H10.out.below b1
    unfold za0 at c10
    go_wp2_with (go_at_call 114;refine(SU.out _).mono ?_;rintro e w2⟨rfl,rfl⟩)
    go_ret2
    exact⟨.iface 338 (.pointer (some (E 10))),zqb (by rw[Z.out.2,bs_nil];rfl) rfl,by rw[Z.out.1];have h:=FErr.ev E w1 10;rw[zep E (by decide)] at h;exact h,b1⟩
  ·have Z:=hid (NO.out (fun h=>hn h.1))
   have hcb:((out.length:Int)==n)=false:=by rw[beq_eq_false_iff_ne];exact hn
   clear YES NO hn
   go_enter Tryz.func251,Tryz.ntmps251
   go_wp2_with fail
   refine AP.out.mono ?_
   rintro e w1⟨v,rfl,fe,b1⟩
   rw[HOK.out] at fe
   rw[fe.zero]
   clear fe
   have c10:w1.cell? ⟨14,0,none⟩=some (za0 (E 10)):=H10.out.below b1
   unfold za0 at c10
   go_wp2_with (go_at_call 114;refine(SU.out _).mono ?_;rintro e w2⟨rfl,rfl⟩)
   go_ret2
   exact⟨.iface 338 (.pointer (some (E 10))),zqb (by rw[Z.out.2,bs_nil];rfl) rfl,by rw[Z.out.1];have h:=FErr.ev E w1 10;rw[zep E (by decide)] at h;exact h,b1⟩
 ·have Z:=hid (yl2 (n:=n) (c:=c) hok)
  have HOK:=hid hok
  rw[Z.out.1,Z.out.2]
  clear hok
  go_enter Tryz.func251,Tryz.ntmps251
  go_wp2_with fail
  refine AP.out.mono ?_
  rintro e w1⟨v,rfl,fe,b1⟩
  obtain⟨t,p,hv⟩:=fe.some HOK.out
  have FE:=hid fe
  clear fe
  rw[hv] at FE ⊢
  go_wp2_with fail
  go_ret2
  exact⟨.iface t (.pointer (some p)),zqb (by rw[bs_nil];rfl) rfl,FE.out,b1⟩
end Go.Proofs.YtakhkcaihhpehaaGreatDoor
