/- Texts of one proof, one behind the other: Err, Laid, LaidT, Num, FilPlain, Sum. -/
import Derived.Test.YtakhkcaihhpehaaGreatDoorRows
import Derived.Test.YtakhkcaihhpehaaGreatDoorB02
import Derived.Test.YtakhkcaihhpehaaGreatDoorB01
import Derived.Stop.LaidTwo
import Derived.MakeChecks
import Derived.IntWalk
import Derived.Outline
import Derived.Lib.Bytealg
namespace Go.Proofs.YtakhkcaihhpehaaGreatDoor
open Go.RowKit
open Lib (hid)
set_option linter.unusedVariables false
set_option maxRecDepth 100000
set_option maxHeartbeats 51200000
def za0(a:Addr):Value:=.iface 338 (.pointer (some a))
def ev(E:Nat→Addr)(c:Nat):Value:=if c=0 then .nilIface else za0 (E c)
theorem zaj(E:Nat→Addr):ev E 0=.nilIface:=rfl
theorem zep(E:Nat→Addr){c:Nat}(h:c≠0):ev E c=.iface 338 (.pointer (some (E c))):=by simp[ev,h,za0]
theorem za9(E:Nat→Addr){c:Nat}(h:c≠0):ev E c=za0 (E c):=by simp[ev,h]
def gOf:Nat→Nat
 | 1=>1
 | 2=>0
 | 3=>6
 | 4=>17
 | 5=>5
 | 6=>3
 | 7=>999
 | 8=>7
 | 9=>10
 | 10=>14
 | 11=>4
 | 12=>8
 | 13=>15
 | 14=>16
 | _=>999
def Has(E:Nat→Addr)(w:World)(c:Nat):Prop:=w.cell? ⟨gOf c,0,none⟩=some (za0 (E c))
theorem Has.below{E:Nat→Addr}{w w':World}{c:Nat}(h:Has E w c)(hb:Below w.heap.size w w'):Has E w' c:=
 (hb.cell (p:=⟨gOf c,0,none⟩) (World.block_lt_of_cell? w _ h)).trans h
def bv(c:UInt8):Value:=.int .u8 c.toNat
theorem zpg{P:Program}{w:World}{base:Nat}{E T D:TypeId}{g cap n:Nat}{l:List UInt8}(h:w.ownsRow base E 1 (.slice (some ⟨g,0,none⟩) n cap) n (l.map bv))
  (hs:P.underlying T=some (.slice E)) (he:P.underlying E=some (.int .u8)) (hd:P.underlying D=some .string) :
  (convert T D (.slice (some ⟨g,0,none⟩) n cap)).run P w=.ok (.string (bs l)) w:=by
 have hl:l.length=n:=by have:=h.1;simpa using this
 have hc:=h.cells (g:=g) rfl
 have:=run_convert_bytes_back (P:=P) w T D E ⟨g,0,none⟩ cap l hs he hd (fun j hj=>by
  have:=hc j (bv l[j]) (by simp[hj])
  simpa [bv] using this)
 rw[hl] at this
 rw[this]
 congr 2
 exact zg0 (by simp)
attribute [irreducible] ev za0
section
open Go.ChangeShapes
def ye7:Nat→String
 | 1=> "packhorse/api.ErrText"
 | 2=> "packhorse/api.ErrBound"
 | 3=> "packhorse/api.ErrShape"
 | 4=> "packhorse/api.ErrKind"
 | 5=> "packhorse/api.ErrName"
 | 6=> "packhorse/api.ErrNone"
 | 7=> "packhorse/api.ErrExist"
 | 8=> "packhorse/api.ErrFull"
 | 9=> "packhorse/api.ErrOrder"
 | 10=> "packhorse/api.ErrSum"
 | 11=> "packhorse/api.ErrStale"
 | 12=> "packhorse/api.ErrOff"
 | 13=> "strconv.ErrSyntax"
 | 14=> "strconv.ErrRange"
 | _=> ""
def zit:Nat→List UInt8
 | 1=>[112,97,99,107,104,111,114,115,101,58,32,116,101,120,116]
 | 2=>[112,97,99,107,104,111,114,115,101,58,32,98,111,117,110,100]
 | 3=>[112,97,99,107,104,111,114,115,101,58,32,115,104,97,112,101]
 | 4=>[112,97,99,107,104,111,114,115,101,58,32,107,105,110,100]
 | 5=>[112,97,99,107,104,111,114,115,101,58,32,110,97,109,101]
 | 6=>[112,97,99,107,104,111,114,115,101,58,32,110,111,110,101]
 | 7=>[112,97,99,107,104,111,114,115,101,58,32,101,120,105,115,116]
 | 8=>[112,97,99,107,104,111,114,115,101,58,32,102,117,108,108]
 | 9=>[112,97,99,107,104,111,114,115,101,58,32,111,114,100,101,114]
 | 10=>[112,97,99,107,104,111,114,115,101,58,32,115,117,109]
 | 11=>[112,97,99,107,104,111,114,115,101,58,32,115,116,97,108,101]
 | 12=>[112,97,99,107,104,111,114,115,101,58,32,111,102,102]
 | 13=>[105,110,118,97,108,105,100,32,115,121,110,116,97,120]
 | 14=>[118,97,108,117,101,32,111,117,116,32,111,102,32,114,97,110,103,101]
 | _=>[]
def zka(c:Nat):String×DataW Unit:=(ye7 c,.iface "*errors.errorString" (.ptr (.agg [.lit (.string (zit c))])))
def Sent(W:World)(a:Addr):Prop:=(∃cs t,W.heap[a.block]?=some (.cells cs t (0,0)))∧∃s,W.cell? a=some (.string s)
theorem star: "*"++ "errors.errorString"= "*errors.errorString":=by decide
theorem rowES(u:TypeId)(h:Tryz.prog.typeName? 3 u=some "*errors.errorString"):u=338:=
 typeName_ptr_named (nm:= "errors.errorString") (by rw[star];kernel_rfl) (by kernel_rfl) (by decide) u (by rw[star];exact h)
theorem ype:Tryz.prog.cellsOf 340=1:=by kernel_rfl
theorem yll:Tryz.prog.cellsOf 9=1:=by kernel_rfl
noncomputable def known (l:List Nat):Bool:=l.all fun c=>Tryz.prog.globalNamed (ye7 c)==some (gOf c) && (Tryz.prog.globals[gOf c]?).map (·.type)==some 41
end
section
open Go.ChangeShapes
theorem zk6{W:World}:∀(l:List Nat)(ps:List MemPlace),known l=true→l.Nodup→
  DataW.LaidVars Tryz.prog W (l.map zka) ps→ps.Nodup→
  (∀b off,MemPlace.cell b off∈ps→(∃c t,W.heap[b]?=some (.cells c t (0,0)))∧∀u v,W.cell? ⟨b,off,none⟩=some (.iface u v)→Value.okWide Tryz.prog W .any 0 u v)→
  ∃E:Nat→Addr,(∀c∈l,Has E W c∧Sent W (E c)∧MemPlace.cell (E c).block (E c).off∈ps∧W.cell? (E c)=some (.string (bs (zit c))))∧∀c∈l,∀c'∈l,c≠c'→E c≠E c'
 | [],ps,_,_,_,_,_=>⟨fun _=>⟨0,0,none⟩,fun _ h=>(by cases h),fun _ h=>(by cases h)⟩
 | c::l,ps,hk,hl,h,hnd,hrows=>by
  obtain⟨g0,t0,cs0,f0,p0,q0,hg0,ht0,hv0,hd0,hr,rfl⟩:=h
  have hk':Tryz.prog.globalNamed (ye7 c)=some (gOf c)∧(Tryz.prog.globals[gOf c]?).map (·.type)=some 41∧known l=true:=by
   simp only[known,List.all_cons,Bool.and_eq_true,beq_iff_eq] at hk
   exact⟨hk.1.1,hk.1.2,hk.2⟩
  obtain⟨k1,k2,k3⟩:=hk'
  generalize hgg:gOf c=G at k1 k2
  obtain⟨E,hE1,hE2⟩:=zk6 l q0 k3 (List.nodup_cons.1 hl).2 hr (List.Nodup.sublist (List.sublist_append_right _ _) hnd) (fun b off hm=>hrows b off (List.mem_append_right _ hm))
  obtain rfl:=Option.some.inj (k1.symm.trans hg0)
  obtain rfl:=Option.some.inj (k2.symm.trans ht0)
  have hc0:c∉l:=(List.nodup_cons.1 hl).1
  obtain⟨l0⟩:=cs0
  have ok0:∀u v,l0=[.iface u v]→Value.okWide Tryz.prog W .any 0 u v:=fun u v e=>by
   subst e
   exact(hrows G 0 (by simp[MemPlace.row])).2 u v (by simpa using World.var?_cell hg0 hv0 0)
  obtain⟨a0,s0,rfl,hca,hs0,hz0,rfl⟩:=errorString_of_trod Tryz.underlying41 rowES Tryz.underlying338 Tryz.underlying340 rfl rfl Tryz.underlying9 ype yll hd0 ok0
  have hmem:MemPlace.cell a0.block a0.off∈MemPlace.row ⟨G,0,none⟩ 1++MemPlace.row a0 1++q0:=by simp[MemPlace.row]
  have hout:∀c'∈l,E c'≠a0:=by
   intro c' hc' e
   have:=(hE1 c' hc').2.2.1
   rw[e] at this
   rw[List.nodup_append] at hnd
   exact hnd.2.2 _ (by simp[MemPlace.row]) _ this rfl
  refine⟨fun x=>if x=c then a0 else E x,?_,?_⟩
  ·intro x hx
   by_cases e:x=c
   ·subst e
    simp only[if_true]
    refine⟨?_,⟨(hrows a0.block a0.off hmem).1,s0,hca⟩,hmem,by rw[hca,zg0 hs0]⟩
    have:=World.var?_cell hg0 hv0 0
    unfold Has
    rw[hgg]
    simpa [za0] using this
   ·have hx':x∈l:=by
     rcases List.mem_cons.1 hx with h|h
     ·exact absurd h e
     ·exact h
    simp only[if_neg e]
    have:=hE1 x hx'
    refine⟨?_,this.2.1,List.mem_append_right _ this.2.2.1,this.2.2.2⟩
    have h1:=this.1
    unfold Has at h1 ⊢
    simpa [if_neg e] using h1
  ·intro x hx y hy hxy
   by_cases e:x=c
   ·subst e
    have hy':y∈l:=by
     rcases List.mem_cons.1 hy with h|h
     ·exact absurd h.symm hxy
     ·exact h
    simp only[if_true,if_neg (Ne.symm hxy)]
    exact(hout y hy').symm
   ·have hx':x∈l:=by
     rcases List.mem_cons.1 hx with h|h
     ·exact absurd h e
     ·exact h
    by_cases e':y=c
    ·subst e'
     simp only[if_neg e,if_true]
     exact hout x hx'
    ·have hy':y∈l:=by
      rcases List.mem_cons.1 hy with h|h
      ·exact absurd h e'
      ·exact h
     simp only[if_neg e,if_neg e']
     exact hE2 x hx' y hy' hxy
theorem zq9{W:World}{l:List Nat}(h:laidMet Tryz.prog (l.map zka) W)(hk:known l=true)(hl:l.Nodup):
  ∃E:Nat→Addr,(∀c∈l,Has E W c∧Sent W (E c))∧(∀c∈l,∀c'∈l,c≠c'→E c≠E c')∧∀c∈l,W.cell? (E c)=some (.string (bs (zit c))):=by
 obtain⟨ps,h1,h2,h3⟩:=h
 obtain⟨E,e1,e2⟩:=zk6 l ps hk hl h1 h2 h3
 exact⟨E,fun c hc=>⟨(e1 c hc).1,(e1 c hc).2.1⟩,e2,fun c hc=>(e1 c hc).2.2.2⟩
end
theorem yi1{a a' b b' c c':Value}(h1:a=a')(h2:b=b')(h3:c=c'):Ending.returned (.tuple #[a,b,c])=.returned (.tuple #[a',b',c']):=by rw[h1,h2,h3]
theorem zqb{a a' b b':Value}(h1:a=a')(h2:b=b'):Ending.returned (.tuple #[a,b])=.returned (.tuple #[a',b']):=by rw[h1,h2]
theorem pow7(k:Nat):((2:Int) ^ (7 * k))=((128 ^ k:Nat):Int):=by
 rw[Int.pow_mul];simp
theorem yqs(k:Nat)(h:k<6):128 ^ k≤34359738368:=by
 have:=Nat.pow_le_pow_right (show 0<128 by decide) (show k≤5 by omega)
 simpa using this
theorem yf7(E:Nat→Addr)(s:ByteArray)(w:World)(hs:s.size≤1000000000)(hT:Has E w 1)(hB:Has E w 2):
  Calls Tryz.prog 242 #[.string s] w fun e w'=>e=.returned (.tuple #[.int .i64 (gN s.data.toList),.string (bs (gR s.data.toList)),ev E (gC s.data.toList)])∧Drew w w':=by
 have hl:s.data.toList.length=s.size:=by simp
 have c1:w.cell? ⟨1,0,none⟩=some (za0 (E 1)):=hT
 have c2:w.cell? ⟨0,0,none⟩=some (za0 (E 2)):=hB
 clear hT hB
 have HL:=hid hl
 clear hl
 have fin:∀(n:Nat)(r:List UInt8)(c:Nat),yh3 s.data.toList=(n,r,c)→gN s.data.toList=n∧gR s.data.toList=r∧gC s.data.toList=c:=by
  intro n r c h;simp[gN,gR,gC,h]
 have FIN:=hid fin
 clear fin
 rcases Nat.lt_or_ge 6 s.size with h6|h6
 all_goals
  have h6I:(6:Int)<s.size∨(s.size:Int)≤6:=by omega
  go_enter Tryz.func242,Tryz.ntmps242
  go_wp2_with fail
  go_loopw [5,6,7,11] (fun n _ _ i wr=>∃k acc:Nat,k≤s.size∧k≤6∧i=.int .i64 k∧n=.int .i64 acc∧acc<128 ^ k∧yh3 s.data.toList=zir (6 - k) k acc (s.data.toList.drop k)∧wr=w) (fun _ _ _ i _=>6 - (intOf i).toNat)
  case atStart=>exact⟨0,0,by omega,by omega,rfl,rfl,by decide,by simp[yh3],rfl⟩
  case round=>
   obtain⟨k,acc,hk,hk6,rfl,rfl,hacc,hget,rfl⟩:=hrel
   by_cases hlt:k<s.size∧k<6
   ·obtain⟨hlt1,hlt2⟩:=hlt
    have hI1:(k:Int)<6:=by omega
    have hcb:s[k].toNat<256:=s[k].toNat_lt
    have hdrop:s.data.toList.drop k=s[k]::s.data.toList.drop (k+1):=by
     rw[List.drop_eq_getElem_cons (by rw[HL.out];exact hlt1)];rfl
    have h5:6 - k=(5 - k)+1:=by omega
    rw[hdrop,h5] at hget
    have HG:=hid hget
    clear hget hdrop h5
    have hp:=yqs k hlt2
    have hx1:s[k].toNat % 128 * 128 ^ k≤127 * 34359738368:=Nat.mul_le_mul (by omega) hp
    have hx2:((s[k].toNat:Int) % 128 * 2 ^ (7 * k))=((s[k].toNat % 128 * 128 ^ k:Nat):Int):=by rw[pow7];simp
    have hx3:s[k].toNat % 128 * 128 ^ k<128 ^ (k+1) - 128 ^ k+1:=by
     rw[Nat.pow_succ]
     have:s[k].toNat % 128 * 128 ^ k≤127 * 128 ^ k:=Nat.mul_le_mul_right _ (by omega)
     omega
    obtain⟨x,hx⟩:∃x,x=s[k].toNat % 128 * 128 ^ k:=⟨_,rfl⟩
    rw[←hx] at hx1 hx2 hx3
    have hacc2:acc+x<128 ^ (k+1):=by
     have:128 ^ k≤128 ^ (k+1):=Nat.pow_le_pow_right (by decide) (by omega)
     omega
    have hacc3:acc≤34359738368:=by omega
    have HX:=hid hx
    have HA:=hid hacc2
    clear hx hx3 hacc hacc2 hp
    by_cases h128:128≤s[k].toNat
    ·have h128I:(128:Int)≤s[k].toNat:=by omega
     go_wp2_with fail
     go_roundw
     case rel=>exact⟨k+1,acc+x,by omega,by omega,by go_num,by go_num,HA.out,by rw[HG.out,znh h128,HX.out];congr 1;omega,by first|rfl|trivial⟩
     case measure=>simp[intOf];omega
    ·have h128I:(s[k].toNat:Int)<128:=by omega
     have hlt3:s[k].toNat<128:=by omega
     by_cases hzk:s[k].toNat=0∧0<k
     ·obtain⟨hz,hk0⟩:=hzk
      have hg:=FIN.out _ _ _ (HG.out.trans (ztd hz hk0))
      have HGG:=hid hg
      clear hg
      go_wp2_with fail
      go_quiet (fail)
      go_wp2_with fail
      go_ret3
      exact⟨yi1 (by rw[HGG.out.1];rfl) (by rw[HGG.out.2.1,bs_nil];rfl) (by rw[HGG.out.2.2,za9 E (by decide)];rfl),Drew.drewN _ _⟩
     ·have hor:s[k].toNat≠0∨s[k].toNat=0∧¬0<k:=by omega
      have w1:IntKind.i64.wrap ((k:Int)+1)=(k:Int)+1:=IntWalk.i64_in _ (by omega)
      have w2:((k:Int)+1).toNat=k+1:=by omega
      have w3:(0:Int)≤(k:Int)+1:=by omega
      have w4:(k:Int)+1≤s.size:=by omega
      rcases hor with hz|⟨hz,hk0⟩
      ·by_cases hov:1099511627776<acc+x
       ·have hovI:(1099511627776:Int)<(acc:Int)+x:=by omega
        have hg:=FIN.out _ _ _ (HG.out.trans (zte hlt3 hzk (by rw[←HX.out];exact hov)))
        have HGG:=hid hg
        clear hg hzk
        go_wp2_with fail
        go_quiet (fail)
        go_wp2_with fail
        go_ret3
        exact⟨yi1 (by rw[HGG.out.1];rfl) (by rw[HGG.out.2.1,bs_nil];rfl) (by rw[HGG.out.2.2,za9 E (by decide)];rfl),Drew.drewN _ _⟩
       ·have hovI:¬(1099511627776:Int)<(acc:Int)+x:=by omega
        have hg:=FIN.out _ _ _ (HG.out.trans (zj5 hlt3 hzk (by rw[←HX.out];exact hov)))
        have HGG:=hid hg
        clear hg hzk
        go_wp2_with fail
        go_quiet (fail)
        go_wp2_with fail
        go_ret3
        exact⟨yi1 (by rw[HGG.out.1,←HX.out];exact congrArg (Value.int .i64) (by omega)) (by rw[HGG.out.2.1];exact congrArg Value.string (zhv s (k+1))) (by rw[HGG.out.2.2,zaj];rfl),Drew.drewN _ _⟩
      ·have hx0:x=0:=by rw[HX.out,hz];simp
       have hov:¬1099511627776<acc+x:=by omega
       have hovI:¬(1099511627776:Int)<(acc:Int):=by omega
       have hg:=FIN.out _ _ _ (HG.out.trans (zj5 hlt3 hzk (by rw[←HX.out];exact hov)))
       rw[←HX.out,hx0] at hg
       have HGG:=hid hg
       clear hg hzk hov hx0
       go_wp2_with fail
       go_quiet (fail)
       go_wp2_with fail
       go_ret3
       exact⟨yi1 (by rw[HGG.out.1];rfl) (by rw[HGG.out.2.1];exact congrArg Value.string (zhv s (k+1))) (by rw[HGG.out.2.2,zaj];rfl),Drew.drewN _ _⟩
   ·have hge:¬(k:Int)<6∨¬(k:Int)<s.size:=by omega
    have hg:gN s.data.toList=0∧gR s.data.toList=[]∧gC s.data.toList=1:=by
     apply FIN.out
     rw[hget]
     by_cases hk6':k=6
     ·rw[hk6'];exact zx8 _ _ _
     ·rw[List.drop_eq_nil_of_le (by rw[HL.out];omega)];exact zx7 _ _ _
    have HGG:=hid hg
    have hks:k=6∨k=s.size:=by omega
    clear hg hget hacc
    go_wp2_with fail
    all_goals first
     | (go_quiet (fail);go_wp2_with fail;go_ret3;exact⟨yi1 (by rw[HGG.out.1];rfl) (by rw[HGG.out.2.1,bs_nil];rfl) (by rw[HGG.out.2.2,za9 E (by decide)];rfl),Drew.drewN _ _⟩)
     | (exfalso;omega)
theorem zsm{w:World}{base:Nat}{e:TypeId}{size:Nat}{v:Value}{n:Nat}{xs:List Value}(h:w.ownsRow base e size v n xs){j:Nat}(hj:v.ownBlock=some j):base≤j:=by
 obtain⟨_,h2⟩:=h
 rcases h2 with⟨rfl,h2⟩|⟨g,cap,cur,hv,hg,_⟩
 ·simp[Value.ownBlock] at hj
 ·subst hv;simp[Value.ownBlock] at hj;omega
theorem infoByte:(Tryz.prog.info? 5).map (fun i=>(i.zero,i.size,i.bytes))=some (some (.int .u8 0),1,1):=by kernel_rfl
theorem put_yes(n:Nat)(w:World)(h:n≤1099511627776):
  Calls Tryz.prog 258 #[.int .i64 n] w fun e w'=>e=.returned (.tuple #[.string (bs (num n)),.nilIface])∧Below w.heap.size w w':=by
 obtain⟨i0,hi,hz0,hz1,hz2⟩:=info_parts infoByte
 have hI:¬(1099511627776:Int)<n:=by omega
 go_enter Tryz.func258,Tryz.ntmps258
 go_wp2_with fail
 go_loopw [0,4] (fun m v wr=>∃(pre:List UInt8)(k m':Nat),m=.int .i64 m'∧pre.length+k=6∧m'<128 ^ (k+1)∧m'≤1099511627776∧num n=pre++zst k m'∧wr.ownsRow w.heap.size 5 1 v pre.length (pre.map bv)∧Below w.heap.size w wr)
  (fun m _ _=>(intOf m).toNat)
 case atStart=>exact⟨[],6,n,rfl,rfl,by omega,h,by simp[num],World.ownsRow_nil _ _ _ _,Below.refl _ _⟩
 case round=>
  obtain⟨pre,k,m,rfl,hk,hm,hmb,hnum,hown,hbel⟩:=hrel
  have HN:=hid hnum
  clear hnum
  by_cases h128:128≤m
  ·have h128I:(128:Int)≤m:=by omega
   have hbyte:((UInt8.ofNat (m % 128+128)).toNat:Int)=(m:Int) % 128+128:=by rw[zcs _ (by omega)];omega
   have HB:=hid hbyte
   clear hbyte
   go_wp2_with (at_builtin;refine wpList_append_own _ rfl _ _ 105 rfl w.heap.size 5 i0 (.int .u8 0) 1 1 Tryz.underlying105 hi hz0 hz1 hz2 rfl (by decide) _ _ _ rfl (hown.alloc _) ⟨wr.heap.size,0,none⟩ 1 1 [.int .u8 ((m:Int) % 128+128)] rfl rfl (zc4 (by simp)) (zbs rfl) (by unfold maxLen;omega) (by omega) (by have:=hbel.size;simp;omega) ?_;intro v' w1 hown' hgrow _)
   have hk0:0<k:=by
    rcases Nat.eq_zero_or_pos k with h0|h0
    ·subst h0;simp at hm;omega
    ·exact h0
   refine⟨⟨pre++[UInt8.ofNat (m % 128+128)],k - 1,m / 128,congrArg (Value.int .i64) (by omega),by simp;omega,?_,by omega,?_,?_,?_⟩,by simp[intOf];omega⟩
   ·have:128 ^ (k+1)=128 ^ (k - 1+1) * 128:=by rw[←Nat.pow_succ];congr 1;omega
    exact Nat.div_lt_of_lt_mul (by omega)
   ·rw[HN.out]
    obtain⟨j,rfl⟩:∃j,k=j+1:=⟨k - 1,by omega⟩
    rw[zxr j m h128];simp
   ·have e:(pre++[UInt8.ofNat (m % 128+128)]).map bv=pre.map bv++[Value.int .u8 ((m:Int) % 128+128)]:=by
     simp only[List.map_append,List.map_cons,List.map_nil,bv,HB.out]
    rw[e,List.length_append];exact hown'
   ·refine(hbel.alloc hbel.size _).grown hgrow (Nat.le_trans hbel.size (by simp)) ?_
    intro j hj
    exact zsm hown hj
  ·have h128I:¬(128:Int)≤m:=by omega
   have hbyte:((UInt8.ofNat m).toNat:Int)=(m:Int):=by rw[zcs _ (by omega)]
   have HB:=hid hbyte
   clear hbyte
   have hlast:num n=pre++[UInt8.ofNat m]:=by rw[HN.out,zot k m (by omega)]
   have HL:=hid hlast
   clear hlast hm
   go_wp2_with (at_builtin;refine wpList_append_own _ rfl _ _ 105 rfl w.heap.size 5 i0 (.int .u8 0) 1 1 Tryz.underlying105 hi hz0 hz1 hz2 rfl (by decide) _ _ _ rfl (hown.alloc _) ⟨wr.heap.size,0,none⟩ 1 1 [.int .u8 (m:Int)] rfl rfl (zc4 (by simp)) (zbs rfl) (by unfold maxLen;omega) (by omega) (by have:=hbel.size;simp;omega) ?_;intro v' w1 hown' hgrow _;obtain⟨g',cap',rfl,hg1,hg2,hg3,hg4,hg5,hg6⟩:=zgc hown' (by omega);have hconv:=zpg (l:=pre++[UInt8.ofNat m]) (T:=105) (D:=9) (by simp only[List.map_append,List.map_cons,List.map_nil,bv,HB.out];exact hown') Tryz.underlying105 Tryz.underlying5 Tryz.underlying9)
   go_ret2
   refine⟨zqb (by rw[HL.out];rfl) rfl,?_⟩
   refine(hbel.alloc hbel.size _).grown hgrow (Nat.le_trans hbel.size (by simp)) ?_
   intro j hj
   exact zsm hown hj
theorem put_no(E:Nat→Addr)(n:Int)(w:World)(h:¬(0≤n∧n≤1099511627776))(hB:Has E w 2):
  Calls Tryz.prog 258 #[.int .i64 n] w fun e w'=>e=.returned (.tuple #[.string (bs []),ev E 2])∧Below w.heap.size w w':=by
 have c2:w.cell? ⟨0,0,none⟩=some (za0 (E 2)):=hB
 clear hB
 have h1:n<0∨¬n<0∧1099511627776<n:=by omega
 rcases h1 with h0|⟨h0,h1⟩
 all_goals
  go_enter Tryz.func258,Tryz.ntmps258
  go_wp2_with fail
  go_quiet (fail)
  go_wp2_with fail
  go_ret2
  exact⟨zqb (by rw[bs_nil];rfl) (by rw[za9 E (by decide)];rfl),Drew.below (Drew.drewN _ _) _⟩
theorem ydx(E:Nat→Addr)(n:Int)(w:World)(hB:Has E w 2):
  Calls Tryz.prog 258 #[.int .i64 n] w fun e w'=>e=.returned (.tuple #[.string (bs (ydy n)),ev E (ymh n)])∧Below w.heap.size w w':=by
 by_cases h:0≤n∧n≤1099511627776
 ·obtain⟨k,rfl⟩:∃k:Nat,n=k:=⟨n.toNat,by omega⟩
  rw[(zh5 h).1,(zh5 h).2,zaj]
  exact put_yes k w (by omega)
 ·rw[(zu6 h).1,(zu6 h).2]
  exact put_no E n w h hB
theorem yd1(E:Nat→Addr)(s:ByteArray)(w:World)(hs:s.size≤1000000000)(hB:Has E w 2):
  Calls Tryz.prog 246 #[.string s] w fun e w'=>e=.returned (.tuple #[.string (bs (ptL s.data.toList)),ev E (ptC s.data.toList)])∧Below w.heap.size w w':=by
 have c2:w.cell? ⟨0,0,none⟩=some (za0 (E 2)):=hB
 have HB:=hid hB
 clear hB
 by_cases h:s.size≤20000
 ·have hI:¬(20000:Int)<s.size:=by omega
  have hp:=zh5 (n:=(s.size:Int)) (by omega)
  have hq:=zqk (l:=s.data.toList) (by simpa using h)
  have HP:=hid hp
  have HQ:=hid hq
  clear hp hq
  have hcat:¬9223372036854775807<(num s.size).length+s.size:=by have:=zar s.size;omega
  go_enter Tryz.func246,Tryz.ntmps246
  go_wp2_with (go_at_call 258;refine(ydx E s.size _ HB.out).mono ?_;rintro e w'⟨rfl,hb⟩;rw[HP.out.1,HP.out.2,zaj])
  go_ret2
  exact⟨zqb (by rw[HQ.out.2];exact congrArg Value.string (zg0 (by simp))) (by rw[HQ.out.1,zaj];rfl),hb⟩
 ·have hI:(20000:Int)<s.size:=by omega
  have hq:=ymj (l:=s.data.toList) (by simpa using h)
  have HQ:=hid hq
  clear hq
  go_enter Tryz.func246,Tryz.ntmps246
  go_wp2_with fail
  go_quiet (fail)
  go_wp2_with fail
  go_ret2
  exact⟨zqb (by rw[HQ.out.2,bs_nil];rfl) (by rw[HQ.out.1,za9 E (by decide)];rfl),Drew.below (Drew.drewN _ _) _⟩
theorem yfy(E:Nat→Addr)(s:ByteArray)(w:World)(hs:s.size≤1000000000)(hT:Has E w 1)(hB:Has E w 2):
  Calls Tryz.prog 243 #[.string s] w fun e w'=>e=.returned (.tuple #[.string (bs (tT s.data.toList)),.string (bs (tR s.data.toList)),ev E (tC s.data.toList)])∧Drew w w':=by
 have hg:=ykq s.data.toList
 have hgl:=yga s.data.toList
 have hsl:s.data.toList.length=s.size:=by simp
 have c1:w.cell? ⟨1,0,none⟩=some (za0 (E 1)):=hT
 have c2:w.cell? ⟨0,0,none⟩=some (za0 (E 2)):=hB
 obtain⟨L,hL⟩:∃L,L=s.data.toList:=⟨_,rfl⟩
 rw[←hL] at hg hgl hsl
 rw[←hL]
 have HLL:=hid hL
 have GET:Calls Tryz.prog 242 #[.string s] w fun e w'=>e=.returned (.tuple #[.int .i64 (gN L),.string (bs (gR L)),ev E (gC L)])∧Drew w w':=by rw[hL];exact yf7 E s w hs hT hB
 clear hT hB hL
 have HG:=hid hgl
 by_cases h0:gC L=0
 ·clear hg
  rw[h0,zaj] at GET
  obtain⟨N,hN⟩:∃N,N=gN L:=⟨_,rfl⟩
  obtain⟨R,hR⟩:∃R,R=gR L:=⟨_,rfl⟩
  rw[←hN,←hR] at GET
  rw[←hR] at hgl
  by_cases h1:20000<N
  ·have h1I:(20000:Int)<N:=by omega
   have hc:tC L=2:=by simp[tC,h0,←hN,h1]
   have hrest:tT L=[]∧tR L=[]:=by simp[tT,tR,hc]
   have HC:=hid hc
   have HR:=hid hrest
   clear hc hrest hN hR
   go_enter Tryz.func243,Tryz.ntmps243
   go_wp2_with (go_at_call 242;refine GET.mono ?_;rintro e w'⟨rfl,hb⟩;obtain⟨m,rfl⟩:=hb)
   go_quiet (fail)
   go_wp2_with fail
   go_ret3
   exact⟨yi1 (by rw[HR.out.1,bs_nil];rfl) (by rw[HR.out.2,bs_nil];rfl) (by rw[HC.out,za9 E (by decide)];rfl),(Drew.drewN _ _).trans (Drew.drewN _ _)⟩
  ·have h1I:(N:Int)≤20000:=by omega
   by_cases h2:R.length<N
   ·have h2I:(R.length:Int)<N:=by omega
    have hc:tC L=1:=by simp only[tC,h0,←hN,h1,←hR,h2];simp
    have hrest:tT L=[]∧tR L=[]:=by simp[tT,tR,hc]
    have HC:=hid hc
    have HR:=hid hrest
    clear hc hrest hN hR
    go_enter Tryz.func243,Tryz.ntmps243
    go_wp2_with (go_at_call 242;refine GET.mono ?_;rintro e w'⟨rfl,hb⟩;obtain⟨m,rfl⟩:=hb)
    go_quiet (fail)
    go_wp2_with fail
    go_ret3
    exact⟨yi1 (by rw[HR.out.1,bs_nil];rfl) (by rw[HR.out.2,bs_nil];rfl) (by rw[HC.out,za9 E (by decide)];rfl),(Drew.drewN _ _).trans (Drew.drewN _ _)⟩
   ·have h2I:(N:Int)≤R.length:=by omega
    have hc:tC L=0:=by simp only[tC,h0,←hN,h1,←hR,h2];simp
    have hrest:tT L=R.take N∧tR L=R.drop N:=by simp[tT,tR,hc,hN,hR]
    have HC:=hid hc
    have HR:=hid hrest
    clear hc hrest hN hR
    have w0:(0:Int)≤N:=by omega
    have w1:(N:Int).toNat=N:=by omega
    go_enter Tryz.func243,Tryz.ntmps243
    go_wp2_with (go_at_call 242;refine GET.mono ?_;rintro e w'⟨rfl,hb⟩;obtain⟨m,rfl⟩:=hb)
    go_quiet (fail)
    go_wp2_with fail
    go_ret3
    refine⟨yi1 (by rw[HR.out.1];exact congrArg Value.string (by rw[zcv];simp)) (by rw[HR.out.2];exact congrArg Value.string (by rw[←zae,zhv];simp)) (by rw[HC.out,zaj];rfl),(Drew.drewN _ _).trans (Drew.drewN _ _)⟩
 ·have hc:tC L=gC L:=by simp[tC,h0]
  have hrest:tT L=[]∧tR L=[]:=by simp[tT,tR,hc,h0]
  have HC:=hid hc
  have HR:=hid hrest
  clear hc hrest hg
  have hev:=zep E h0
  go_enter Tryz.func243,Tryz.ntmps243
  go_wp2_with (go_at_call 242;refine GET.mono ?_;rintro e w'⟨rfl,hb⟩;obtain⟨m,rfl⟩:=hb;rw[hev])
  go_ret3
  exact⟨yi1 (by rw[HR.out.1,bs_nil];rfl) (by rw[HR.out.2,bs_nil];rfl) (by rw[HC.out,hev];rfl),Drew.drewN _ _⟩
def ltL(a b:List UInt8):Bool:=Op.bytesLess a b
theorem zcm(a:List UInt8):ltL a []=false:=by unfold ltL Op.bytesLess;cases a<;>rfl
theorem zho(b:UInt8)(y:List UInt8):ltL [] (b::y)=true:=by unfold ltL Op.bytesLess;rfl
theorem zh9(a b:UInt8)(x y:List UInt8):ltL (a::x) (b::y)=(decide (a<b) || (a==b && ltL x y)):=by unfold ltL;rw[Op.bytesLess]
theorem zbv(a:List UInt8):ltL a a=false:=by
 induction a with
 | nil=>exact zcm _
 | cons a x ih=>rw[zh9,ih];simp
theorem zbq{a b c:List UInt8}(h:ltL a b=true)(k:ltL b c=true):ltL a c=true:=by
 induction a generalizing b c with
 | nil=>
  cases c with
  | nil=>rw[zcm] at k;cases k
  | cons c z=>exact zho _ _
 | cons a x ih=>
  cases b with
  | nil=>rw[zcm] at h;cases h
  | cons b y=>
   cases c with
   | nil=>rw[zcm] at k;cases k
   | cons c z=>
    rw[zh9] at h k ⊢
    simp only[Bool.or_eq_true,decide_eq_true_eq,Bool.and_eq_true,beq_iff_eq] at h k ⊢
    rcases h with h|⟨rfl,h⟩
    ·rcases k with k|⟨rfl,k⟩
     ·exact .inl (UInt8.lt_trans h k)
     ·exact .inl h
    ·rcases k with k|⟨rfl,k⟩
     ·exact .inl k
     ·exact .inr ⟨rfl,ih h k⟩
theorem zev(a b:List UInt8):ltL a b=true∨a=b∨ltL b a=true:=by
 induction a generalizing b with
 | nil=>
  cases b with
  | nil=>exact .inr (.inl rfl)
  | cons b y=>exact .inl (zho _ _)
 | cons a x ih=>
  cases b with
  | nil=>exact .inr (.inr (zho _ _))
  | cons b y=>
   rw[zh9,zh9]
   simp only[Bool.or_eq_true,decide_eq_true_eq,Bool.and_eq_true,beq_iff_eq]
   rcases(show a=b∨a<b∨b<a by
    by_cases e:a=b
    ·exact .inl e
    ·exact .inr (UInt8.lt_or_lt_of_ne e)) with e|e|e
   ·subst e
    rcases ih y with h|h|h
    ·exact .inl (.inr ⟨rfl,h⟩)
    ·exact .inr (.inl (by rw[h]))
    ·exact .inr (.inr (.inr ⟨rfl,h⟩))
   ·exact .inl (.inl e)
   ·exact .inr (.inr (.inl e))
theorem zco{a b:List UInt8}(h:ltL a b=true):ltL b a=false:=by
 cases k:ltL b a with
 | false=>rfl
 | true=>have:=zbq h k;rw[zbv] at this;cases this
theorem zbm{a b:List UInt8}(h:ltL a b=true):a≠b:=by rintro rfl;rw[zbv] at h;cases h
theorem yhf{a b:List UInt8}(h:ltL a b=true):Lib.compareBytes a b=-1:=by
 induction a generalizing b with
 | nil=>
  cases b with
  | nil=>rw[zcm] at h;cases h
  | cons b y=>rfl
 | cons a x ih=>
  cases b with
  | nil=>rw[zcm] at h;cases h
  | cons b y=>
   rw[zh9] at h
   simp only[Bool.or_eq_true,decide_eq_true_eq,Bool.and_eq_true,beq_iff_eq] at h
   unfold Lib.compareBytes
   rcases h with h|⟨rfl,h⟩
   ·rw[if_pos h]
   ·rw[if_neg (UInt8.lt_irrefl a),if_neg (UInt8.lt_irrefl a)];exact ih h
theorem yhg{a b:List UInt8}(h:ltL b a=true):Lib.compareBytes a b=1:=by
 induction a generalizing b with
 | nil=>rw[zcm] at h;cases h
 | cons a x ih=>
  cases b with
  | nil=>rfl
  | cons b y=>
   rw[zh9] at h
   simp only[Bool.or_eq_true,decide_eq_true_eq,Bool.and_eq_true,beq_iff_eq] at h
   unfold Lib.compareBytes
   rcases h with h|⟨rfl,h⟩
   ·rw[if_neg (UInt8.lt_asymm h),if_pos h]
   ·rw[if_neg (UInt8.lt_irrefl b),if_neg (UInt8.lt_irrefl b)];exact ih h
theorem zyp(a:List UInt8):Lib.compareBytes a a=0:=by
 induction a with
 | nil=>rfl
 | cons a x ih=>unfold Lib.compareBytes;rw[if_neg (UInt8.lt_irrefl a),if_neg (UInt8.lt_irrefl a)];exact ih
theorem zph(a b:List UInt8):Lib.compareBytes a b<0↔ltL a b=true:=by
 constructor
 ·intro h
  rcases zev a b with k|k|k
  ·exact k
  ·subst k;rw[zyp] at h;omega
  ·rw[yhg k] at h;omega
 ·intro h;rw[yhf h];omega
theorem ybs(a b:List UInt8):Lib.compareBytes a b=0↔a=b:=by
 constructor
 ·intro h
  rcases zev a b with k|k|k
  ·rw[yhf k] at h;omega
  ·exact k
  ·rw[yhg k] at h;omega
 ·rintro rfl;exact zyp _
def zlb(c:UInt8):Bool:=(decide (97≤c) && decide (c≤122)) || (decide (48≤c) && decide (c≤57)) || c==46 || c==45
def zbc(s:List UInt8):Bool:=decide (1≤s.length) && decide (s.length≤12) && s.all zlb
theorem zbi(s:List UInt8):zbc s=true↔1≤s.length∧s.length≤12∧s.all zlb=true:=by
 unfold zbc;rw[Bool.and_eq_true,Bool.and_eq_true,decide_eq_true_eq,decide_eq_true_eq,and_assoc]
structure PL where
 n:List UInt8
 N:Int
 S:Nat
deriving DecidableEq
structure PF where
 n:List UInt8
 d:List UInt8
deriving DecidableEq
def zfu(first:Bool)(last:List UInt8)(x:PL):Nat:=
 if zbc x.n=false then 5 else if x.N<0∨4000<x.N then 2 else if first=false∧ltL last x.n=false then 9 else 0
theorem zoz{f:Bool}{last:List UInt8}{x:PL}(h:zbc x.n=false):zfu f last x=5:=by unfold zfu;rw[if_pos h]
theorem zna{f:Bool}{last:List UInt8}{x:PL}(h:zbc x.n=true)(h2:x.N<0∨4000<x.N):zfu f last x=2:=by unfold zfu;rw[if_neg (by simp[h]),if_pos h2]
theorem zm9{last:List UInt8}{x:PL}(h:zbc x.n=true)(h2:¬(x.N<0∨4000<x.N))(h3:ltL last x.n=false):zfu false last x=9:=by unfold zfu;rw[if_neg (by simp[h]),if_neg h2,if_pos ⟨rfl,h3⟩]
theorem zi0{last:List UInt8}{x:PL}(h:zbc x.n=true)(h2:¬(x.N<0∨4000<x.N)):zfu true last x=0:=by unfold zfu;rw[if_neg (by simp[h]),if_neg h2,if_neg (by simp)]
theorem zkt{f:Bool}{last:List UInt8}{x:PL}(h:zbc x.n=true)(h2:¬(x.N<0∨4000<x.N))(h3:ltL last x.n=true):zfu f last x=0:=by unfold zfu;rw[if_neg (by simp[h]),if_neg h2,if_neg (by simp[h3])]
theorem yj3(f:Bool)(last:List UInt8)(x:PL):zfu f last x≤12:=by
 unfold zfu
 by_cases h1:zbc x.n=false
 ·rw[if_pos h1];omega
 ·rw[if_neg h1]
  by_cases h2:x.N<0∨4000<x.N
  ·rw[if_pos h2];omega
  ·rw[if_neg h2]
   by_cases h3:f=false∧ltL last x.n=false
   ·rw[if_pos h3];omega
   ·rw[if_neg h3];omega
theorem yap{f:Bool}{last:List UInt8}{x:PL}(h:zfu f last x=0):zbc x.n=true∧0≤x.N∧x.N≤4000∧(f=false→ltL last x.n=true):=by
 unfold zfu at h
 split at h
 ·cases h
 ·rename_i h1
  split at h
  ·cases h
  ·rename_i h2
   split at h
   ·cases h
   ·rename_i h3
    refine⟨by simpa using h1,by omega,by omega,fun hf=>?_⟩
    cases hl:ltL last x.n with
    | true=>rfl
    | false=>exact absurd ⟨hf,hl⟩ h3
def zdj:Nat→List UInt8→List PL→Nat×Int
 | _,_,[]=>(0,-1)
 | k,last,x::l=>if zfu (k==0) last x=0 then zdj (k+1) x.n l else (zfu (k==0) last x,k)
def zbb(l:List PL):Nat×Int:=if 20<l.length then (8,-1) else zdj 0 [] l
theorem zm8{k:Nat}{last:List UInt8}{l:List PL}(h:k<l.length)(h0:zfu (k==0) last l[k]=0):zdj k last (l.drop k)=zdj (k+1) l[k].n (l.drop (k+1)):=by
 rw[List.drop_eq_getElem_cons h,zdj,if_pos h0]
theorem zoy{k:Nat}{last:List UInt8}{l:List PL}(h:k<l.length){c:Nat}(hc:zfu (k==0) last l[k]=c)(h0:c≠0):zdj k last (l.drop k)=(c,(k:Int)):=by
 subst hc
 rw[List.drop_eq_getElem_cons h,zdj,if_neg h0]
theorem zox{k:Nat}{last:List UInt8}{l:List PL}(h:l.length≤k):zdj k last (l.drop k)=(0,-1):=by rw[List.drop_of_length_le h];rfl
theorem zk4{l:List PL}(h:20<l.length):zbb l=(8,-1):=by unfold zbb;rw[if_pos h]
theorem zk5{l:List PL}(h:¬20<l.length):zbb l=zdj 0 [] (l.drop 0):=by unfold zbb;rw[if_neg h];rfl
theorem yfi(l:List PL):∀k last,(zdj k last l).1≤12∧((zdj k last l).1=0→(zdj k last l).2=-1):=by
 induction l with
 | nil=>intro k last;exact⟨Nat.zero_le _,fun _=>rfl⟩
 | cons x l ih=>
  intro k last
  unfold zdj
  by_cases h:zfu (k==0) last x=0
  ·rw[if_pos h];exact ih _ _
  ·rw[if_neg h];exact⟨yj3 _ _ _,fun e=>absurd e h⟩
theorem zfx{l:List PL}(h:(zbb l).1=0):zbb l=(0,-1):=by
 have h2:(zbb l).2=-1:=by
  unfold zbb at h ⊢
  by_cases hl:20<l.length
  ·rw[if_pos hl] at h;cases h
  ·rw[if_neg hl] at h ⊢;exact(yfi l _ _).2 h
 exact Prod.ext h h2
structure LWF(l:List PL):Prop where
 few:l.length≤20
 each:∀x∈l,zbc x.n=true∧0≤x.N∧x.N≤4000
 sorted:l.Pairwise fun a b=>ltL a.n b.n=true
theorem yfh(l:List PL):∀(k:Nat)(last:List UInt8),((zdj k last l).1=0↔(∀x∈l,zbc x.n=true∧0≤x.N∧x.N≤4000)∧l.Pairwise (fun a b=>ltL a.n b.n=true)∧(k≠0→∀x∈l,ltL last x.n=true)):=by
 induction l with
 | nil=>intro k last;simp[zdj]
 | cons x l ih=>
  intro k last
  unfold zdj
  by_cases h:zfu (k==0) last x=0
  ·rw[if_pos h,ih]
   have hz:=yap h
   constructor
   ·rintro⟨h1,h2,h3⟩
    have h3:=h3 (by omega)
    refine⟨?_,List.pairwise_cons.2 ⟨h3,h2⟩,fun hk y hy=>?_⟩
    ·intro y hy
     rcases List.mem_cons.1 hy with rfl|hy
     ·exact⟨hz.1,hz.2.1,hz.2.2.1⟩
     ·exact h1 y hy
    ·have hl:=hz.2.2.2 (by simpa using hk)
     rcases List.mem_cons.1 hy with rfl|hy
     ·exact hl
     ·exact zbq hl (h3 y hy)
   ·rintro⟨h1,h2,h3⟩
    have h2:=List.pairwise_cons.1 h2
    exact⟨fun y hy=>h1 y (List.mem_cons_of_mem _ hy),h2.2,fun _=>h2.1⟩
  ·rw[if_neg h]
   constructor
   ·intro e;exact absurd e h
   ·rintro⟨h1,h2,h3⟩
    exfalso
    obtain⟨a,b,c⟩:=h1 x (by simp)
    by_cases hk:k=0
    ·subst hk;exact h (zi0 a (by omega))
    ·exact h (zkt a (by omega) (h3 hk x (by simp)))
theorem zd6(l:List PL):(zbb l).1=0↔LWF l:=by
 unfold zbb
 by_cases h:20<l.length
 ·rw[if_pos h]
  constructor
  ·intro e;exact absurd e (by decide)
  ·intro w;have:=w.few;omega
 ·rw[if_neg h,yfh]
  exact⟨fun ⟨a,b,_⟩=>⟨by omega,a,b⟩,fun w=>⟨w.each,w.sorted,fun e=>absurd rfl e⟩⟩
def PF.chk(f:PF):PL:=⟨f.n,f.d.length,0⟩
def zav(l:List PF):Nat×Int:=zbb (l.map PF.chk)
structure FWF(l:List PF):Prop where
 few:l.length≤20
 each:∀x∈l,zbc x.n=true∧x.d.length≤4000
 sorted:l.Pairwise fun a b=>ltL a.n b.n=true
theorem zbd(l:List PF):(zav l).1=0↔FWF l:=by
 unfold zav
 rw[zd6]
 constructor
 ·intro h
  refine⟨by simpa using h.few,fun x hx=>?_,?_⟩
  ·obtain⟨a,b,c⟩:=h.each x.chk (List.mem_map_of_mem hx)
   exact⟨a,by have:((x.d.length:Int))≤4000:=c;omega⟩
  ·exact List.pairwise_map.1 h.sorted
 ·intro h
  refine⟨by simpa using h.few,fun x hx=>?_,List.pairwise_map.2 h.sorted⟩
  obtain⟨f,hf,rfl⟩:=List.mem_map.1 hx
  obtain⟨a,b⟩:=h.each f hf
  exact⟨a,by unfold PF.chk;simp,by unfold PF.chk;simp;omega⟩
def zaq(l:List PF)(n:List UInt8):Option (List UInt8):=(l.find? fun f=>f.n==n).map PF.d
def zda(l:List PF)(n:List UInt8):List PF:=l.filter fun f=>f.n != n
def zal(l:List PF)(n d:List UInt8):List PF:=
 match l with
 | []=>[⟨n,d⟩]
 | f::l=>if f.n=n then ⟨n,d⟩::l else if ltL n f.n=true then ⟨n,d⟩::f::l else f::zal l n d
def zby(l:List PF)(n:List UInt8):Nat:=(l.filter fun f=>ltL f.n n).length
theorem zsj(l:List PF)(n:List UInt8)(hs:l.Pairwise fun a b=>ltL a.n b.n=true)(k:Nat)(hk:k<l.length):ltL l[k].n n=true↔k<zby l n:=by
 induction l generalizing k with
 | nil=>simp at hk
 | cons f l ih=>
  have hp:=List.pairwise_cons.1 hs
  unfold zby
  by_cases hf:ltL f.n n=true
  ·rw[List.filter_cons_of_pos (p:=fun f:PF=>ltL f.n n) hf,List.length_cons]
   cases k with
   | zero=>simp[hf]
   | succ k=>simpa [zby] using ih hp.2 k (by simpa using hk)
  ·rw[List.filter_cons_of_neg (p:=fun f:PF=>ltL f.n n) hf]
   have:(l.filter fun g=>ltL g.n n)=[]:=by
    rw[List.filter_eq_nil_iff]
    intro g hg hgn
    exact hf (zbq (hp.1 g hg) hgn)
   rw[this]
   simp only[List.length_nil,Nat.not_lt_zero,iff_false]
   cases k with
   | zero=>exact hf
   | succ k=>
    intro h
    exact hf (zbq (hp.1 _ (by simp)) h)
theorem zxf(l:List PF)(n:List UInt8):zby l n≤l.length:=List.length_filter_le _ _
theorem zxe{l:List PF}{n:List UInt8}(hs:l.Pairwise fun a b=>ltL a.n b.n=true){k:Nat}(hk:k≤l.length)(h1:∀j (h:j<l.length),j<k→ltL l[j].n n=true)(h2:∀j (h:j<l.length),k≤j→ltL l[j].n n=false):k=zby l n:=by
 have hle:=zxf l n
 rcases Nat.lt_trichotomy k (zby l n) with h|h|h
 ·have:=(zsj l n hs k (by omega)).2 h
  rw[h2 k (by omega) (Nat.le_refl _)] at this;cases this
 ·exact h
 ·have:=(zsj l n hs (zby l n) (by omega)).1 (h1 _ (by omega) h)
  omega
theorem zvr{l:List PF}{n d:List UInt8}(hs:l.Pairwise fun a b=>ltL a.n b.n=true)(h:zby l n<l.length)(hn:(l[zby l n]'h).n=n):zal l n d=l.set (zby l n) ⟨n,d⟩:=by
 induction l with
 | nil=>simp at h
 | cons f l ih=>
  have hp:=List.pairwise_cons.1 hs
  by_cases hf:ltL f.n n=true
  ·have e:zby (f::l) n=zby l n+1:=by unfold zby;rw[List.filter_cons_of_pos (p:=fun f:PF=>ltL f.n n) hf];rfl
   have hfn:f.n≠n:=zbm hf
   have hf2:¬ltL n f.n=true:=by rw[zco hf];simp
   unfold zal
   rw[if_neg hfn,if_neg hf2]
   simp only[e,List.length_cons,List.set_cons_succ,List.getElem_cons_succ] at h hn ⊢
   rw[ih hp.2 (by omega) hn]
  ·have e:zby (f::l) n=0:=by
    unfold zby
    rw[List.filter_cons_of_neg (p:=fun f:PF=>ltL f.n n) hf,List.filter_eq_nil_iff.2]
    ·rfl
    ·intro g hg hgn;exact hf (zbq (hp.1 g hg) hgn)
   simp only[e,List.getElem_cons_zero,List.set_cons_zero] at hn ⊢
   unfold zal
   rw[if_pos hn]
theorem ygf{l:List PF}{n d:List UInt8}(hs:l.Pairwise fun a b=>ltL a.n b.n=true)(hn:∀h:zby l n<l.length,(l[zby l n]'h).n≠n):zal l n d=l.take (zby l n)++⟨n,d⟩::l.drop (zby l n):=by
 induction l with
 | nil=>rfl
 | cons f l ih=>
  have hp:=List.pairwise_cons.1 hs
  by_cases hf:ltL f.n n=true
  ·have e:zby (f::l) n=zby l n+1:=by unfold zby;rw[List.filter_cons_of_pos (p:=fun f:PF=>ltL f.n n) hf];rfl
   have hfn:f.n≠n:=zbm hf
   have hf2:¬ltL n f.n=true:=by rw[zco hf];simp
   simp only[e,List.length_cons,List.getElem_cons_succ] at hn ⊢
   unfold zal
   rw[if_neg hfn,if_neg hf2,List.take_succ_cons,List.drop_succ_cons,ih hp.2 (fun h=>hn (by omega))]
   rfl
  ·have e:zby (f::l) n=0:=by
    unfold zby
    rw[List.filter_cons_of_neg (p:=fun f:PF=>ltL f.n n) hf,List.filter_eq_nil_iff.2]
    ·rfl
    ·intro g hg hgn;exact hf (zbq (hp.1 g hg) hgn)
   simp only[e,List.getElem_cons_zero] at hn ⊢
   have hfn:=hn (by simp)
   have hlt:ltL n f.n=true:=by
    rcases zev f.n n with h|h|h
    ·exact absurd h hf
    ·exact absurd h hfn
    ·exact h
   unfold zal
   rw[if_neg hfn,if_pos hlt]
   rfl
theorem zfn(l:List PF)(n d:List UInt8)(g:PF)(h:g∈zal l n d):g=⟨n,d⟩∨g∈l:=by
 induction l with
 | nil=>simpa [zal] using h
 | cons f l ih=>
  unfold zal at h
  split at h
  ·rcases List.mem_cons.1 h with h|h
   ·exact .inl h
   ·exact .inr (List.mem_cons_of_mem _ h)
  ·split at h
   ·rcases List.mem_cons.1 h with h|h
    ·exact .inl h
    ·exact .inr h
   ·rcases List.mem_cons.1 h with h|h
    ·exact .inr (by simp[h])
    ·exact(ih h).imp id (List.mem_cons_of_mem _)
theorem zti(l:List PF)(n d:List UInt8):(⟨n,d⟩:PF)∈zal l n d:=by
 induction l with
 | nil=>simp[zal]
 | cons f l ih=>
  unfold zal
  split
  ·simp
  ·split
   ·simp
   ·exact List.mem_cons_of_mem _ ih
theorem zvs{l:List PF}{n d:List UInt8}{g:PF}(h:g∈l)(hn:g.n≠n):g∈zal l n d:=by
 induction l with
 | nil=>cases h
 | cons f l ih=>
  unfold zal
  split
  ·rename_i hf
   rcases List.mem_cons.1 h with rfl|h
   ·exact absurd hf hn
   ·exact List.mem_cons_of_mem _ h
  ·split
   ·exact List.mem_cons_of_mem _ h
   ·rcases List.mem_cons.1 h with rfl|h
    ·simp
    ·exact List.mem_cons_of_mem _ (ih h)
theorem zhr{l:List PF}(n d:List UInt8)(hs:l.Pairwise fun a b=>ltL a.n b.n=true):(zal l n d).Pairwise fun a b=>ltL a.n b.n=true:=by
 induction l with
 | nil=>simp[zal]
 | cons f l ih=>
  have hp:=List.pairwise_cons.1 hs
  unfold zal
  split
  ·rename_i hf
   exact List.pairwise_cons.2 ⟨fun g hg=>by have:=hp.1 g hg;rw[hf] at this;exact this,hp.2⟩
  ·rename_i hfn
   split
   ·rename_i hf
    exact List.pairwise_cons.2 ⟨fun g hg=>by
     rcases List.mem_cons.1 hg with rfl|hg
     ·exact hf
     ·exact zbq hf (hp.1 g hg),hs⟩
   ·rename_i hf
    refine List.pairwise_cons.2 ⟨fun g hg=>?_,ih hp.2⟩
    rcases zfn _ _ _ _ hg with rfl|hg
    ·rcases zev f.n n with h|h|h
     ·exact h
     ·exact absurd h hfn
     ·exact absurd h hf
    ·exact hp.1 g hg
theorem ztj(l:List PF)(n d:List UInt8):(zal l n d).length≤l.length+1:=by
 induction l with
 | nil=>simp[zal]
 | cons f l ih=>
  unfold zal
  split
  ·simp
  ·split
   ·simp
   ·simp only[List.length_cons];omega
theorem zvu{l:List PF}(hs:l.Pairwise fun a b=>ltL a.n b.n=true){g:PF}(h:g∈l):(l.find? fun f=>f.n==g.n)=some g:=by
 induction l with
 | nil=>cases h
 | cons f l ih=>
  have hp:=List.pairwise_cons.1 hs
  rcases List.mem_cons.1 h with rfl|h
  ·rw[List.find?_cons_of_pos (by simp)]
  ·rw[List.find?_cons_of_neg (by simpa using zbm (hp.1 g h))]
   exact ih hp.2 h
theorem zej{l:List PF}(hs:l.Pairwise fun a b=>ltL a.n b.n=true){g:PF}(h:g∈l):zaq l g.n=some g.d:=by
 unfold zaq;rw[zvu hs h];rfl
theorem zbn{l:List PF}{n d:List UInt8}(h:zaq l n=some d):(⟨n,d⟩:PF)∈l:=by
 unfold zaq at h
 obtain⟨f,hf,rfl⟩:=Option.map_eq_some_iff.1 h
 have h1:=List.mem_of_find?_eq_some hf
 have h2:=List.find?_some hf
 have:f.n=n:=by simpa using h2
 subst this
 exact h1
theorem zpd{l:List PF}{n:List UInt8}(h:zaq l n=none):∀f∈l,f.n≠n:=by
 unfold zaq at h
 rw[Option.map_eq_none_iff,List.find?_eq_none] at h
 intro f hf e
 exact h f hf (by simp[e])
theorem zm1{l:List PF}(hs:l.Pairwise fun a b=>ltL a.n b.n=true):(l.map PF.n).Nodup:=by
 unfold List.Nodup
 exact List.pairwise_map.2 (hs.imp fun h=>zbm h)
theorem zsv{α:Type}[DecidableEq α]{a b:List α}(h:a.Nodup)(hs:∀x∈a,x∈b):a.length≤b.length:=by
 induction a generalizing b with
 | nil=>simp
 | cons x a ih=>
  have h:=List.pairwise_cons.1 h
  have hx:=hs x (by simp)
  have:=ih (b:=b.erase x) h.2 (fun y hy=>by
   have hne:y≠x:=fun e=>h.1 y hy e.symm
   exact(List.mem_erase_of_ne hne).2 (hs y (List.mem_cons_of_mem _ hy)))
  rw[List.length_erase_of_mem hx] at this
  have hb:0<b.length:=List.length_pos_of_mem hx
  simp only[List.length_cons];omega
theorem FWF.put{l:List PF}(h:FWF l){n d:List UInt8}(hn:zbc n=true)(hd:d.length≤4000)(hlen:(zal l n d).length≤20):FWF (zal l n d):=
 ⟨hlen,fun g hg=>by
  rcases zfn _ _ _ _ hg with rfl|hg
  ·exact⟨hn,hd⟩
  ·exact h.each g hg,zhr n d h.sorted⟩
theorem FWF.filter{l:List PF}(h:FWF l)(p:PF→Bool):FWF (l.filter p):=
 ⟨Nat.le_trans (List.length_filter_le _ _) h.few,fun g hg=>h.each g (List.mem_filter.1 hg).1,h.sorted.filter _⟩
structure PS where
 k:List UInt8
 n:List UInt8
deriving DecidableEq
def zaz:List UInt8:=[115,101,110,100]
def zds:List UInt8:=[100,114,111,112]
def zg7:List UInt8:=[107,101,101,112]
def zbg:List PL→List PL→PS×Nat×Nat
 | [],[]=>(⟨[],[]⟩,0,0)
 | [],t::_=>(⟨zds,t.n⟩,0,1)
 | a::_,[]=>(⟨zaz,a.n⟩,1,0)
 | a::_,t::_=>if ltL a.n t.n=true then (⟨zaz,a.n⟩,1,0) else if ltL t.n a.n=true then (⟨zds,t.n⟩,0,1) else if a=t then (⟨zg7,a.n⟩,1,1) else (⟨zaz,a.n⟩,1,1)
def ziq:Nat→List PL→List PL→List PS
 | 0,_,_=>[]
 | f+1,a,t=>if a=[]∧t=[] then [] else (zbg a t).1::ziq f (a.drop (zbg a t).2.1) (t.drop (zbg a t).2.2)
def zb3(a t:List PL):List PS:=ziq (a.length+t.length) a t
theorem zh7{f:Nat}{a t:List PL}(h:¬(a=[]∧t=[])):ziq (f+1) a t=(zbg a t).1::ziq f (a.drop (zbg a t).2.1) (t.drop (zbg a t).2.2):=by rw[ziq,if_neg h]
theorem zjq(f:Nat):ziq f [] []=[]:=by cases f<;>simp[ziq]
theorem zpz(a t:List PL):(zbg a t).2.1≤a.length∧(zbg a t).2.2≤t.length∧(¬(a=[]∧t=[])→1≤(zbg a t).2.1+(zbg a t).2.2):=by
 cases a with
 | nil=>cases t<;>simp[zbg]
 | cons x a=>
  cases t with
  | nil=>simp[zbg]
  | cons y t=>
   simp only[zbg]
   by_cases h1:ltL x.n y.n=true
   ·rw[if_pos h1];simp
   ·rw[if_neg h1]
    by_cases h2:ltL y.n x.n=true
    ·rw[if_pos h2];simp
    ·rw[if_neg h2]
     by_cases h3:x=y
     ·rw[if_pos h3];simp
     ·rw[if_neg h3];simp
structure Planned(a t:List PL)(p:List PS):Prop where
 sorted:p.Pairwise fun x y=>ltL x.n y.n=true
 of:∀s∈p,(s.k=zaz∧∃x∈a,x.n=s.n∧x∉t)∨(s.k=zg7∧∃x∈a,x.n=s.n∧x∈t)∨(s.k=zds∧(∃y∈t,y.n=s.n)∧∀x∈a,x.n≠s.n)
 all:∀x∈a,(x∉t→(⟨zaz,x.n⟩:PS)∈p)∧(x∈t→(⟨zg7,x.n⟩:PS)∈p)
 drop:∀y∈t,(∀x∈a,x.n≠y.n)→(⟨zds,y.n⟩:PS)∈p
def Srt(l:List PL):Prop:=l.Pairwise fun a b=>ltL a.n b.n=true
theorem Srt.cons{x:PL}{l:List PL}:Srt (x::l)↔(∀y∈l,ltL x.n y.n=true)∧Srt l:=List.pairwise_cons
theorem Planned.names{a t:List PL}{p:List PS}(h:Planned a t p)(s:PS)(hs:s∈p):(∃x∈a,x.n=s.n)∨(∃y∈t,y.n=s.n):=by
 rcases h.of s hs with⟨_,x,h1,h2,_⟩|⟨_,x,h1,h2,_⟩|⟨_,h1,_⟩
 ·exact .inl ⟨x,h1,h2⟩
 ·exact .inl ⟨x,h1,h2⟩
 ·exact .inr h1
theorem yef(f:Nat):∀(a t:List PL),Srt a→Srt t→a.length+t.length≤f→Planned a t (ziq f a t):=by
 induction f with
 | zero=>
  intro a t ha ht hf
  obtain rfl:a=[]:=List.eq_nil_of_length_eq_zero (by omega)
  obtain rfl:t=[]:=List.eq_nil_of_length_eq_zero (by omega)
  exact⟨by simp[ziq],by simp[ziq],by simp,by simp⟩
 | succ f ih=>
  intro a t ha ht hf
  by_cases hn:a=[]∧t=[]
  ·obtain⟨rfl,rfl⟩:=hn
   rw[zjq]
   exact⟨by simp,by simp,by simp,by simp⟩
  rw[zh7 hn]
  cases a with
  | nil=>
   cases t with
   | nil=>exact absurd ⟨rfl,rfl⟩ hn
   | cons y t=>
    simp only[zbg,List.drop_zero,List.drop_succ_cons]
    have ht':=Srt.cons.1 ht
    have P:=ih [] t ha ht'.2 (by simp at hf;simp;omega)
    refine⟨List.pairwise_cons.2 ⟨fun s hs=>?_,P.sorted⟩,fun s hs=>?_,by simp,fun z hz hz2=>?_⟩
    ·rcases P.names s hs with⟨x,hx,_⟩|⟨z,hz,e⟩
     ·cases hx
     ·rw[←e];exact ht'.1 z hz
    ·rcases List.mem_cons.1 hs with rfl|hs
     ·exact .inr (.inr ⟨rfl,⟨y,by simp,rfl⟩,by simp⟩)
     ·rcases P.of s hs with⟨_,x,hx,_⟩|⟨_,x,hx,_⟩|⟨h1,⟨z,hz,h2⟩,h3⟩
      ·cases hx
      ·cases hx
      ·exact .inr (.inr ⟨h1,⟨z,by simp[hz],h2⟩,h3⟩)
    ·rcases List.mem_cons.1 hz with rfl|hz
     ·simp
     ·exact List.mem_cons_of_mem _ (P.drop z hz hz2)
  | cons x a=>
   have ha':=Srt.cons.1 ha
   cases t with
   | nil=>
    simp only[zbg,List.drop_zero,List.drop_succ_cons]
    have P:=ih a [] ha'.2 ht (by simp at hf;simp;omega)
    refine⟨List.pairwise_cons.2 ⟨fun s hs=>?_,P.sorted⟩,fun s hs=>?_,fun z hz=>⟨fun _=>?_,fun h=>by cases h⟩,by simp⟩
    ·rcases P.names s hs with⟨z,hz,e⟩|⟨z,hz,_⟩
     ·rw[←e];exact ha'.1 z hz
     ·cases hz
    ·rcases List.mem_cons.1 hs with rfl|hs
     ·exact .inl ⟨rfl,x,by simp,rfl,by simp⟩
     ·rcases P.of s hs with⟨h1,z,hz,h2,h3⟩|⟨_,z,hz,_,h3⟩|⟨_,⟨z,hz,_⟩,_⟩
      ·exact .inl ⟨h1,z,by simp[hz],h2,h3⟩
      ·cases h3
      ·cases hz
    ·rcases List.mem_cons.1 hz with rfl|hz
     ·simp
     ·exact List.mem_cons_of_mem _ ((P.all z hz).1 (by simp))
   | cons y t=>
    have ht':=Srt.cons.1 ht
    simp only[List.length_cons] at hf
    by_cases h1:ltL x.n y.n=true
    ·
     have e:zbg (x::a) (y::t)=(⟨zaz,x.n⟩,1,0):=by simp[zbg,h1]
     rw[e]
     simp only[List.drop_zero,List.drop_succ_cons]
     have P:=ih a (y::t) ha'.2 ht (by simp;omega)
     have hxt:∀z∈y::t,ltL x.n z.n=true:=fun z hz=>by
      rcases List.mem_cons.1 hz with rfl|hz
      ·exact h1
      ·exact zbq h1 (ht'.1 z hz)
     refine⟨List.pairwise_cons.2 ⟨fun s hs=>?_,P.sorted⟩,fun s hs=>?_,fun z hz=>?_,fun z hz hz2=>?_⟩
     ·rcases P.names s hs with⟨z,hz,e⟩|⟨z,hz,e⟩
      ·rw[←e];exact ha'.1 z hz
      ·rw[←e];exact hxt z hz
     ·rcases List.mem_cons.1 hs with rfl|hs
      ·exact .inl ⟨rfl,x,by simp,rfl,fun h=>zbm (hxt x h) rfl⟩
      ·rcases P.of s hs with⟨h1,z,hz,h2,h3⟩|⟨h1,z,hz,h2,h3⟩|⟨h1,⟨z,hz,h2⟩,h3⟩
       ·exact .inl ⟨h1,z,by simp[hz],h2,h3⟩
       ·exact .inr (.inl ⟨h1,z,by simp[hz],h2,h3⟩)
       ·refine .inr (.inr ⟨h1,⟨z,hz,h2⟩,fun w hw=>?_⟩)
        rcases List.mem_cons.1 hw with rfl|hw
        ·rw[←h2];exact zbm (hxt z hz)
        ·exact h3 w hw
     ·rcases List.mem_cons.1 hz with rfl|hz
      ·exact⟨fun _=>by simp,fun h=>absurd rfl (zbm (hxt z h))⟩
      ·exact⟨fun h=>List.mem_cons_of_mem _ ((P.all z hz).1 h),fun h=>List.mem_cons_of_mem _ ((P.all z hz).2 h)⟩
     ·exact List.mem_cons_of_mem _ (P.drop z hz fun w hw=>hz2 w (by simp[hw]))
    ·by_cases h2:ltL y.n x.n=true
     ·
      have e:zbg (x::a) (y::t)=(⟨zds,y.n⟩,0,1):=by simp[zbg,h1,h2]
      rw[e]
      simp only[List.drop_zero,List.drop_succ_cons]
      have P:=ih (x::a) t ha ht'.2 (by simp;omega)
      have hya:∀z∈x::a,ltL y.n z.n=true:=fun z hz=>by
       rcases List.mem_cons.1 hz with rfl|hz
       ·exact h2
       ·exact zbq h2 (ha'.1 z hz)
      refine⟨List.pairwise_cons.2 ⟨fun s hs=>?_,P.sorted⟩,fun s hs=>?_,fun z hz=>?_,fun z hz hz2=>?_⟩
      ·rcases P.names s hs with⟨z,hz,e⟩|⟨z,hz,e⟩
       ·rw[←e];exact hya z hz
       ·rw[←e];exact ht'.1 z hz
      ·rcases List.mem_cons.1 hs with rfl|hs
       ·exact .inr (.inr ⟨rfl,⟨y,by simp,rfl⟩,fun z hz=>fun e=>zbm (hya z hz) e.symm⟩)
       ·rcases P.of s hs with⟨h1,z,hz,h2,h3⟩|⟨h1,z,hz,h2,h3⟩|⟨h1,⟨z,hz,h2⟩,h3⟩
        ·refine .inl ⟨h1,z,hz,h2,fun h=>?_⟩
         rcases List.mem_cons.1 h with rfl|h
         ·exact zbm (hya z hz) rfl
         ·exact h3 h
        ·exact .inr (.inl ⟨h1,z,hz,h2,by simp[h3]⟩)
        ·exact .inr (.inr ⟨h1,⟨z,by simp[hz],h2⟩,h3⟩)
      ·refine⟨fun h=>List.mem_cons_of_mem _ ((P.all z hz).1 (fun k=>h (by simp[k]))),fun h=>?_⟩
       rcases List.mem_cons.1 h with rfl|h
       ·exact absurd rfl (zbm (hya z hz))
       ·exact List.mem_cons_of_mem _ ((P.all z hz).2 h)
      ·rcases List.mem_cons.1 hz with rfl|hz
       ·simp
       ·exact List.mem_cons_of_mem _ (P.drop z hz hz2)
     ·
      have hxy:x.n=y.n:=by
       rcases zev x.n y.n with h|h|h
       ·exact absurd h h1
       ·exact h
       ·exact absurd h h2
      have P:=ih a t ha'.2 ht'.2 (by omega)
      have hta:∀z∈t,ltL x.n z.n=true:=fun z hz=>by rw[hxy];exact ht'.1 z hz
      have main:∀(K:List UInt8),(K=zaz∧x≠y∨K=zg7∧x=y)→Planned (x::a) (y::t) (⟨K,x.n⟩::ziq f a t):=by
       intro K hK
       refine⟨List.pairwise_cons.2 ⟨fun s hs=>?_,P.sorted⟩,fun s hs=>?_,fun z hz=>?_,fun z hz hz2=>?_⟩
       ·rcases P.names s hs with⟨z,hz,e⟩|⟨z,hz,e⟩
        ·rw[←e];exact ha'.1 z hz
        ·rw[←e];exact hta z hz
       ·rcases List.mem_cons.1 hs with rfl|hs
        ·rcases hK with⟨rfl,h⟩|⟨rfl,h⟩
         ·refine .inl ⟨rfl,x,by simp,rfl,fun k=>?_⟩
          rcases List.mem_cons.1 k with k|k
          ·exact h k
          ·exact zbm (hta x k) rfl
         ·exact .inr (.inl ⟨rfl,x,by simp,rfl,by simp[h]⟩)
        ·rcases P.of s hs with⟨h1,z,hz,h2,h3⟩|⟨h1,z,hz,h2,h3⟩|⟨k1,⟨z,hz,k2⟩,k3⟩
         ·refine .inl ⟨h1,z,by simp[hz],h2,fun h=>?_⟩
          rcases List.mem_cons.1 h with rfl|h
          ·exact zbm (ha'.1 z hz) hxy
          ·exact h3 h
         ·exact .inr (.inl ⟨h1,z,by simp[hz],h2,by simp[h3]⟩)
         ·refine .inr (.inr ⟨k1,⟨z,by simp[hz],k2⟩,fun w hw=>?_⟩)
          rcases List.mem_cons.1 hw with rfl|hw
          ·rw[←k2];exact zbm (hta z hz)
          ·exact k3 w hw
       ·rcases List.mem_cons.1 hz with rfl|hz
        ·rcases hK with⟨rfl,h⟩|⟨rfl,h⟩
         ·refine⟨fun _=>by simp,fun k=>?_⟩
          rcases List.mem_cons.1 k with k|k
          ·exact absurd k h
          ·exact absurd rfl (zbm (hta z k))
         ·exact⟨fun k=>absurd (by simp[h]) k,fun _=>by simp⟩
        ·refine⟨fun h=>List.mem_cons_of_mem _ ((P.all z hz).1 (fun k=>h (by simp[k]))),fun h=>?_⟩
         rcases List.mem_cons.1 h with rfl|h
         ·exact absurd hxy (zbm (ha'.1 z hz))
         ·exact List.mem_cons_of_mem _ ((P.all z hz).2 h)
       ·rcases List.mem_cons.1 hz with rfl|hz
        ·exact absurd hxy (hz2 x (by simp))
        ·exact List.mem_cons_of_mem _ (P.drop z hz fun w hw=>hz2 w (by simp[hw]))
      by_cases hEq:x=y
      ·have e:zbg (x::a) (y::t)=(⟨zg7,x.n⟩,1,1):=by simp only[zbg];rw[if_neg h1,if_neg h2,if_pos hEq]
       rw[e]
       exact main _ (.inr ⟨rfl,hEq⟩)
      ·have e:zbg (x::a) (y::t)=(⟨zaz,x.n⟩,1,1):=by simp only[zbg];rw[if_neg h1,if_neg h2,if_neg hEq]
       rw[e]
       exact main _ (.inl ⟨rfl,hEq⟩)
theorem zgb{a t:List PL}(ha:Srt a)(ht:Srt t):Planned a t (zb3 a t):=yef _ a t ha ht (Nat.le_refl _)
def zsg(b:Bool)(l:List PF)(n d:List UInt8):List PF:=if b then l else zal l n d
theorem zse(l:List PF)(n d:List UInt8):zsg true l n d=l:=rfl
theorem zsf(l:List PF)(n d:List UInt8):zsg false l n d=zal l n d:=rfl
theorem yjb{l:List PF}{n d:List UInt8}{k:Nat}(h:k<l.length):zsg true (l.drop k) n d=[l[k]]++zsg true (l.drop (k+1)) n d:=by
 rw[zse,zse,List.drop_eq_getElem_cons h];rfl
theorem ynv{l:List PF}{n d:List UInt8}{k:Nat}(h:k<l.length)(e:l[k].n=n):zsg false (l.drop k) n d=[⟨n,d⟩]++zsg true (l.drop (k+1)) n d:=by
 rw[zse,zsf,List.drop_eq_getElem_cons h];unfold zal;rw[if_pos e];rfl
theorem ynt{l:List PF}{n d:List UInt8}{k:Nat}(h:k<l.length)(e:ltL n l[k].n=true):zsg false (l.drop k) n d=[⟨n,d⟩]++([l[k]]++zsg true (l.drop (k+1)) n d):=by
 rw[zse,zsf,List.drop_eq_getElem_cons h];unfold zal;rw[if_neg (fun q=>zbm e q.symm),if_pos e];rfl
theorem ynu{l:List PF}{n d:List UInt8}{k:Nat}(h:k<l.length)(e:ltL l[k].n n=true):zsg false (l.drop k) n d=[l[k]]++zsg false (l.drop (k+1)) n d:=by
 rw[zsf,zsf,List.drop_eq_getElem_cons h]
 conv=>lhs;unfold zal
 rw[if_neg (zbm e),if_neg (by rw[zco e];simp)];rfl
theorem zz4{l:List PF}(n d:List UInt8):zsg true (l.drop l.length) n d=[]:=by rw[zse,List.drop_length]
theorem zz5{l:List PF}(n d:List UInt8):zsg false (l.drop l.length) n d=[⟨n,d⟩]:=by rw[zsf,List.drop_length];rfl
def zch(A t:List PL):List PS:=(t.filter fun y=>decide (∀x∈A,x.n≠y.n)).map fun y=>⟨zds,y.n⟩
def zge(T:List PL)(x:PL):PS:=if x∈T then ⟨zg7,x.n⟩ else ⟨zaz,x.n⟩
def zct(A T:List PL):List PL→List PL→List PS
 | [],t=>zch A t
 | x::a,t=>zch A (t.takeWhile fun y=>ltL y.n x.n)++([zge T x]++zct A T a (t.dropWhile fun y=>ltL y.n x.n))
theorem ybd(A:List PL):zch A []=[]:=rfl
theorem znn(A:List PL)(y:PL)(t:List PL):zch A (y::t)=zch A [y]++zch A t:=by
 unfold zch
 rw[←List.map_append,←List.filter_append];rfl
theorem ztp{A:List PL}{y:PL}(h:∃x∈A,x.n=y.n):zch A [y]=[]:=by
 obtain⟨x,hx,e⟩:=h
 unfold zch
 rw[List.filter_cons_of_neg (by simp only[decide_eq_true_eq];intro h;exact h x hx e)];rfl
theorem zpf{A:List PL}{y:PL}(h:∀x∈A,x.n≠y.n):zch A [y]=[⟨zds,y.n⟩]:=by
 unfold zch
 rw[List.filter_cons_of_pos (by simpa using h)];rfl
theorem yeg(A T:List PL):zct A T [] []=[]:=rfl
theorem yaa(A T:List PL)(y:PL)(t:List PL):zct A T [] (y::t)=zch A [y]++zct A T [] t:=znn A y t
theorem yjh(A T:List PL){x y:PL}(a t:List PL)(h:ltL y.n x.n=true):zct A T (x::a) (y::t)=zch A [y]++zct A T (x::a) t:=by
 show zch A ((y::t).takeWhile _)++([zge T x]++zct A T a ((y::t).dropWhile _))=zch A [y]++(zch A (t.takeWhile _)++([zge T x]++zct A T a (t.dropWhile _)))
 rw[List.takeWhile_cons_of_pos (by simpa using h),List.dropWhile_cons_of_pos (by simpa using h),znn,List.append_assoc]
theorem yjj(A T:List PL){x y:PL}(a t:List PL)(h:ltL y.n x.n=false):zct A T (x::a) (y::t)=[zge T x]++zct A T a (y::t):=by
 show zch A ((y::t).takeWhile _)++([zge T x]++zct A T a ((y::t).dropWhile _))=_
 rw[List.takeWhile_cons_of_neg (by simp[h]),List.dropWhile_cons_of_neg (by simp[h]),ybd];rfl
theorem yab(A T:List PL)(x:PL)(a:List PL):zct A T (x::a) []=[zge T x]++zct A T a []:=rfl
theorem mem_dropsD{A t:List PL}{s:PS}:s∈zch A t↔∃y∈t,(∀x∈A,x.n≠y.n)∧s=⟨zds,y.n⟩:=by
 unfold zch
 rw[List.mem_map]
 constructor
 ·rintro⟨y,hy,rfl⟩
  obtain⟨h1,h2⟩:=List.mem_filter.1 hy
  exact⟨y,h1,by simpa using h2,rfl⟩
 ·rintro⟨y,hy,h,rfl⟩
  exact⟨y,List.mem_filter.2 ⟨hy,by simpa using h⟩,rfl⟩
theorem zsx(A T:List PL)(s:PS):∀(a t:List PL),s∈zct A T a t↔(∃y∈t,(∀x∈A,x.n≠y.n)∧s=⟨zds,y.n⟩)∨∃x∈a,s=zge T x:=by
 intro a
 induction a with
 | nil=>intro t;show s∈zch A t↔_;rw[mem_dropsD];simp
 | cons x a ih=>
  intro t
  show s∈zch A (t.takeWhile _)++([zge T x]++zct A T a (t.dropWhile _))↔_
  rw[List.mem_append,List.mem_append,mem_dropsD,ih,List.mem_singleton]
  have hm:∀y,y∈t↔y∈t.takeWhile (fun y=>ltL y.n x.n)∨y∈t.dropWhile (fun y=>ltL y.n x.n):=fun y=>by
   rw[←List.mem_append,List.takeWhile_append_dropWhile]
  constructor
  ·rintro(⟨y,hy,h1,h2⟩|rfl|⟨y,hy,h1,h2⟩|⟨z,hz,h⟩)
   ·exact .inl ⟨y,(hm y).2 (.inl hy),h1,h2⟩
   ·exact .inr ⟨x,by simp,rfl⟩
   ·exact .inl ⟨y,(hm y).2 (.inr hy),h1,h2⟩
   ·exact .inr ⟨z,by simp[hz],h⟩
  ·rintro(⟨y,hy,h1,h2⟩|⟨z,hz,h⟩)
   ·rcases(hm y).1 hy with hy|hy
    ·exact .inl ⟨y,hy,h1,h2⟩
    ·exact .inr (.inr (.inl ⟨y,hy,h1,h2⟩))
   ·rcases List.mem_cons.1 hz with rfl|hz
    ·exact .inr (.inl h)
    ·exact .inr (.inr (.inr ⟨z,hz,h⟩))
theorem zvk(T:List PL)(x:PL):(zge T x).n=x.n:=by unfold zge;split<;>rfl
theorem zm3{α:Type}{p:α→Bool}{l:List α}{y:α}(h:y∈l.takeWhile p):p y=true:=by
 induction l with
 | nil=>cases h
 | cons z l ih=>
  by_cases hz:p z=true
  ·rw[List.takeWhile_cons_of_pos hz] at h
   rcases List.mem_cons.1 h with rfl|h
   ·exact hz
   ·exact ih h
  ·rw[List.takeWhile_cons_of_neg hz] at h;cases h
theorem ztq{x:PL}{t:List PL}(ht:Srt t):∀y∈t.dropWhile (fun y=>ltL y.n x.n),ltL y.n x.n=false:=by
 induction t with
 | nil=>simp
 | cons z t ih=>
  have h:=Srt.cons.1 ht
  by_cases hz:ltL z.n x.n=true
  ·rw[List.dropWhile_cons_of_pos (by simpa using hz)];exact ih h.2
  ·rw[List.dropWhile_cons_of_neg (by simpa using hz)]
   intro y hy
   rcases List.mem_cons.1 hy with rfl|hy
   ·simpa using hz
   ·cases e:ltL y.n x.n with
    | false=>rfl
    | true=>exact absurd (zbq (h.1 y hy) e) hz
theorem zsi(A T:List PL):∀(a t:List PL),Srt a→Srt t→(∀x∈a,x∈A)→(zct A T a t).Pairwise fun p q=>ltL p.n q.n=true:=by
 intro a
 induction a with
 | nil=>
  intro t _ ht _
  show(zch A t).Pairwise _
  unfold zch
  exact List.pairwise_map.2 (ht.filter _)
 | cons x a ih=>
  intro t ha ht hA
  have ha':=Srt.cons.1 ha
  show(zch A (t.takeWhile _)++([zge T x]++zct A T a (t.dropWhile _))).Pairwise _
  have ht1:Srt (t.takeWhile fun y=>ltL y.n x.n):=ht.sublist (List.takeWhile_sublist _)
  have ht2:Srt (t.dropWhile fun y=>ltL y.n x.n):=ht.sublist (List.dropWhile_sublist _)
  have rest:∀s∈zct A T a (t.dropWhile fun y=>ltL y.n x.n),ltL x.n s.n=true:=by
   intro s hs
   rcases(zsx A T s _ _).1 hs with⟨y,hy,h1,rfl⟩|⟨z,hz,rfl⟩
   ·have h2:=ztq ht y hy
    rcases zev x.n y.n with h|h|h
    ·exact h
    ·exact absurd h (h1 x (hA x (by simp)))
    ·rw[h] at h2;cases h2
   ·rw[zvk];exact ha'.1 z hz
  rw[List.pairwise_append]
  refine⟨?_,?_,?_⟩
  ·unfold zch
   exact List.pairwise_map.2 (ht1.filter _)
  ·rw[List.singleton_append,List.pairwise_cons]
   exact⟨fun s hs=>by rw[zvk];exact rest s hs,ih _ ha'.2 ht2 (fun z hz=>hA z (by simp[hz]))⟩
  ·intro s hs q hq
   obtain⟨y,hy,_,rfl⟩:=mem_dropsD.1 hs
   have h1:ltL y.n x.n=true:=by have:=zm3 hy;simpa using this
   rw[List.singleton_append] at hq
   rcases List.mem_cons.1 hq with rfl|hq
   ·rw[zvk];exact h1
   ·exact zbq h1 (rest q hq)
theorem zp1{p q:List PS}(hp:p.Pairwise fun x y=>ltL x.n y.n=true)(hq:q.Pairwise fun x y=>ltL x.n y.n=true)(h:∀s,s∈p↔s∈q):p=q:=by
 induction p generalizing q with
 | nil=>
  cases q with
  | nil=>rfl
  | cons s q=>have:=(h s).2 (by simp);cases this
 | cons s p ih=>
  cases q with
  | nil=>have:=(h s).1 (by simp);cases this
  | cons r q=>
   have hp':=List.pairwise_cons.1 hp
   have hq':=List.pairwise_cons.1 hq
   have e:s=r:=by
    rcases List.mem_cons.1 ((h s).1 (by simp)) with e|e
    ·exact e
    ·rcases List.mem_cons.1 ((h r).2 (by simp)) with e2|e2
     ·exact e2.symm
     ·have a:=hq'.1 s e
      have b:=hp'.1 r e2
      rw[zco a] at b;cases b
   subst e
   rw[ih hp'.2 hq'.2 fun u=>?_]
   constructor
   ·intro hu
    rcases List.mem_cons.1 ((h u).1 (List.mem_cons_of_mem _ hu)) with e|e
    ·subst e;exact absurd rfl (zbm (hp'.1 u hu))
    ·exact e
   ·intro hu
    rcases List.mem_cons.1 ((h u).2 (List.mem_cons_of_mem _ hu)) with e|e
    ·subst e;exact absurd rfl (zbm (hq'.1 u hu))
    ·exact e
theorem yji{A T:List PL}(hA:Srt A)(hT:Srt T):zct A T A T=zb3 A T:=by
 have P:=zgb hA hT
 refine zp1 (zsi A T A T hA hT fun _ h=>h) P.sorted fun s=>?_
 rw[zsx]
 constructor
 ·rintro(⟨y,hy,h1,rfl⟩|⟨x,hx,rfl⟩)
  ·exact P.drop y hy h1
  ·unfold zge
   split
   ·rename_i h;exact(P.all x hx).2 h
   ·rename_i h;exact(P.all x hx).1 h
 ·intro hs
  obtain⟨k,n⟩:=s
  rcases P.of _ hs with⟨h1,x,hx,h2,h3⟩|⟨h1,x,hx,h2,h3⟩|⟨h1,⟨y,hy,h2⟩,h3⟩
  ·refine .inr ⟨x,hx,?_⟩
   simp only[] at h1 h2
   subst h1 h2
   unfold zge;rw[if_neg h3]
  ·refine .inr ⟨x,hx,?_⟩
   simp only[] at h1 h2
   subst h1 h2
   unfold zge;rw[if_pos h3]
  ·refine .inl ⟨y,hy,?_,?_⟩
   ·intro x hx;rw[h2];exact h3 x hx
   ·simp only[] at h1 h2
    subst h1 h2;rfl
theorem yik(c:Nat)(w:World)(hc:c<4294967296):
  Calls Tryz.prog 191 #[.int .u32 c] w fun e w'=>e=.returned (.int .u32 (cs c))∧w=w':=by
 go_enter Tryz.func191,Tryz.ntmps191
 go_wp2
 go_ret
 exact⟨zc0 (yo7 c hc),rfl⟩
theorem yjv(c:Nat)(s:ByteArray)(w:World)(hc:c<4294967296)(hs:s.size≤100000):
  Calls Tryz.prog 157 #[.int .u32 c,.string s] w fun e w'=>e=.returned (.int .u32 (zn8 c s.data.toList))∧w=w':=by
 have hl:s.data.toList.length=s.size:=by simp
 obtain⟨c1,hc1⟩:∃c1,c1=c ^^^ 4294967295:=⟨_,rfl⟩
 have hc1lt:c1<4294967296:=by rw[hc1];exact zez hc (by omega)
 have hn:bits .xor .u32 IntKind.u32.max (c:Int)=(c1:Int):=by rw[hc1];exact zxs c hc
 have HC:=hid hc1
 have HL:=hid hl
 clear hc1 hl
 go_enter Tryz.func157,Tryz.ntmps157
 go_wp2
 clear hn
 go_loop [0,5,10] (fun c _ i=>∃k:Nat,k≤s.size∧i=.int .i64 k∧c=.int .u32 (zij c1 (s.data.toList.take k))) (fun _ _ i=>s.size - (intOf i).toNat)
 case atStart=>exact⟨0,Nat.zero_le _,rfl,by simp[zij]⟩
 case round=>
  obtain⟨k,hk,rfl,rfl⟩:=hrel
  have hx:=zv7 (s.data.toList.take k) hc1lt
  by_cases hlt:k<s.size
  ·have hts:=zje s k hlt
   have hnext:zij c1 (s.data.toList.take (k+1))=zed 8 (zij c1 (s.data.toList.take k) ^^^ s[k].toNat):=by rw[hts,ztu,cf]
   have HN:=hid hnext
   clear hts hnext
   have hy:=zez hx (zi5 s[k])
   have hb:=u32_xor_nat (zij c1 (s.data.toList.take k)) s[k].toNat hx (zi5 _)
   generalize zij c1 (s.data.toList.take k)=x at *
   generalize hyy:x ^^^ s[k].toNat=y at *
   clear hyy
   have hcb:s[k].toNat<256:=s[k].toNat_lt
   go_wp2
   clear hb
   go_loop [0,19] (fun c i=>∃j:Nat,j≤8∧i=.int .i64 j∧c=.int .u32 (zed j y)) (fun _ i=>8 - (intOf i).toNat)
   case atStart=>exact⟨0,by omega,rfl,by simp[zed]⟩
   case round=>
    obtain⟨j,hj,rfl,rfl⟩:=hrel
    have hz:=zlv j hy
    by_cases hlt8:j<8
    ·have hs8:=hid (zpk j y)
     go_wp2_with (go_at_call 191;refine(yik _ _ hz).mono ?_;rintro e w'⟨rfl,rfl⟩)
     go_round
     case rel=>exact⟨j+1,by omega,by go_num,by rw[hs8.out]⟩
     case measure=>simp[intOf];omega
    ·have h8:j=8:=by omega
     subst h8
     go_wp2
     go_round
     case rel=>exact⟨k+1,by omega,by go_num,by rw[HN.out]⟩
     case measure=>simp[intOf];omega
  ·have hks:k=s.size:=by omega
   subst hks
   have hn2:=zxs _ hx
   have he:s.data.toList.take s.size=s.data.toList:=List.take_of_length_le (by rw[HL.out];omega)
   rw[he] at hn2 ⊢
   have hfin:zij c1 s.data.toList ^^^ 4294967295=zn8 c s.data.toList:=by rw[HC.out,zn8]
   rw[hfin] at hn2
   clear hfin he
   generalize zij c1 s.data.toList=x at *
   go_wp2
   go_ret
   exact⟨rfl,rfl⟩
theorem zhc(s:ByteArray)(w:World)(hs:s.size≤100000):
  Calls Tryz.prog 114 #[.string s] w fun e w'=>e=.returned (.int .u32 (za5 s.data.toList))∧w=w':=by
 go_enter Tryz.func114,Tryz.ntmps114
 go_wp2_with fail
 refine(yjv 0 s w (by omega) hs).mono ?_
 rintro e w'⟨rfl,rfl⟩
 go_wp2_with fail
 go_ret
 exact⟨zc0 (by rw[za5]),rfl⟩
theorem ycr(c:Nat)(w:World)(hc:c<4294967296):
  Calls Tryz.prog 85 #[.int .i64 c] w fun e w'=>e=.returned (.int .i64 (cs c))∧w=w':=by
 have hx:=zgx (c / 2) 3988292384 (by omega) (by omega)
 have hx2:bits .xor .i64 ((c:Int) / 2) 3988292384=(((c / 2) ^^^ 3988292384:Nat):Int):=hx
 have HX:=hid hx2
 clear hx hx2
 by_cases h:c % 2=1
 ·have hb:(((c:Int) % 2)==1)=true:=by simp;omega
  go_enter Tryz.func85,Tryz.ntmps85
  go_wp2
  go_ret
  exact⟨zc0 (by rw[HX.out,cs,if_pos h]),rfl⟩
 ·have hb:(((c:Int) % 2)==1)=false:=by simp;omega
  go_enter Tryz.func85,Tryz.ntmps85
  go_wp2
  go_ret
  exact⟨zc0 (by rw[cs,if_neg h];rfl),rfl⟩
theorem yal(c:Nat)(s:ByteArray)(w:World)(hc:c<4294967296)(hs:s.size≤100000):
  Calls Tryz.prog 57 #[.int .i64 c,.string s] w fun e w'=>e=.returned (.int .i64 (zn8 c s.data.toList))∧w=w':=by
 have hl:s.data.toList.length=s.size:=by simp
 obtain⟨c1,hc1⟩:∃c1,c1=c ^^^ 4294967295:=⟨_,rfl⟩
 have hc1lt:c1<4294967296:=by rw[hc1];exact zez hc (by omega)
 have hn:bits .xor .i64 (c:Int) 4294967295=(c1:Int):=by rw[hc1];exact zgx c 4294967295 hc (by omega)
 have HC:=hid hc1
 have HL:=hid hl
 clear hc1 hl
 go_enter Tryz.func57,Tryz.ntmps57
 go_wp2
 clear hn
 go_loop [0,5,6] (fun c i _=>∃k:Nat,k≤s.size∧i=.int .i64 k∧c=.int .i64 (zij c1 (s.data.toList.take k))) (fun _ i _=>s.size - (intOf i).toNat)
 case atStart=>exact⟨0,Nat.zero_le _,rfl,by simp[zij]⟩
 case round=>
  obtain⟨k,hk,rfl,rfl⟩:=hrel
  have hx:=zv7 (s.data.toList.take k) hc1lt
  by_cases hlt:k<s.size
  ·have hts:=zje s k hlt
   have hnext:zij c1 (s.data.toList.take (k+1))=zed 8 (zij c1 (s.data.toList.take k) ^^^ s[k].toNat):=by rw[hts,ztu,cf]
   have HN:=hid hnext
   clear hts hnext
   have hy:=zez hx (zi5 s[k])
   have hb:=zgx (zij c1 (s.data.toList.take k)) s[k].toNat hx (zi5 _)
   generalize zij c1 (s.data.toList.take k)=x at *
   generalize hyy:x ^^^ s[k].toNat=y at *
   clear hyy
   have hcb:s[k].toNat<256:=s[k].toNat_lt
   go_wp2
   clear hb
   go_loop [0,6] (fun c i=>∃j:Nat,j≤8∧i=.int .i64 j∧c=.int .i64 (zed j y)) (fun _ i=>8 - (intOf i).toNat)
   case atStart=>exact⟨0,by omega,rfl,by simp[zed]⟩
   case round=>
    obtain⟨j,hj,rfl,rfl⟩:=hrel
    have hz:=zlv j hy
    by_cases hlt8:j<8
    ·have hs8:=hid (zpk j y)
     go_wp2_with (go_at_call 85;refine(ycr _ _ hz).mono ?_;rintro e w'⟨rfl,rfl⟩)
     go_round
     case rel=>exact⟨j+1,by omega,by go_num,by rw[hs8.out]⟩
     case measure=>simp[intOf];omega
    ·have h8:j=8:=by omega
     subst h8
     go_wp2
     go_round
     case rel=>exact⟨k+1,by omega,by go_num,by rw[HN.out]⟩
     case measure=>simp[intOf];omega
  ·have hks:k=s.size:=by omega
   subst hks
   have hn2:bits .xor .i64 (zij c1 (s.data.toList.take s.size):Int) 4294967295=((zij c1 (s.data.toList.take s.size) ^^^ 4294967295:Nat):Int):=zgx _ 4294967295 hx (by omega)
   have he:s.data.toList.take s.size=s.data.toList:=List.take_of_length_le (by rw[HL.out];omega)
   rw[he] at hn2 ⊢
   have hfin:zij c1 s.data.toList ^^^ 4294967295=zn8 c s.data.toList:=by rw[HC.out,zn8]
   rw[hfin] at hn2
   clear hfin he
   generalize zij c1 s.data.toList=x at *
   go_wp2
   go_ret
   exact⟨rfl,rfl⟩
theorem zhd(s:ByteArray)(w:World)(hs:s.size≤100000):
  Calls Tryz.prog 39 #[.string s] w fun e w'=>e=.returned (.int .i64 (za5 s.data.toList))∧w=w':=by
 go_enter Tryz.func39,Tryz.ntmps39
 go_wp2_with fail
 refine(yal 0 s w (by omega) hs).mono ?_
 rintro e w'⟨rfl,rfl⟩
 go_wp2_with fail
 go_ret
 exact⟨zc0 (by rw[za5]),rfl⟩
end Go.Proofs.YtakhkcaihhpehaaGreatDoor
