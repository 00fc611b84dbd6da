/- Texts of one proof, one behind the other: RefList. -/
import Derived.Test.YtakhkcaihhpehaaGreatDoorB34
import Derived.Test.YtakhkcaihhpehaaGreatDoorB42
namespace Go.Proofs.YtakhkcaihhpehaaGreatDoor
open Go.RowKit
open Lib (hid)
set_option linter.unusedVariables false
set_option maxRecDepth 100000
set_option maxHeartbeats 51200000
def PF.ml(f:PF):PM:=⟨f.n,f.d.length,(za5 f.d:Nat)⟩
theorem zku(l:List PF)(v:Value)(w:World)(hl:SliceIs w v 2 (zah l))(hnm:∀x∈l,x.d.length≤100000)(hlen:l.length≤1000000):
  Calls Tryz.prog 25 #[v] w fun e w'=>∃r,e=.returned r∧w'.ownsRow w.heap.size 75 3 r l.length (zc2 (l.map PF.ml))∧Below w.heap.size w w':=by
 obtain⟨s,n,c,rfl,hn,h1,h2,hg⟩:=hl.get
 rw[zat] at hn
 obtain rfl:n=l.length:=by omega
 unfold maxLen at h2
 have HSL:=hid hl
 have HNM:=hid hnm
 obtain⟨i0,hi,hz0,hz1,hz2⟩:=info_parts yrc
 clear hl hg hnm
 go_enter Tryz.func25,Tryz.ntmps25
 go_wp2_with fail
 go_loopw [3,4] (fun o i wr=>∃k:Nat,i=.int .i64 k∧k≤l.length∧wr.ownsRow w.heap.size 75 3 o k (zc2 ((l.take k).map PF.ml))∧Below w.heap.size w wr) (fun _ i _=>l.length - (intOf i).toNat)
 case atStart=>exact⟨0,rfl,by omega,World.ownsRow_nil _ _ _ _,Below.refl _ _⟩
 case round=>
  obtain⟨k,rfl,hk,hown,bel⟩:=hrel
  have BW:=hid bel
  by_cases hlt:k<l.length
  ·have hltI:(k:Int)<l.length:=by omega
   obtain⟨s0',n0',c0',e1,_,_,_,g1⟩:=(HSL.out.below bel).get
   cases e1
   obtain⟨g2,g3⟩:=zb9 l k hlt
   obtain⟨ad,rfl,d0⟩:=g1 _ _ g2
   obtain⟨a',e',d1⟩:=g1 _ _ g3
   cases e'
   clear g1 g2 g3
   have NX:=hid (show zc2 ((l.take (k+1)).map PF.ml)=zc2 ((l.take k).map PF.ml)++[.string (bs (l[k]'hlt).n),.int .i64 ((l[k]'hlt).d.length:Int),.int .i64 ((za5 (l[k]'hlt).d:Nat):Int)] by
    rw[List.take_succ_eq_append_getElem hlt,List.map_append,zjz];rfl)
   have x1:(0:Int)≤k:=by omega
   have x2:(k:Int).toNat=k:=by omega
   have KK:=hid (show k+1≤l.length from hlt)
   have hdl:=HNM.out _ (List.getElem_mem hlt)
   generalize l[k]'hlt=x at d0 d1 NX hdl
   have d1:=zao d1
   have hsz:(bs x.d).size=x.d.length:=zae _
   have SM:=hid (fun w'=>zhd (bs x.d) w' (by rw[zae];exact hdl))
   simp only[zai] at SM
   have HO:=hid hown
   have HN1:Hid (k+1≤maxLen):=by show _≤_;unfold maxLen;omega
   have HN2:Hid ((k+1) * 32≤140737488355328):=by show _≤_;omega
   obtain⟨va,vc,rfl⟩:=zab hown
   clear hown bel
   go_wp2_with fail
   go_region_law (first|(refine za7 rfl (.tmp 11) (.tmp 30) 72 rfl w.heap.size 75 i0 _ 3 32 Tryz.underlying72 hi hz0 hz1 hz2 rfl (by decide) (.slice va k vc) k _ rfl (HO.out.alloc _).drew ⟨wr.heap.size,0,none⟩ 1 1 [.string (bs x.n),.int .i64 (x.d.length:Int),.int .i64 ((za5 x.d:Nat):Int)] rfl rfl (zd0 (heap_alloc_new _ _)) (fun u hu=>by simp at hu;rcases hu with rfl|rfl|rfl<;>rfl) HN1.out HN2.out (by have:=BW.out.size;simp;omega) ?_;intro v' w5 hown5 hgrow _;have HO5:=hid hown5;have HG5:=hid (zbu hgrow))|(go_simp;go_at_call 39;refine(SM.out _).mono ?_;rintro e w'⟨rfl,rfl⟩))
   all_goals
    go_wp2_with fail
    go_roundw
    case rel=>exact⟨k+1,by go_num,KK.out,by rw[NX.out];exact HO5.out,(BW.out.alloc BW.out.size _).grown HG5.out (by have:=BW.out.size;simp;omega) (fun j hj=>(HO.out.lt j hj).1)⟩
    case measure=>simp[intOf];omega
  ·have hltI:¬(k:Int)<l.length:=by omega
   rw[List.take_of_length_le (by omega)] at hown
   obtain rfl:k=l.length:=by omega
   go_wp2_with fail
   go_ret
   exact⟨_,rfl,hown,BW.out⟩
end Go.Proofs.YtakhkcaihhpehaaGreatDoor
