/- Texts of one proof, one behind the other: ScrPlay. -/
import Derived.Test.YtakhkcaihhpehaaGreatDoorB35
import Derived.Test.YtakhkcaihhpehaaGreatDoorB37
import Derived.Lib.SliceRun
namespace Go.Proofs.YtakhkcaihhpehaaGreatDoor
open Go.RowKit
open Lib (hid)
set_option linter.unusedVariables false
set_option maxRecDepth 100000
set_option maxHeartbeats 51200000
theorem yl6{P:Program}{w:World}{T:TypeId}{s:Option Addr}{n c:Nat}{xs:List Value}(hu:P.underlying T=some (.slice (P.elem T)))(hz:∀w':World,(sizeOf (P.elem T)).run P w'=.ok 1 w')(h:SliceIs w (.slice s n c) 1 xs)(k:Nat)(hk:k≤n):
  ∃sH,(∀w':World,(Instr.slice T (.slice s n c) (some (.int .i64 k)) none none).run P w'=.ok (.slice sH (n - k) (c - k)) w')∧SliceIs w (.slice sH (n - k) (c - k)) 1 (xs.drop k):=by
 obtain⟨s',n',c',e,hn,h1,h2,hg⟩:=h.get
 cases e
 refine⟨if c=k then s else s.map (·.add (k * 1)),fun w'=>?_,?_⟩
 ·rw[run_slice_l w' T s n c hu .i64 k (by omega) (by omega),hz]
  simp only[Result.andThen,sliced,Int.toNat_natCast]
 ·rcases s with _|a
  ·rcases h with⟨h,rfl⟩|⟨a,_,_,h,_⟩
   ·cases h
    obtain rfl:k=0:=by omega
    exact .inl ⟨by simp,rfl⟩
   ·cases h
  ·by_cases hck:c=k
   ·rw[if_pos hck]
    refine .inr ⟨a,n - k,c - k,rfl,by omega,by unfold maxLen at *;omega,by rw[List.length_drop];omega,fun i u hi=>?_⟩
    rw[List.getElem?_drop] at hi
    have:=(List.getElem?_eq_some_iff.1 hi).1
    omega
   ·rw[if_neg hck,Option.map_some]
    refine .inr ⟨_,n - k,c - k,rfl,by omega,by unfold maxLen at *;omega,by rw[List.length_drop];omega,fun i u hi=>?_⟩
    rw[List.getElem?_drop] at hi
    obtain⟨a',e,h3⟩:=hg (k+i) u hi
    cases e
    rw[Nat.mul_one,Go.Deep.add_add]
    exact h3
theorem ym4(w:World):(zeroValue 115).run Tryz.prog w=.ok (.agg #[.int .i64 0,.nilFunc]) w:=by kernel_rfl
theorem znt(w:World):Calls Tryz.prog 46 #[] w fun e w'=>∃B,e=.returned (.map (some B))∧w'.heap[B]?=some (.map cmEs.toArray 11)∧Below w.heap.size w w':=by
 refine(ylg w).mono ?_
 rintro e w'⟨rfl,rfl⟩
 exact⟨_,rfl,heap_alloc_new w _,zag w _⟩
theorem zv9{w:World}{B:Nat}(h:w.heap[B]?=some (.map cmEs.toArray 11))(x:List UInt8):
  (Instr.lookup 117 (.map (some B)) (.string (bs x)) true).run Tryz.prog w=.ok (.tuple #[((zci x).map Cmd.val).getD (.agg #[.int .i64 0,.nilFunc]),.bool (zci x).isSome]) w:=by
 rw[zr6 _ 9 115 B 11 cmEs.toArray (bs x) _ Tryz.underlying117 Tryz.underlying9 h (by simpa using yo9) (ym4 w)]
 simp only[ypa]
 cases zci x<;>rfl
section
variable{Q:Guest}{E:Nat→Addr}{w0 w w':World}{pb k:Nat}{A:PlA}{s:SP}
theorem zhe(c:UInt8)(l:List UInt8):(zcn c l).length≤l.length+1:=by
 rw[zlh]
 have:=List.count_le_length (a:=c) (l:=l)
 omega
theorem zd7{w:World}{b n:Nat}{cs:Array Value}{t:TypeId}{vals:List Value}(k:Nat)(h:w.heap[b]?=some (.cells cs t (0,0)))(hc:cs.toList=vals)(hn:vals.length=n * k)(hm:n≤1000000):SliceIs w (.slice (some ⟨b,0,none⟩) n n) k vals:=by
 refine .inr ⟨⟨b,0,none⟩,n,n,rfl,Nat.le_refl _,by unfold maxLen;omega,hn,fun i u hu=>?_⟩
 subst hc
 have:w.cell? ⟨b,i,none⟩=some u:=by simp only[World.cell?,h];simpa using hu
 have e:(⟨b,0,none⟩:Addr).add i=⟨b,i,none⟩:=by simp[Addr.add];omega
 rw[e];exact this
theorem zl9(l:List UInt8):∃x r,zcn 32 l=x::r:=by
 cases e:zcn 32 l with
 | nil=>have:=zlh 32 l;rw[e] at this;simp at this
 | cons x r=>exact⟨x,r,rfl⟩
attribute [local irreducible] SP.wPut SP.put SP.does zci zcn
theorem yd4(line:List UInt8)(h:PlAt Q w0 w pb A s k)(hI:SInv s)(hE:SEnv E w0)(hl:line.length≤200)(hp:SP.wPut.isPrefixOf line=true):
  Calls Tryz.prog 18 #[.pointer (some ⟨pb,0,none⟩),.string (bs line)] w (Ans Q E w0 pb k (s.put (line.drop 4))):=by
 have CU:=hid (zih line w (by omega))
 rw[hp] at CU
 simp only[if_true] at CU
 have PU:=hid (yjf (line.drop 4) h hI hE (by rw[List.length_drop];omega))
 clear h hI hE hp
 go_enter Tryz.func18,Tryz.ntmps18
 go_wp2_with fail
 refine CU.out.mono ?_
 rintro e w1⟨rfl,rfl⟩
 go_wp2_with fail
 refine PU.out.mono ?_
 rintro e w2⟨r,A',k',rfl,t1,t2,t3⟩
 have T1:=hid t1
 have T2:=hid t2
 have T3:=hid t3
 clear t1 t2 t3
 go_wp2_with fail
 go_ret2
 exact⟨r,A',k',rfl,T1.out,T2.out,T3.out⟩
theorem zz7(line x:List UInt8)(r:List (List UInt8))(h:PlAt Q w0 w pb A s k)(hI:SInv s)(hE:SEnv E w0)(hl:line.length≤200)(hp:SP.wPut.isPrefixOf line=false)(hs:zcn 32 line=x::r)(hc:zci x=none):
  Calls Tryz.prog 18 #[.pointer (some ⟨pb,0,none⟩),.string (bs line)] w (Ans Q E w0 pb k (s,[],1)):=by
 have CU:=hid (zih line w (by omega))
 rw[hp] at CU
 simp only[Bool.false_eq_true,if_false] at CU
 have SPL:=zhz E 32 ⟨#[32]⟩ (by unfold bs;rfl) line w (by omega) (hE.lib.below h.bel)
 have SLN:=zhe 32 line
 rw[hs] at SPL SLN
 have SP1:=hid SPL
 have HX:=hid h
 have E1:=hid (fun(w':World)(b:Below w.heap.size w w')=>show w'.cell? ⟨1,0,none⟩=some (za0 (E 1)) from hE.err.e1.below (zaa h.bel b))
 have HB:=hid (zag w (.cells ((x::r).map fun x=>Value.string (bs x)).toArray 9))
 have hc0:(w.alloc (.cells ((x::r).map fun x=>Value.string (bs x)).toArray 9)).cell? ⟨w.heap.size,0,none⟩=some (.string (bs x)):=by simp
 have LK:=hid (fun(w':World)(B:Nat)(h:w'.heap[B]?=some (.map cmEs.toArray 11))=>zv9 h x)
 have hcs:(zci x).isSome=false:=by rw[hc];rfl
 rw[hcs,hc] at LK
 simp only[Option.map_none,Option.getD_none] at LK
 have hn0:(0:Int)<((x::r).length:Int):=by simp only[List.length_cons];omega
 have hnr:(((x::r).length:Nat):Int) - 1=(r.length:Nat):=by simp only[List.length_cons];omega
 have hn2:(x::r).length≤1000:=by omega
 generalize hO:(Obj.cells ((x::r).map fun x=>Value.string (bs x)).toArray 9)=O at *
 generalize (x::r).length=n at *
 have hwn:IntKind.i64.wrap ((n:Int) - 1)=(n:Int) - 1:=IntWalk.i64_in _ (by omega)
 clear h hI hE hp hs hc hcs SPL hO hnr SLN
 go_enter Tryz.func18,Tryz.ntmps18
 go_wp2_with fail
 refine CU.out.mono ?_
 rintro e w1⟨rfl,rfl⟩
 go_wp2_with fail
 refine SP1.out.mono ?_
 rintro e w2⟨rfl,rfl⟩
 generalize hA:w.heap.size=a0 at hc0
 generalize w.alloc O=W at *
 have hn1:0<n:=by omega
 have BD:=hid (Below.drew (Below.refl W.heap.size W))
 have KS:=hid (fun(X:World)(b:Below W.heap.size W X)=>show X.cell? ⟨a0,0,none⟩=some (.string (bs x)) from(b.cell (World.block_lt_of_cell? W _ hc0)).trans hc0)
 have AL:=hid (fun(X:World)(o:Obj)(b:Below W.heap.size W X)=>b.alloc b.size o)
 have BA:=hid (AL.out _ (.cells #[.int .i64 0,.nilFunc] 115) BD.out)
 have BXF:=hid (fun(X:World)(b:Below (W.alloc (.cells #[.int .i64 0,.nilFunc] 115)).heap.size (W.alloc (.cells #[.int .i64 0,.nilFunc] 115)) X)=>show X.heap[W.heap.size]?=some (.cells #[.int .i64 0,.nilFunc] 115 (0,0)) from(b.block _ (by simp)).trans (heap_alloc_new W _))
 have BXC:=hid (fun(X:World)(hb:X.heap[W.heap.size]?=some (.cells #[.int .i64 0,.nilFunc] 115 (0,0)))=>(show X.cell? ⟨W.heap.size,0,none⟩=some (.int .i64 0)∧X.cell? ⟨W.heap.size,1,none⟩=some .nilFunc∧X.frozen? ⟨W.heap.size,0,none⟩=false∧X.frozen? ⟨W.heap.size,1,none⟩=false from by simp[World.cell?,World.frozen?,hb]))
 have BA2:=hid (Below.drew (AL.out W (.cells #[.int .i64 0,.nilFunc] 115) (Below.refl _ _)))
 have BA3:=hid (AL.out W (.cells #[.int .i64 0,.nilFunc] 115) (Below.refl _ _))
 have DS:=hid (fun(X:World)(u v:Value)(b:Below W.heap.size W X)=>((b.setCell (p:=⟨W.heap.size,0,none⟩) (Nat.le_refl _) u).setCell (p:=⟨W.heap.size,1,none⟩) (Nat.le_refl _) v))
 have S0:=hc0
 have S1:=KS.out _ BD.out
 have S2:=KS.out _ BA.out
 have hst:∀(a:Addr)(m:Mode)(w:World),Sem.run Tryz.prog (store a (.nilFunc) m) w=stored Tryz.prog w a (.nilFunc) m:=fun a m w=>run_store _ _ _ _ m rfl
 go_wp2_with fail
 go_region_held3 (fun X=>X.cell? ⟨a0,0,none⟩=some (.string (bs x))) (first|exact S0|exact S1|exact S2|exact KS.out _ (by assumption)|exact KS.out _ (AL.out _ _ (by assumption))|exact KS.out _ (DS.out _ _ _ (by assumption)))
  ((go_at_call 46;refine(znt _).mono ?_;rintro e w1⟨B,rfl,hB,b1⟩;have b2:=zaa (by first|exact BD.out|exact BA.out|exact BA2.out|exact BA3.out) b1;have lk1:=LK.out _ B hB;have lk2:=LK.out _ B (((zag w1 (.cells #[.int .i64 0,.nilFunc] 115)).block _ (lt_of_block hB)).trans hB);try (have hbx:=BXF.out w1 ⟨b1.os,b1.tape,b1.output,b1.size,b1.block⟩;have hz:=BXC.out w1 hbx;have g1:=hz.1;have g2:=hz.2.1;have g3:=hz.2.2.1;have g4:=hz.2.2.2;have HBX:=hid hbx;clear hz hbx)))
 all_goals
  clear S0 S1 S2 hst
  have W1:=hid (zaa HB.out (AL.out w1 (.cells #[.int .i64 0,.nilFunc] 115) b2))
  have W2:=hid (zaa HB.out (DS.out w1 (.int .i64 0) .nilFunc b2))
  have ce1:=E1.out _ W1.out
  have ce2:=E1.out _ W2.out
  go_wp2_with fail
  go_quiet (fail)
  go_wp2_with fail
  go_ret2
  exact⟨_,A,k,by rw[bs_nil];rfl,zb1 E _ (by simp),(by first|exact HX.out.below (zac W1.out nq)|exact HX.out.below (zac W2.out nq)),by omega⟩
theorem yd5(line x:List UInt8)(r:List (List UInt8))(h:PlAt Q w0 w pb A s k)(hI:SInv s)(hE:SEnv E w0)(hl:line.length≤200)(hp:SP.wPut.isPrefixOf line=false)(hs:zcn 32 line=x::r)(z:Int)(fn:Nat)(hc:(zci x).map Cmd.val=some (.agg #[.int .i64 z,.func (.func fn) #[] #[]]))(hz0:0≤z)(hz1:z≠(r.length:Nat)):
  Calls Tryz.prog 18 #[.pointer (some ⟨pb,0,none⟩),.string (bs line)] w (Ans Q E w0 pb k (s,[],1)):=by
 have CU:=hid (zih line w (by omega))
 rw[hp] at CU
 simp only[Bool.false_eq_true,if_false] at CU
 have SPL:=zhz E 32 ⟨#[32]⟩ (by unfold bs;rfl) line w (by omega) (hE.lib.below h.bel)
 have SLN:=zhe 32 line
 rw[hs] at SPL SLN
 have SP1:=hid SPL
 have HX:=hid h
 have E1:=hid (fun(w':World)(b:Below w.heap.size w w')=>show w'.cell? ⟨1,0,none⟩=some (za0 (E 1)) from hE.err.e1.below (zaa h.bel b))
 have HB:=hid (zag w (.cells ((x::r).map fun x=>Value.string (bs x)).toArray 9))
 have hc0:(w.alloc (.cells ((x::r).map fun x=>Value.string (bs x)).toArray 9)).cell? ⟨w.heap.size,0,none⟩=some (.string (bs x)):=by simp
 have LK:=hid (fun(w':World)(B:Nat)(h:w'.heap[B]?=some (.map cmEs.toArray 11))=>zv9 h x)
 have hcs:(zci x).isSome=true:=by cases e:zci x with|none=>rw[e] at hc;cases hc|some c=>rfl
 rw[hcs,hc] at LK
 simp only[Option.getD_some] at LK
 have hn0:(0:Int)<((x::r).length:Int):=by simp only[List.length_cons];omega
 have hnr:(((x::r).length:Nat):Int) - 1=(r.length:Nat):=by simp only[List.length_cons];omega
 have hzb:(z==((((x::r).length:Nat):Int) - 1))=false:=by rw[hnr];exact beq_false_of_ne hz1
 have hzc:(z != ((((x::r).length:Nat):Int) - 1))=true:=by rw[hnr];exact bne_iff_ne.2 hz1
 have hn2:(x::r).length≤1000:=by omega
 generalize hO:(Obj.cells ((x::r).map fun x=>Value.string (bs x)).toArray 9)=O at *
 generalize (x::r).length=n at *
 have hwn:IntKind.i64.wrap ((n:Int) - 1)=(n:Int) - 1:=IntWalk.i64_in _ (by omega)
 clear h hI hE hp hs hc hcs SPL hO hnr SLN hz1
 go_enter Tryz.func18,Tryz.ntmps18
 go_wp2_with fail
 refine CU.out.mono ?_
 rintro e w1⟨rfl,rfl⟩
 go_wp2_with fail
 refine SP1.out.mono ?_
 rintro e w2⟨rfl,rfl⟩
 generalize hA:w.heap.size=a0 at hc0
 generalize w.alloc O=W at *
 have hn1:0<n:=by omega
 have BD:=hid (Below.drew (Below.refl W.heap.size W))
 have KS:=hid (fun(X:World)(b:Below W.heap.size W X)=>show X.cell? ⟨a0,0,none⟩=some (.string (bs x)) from(b.cell (World.block_lt_of_cell? W _ hc0)).trans hc0)
 have AL:=hid (fun(X:World)(o:Obj)(b:Below W.heap.size W X)=>b.alloc b.size o)
 have BA:=hid (AL.out _ (.cells #[.int .i64 0,.nilFunc] 115) BD.out)
 have BXF:=hid (fun(X:World)(b:Below (W.alloc (.cells #[.int .i64 0,.nilFunc] 115)).heap.size (W.alloc (.cells #[.int .i64 0,.nilFunc] 115)) X)=>show X.heap[W.heap.size]?=some (.cells #[.int .i64 0,.nilFunc] 115 (0,0)) from(b.block _ (by simp)).trans (heap_alloc_new W _))
 have BXC:=hid (fun(X:World)(hb:X.heap[W.heap.size]?=some (.cells #[.int .i64 0,.nilFunc] 115 (0,0)))=>(show X.cell? ⟨W.heap.size,0,none⟩=some (.int .i64 0)∧X.cell? ⟨W.heap.size,1,none⟩=some .nilFunc∧X.frozen? ⟨W.heap.size,0,none⟩=false∧X.frozen? ⟨W.heap.size,1,none⟩=false from by simp[World.cell?,World.frozen?,hb]))
 have BA2:=hid (Below.drew (AL.out W (.cells #[.int .i64 0,.nilFunc] 115) (Below.refl _ _)))
 have BA3:=hid (AL.out W (.cells #[.int .i64 0,.nilFunc] 115) (Below.refl _ _))
 have DS:=hid (fun(X:World)(u v:Value)(b:Below W.heap.size W X)=>((b.setCell (p:=⟨W.heap.size,0,none⟩) (Nat.le_refl _) u).setCell (p:=⟨W.heap.size,1,none⟩) (Nat.le_refl _) v))
 have S0:=hc0
 have S1:=KS.out _ BD.out
 have S2:=KS.out _ BA.out
 have hst:∀(a:Addr)(m:Mode)(w:World),Sem.run Tryz.prog (store a (.func (.func fn) #[] #[]) m) w=stored Tryz.prog w a (.func (.func fn) #[] #[]) m:=fun a m w=>run_store _ _ _ _ m rfl
 go_wp2_with fail
 go_region_held3 (fun X=>X.cell? ⟨a0,0,none⟩=some (.string (bs x))) (first|exact S0|exact S1|exact S2|exact KS.out _ (by assumption)|exact KS.out _ (AL.out _ _ (by assumption))|exact KS.out _ (DS.out _ _ _ (by assumption)))
  ((go_at_call 46;refine(znt _).mono ?_;rintro e w1⟨B,rfl,hB,b1⟩;have b2:=zaa (by first|exact BD.out|exact BA.out|exact BA2.out|exact BA3.out) b1;have lk1:=LK.out _ B hB;have lk2:=LK.out _ B (((zag w1 (.cells #[.int .i64 0,.nilFunc] 115)).block _ (lt_of_block hB)).trans hB);try (have hbx:=BXF.out w1 ⟨b1.os,b1.tape,b1.output,b1.size,b1.block⟩;have hz:=BXC.out w1 hbx;have g1:=hz.1;have g2:=hz.2.1;have g3:=hz.2.2.1;have g4:=hz.2.2.2;have HBX:=hid hbx;clear hz hbx)))
 ·have hx:(w1.alloc (.cells #[.int .i64 z,.func (.func fn) #[] #[]] 115)).heap[w1.heap.size]?=some (.cells #[.int .i64 z,.func (.func fn) #[] #[]] 115 (0,0)):=heap_alloc_new w1 _
  have B5:=hid (AL.out w1 (.cells #[.int .i64 z,.func (.func fn) #[] #[]] 115) b2)
  generalize w1.alloc (.cells #[.int .i64 z,.func (.func fn) #[] #[]] 115)=W5 at *
  generalize w1.heap.size=bx at *
  obtain⟨k1,k2⟩:W5.cell? ⟨bx,0,none⟩=some (.int .i64 z)∧W5.cell? ⟨bx,1,none⟩=some (.func (.func fn) #[] #[]):=by constructor<;>simp[World.cell?,hx]
  have B6:=hid (zaa HB.out B5.out)
  have ce:=E1.out _ B6.out
  clear hx S0 S1 S2 hst
  go_wp2_with fail
  go_quiet (fail)
  go_wp2_with fail
  go_ret2
  exact⟨_,A,k,by rw[bs_nil];rfl,zb1 E _ (by simp),HX.out.below (zac B6.out nq),by omega⟩
 ·have hx:(w1.alloc (.cells #[.int .i64 z,.func (.func fn) #[] #[]] 115)).heap[w1.heap.size]?=some (.cells #[.int .i64 z,.func (.func fn) #[] #[]] 115 (0,0)):=heap_alloc_new w1 _
  have B5:=hid (AL.out w1 (.cells #[.int .i64 z,.func (.func fn) #[] #[]] 115) b2)
  generalize w1.alloc (.cells #[.int .i64 z,.func (.func fn) #[] #[]] 115)=W5 at *
  generalize w1.heap.size=bx at *
  obtain⟨k1,k2⟩:W5.cell? ⟨bx,0,none⟩=some (.int .i64 z)∧W5.cell? ⟨bx,1,none⟩=some (.func (.func fn) #[] #[]):=by constructor<;>simp[World.cell?,hx]
  have B6:=hid (zaa HB.out B5.out)
  have ce:=E1.out _ B6.out
  clear hx S0 S1 S2 hst
  go_wp2_with fail
  go_quiet (fail)
  go_wp2_with fail
  go_ret2
  exact⟨_,A,k,by rw[bs_nil];rfl,zb1 E _ (by simp),HX.out.below (zac B6.out nq),by omega⟩
 ·have hx:((w1.setCell ⟨W.heap.size,0,none⟩ (.int .i64 z)).setCell ⟨W.heap.size,1,none⟩ (.func (.func fn) #[] #[])).heap[W.heap.size]?=some (.cells #[.int .i64 z,.func (.func fn) #[] #[]] 115 (0,0)):=by have h1:=za2 (k:=0) (u:=.int .i64 z) HBX.out;have h2:=za2 (k:=1) (u:=.func (.func fn) #[] #[]) h1;simpa using h2
  have B5:=hid (DS.out w1 (.int .i64 z) (.func (.func fn) #[] #[]) b2)
  generalize (w1.setCell ⟨W.heap.size,0,none⟩ (.int .i64 z)).setCell ⟨W.heap.size,1,none⟩ (.func (.func fn) #[] #[])=W5 at *
  generalize W.heap.size=bx at hx ⊢
  obtain⟨k1,k2⟩:W5.cell? ⟨bx,0,none⟩=some (.int .i64 z)∧W5.cell? ⟨bx,1,none⟩=some (.func (.func fn) #[] #[]):=by constructor<;>simp[World.cell?,hx]
  have B6:=hid (zaa HB.out B5.out)
  have ce:=E1.out _ B6.out
  clear hx S0 S1 S2 hst
  go_wp2_with fail
  go_quiet (fail)
  go_wp2_with fail
  go_ret2
  exact⟨_,A,k,by rw[bs_nil];rfl,zb1 E _ (by simp),HX.out.below (zac B6.out nq),by omega⟩
theorem yjg(line x:List UInt8)(r:List (List UInt8))(h:PlAt Q w0 w pb A s k)(hI:SInv s)(hE:SEnv E w0)(hl:line.length≤200)(hp:SP.wPut.isPrefixOf line=false)(hs:zcn 32 line=x::r)(z:Int)(fn:Nat)(p:SP×An)(hc:(zci x).map Cmd.val=some (.agg #[.int .i64 z,.func (.func fn) #[] #[]]))(hz:z<0∨z=(r.length:Nat))(eg:∀args w,(callFunc fn args).run Tryz.prog w=.ok (.enter fn args) w)
  (HC:∀(X:World)(v:Value),Below w.heap.size w X→SliceIs X v 1 (zbw r)→Calls Tryz.prog fn #[.pointer (some ⟨pb,0,none⟩),v] X (Ans Q E w0 pb k p)) :
  Calls Tryz.prog 18 #[.pointer (some ⟨pb,0,none⟩),.string (bs line)] w (Ans Q E w0 pb k p):=by
 have CU:=hid (zih line w (by omega))
 rw[hp] at CU
 simp only[Bool.false_eq_true,if_false] at CU
 have SPL:=zhz E 32 ⟨#[32]⟩ (by unfold bs;rfl) line w (by omega) (hE.lib.below h.bel)
 have SLN:=zhe 32 line
 rw[hs] at SPL SLN
 have SP1:=hid SPL
 have HX:=hid h
 have E1:=hid (fun(w':World)(b:Below w.heap.size w w')=>show w'.cell? ⟨1,0,none⟩=some (za0 (E 1)) from hE.err.e1.below (zaa h.bel b))
 have HB:=hid (zag w (.cells ((x::r).map fun x=>Value.string (bs x)).toArray 9))
 have hc0:(w.alloc (.cells ((x::r).map fun x=>Value.string (bs x)).toArray 9)).cell? ⟨w.heap.size,0,none⟩=some (.string (bs x)):=by simp
 have HSL:SliceIs (w.alloc (.cells ((x::r).map fun x=>Value.string (bs x)).toArray 9)) (.slice (some ⟨w.heap.size,0,none⟩) (x::r).length (x::r).length) 1 (zbw (x::r)):=zd7 1 (heap_alloc_new w _) (by unfold zbw;simp) (by unfold zbw;simp) (by omega)
 obtain⟨sH,SLR,SLI⟩:=yl6 (P:=Tryz.prog) (T:=22) Tryz.underlying22 (by intro w';kernel_rfl) HSL 1 (by simp)
 have SLR:∀w':World,(Instr.slice 22 (.slice (some ⟨w.heap.size,0,none⟩) (x::r).length (x::r).length) (some (.int .i64 1)) none none).run Tryz.prog w'=.ok (.slice sH ((x::r).length - 1) ((x::r).length - 1)) w':=SLR
 rw[show(zbw (x::r)).drop 1=zbw r by unfold zbw;simp] at SLI
 have HSI:=hid SLI
 have LK:=hid (fun(w':World)(B:Nat)(h:w'.heap[B]?=some (.map cmEs.toArray 11))=>zv9 h x)
 have hcs:(zci x).isSome=true:=by cases e:zci x with|none=>rw[e] at hc;cases hc|some c=>rfl
 rw[hcs,hc] at LK
 simp only[Option.getD_some] at LK
 have hn0:(0:Int)<((x::r).length:Int):=by simp only[List.length_cons];omega
 have hnr:(((x::r).length:Nat):Int) - 1=(r.length:Nat):=by simp only[List.length_cons];omega
 have hz2:(0≤z→(z==((((x::r).length:Nat):Int) - 1))=true):=fun h0=>by rw[hnr];exact beq_iff_eq.2 (by omega)
 have hz3:(0≤z→(z != ((((x::r).length:Nat):Int) - 1))=false):=fun h0=>by rw[hnr];simp only[bne_eq_false_iff_eq];omega
 have hn1':1≤(x::r).length:=by simp
 have hn2:(x::r).length≤1000:=by omega
 generalize hO:(Obj.cells ((x::r).map fun x=>Value.string (bs x)).toArray 9)=O at *
 generalize (x::r).length=n at *
 have hwn:IntKind.i64.wrap ((n:Int) - 1)=(n:Int) - 1:=IntWalk.i64_in _ (by omega)
 clear h hI hE hp hs hc hcs SPL hO hnr SLN HSL SLI
 have HCC:=hid HC
 clear HC
 go_enter Tryz.func18,Tryz.ntmps18
 go_wp2_with fail
 refine CU.out.mono ?_
 rintro e w1⟨rfl,rfl⟩
 go_wp2_with fail
 refine SP1.out.mono ?_
 rintro e w2⟨rfl,rfl⟩
 generalize hA:w.heap.size=a0 at hc0 SLR HSI
 generalize w.alloc O=W at *
 have hn1:0<n:=by omega
 have BD:=hid (Below.drew (Below.refl W.heap.size W))
 have KS:=hid (fun(X:World)(b:Below W.heap.size W X)=>show X.cell? ⟨a0,0,none⟩=some (.string (bs x)) from(b.cell (World.block_lt_of_cell? W _ hc0)).trans hc0)
 have AL:=hid (fun(X:World)(o:Obj)(b:Below W.heap.size W X)=>b.alloc b.size o)
 have BA:=hid (AL.out _ (.cells #[.int .i64 0,.nilFunc] 115) BD.out)
 have BXF:=hid (fun(X:World)(b:Below (W.alloc (.cells #[.int .i64 0,.nilFunc] 115)).heap.size (W.alloc (.cells #[.int .i64 0,.nilFunc] 115)) X)=>show X.heap[W.heap.size]?=some (.cells #[.int .i64 0,.nilFunc] 115 (0,0)) from(b.block _ (by simp)).trans (heap_alloc_new W _))
 have BXC:=hid (fun(X:World)(hb:X.heap[W.heap.size]?=some (.cells #[.int .i64 0,.nilFunc] 115 (0,0)))=>(show X.cell? ⟨W.heap.size,0,none⟩=some (.int .i64 0)∧X.cell? ⟨W.heap.size,1,none⟩=some .nilFunc∧X.frozen? ⟨W.heap.size,0,none⟩=false∧X.frozen? ⟨W.heap.size,1,none⟩=false from by simp[World.cell?,World.frozen?,hb]))
 have BA2:=hid (Below.drew (AL.out W (.cells #[.int .i64 0,.nilFunc] 115) (Below.refl _ _)))
 have BA3:=hid (AL.out W (.cells #[.int .i64 0,.nilFunc] 115) (Below.refl _ _))
 have DS:=hid (fun(X:World)(u v:Value)(b:Below W.heap.size W X)=>((b.setCell (p:=⟨W.heap.size,0,none⟩) (Nat.le_refl _) u).setCell (p:=⟨W.heap.size,1,none⟩) (Nat.le_refl _) v))
 have S0:=hc0
 have S1:=KS.out _ BD.out
 have S2:=KS.out _ BA.out
 have hst:∀(a:Addr)(m:Mode)(w:World),Sem.run Tryz.prog (store a (.func (.func fn) #[] #[]) m) w=stored Tryz.prog w a (.func (.func fn) #[] #[]) m:=fun a m w=>run_store _ _ _ _ m rfl
 go_wp2_with fail
 go_region_held3 (fun X=>X.cell? ⟨a0,0,none⟩=some (.string (bs x))) (first|exact S0|exact S1|exact S2|exact KS.out _ (by assumption)|exact KS.out _ (AL.out _ _ (by assumption))|exact KS.out _ (DS.out _ _ _ (by assumption)))
  ((go_at_call 46;refine(znt _).mono ?_;rintro e w1⟨B,rfl,hB,b1⟩;have b2:=zaa (by first|exact BD.out|exact BA.out|exact BA2.out|exact BA3.out) b1;have lk1:=LK.out _ B hB;have lk2:=LK.out _ B (((zag w1 (.cells #[.int .i64 0,.nilFunc] 115)).block _ (lt_of_block hB)).trans hB);try (have hbx:=BXF.out w1 ⟨b1.os,b1.tape,b1.output,b1.size,b1.block⟩;have hz:=BXC.out w1 hbx;have g1:=hz.1;have g2:=hz.2.1;have g3:=hz.2.2.1;have g4:=hz.2.2.2;have HBX:=hid hbx;clear hz hbx)))
 ·have hx:(w1.alloc (.cells #[.int .i64 z,.func (.func fn) #[] #[]] 115)).heap[w1.heap.size]?=some (.cells #[.int .i64 z,.func (.func fn) #[] #[]] 115 (0,0)):=heap_alloc_new w1 _
  have B5:=hid (AL.out w1 (.cells #[.int .i64 z,.func (.func fn) #[] #[]] 115) b2)
  generalize w1.alloc (.cells #[.int .i64 z,.func (.func fn) #[] #[]] 115)=W5 at *
  generalize w1.heap.size=bx at *
  obtain⟨k1,k2⟩:W5.cell? ⟨bx,0,none⟩=some (.int .i64 z)∧W5.cell? ⟨bx,1,none⟩=some (.func (.func fn) #[] #[]):=by constructor<;>simp[World.cell?,hx]
  have BE:=hid (Below.drew B5.out)
  have HC1:=hid (HCC.out W5.drew _ (zaa HB.out BE.out) (HSI.out.below BE.out))
  have T0:=k2
  have T1:W5.drew.cell? ⟨bx,1,none⟩=some (.func (.func fn) #[] #[]):=k2
  clear hx S0 S1 S2 hst
  rcases hz with hzz|hzz
  all_goals
   first|have hz0:¬(0:Int)≤z:=by omega|skip
   try (have hz4:=hz2 (by omega);have hz5:=hz3 (by omega);have hz0:(0:Int)≤z:=by omega)
   clear hz2 hz3 hzz
   go_wp2_with fail
   go_region_law (go_simp;(refine HC1.out.mono ?_;rintro e w6⟨r6,A',k',rfl,t1,t2,t3⟩;have TT1:=hid t1;have TT2:=hid t2;have TT3:=hid t3;clear t1 t2 t3))
   all_goals
    go_wp2_with fail
    go_ret2
    exact⟨r6,A',k',rfl,TT1.out,TT2.out,TT3.out⟩
 ·have hx:(w1.alloc (.cells #[.int .i64 z,.func (.func fn) #[] #[]] 115)).heap[w1.heap.size]?=some (.cells #[.int .i64 z,.func (.func fn) #[] #[]] 115 (0,0)):=heap_alloc_new w1 _
  have B5:=hid (AL.out w1 (.cells #[.int .i64 z,.func (.func fn) #[] #[]] 115) b2)
  generalize w1.alloc (.cells #[.int .i64 z,.func (.func fn) #[] #[]] 115)=W5 at *
  generalize w1.heap.size=bx at *
  obtain⟨k1,k2⟩:W5.cell? ⟨bx,0,none⟩=some (.int .i64 z)∧W5.cell? ⟨bx,1,none⟩=some (.func (.func fn) #[] #[]):=by constructor<;>simp[World.cell?,hx]
  have BE:=hid (Below.drew B5.out)
  have HC1:=hid (HCC.out W5.drew _ (zaa HB.out BE.out) (HSI.out.below BE.out))
  have T0:=k2
  have T1:W5.drew.cell? ⟨bx,1,none⟩=some (.func (.func fn) #[] #[]):=k2
  clear hx S0 S1 S2 hst
  rcases hz with hzz|hzz
  all_goals
   first|have hz0:¬(0:Int)≤z:=by omega|skip
   try (have hz4:=hz2 (by omega);have hz5:=hz3 (by omega);have hz0:(0:Int)≤z:=by omega)
   clear hz2 hz3 hzz
   go_wp2_with fail
   go_region_law (go_simp;(refine HC1.out.mono ?_;rintro e w6⟨r6,A',k',rfl,t1,t2,t3⟩;have TT1:=hid t1;have TT2:=hid t2;have TT3:=hid t3;clear t1 t2 t3))
   all_goals
    go_wp2_with fail
    go_ret2
    exact⟨r6,A',k',rfl,TT1.out,TT2.out,TT3.out⟩
 ·have hx:((w1.setCell ⟨W.heap.size,0,none⟩ (.int .i64 z)).setCell ⟨W.heap.size,1,none⟩ (.func (.func fn) #[] #[])).heap[W.heap.size]?=some (.cells #[.int .i64 z,.func (.func fn) #[] #[]] 115 (0,0)):=by have h1:=za2 (k:=0) (u:=.int .i64 z) HBX.out;have h2:=za2 (k:=1) (u:=.func (.func fn) #[] #[]) h1;simpa using h2
  have B5:=hid (DS.out w1 (.int .i64 z) (.func (.func fn) #[] #[]) b2)
  generalize (w1.setCell ⟨W.heap.size,0,none⟩ (.int .i64 z)).setCell ⟨W.heap.size,1,none⟩ (.func (.func fn) #[] #[])=W5 at *
  generalize W.heap.size=bx at hx ⊢
  obtain⟨k1,k2⟩:W5.cell? ⟨bx,0,none⟩=some (.int .i64 z)∧W5.cell? ⟨bx,1,none⟩=some (.func (.func fn) #[] #[]):=by constructor<;>simp[World.cell?,hx]
  have BE:=hid (Below.drew B5.out)
  have HC1:=hid (HCC.out W5.drew _ (zaa HB.out BE.out) (HSI.out.below BE.out))
  have T0:=k2
  have T1:W5.drew.cell? ⟨bx,1,none⟩=some (.func (.func fn) #[] #[]):=k2
  clear hx S0 S1 S2 hst
  rcases hz with hzz|hzz
  all_goals
   first|have hz0:¬(0:Int)≤z:=by omega|skip
   try (have hz4:=hz2 (by omega);have hz5:=hz3 (by omega);have hz0:(0:Int)≤z:=by omega)
   clear hz2 hz3 hzz
   go_wp2_with fail
   go_region_law (go_simp;(refine HC1.out.mono ?_;rintro e w6⟨r6,A',k',rfl,t1,t2,t3⟩;have TT1:=hid t1;have TT2:=hid t2;have TT3:=hid t3;clear t1 t2 t3))
   all_goals
    go_wp2_with fail
    go_ret2
    exact⟨r6,A',k',rfl,TT1.out,TT2.out,TT3.out⟩
end
end Go.Proofs.YtakhkcaihhpehaaGreatDoor
