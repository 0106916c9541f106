/- Parts of the proof, joined into one text: LxI, LxJ, SxPar, SxCatch. -/
import Derived.Test.YtjonaidancomgaaGreatDoorPLxE
import Derived.Defers
import Derived.Recover
import Derived.Laws.EntriesVeiled
import Derived.Deep.LoopGhost

namespace Go.Proofs.YtjonaidancomgaaGreatDoor
open Go.RowKit
open Lx (Tok)

set_option maxHeartbeats 1000000 in
theorem lCatchIdle (p q r:Addr) (w:World) :
  CallsD Tryz.prog 75 #[.pointer (some p),.pointer (some q),.pointer (some r)] .returning w fun e u' w'=>e = .returned (.tuple #[])∧u' = .returning∧w'=w:=by
 refine callsD_of_wpS Tryz.func75 rfl fun c₀ cs hu=>?_
 apply wpS_seq
 apply wpS_region
 simp[wpOpsS,go_sem,recoverD,hu,Tryz.ntmps75,Exit.thenS,Array.replicate_succ]
 refine wpS_of_wp ?_
 go_wp2
 cases c₀
 simp_all [bodyPostS,results,Tryz.results75]

theorem assert_place (n:Int) (w:World):(Instr.typeAssert (.iface 131 (.int .i64 n)) 20 131 false).run Tryz.prog w = .ok (.int .i64 n) w:=by kernel_rfl

set_option maxHeartbeats 1000000 in
theorem lCatch (N a:Nat) (x0 x1 x2:Value) (w:World) (h0:Blk w N 51 #[x0]) (h1:Blk w (N+1) 3 #[x1]) (h2:Blk w (N+2) 31 #[x2]) :
  CallsD Tryz.prog 75 #[.pointer (some ⟨N,0,none⟩),.pointer (some ⟨N+1,0,none⟩),.pointer (some ⟨N+2,0,none⟩)] (.panicking [{ v:=.iface 131 (.int .i64 a),recovered:=false }]) w fun e u' w'=>
   e = .returned (.tuple #[])∧u' = .panicking [{ v:=.iface 131 (.int .i64 a),recovered:=true }]∧Blk w' N 51 #[.slice none 0 0]∧Blk w' (N+1) 3 #[.int .i64 a]∧Blk w' (N+2) 31 #[.int .i64 90]∧Below N w w':=by
 refine callsD_of_wpS Tryz.func75 rfl fun c₀ cs hu=>?_
 apply wpS_seq
 apply wpS_region
 simp[wpOpsS,go_sem,recoverD,hu,Tryz.ntmps75,Exit.thenS,Array.replicate_succ]
 refine wpS_of_wp ?_
 have c0:=h0.cell 0;have c1:=h1.cell 0;have c2:=h2.cell 0
 have f0:=h0.free 0;have f1:=h1.free 0;have f2:=h2.free 0
 simp at c0 c1 c2
 have hta:=assert_place
 go_wp2
 go_region
 refine ⟨rfl,_,rfl,.tuple #[],by simp [results,Tryz.results75],rfl,rfl,?_,?_,?_,?_⟩
 ·have:=(((h0.set 0 (.slice none 0 0)).far (p:=⟨N+1,0,none⟩) (by simp) (.int .i64 a)).far (p:=⟨N+2,0,none⟩) (by simp) (.int .i64 90)).drew
  simpa using this
 ·have:=(((h1.far (p:=⟨N,0,none⟩) (by simp) (.slice none 0 0)).set 0 (.int .i64 a)).far (p:=⟨N+2,0,none⟩) (by simp) (.int .i64 90)).drew
  simpa using this
 ·have:=(((h2.far (p:=⟨N,0,none⟩) (by simp) (.slice none 0 0)).far (p:=⟨N+1,0,none⟩) (by simp) (.int .i64 a)).set 0 (.int .i64 90)).drew
  simpa using this
 ·exact ((((Below.refl N w).setCell (p:=⟨N,0,none⟩) (Nat.le_refl _) _).setCell (p:=⟨N+1,0,none⟩) (show N≤N+1 by omega) _).setCell (p:=⟨N+2,0,none⟩) (show N≤N+2 by omega) _).drew

def LexPost (s:List UInt8) (w:World) (e:Ending) (w':World):Prop:=
 Below w.heap.size w w'∧
 if 65536 < s.length then e = .returned (.tuple #[.slice none 0 0,.int .i64 0,.int .i64 2]) else
 match Lx.lex s with
 | .ok l=>∃ A c,e = .returned (.tuple #[.slice A l.length c,.int .i64 0,.int .i64 0])∧Toks w' w'.heap.size A l
 | .err p=>e = .returned (.tuple #[.slice none 0 0,.int .i64 p,.int .i64 90])

def LexPostC (s:List UInt8) (w:World) (e:Ending) (w':World):Prop:=
 Below w.heap.size w w'∧
 if 65536 < s.length then e = .returned (.tuple #[.slice none 0 0,.int .i64 0,.int .i64 2]) else
 match Lx.lex s with
 | .ok l=>∃ A c,e = .returned (.tuple #[.slice A l.length c,.int .i64 0,.int .i64 0])∧Toks w' w'.heap.size A l∧l.length≤c
 | .err p=>e = .returned (.tuple #[.slice none 0 0,.int .i64 p,.int .i64 90])
theorem own_cap {w:World} {base sz n c:Nat} {e:TypeId} {A:Option Addr} {xs:List Value} (h:w.ownsRow base e sz (.slice A n c) n xs):n≤c:=by
 rcases h.2 with ⟨hv,h0⟩ | ⟨g,cap,cur,hv,_,_,hc,_⟩
 ·omega
 ·injection hv with _ _ hv;omega

set_option maxHeartbeats 1000000 in
theorem lLexLong (s:ByteArray) (w:World) (hs:s.size≤maxLen) (h:65536 < s.size):Calls Tryz.prog 27 #[.string s] w (LexPostC s.data.toList w):=by
 unfold maxLen at hs
 go_enter Tryz.func27,Tryz.ntmps27
 go_wp2
 refine bodyPost_ret (v:=.tuple #[.slice none 0 0,.int .i64 0,.int .i64 2]) (by simp [results,Tryz.results27,go_sem]) rfl ⟨?_,by rw [if_pos (by rw [Lx.ba_len];omega)]⟩
 exact (((Below.refl _ _).alloc (Nat.le_refl _) _).alloc (by simp) _).alloc (by simp;omega) _

def lexStart (s:ByteArray) (w:World):World:=
 (((((w.alloc (Obj.cells #[Value.slice none 0 0] 51)).alloc (Obj.cells #[Value.int IntKind.i64 0] 3)).alloc
  (Obj.cells #[Value.int IntKind.i64 0] 31)).alloc
  (Obj.cells #[Value.func (Fn.func 76) #[] #[],Value.func (Fn.func 77) #[] #[],Value.func (Fn.func 78) #[] #[],
   Value.func (Fn.func 79) #[] #[],Value.func (Fn.func 80) #[] #[],Value.func (Fn.func 76) #[] #[]] 135)).alloc
  (Obj.cells #[Value.string s,Value.int IntKind.i64 0,Value.slice none 0 0] 138))

theorem Blk.new_at {t:TypeId} {cs:Array Value} (w:World) (n:Nat) (h:w.heap.size=n):Blk (w.alloc (.cells cs t)) n t cs:=by subst h;exact Blk.new w t cs
structure LexAt (s : ByteArray) (w : World) (wr : World) : Prop where
 b0:Blk wr w.heap.size 51 #[.slice none 0 0]
 b1:Blk wr (w.heap.size+1) 3 #[.int .i64 0]
 b2:Blk wr (w.heap.size+1+1) 31 #[.int .i64 0]
 b3:Blk wr (w.heap.size+1+1+1) 135 #[.func (.func 76) #[] #[],.func (.func 77) #[] #[],.func (.func 78) #[] #[],
   .func (.func 79) #[] #[],.func (.func 80) #[] #[],.func (.func 76) #[] #[]]
 bel:Below w.heap.size w wr

theorem lexStart_at (s:ByteArray) (w:World):LexAt s w (lexStart s w):=by
 refine ⟨?_,?_,?_,?_,?_⟩
 ·exact ((((Blk.new_at w w.heap.size rfl).alloc _).alloc _).alloc _).alloc _
 ·exact (((Blk.new_at (w.alloc _) (w.heap.size+1) (by simp)).alloc _).alloc _).alloc _
 ·exact ((Blk.new_at ((w.alloc _).alloc _) (w.heap.size+1+1) (by simp)).alloc _).alloc _
 ·exact (Blk.new_at (((w.alloc _).alloc _).alloc _) (w.heap.size+1+1+1) (by simp)).alloc _
 ·exact (((((Below.refl _ _).alloc (Nat.le_refl _) _).alloc (by simp) _).alloc (by simp;omega) _).alloc (by simp;omega) _).alloc (by simp;omega) _
theorem lexStart_scan (s:ByteArray) (w:World) (h:s.size≤65536):Scan (w.heap.size+1+1+1+1) s 0 [] (lexStart s w):=by
 refine ⟨⟨.slice none 0 0,?_,?_⟩,by simp,by omega,h⟩
 ·exact Blk.new_at ((((w.alloc _).alloc _).alloc _).alloc _) (w.heap.size+1+1+1+1) (by simp)
 ·exact ⟨by simp,.inl ⟨rfl,rfl⟩⟩
theorem LexAt.next {s:ByteArray} {w wr wr':World} (h:LexAt s w wr) (hb:Below (w.heap.size+1+1+1+1) wr wr'):LexAt s w wr':=
 ⟨h.b0.below hb (by omega),h.b1.below hb (by omega),h.b2.below hb (by omega),h.b3.below hb (by omega),h.bel.trans (hb.mono (by omega))⟩

theorem own_form {w:World} {base:Nat} {e:TypeId} {size n:Nat} {v:Value} {xs:List Value} (h:w.ownsRow base e size v n xs):∃ A c,v = .slice A n c:=by
 rcases h.2 with ⟨rfl,h0⟩ | ⟨g,cap,cur,rfl,_⟩
 ·exact ⟨none,0,by rw [h0]⟩
 ·exact ⟨_,_,rfl⟩

def lexDefer (w:World):List Deferred:=[{ target:=.fn (.func 75) #[.pointer (some ⟨w.heap.size,0,none⟩),.pointer (some ⟨w.heap.size+1,0,none⟩),.pointer (some ⟨w.heap.size+1+1,0,none⟩)],args:=#[] }]

theorem lex_panicked (s:ByteArray) (h:s.size≤65536) (w w1:World) (a:Nat) (tmps:Array Value) (h2:tmps[2]?=some (.pointer (some ⟨w.heap.size,0,none⟩))) (h3:tmps[3]?=some (.pointer (some ⟨w.heap.size+1,0,none⟩))) (h4:tmps[4]?=some (.pointer (some ⟨w.heap.size+1+1,0,none⟩)))
  (hA:LexAt s w w1) (hl:Lx.lex s.data.toList = .err a) :
  Leaves Tryz.prog Tryz.f27 tmps (LexPostC s.data.toList w) (lexDefer w) (.panicking [{ v:=.iface 131 (.int .i64 a),recovered:=false }]) w1:=by
 refine leaves_cons (f:=75) (args:=#[.pointer (some ⟨w.heap.size,0,none⟩),.pointer (some ⟨w.heap.size+1,0,none⟩),.pointer (some ⟨w.heap.size+1+1,0,none⟩)]) (by simp) (by simp [go_sem]) ?_
 refine (lCatch w.heap.size a _ _ _ w1 hA.b0 hA.b1 hA.b2).mono ?_
 rintro e u' w2 ⟨rfl,rfl,q0,q1,q2,hb⟩
 have c0:=q0.cell 0;have c1:=q1.cell 0;have c2:=q2.cell 0
 simp at c0 c1 c2
 refine ⟨.tuple #[.slice none 0 0,.int .i64 a,.int .i64 90],?_,?_⟩
 ·simp[results,Tryz.results27,go_sem,h2,h3,h4,c0,c1,c2]
 ·refine ⟨hA.bel.trans hb,?_⟩
  rw[if_neg (by rw [Lx.ba_len];omega),hl]

theorem flat_at:∀ (l:List Tok) (k:Nat) (t:Tok) (j:Nat),l[k]?=some t→j < 4→(l.flatMap Tok.cells)[k*4+j]?=t.cells[j]?
 | [],k,t,j,h,_=>by simp at h
 | x::r,0,t,j,h,hj=>by
  simp at h
  subst h
  rw[List.flatMap_cons,List.getElem?_append_left (by simp [Tok.cells];omega)]
  simp
 | x::r,k+1,t,j,h,hj=>by
  rw[List.flatMap_cons,List.getElem?_append_right (by simp [Tok.cells];omega)]
  simp only[List.getElem?_cons_succ] at h
  rw[←flat_at r k t j h hj]
  congr 1
  simp[Tok.cells];omega
theorem toks_own {w:World} {base c:Nat} {A:Option Addr} {l:List Tok} (h:w.ownsRow base 55 4 (.slice A l.length c) l.length (l.flatMap Tok.cells)) (hl:l.length≤65536) (ht:∀ t∈l,t.text.length≤65536):Toks w w.heap.size A l:=by
 refine ⟨fun k t hk=>?_,by omega,fun t h=>by have:=ht t h;omega⟩
 have hlt:k < l.length:=(List.getElem?_eq_some_iff.1 hk).1
 obtain ⟨g,cap,hv,_,hg⟩:=h.form (by omega)
 injection hv with hA _ _
 subst hA
 have hcell:=fun (j:Nat) (hj:j < 4)=>(h.cellAt (g:=g) (k*4+j) (by omega)).trans (flat_at l k t j hk hj)
 refine ⟨g,0,rfl,hg,?_,?_,?_,?_⟩
 ·have:=hcell 0 (by omega);simp[Tok.cells] at this ⊢
 ·have:=hcell 1 (by omega);simp[Tok.cells,Lx.bs] at this ⊢
 ·have:=hcell 2 (by omega);simp[Tok.cells] at this ⊢
 ·have:=hcell 3 (by omega);simp[Tok.cells] at this ⊢

theorem lex_returned (s:ByteArray) (h:s.size≤65536) (w w1:World) (tmps:Array Value) (h2:tmps[2]?=some (.pointer (some ⟨w.heap.size,0,none⟩))) (h3:tmps[3]?=some (.pointer (some ⟨w.heap.size+1,0,none⟩))) (h4:tmps[4]?=some (.pointer (some ⟨w.heap.size+1+1,0,none⟩)))
  (A:Option Addr) (c:Nat) (l:List Tok) (q0:Blk w1 w.heap.size 51 #[.slice A l.length c]) (q1:Blk w1 (w.heap.size+1) 3 #[.int .i64 0]) (q2:Blk w1 (w.heap.size+1+1) 31 #[.int .i64 0]) (hbel:Below w.heap.size w w1)
  (hT:Toks w1 w1.heap.size A l) (hc:l.length≤c) (hl:Lx.lex s.data.toList = .ok l) :
  Leaves Tryz.prog Tryz.f27 tmps (LexPostC s.data.toList w) (lexDefer w) .returning w1:=by
 refine leaves_cons (f:=75) (args:=#[.pointer (some ⟨w.heap.size,0,none⟩),.pointer (some ⟨w.heap.size+1,0,none⟩),.pointer (some ⟨w.heap.size+1+1,0,none⟩)]) (by simp) (by simp [go_sem]) ?_
 refine (lCatchIdle _ _ _ w1).mono ?_
 rintro e u' w2 ⟨rfl,rfl,rfl⟩
 have c0:=q0.cell 0;have c1:=q1.cell 0;have c2:=q2.cell 0
 simp at c0 c1 c2
 refine ⟨.tuple #[.slice A l.length c,.int .i64 0,.int .i64 0],?_,?_⟩
 ·simp[results,Tryz.results27,go_sem,h2,h3,h4,c0,c1,c2]
 ·refine ⟨hbel,?_⟩
  rw[if_neg (by rw [Lx.ba_len];omega),hl]
  exact ⟨A,c,rfl,hT,hc⟩
end Go.Proofs.YtjonaidancomgaaGreatDoor

namespace Go.Proofs.YtjonaidancomgaaGreatDoor
open Go.RowKit
open Lx (Tok)

set_option maxHeartbeats 2000000 in
theorem lLexShort (s:ByteArray) (w:World) (he:Env w) (h:s.size≤65536):Calls Tryz.prog 27 #[.string s] w (LexPostC s.data.toList w):=by
 have hmf:∀ (fn:Fn) (first cap:Array Value) (w:World),(Instr.makeFunc fn first cap).run Tryz.prog w = .ok (.func fn first cap) w:=fun _ _ _ _=>rfl
 have h7:10+1≤w.heap.size:=he.size
 go_enter_defers Tryz.func27,Tryz.ntmps27
 go_wp2
 obtain ⟨W,hW⟩:∃ W,W=lexStart s w:=⟨_,rfl⟩
 rw[show (((((w.alloc (Obj.cells #[Value.slice none 0 0] 51)).alloc (Obj.cells #[Value.int IntKind.i64 0] 3)).alloc
  (Obj.cells #[Value.int IntKind.i64 0] 31)).alloc
  (Obj.cells #[Value.func (Fn.func 76) #[] #[],Value.func (Fn.func 77) #[] #[],Value.func (Fn.func 78) #[] #[],
   Value.func (Fn.func 79) #[] #[],Value.func (Fn.func 80) #[] #[],Value.func (Fn.func 76) #[] #[]] 135)).alloc
  (Obj.cells #[Value.string s,Value.int IntKind.i64 0,Value.slice none 0 0] 138))=W from hW.symm]
 have hA:LexAt s w W:=hW ▸ lexStart_at s w
 have hS:Scan (w.heap.size+1+1+1+1) s 0 [] W:=hW ▸ lexStart_scan s w h
 clear hW
 go_loopg [16] (s.size) (fun k _ wr=>∃ a l,k+a=s.size∧Scan (w.heap.size+1+1+1+1) s a l wr∧LexAt s w wr∧(Lx.lexAt (s.data.toList.drop a) a).app l=Lx.lex s.data.toList)
 case atStart=>exact ⟨0,[],by omega,hS,hA,by rw [Lx.Res.app_nil];rfl⟩
 case round=>
  obtain ⟨a,l,hka,hS',hA',hlex⟩:=hrel
  have Hlex:=Lh hlex;clear hlex
  obtain ⟨v,hblk,hown⟩:=hS'.st
  obtain ⟨A,cp,hv⟩:=own_form hown
  subst hv
  have c0:=hblk.cell 0;have c1:=hblk.cell 1;have c2:=hblk.cell 2
  simp at c0 c1 c2
  have t0:=hA'.b3.cell 0;have t1:=hA'.b3.cell 1;have t2:=hA'.b3.cell 2;have t3:=hA'.b3.cell 3;have t4:=hA'.b3.cell 4;have t5:=hA'.b3.cell 5
  simp at t0 t1 t2 t3 t4 t5
  have hEw:Env wr:=he.next hA'.bel
  have Hblk:=Lh hblk;have HA:=Lh hA';have HS:=Lh hS';have HE:=Lh hEw
  have ha0:=hS'.at_
  clear hblk hA' hS' hEw hA hS
  by_cases hlt:a < s.size
  ·have hdrop:s.data.toList.drop a=s[a]::s.data.toList.drop (a+1):=by
    rw[List.drop_eq_getElem_cons (by rw [Lx.ba_len];exact hlt)];rfl
   have Hdrop:=Lh hdrop;clear hdrop
   have hF:=Lx.facts s[a]
   rcases Lx.cls_range s[a] with hc | hc | hc | hc | hc | hc
   ·have herr:=(Lx.err_lex l Hdrop.out (Lx.step_err (by rw [←hF.c1,hc];rfl) (by rw [←hF.c2,hc];rfl) (by rw [←hF.c3,hc];rfl) (by rw [←hF.c4,hc];rfl)))
    have Herr:=Lh herr;clear herr hF
    go_wp2_with (go_at_call 81;refine (lClass _ _).mono ?_;rintro e w' ⟨rfl,rfl⟩)
    refine (lWrong _ a s _ _ Hblk.out).mono ?_
    rintro e w1 ⟨he1,rfl⟩
    unfold PanicAt at he1
    subst he1
    exact lex_panicked s h w _ a _ rfl rfl rfl HA.out (Hlex.out.symm.trans Herr.out)
   ·have hsp:Lx.space s[a]=true:=by rw [←hF.c1,hc];rfl
    obtain ⟨t,ht⟩:∃ t:ByteArray,t.data.toList=(s.data.toList.drop a).takeWhile Lx.space:=⟨Lx.bs _,Lx.bs_list _⟩
    have hpos:0 < t.size:=by rw [←Lx.ba_len,ht,Hdrop.out,List.takeWhile_cons,hsp];simp
    have hsl:=Lx.spaces_lex (D:=s.data.toList) (a:=a) l
    rw[←ht,Lx.ba_len] at hsl
    have hcall:=lSpace1 _ a s l _ HS.out t ht
    have Hcall:=Lh hcall;have Hsl:=Lh hsl
    clear hcall hsl ht hF hsp
    go_wp2_with (go_at_call 81;refine (lClass _ _).mono ?_;rintro e w' ⟨rfl,rfl⟩)
    refine (Hcall.out).mono ?_
    rintro e w1 ⟨rfl,hS1,hb1⟩
    have HA1:=Lh (HA.out.next hb1)
    have HS1:=Lh hS1
    have hat1:=hS1.at_
    clear hS1 hb1
    go_wp2_with fail
    go_roundg (s.size - (a+t.size))
    case measure=>omega
    case rel=>exact ⟨a+t.size,l,by omega,HS1.out,HA1.out,Hsl.out.trans Hlex.out⟩
   ·have hle:Lx.letter s[a]=true:=by rw [←hF.c2,hc];rfl
    obtain ⟨t,ht⟩:∃ t:ByteArray,t.data.toList=(s.data.toList.drop a).takeWhile Lx.part:=⟨Lx.bs _,Lx.bs_list _⟩
    have hpos:0 < t.size:=by rw [←Lx.ba_len,ht,Hdrop.out,List.takeWhile_cons,Lx.part_of_letter hle];simp
    have hcall:=lName1 _ a s l _ HS.out t ht hpos
    have hst:=Lx.step_letter (r:=s.data.toList.drop (a+1)) hle
    rw[←Hdrop.out,←ht] at hst
    cases hn:Lx.isName t.data.toList
    ·have hE:Lx.nameEnd t.data.toList a l=none:=by unfold Lx.nameEnd;rw[hn];rfl
     rw[hn] at hst
     rw[hE] at hcall
     have Herr:=Lh (Lx.err_lex l Hdrop.out hst)
     have Hcall:=Lh hcall
     clear hcall hst ht hn hE hF hle
     go_wp2_with (go_at_call 81;refine (lClass _ _).mono ?_;rintro e w' ⟨rfl,rfl⟩)
     refine (Hcall.out).mono ?_
     rintro e w1 ⟨he1,hb1⟩
     unfold PanicAt at he1
     subst he1
     exact lex_panicked s h w _ a _ rfl rfl rfl (HA.out.next hb1) (Hlex.out.symm.trans Herr.out)
    ·have hE:Lx.nameEnd t.data.toList a l=some (a+t.size,l++[⟨1,t.data.toList,0,a⟩]):=by unfold Lx.nameEnd;rw[hn,Lx.ba_len];rfl
     rw[hn,Lx.ba_len] at hst
     rw[hE] at hcall
     have Hok:=Lh (Lx.tok_lex l Hdrop.out hst)
     have Hcall:=Lh hcall
     clear hcall hst ht hn hE hF hle
     go_wp2_with (go_at_call 81;refine (lClass _ _).mono ?_;rintro e w' ⟨rfl,rfl⟩)
     refine (Hcall.out).mono ?_
     rintro e w1 ⟨rfl,hS1,hb1⟩
     have HA1:=Lh (HA.out.next hb1)
     have HS1:=Lh hS1
     have hat1:=hS1.at_
     clear hS1 hb1
     go_wp2_with fail
     go_roundg (s.size - (a+t.size))
     case measure=>omega
     case rel=>exact ⟨a+t.size,_,by omega,HS1.out,HA1.out,Hok.out.trans Hlex.out⟩
   ·have hfi:Lx.figure s[a]=true:=by rw [←hF.c3,hc];rfl
    obtain ⟨t,ht⟩:∃ t:ByteArray,t.data.toList=(s.data.toList.drop a).takeWhile Lx.figure:=⟨Lx.bs _,Lx.bs_list _⟩
    have hpos:0 < t.size:=by rw [←Lx.ba_len,ht,Hdrop.out,List.takeWhile_cons,hfi];simp
    have hcall:=lNumber1 _ a s l _ HS.out HE.out (by omega) t ht hpos
    have hst:=Lx.step_figure (r:=s.data.toList.drop (a+1)) hfi
    rw[←Hdrop.out,←ht] at hst
    cases hn:Lx.number t.data.toList with
    | none=>
     have hE:Lx.numEnd t.data.toList a l=none:=by unfold Lx.numEnd;rw[hn]
     rw[hn] at hst
     rw[hE] at hcall
     have Herr:=Lh (Lx.err_lex l Hdrop.out hst)
     have Hcall:=Lh hcall
     clear hcall hst ht hn hE hF hfi
     go_wp2_with (go_at_call 81;refine (lClass _ _).mono ?_;rintro e w' ⟨rfl,rfl⟩)
     refine (Hcall.out).mono ?_
     rintro e w1 ⟨he1,hb1⟩
     unfold PanicAt at he1
     subst he1
     exact lex_panicked s h w _ a _ rfl rfl rfl (HA.out.next hb1) (Hlex.out.symm.trans Herr.out)
    | some num=>
     have hE:Lx.numEnd t.data.toList a l=some (a+t.size,l++[⟨2,[],num,a⟩]):=by unfold Lx.numEnd;rw[hn,Lx.ba_len]
     rw[hn,Lx.ba_len] at hst
     rw[hE] at hcall
     have Hok:=Lh (Lx.tok_lex l Hdrop.out hst)
     have Hcall:=Lh hcall
     clear hcall hst ht hn hE hF hfi
     go_wp2_with (go_at_call 81;refine (lClass _ _).mono ?_;rintro e w' ⟨rfl,rfl⟩)
     refine (Hcall.out).mono ?_
     rintro e w1 ⟨rfl,hS1,hb1⟩
     have HA1:=Lh (HA.out.next hb1)
     have HS1:=Lh hS1
     have hat1:=hS1.at_
     clear hS1 hb1
     go_wp2_with fail
     go_roundg (s.size - (a+t.size))
     case measure=>omega
     case rel=>exact ⟨a+t.size,_,by omega,HS1.out,HA1.out,Hok.out.trans Hlex.out⟩
   ·have hsi:Lx.sign s[a]=true:=by rw [←hF.c4,hc];rfl
    have hcall:=lSign1 _ a s l _ HS.out hlt hsi
    cases hco:Lx.comment (s.data.toList.drop a)
    ·have hE:Lx.signEnd (s.data.toList.drop a) a l=some (a+1,l++[⟨3,[s[a]],0,a⟩]):=by unfold Lx.signEnd;rw[hco,Hdrop.out];rfl
     rw[hE] at hcall
     rw[Hdrop.out] at hco
     have Hok:=Lh (Lx.tok_lex l Hdrop.out (Lx.step_sign hsi hco))
     have Hcall:=Lh hcall
     clear hcall hco hE hF hsi
     go_wp2_with (go_at_call 81;refine (lClass _ _).mono ?_;rintro e w' ⟨rfl,rfl⟩)
     refine (Hcall.out).mono ?_
     rintro e w1 ⟨rfl,hS1,hb1⟩
     have HA1:=Lh (HA.out.next hb1)
     have HS1:=Lh hS1
     have hat1:=hS1.at_
     clear hS1 hb1
     go_wp2_with fail
     go_roundg (s.size - (a+1))
     case measure=>omega
     case rel=>exact ⟨a+1,_,by omega,HS1.out,HA1.out,Hok.out.trans Hlex.out⟩
    ·have hE:Lx.signEnd (s.data.toList.drop a) a l=some (a+((s.data.toList.drop a).takeWhile (· != 10)).length,l):=by unfold Lx.signEnd;rw[hco];rfl
     rw[hE] at hcall
     have hst:=Lx.step_comment (c:=s[a]) (r:=s.data.toList.drop (a+1)) (by rw [←Hdrop.out];exact hco)
     have hpos:=Lx.step_skip_pos hst
     rw[←Hdrop.out] at hst hpos
     obtain ⟨k,hk⟩:∃ k,k=((s.data.toList.drop a).takeWhile (· != 10)).length:=⟨_,rfl⟩
     rw[←hk] at hst hpos hcall
     have Hok:=Lh (Lx.skip_lex l Hdrop.out hst)
     have Hcall:=Lh hcall
     clear hcall hco hE hF hsi hst hk
     go_wp2_with (go_at_call 81;refine (lClass _ _).mono ?_;rintro e w' ⟨rfl,rfl⟩)
     refine (Hcall.out).mono ?_
     rintro e w1 ⟨rfl,hS1,hb1⟩
     have HA1:=Lh (HA.out.next hb1)
     have HS1:=Lh hS1
     have hat1:=hS1.at_
     clear hS1 hb1
     go_wp2_with fail
     go_roundg (s.size - (a+k))
     case measure=>omega
     case rel=>exact ⟨a+k,_,by omega,HS1.out,HA1.out,Hok.out.trans Hlex.out⟩
   ·have herr:=(Lx.err_lex l Hdrop.out (Lx.step_err (by rw [←hF.c1,hc];rfl) (by rw [←hF.c2,hc];rfl) (by rw [←hF.c3,hc];rfl) (by rw [←hF.c4,hc];rfl)))
    have Herr:=Lh herr;clear herr hF
    go_wp2_with (go_at_call 81;refine (lClass _ _).mono ?_;rintro e w' ⟨rfl,rfl⟩)
    refine (lWrong _ a s _ _ Hblk.out).mono ?_
    rintro e w1 ⟨he1,rfl⟩
    unfold PanicAt at he1
    subst he1
    exact lex_panicked s h w _ a _ rfl rfl rfl HA.out (Hlex.out.symm.trans Herr.out)
  ·have q0:=HA.out.b0.cell 0;have q1:=HA.out.b1.cell 0;have q2:=HA.out.b2.cell 0
   have e0:=HA.out.b0.free 0;have e1:=HA.out.b1.free 0;have e2:=HA.out.b2.free 0
   simp at q0 q1 q2
   go_wp2
   have hB:a=s.size:=by omega
   have hok:Lx.lex s.data.toList = .ok l:=by
    rw[←Hlex.out,List.drop_of_length_le (by rw [Lx.ba_len];omega),Lx.lexAt_nil]
    simp[Lx.Res.app]
   have B0:=((HA.out.b0.set 0 (.slice A l.length cp)).far (p:=⟨w.heap.size+1,0,none⟩) (by simp) (.int .i64 0)).far (p:=⟨w.heap.size+1+1,0,none⟩) (by simp;omega) (.int .i64 0)
   have B1:=((HA.out.b1.far (p:=⟨w.heap.size,0,none⟩) (by simp) (.slice A l.length cp)).set 0 (.int .i64 0)).far (p:=⟨w.heap.size+1+1,0,none⟩) (by simp) (.int .i64 0)
   have B2:=((HA.out.b2.far (p:=⟨w.heap.size,0,none⟩) (by simp;omega) (.slice A l.length cp)).far (p:=⟨w.heap.size+1,0,none⟩) (by simp) (.int .i64 0)).set 0 (.int .i64 0)
   have n0:=own_ne hown HA.out.b0 (show 55≠51 by decide)
   have n1:=own_ne hown HA.out.b1 (show 55≠3 by decide)
   have n2:=own_ne hown HA.out.b2 (show 55≠31 by decide)
   have hO:=own_setCell_far (p:=⟨w.heap.size+1+1,0,none⟩) (own_setCell_far (p:=⟨w.heap.size+1,0,none⟩) (own_setCell_far (p:=⟨w.heap.size,0,none⟩) hown n0 (.slice A l.length cp)) n1 (.int .i64 0)) n2 (.int .i64 0)
   refine lex_returned s h w _ _ rfl rfl rfl A cp l (by simpa using B0) (by simpa using B1) (by simpa using B2) ?_ (toks_own hO (by have:=HS.out.few;omega) fun t ht=>by have:=(Lx.lex_texts hok t ht).2;omega) (own_cap hO) hok
   exact ((HA.out.bel.setCell (p:=⟨w.heap.size,0,none⟩) (Nat.le_refl _) _).setCell (p:=⟨w.heap.size+1,0,none⟩) (show w.heap.size≤w.heap.size+1 by omega) _).setCell (p:=⟨w.heap.size+1+1,0,none⟩) (show w.heap.size≤w.heap.size+1+1 by omega) _

theorem lLexC (s:ByteArray) (w:World) (hs:s.size≤maxLen) (he:Env w):Calls Tryz.prog 27 #[.string s] w (LexPostC s.data.toList w):=by
 by_cases h:s.size≤65536
 ·exact lLexShort s w he h
 ·exact lLexLong s w hs (by omega)
end Go.Proofs.YtjonaidancomgaaGreatDoor

namespace Go.Proofs.YtjonaidancomgaaGreatDoor
open Go.RowKit

def FailS (p x:Int) (e:Ending):Prop:=e = .panicked [{ v:=.iface 141 (.agg #[.int .i64 p,.int .i64 x]),recovered:=false }]
structure PS (g B : Nat) (last : Int) (l : List Lx.Tok) (w : World) : Prop where
 st:∃ A c,Blk w g 143 #[.slice A l.length c,.int .i64 last]∧Toks w B A l∧l.length≤c
 le:B≤g
structure FrG (g : Nat) (w w' : World) : Prop where
 bel:Below g w w'
 keep:∀ k,k < w.heap.size→k≠g→w'.heap[k]?=w.heap[k]?
section
variable {g : Nat} {w w' w'' : World}
theorem FrG.refl (g:Nat) (w:World):FrG g w w:=⟨Below.refl _ _,fun _ _ _=>rfl⟩
theorem FrG.trans (h:FrG g w w') (k:FrG g w' w''):FrG g w w'':=⟨h.bel.trans k.bel,fun i hi hg=>(k.keep i (by have:=h.bel.size;omega) hg).trans (h.keep i hi hg)⟩
theorem FrG.set (g i:Nat) (w:World) (u:Value):FrG g w (w.setCell ⟨g,i,none⟩ u):=⟨Below.setCell (Below.refl g w) (show g≤(⟨g,i,none⟩:Addr).block from Nat.le_refl g) u,fun k _ hk=>Below.heap_setCell w ⟨g,i,none⟩ u k hk⟩
theorem FrG.below (hb:Below w.heap.size w w') (hg:g < w.heap.size):FrG g w w':=⟨hb.mono (by omega),fun k hk _=>hb.block k hk⟩
theorem FrG.blk (h:FrG g w w') {b:Nat} {t:TypeId} {cs:Array Value} (hb:Blk w b t cs) (hn:b≠g):Blk w' b t cs:=(h.keep b hb.lt hn).trans hb
theorem FrG.cell (h:FrG g w w') {b:Nat} (hb:b < w.heap.size) (hn:b≠g) (i:Nat):w'.cell? ⟨b,i,none⟩=w.cell? ⟨b,i,none⟩:=World.cell?_of_block (a:=⟨b,i,none⟩) (h.keep b hb hn)
theorem PS.lt {B:Nat} {last:Int} {l:List Lx.Tok} (h:PS g B last l w):g < w.heap.size:=by
 obtain ⟨A,c,hb,_⟩:=h.st
 exact hb.lt
theorem PS.next {B:Nat} {last:Int} {l:List Lx.Tok} (h:PS g B last l w) (hb:Below w.heap.size w w'):PS g B last l w':=by
 have hlt:=h.lt
 obtain ⟨⟨A,c,h1,h2,h3⟩,hB⟩:=h
 exact ⟨⟨A,c,h1.below hb hlt,h2.below hb (by omega),h3⟩,hB⟩
end
def SPar {α:Type} (g B:Nat) (last:Int) (w:World) (V:α→Value→World→Prop) (r:Sx.R α) (e:Ending) (w':World):Prop:=
 match r with
 | .ok a l=>∃ v,e = .returned v∧V a v w'∧PS g B last l w'∧FrG g w w'
 | .bad p x=>FailS p x e∧FrG g w w'
def vUnit (_:Unit) (v:Value) (_:World):Prop:=v = .tuple #[]
def vInt (n:Int) (v:Value) (_:World):Prop:=v = .int .i64 n
def vStr (s:List UInt8) (v:Value) (_:World):Prop:=v=strV s∧s.length≤140737488351232

set_option maxHeartbeats 1000000 in
theorem sFail (g B:Nat) (l:List Lx.Tok) (last x:Int) (w:World) (h:PS g B last l w) :
  Calls Tryz.prog 83 #[.pointer (some ⟨g,0,none⟩),.int .i64 x] w fun e w'=>FailS (Sx.front last l) x e∧w=w':=by
 obtain ⟨⟨A,c,hb,hT,_⟩,_⟩:=h
 have c0:=hb.cell 0;have c1:=hb.cell 1
 simp at c0 c1
 cases l with
 | nil=>
  clear hb hT
  go_enter Tryz.func83,Tryz.ntmps83
  go_wp2
  exact ⟨rfl,rfl,rfl⟩
 | cons t r=>
  obtain ⟨b,o,rfl,_,q0,q1,q2,q3⟩:=hT.at_ 0 t rfl
  obtain ⟨n,hn⟩:∃ n,n=(t::r).length:=⟨_,rfl⟩
  have hn0:0 < n:=by rw [hn];simp
  have hl:=hT.len
  rw[←hn] at c0 hl
  simp only[Nat.zero_mul,Nat.add_zero] at q0 q1 q2 q3
  clear hb hT hn
  go_enter Tryz.func83,Tryz.ntmps83
  go_wp2
  exact ⟨rfl,rfl,rfl⟩

set_option maxHeartbeats 1000000 in
theorem sNext (g B:Nat) (l:List Lx.Tok) (last k:Int) (x:ByteArray) (w:World) (h:PS g B last l w) :
  Calls Tryz.prog 160 #[.pointer (some ⟨g,0,none⟩),.int .i64 k,.string x] w fun e w'=>e = .returned (.bool (Sx.hit k x.data.toList l))∧w=w':=by
 obtain ⟨⟨A,c,hb,hT,_⟩,_⟩:=h
 have c0:=hb.cell 0
 simp at c0
 cases l with
 | nil=>
  clear hb hT
  go_enter Tryz.func160,Tryz.ntmps160
  go_wp2
  go_ret
  exact ⟨rfl,rfl⟩
 | cons t r=>
  obtain ⟨b,o,rfl,_,q0,q1,q2,q3⟩:=hT.at_ 0 t rfl
  obtain ⟨n,hn⟩:∃ n,n=(t::r).length:=⟨_,rfl⟩
  have hn0:0 < n:=by rw [hn];simp
  have hl:=hT.len
  rw[←hn] at c0 hl
  simp only[Nat.zero_mul,Nat.add_zero] at q0 q1 q2 q3
  clear hb hT hn
  have hx:((Lx.bs t.text).toList == x.toList)=(t.text == x.data.toList):=by rw [ByteArray.toList_eq,ByteArray.toList_eq,Lx.bs_list]
  have HR:Hid (Sx.hit k x.data.toList (t::r)=(t.kind == k && t.text == x.data.toList)):=Lh rfl
  cases hk:t.kind == k
  ·rw[hk] at HR
   clear hx
   go_enter Tryz.func160,Tryz.ntmps160
   go_wp2
   go_ret
   exact ⟨ret_bool (by rw [HR.out];rfl),rfl⟩
  ·rw[hk] at HR
   cases ht:t.text == x.data.toList
   all_goals
    rw[ht] at HR hx
    clear ht
    go_enter Tryz.func160,Tryz.ntmps160
    go_wp2
    go_ret
    exact ⟨ret_bool (by rw [HR.out];rfl),rfl⟩
end Go.Proofs.YtjonaidancomgaaGreatDoor

namespace Go.Proofs.YtjonaidancomgaaGreatDoor
open Go.RowKit

theorem assert_failureS (p x:Int) (w:World):(Instr.typeAssert (.iface 141 (.agg #[.int .i64 p,.int .i64 x])) 20 141 true).run Tryz.prog w = .ok (.tuple #[.agg #[.int .i64 p,.int .i64 x],.bool true]) w:=by kernel_rfl

set_option maxHeartbeats 1000000 in
theorem sCatchIdleCat (p q r:Addr) (w:World) :
  CallsD Tryz.prog 82 #[.pointer (some p),.pointer (some q),.pointer (some r)] .returning w fun e u' w'=>e = .returned (.tuple #[])∧u' = .returning∧w'=w:=by
 refine callsD_of_wpS Tryz.func82 rfl fun c₀ cs hu=>?_
 apply wpS_seq
 apply wpS_region
 simp[wpOpsS,go_sem,recoverD,hu,Tryz.ntmps82,Exit.thenS,Array.replicate_succ]
 refine wpS_of_wp ?_
 go_wp2
 cases c₀
 simp_all [bodyPostS,results,Tryz.results82]
set_option maxRecDepth 20000 in
set_option maxHeartbeats 4000000 in
theorem sCatchCat (N:Nat) (p x:Int) (cq:Array Value) (x1 x2:Value) (hcq:cq.size=7) (w:World) (h0:Blk w N 30 cq) (h1:Blk w (N+1) 3 #[x1]) (h2:Blk w (N+2) 31 #[x2]) :
  CallsD Tryz.prog 82 #[.pointer (some ⟨N,0,none⟩),.pointer (some ⟨N+1,0,none⟩),.pointer (some ⟨N+2,0,none⟩)] (.panicking [{ v:=.iface 141 (.agg #[.int .i64 p,.int .i64 x]),recovered:=false }]) w fun e u' w'=>
   e = .returned (.tuple #[])∧u' = .panicking [{ v:=.iface 141 (.agg #[.int .i64 p,.int .i64 x]),recovered:=true }]∧Blk w' N 30 #[.slice none 0 0,.slice none 0 0,.slice none 0 0,.slice none 0 0,.slice none 0 0,.slice none 0 0,.slice none 0 0]∧Blk w' (N+1) 3 #[.int .i64 p]∧Blk w' (N+2) 31 #[.int .i64 x]∧Below N w w':=by
 obtain ⟨y0,y1,y2,y3,y4,y5,y6,rfl⟩:∃ y0 y1 y2 y3 y4 y5 y6,cq=#[y0,y1,y2,y3,y4,y5,y6]:=by
  obtain ⟨l⟩:=cq
  match l,hcq with
  | [y0,y1,y2,y3,y4,y5,y6],_=>exact ⟨y0,y1,y2,y3,y4,y5,y6,rfl⟩
 refine callsD_of_wpS Tryz.func82 rfl fun c₀ cs hu=>?_
 apply wpS_seq
 apply wpS_region
 simp[wpOpsS,go_sem,recoverD,hu,Tryz.ntmps82,Exit.thenS,Array.replicate_succ]
 refine wpS_of_wp ?_
 have l2:=h2.lt
 have hta:=assert_failureS
 go_wp2
 clear hta hcq hu
 obtain ⟨W0,hW0⟩:∃ W0,W0=w.alloc (Obj.cells #[Value.int IntKind.i64 p,Value.int IntKind.i64 x] 141):=⟨_,rfl⟩
 rw[←hW0]
 have h3b:Blk W0 w.heap.size 141 #[.int .i64 p,.int .i64 x]:=by rw [hW0];exact Blk.new _ _ _
 have hsz0:W0.heap.size=w.heap.size+1:=by rw [hW0];simp
 obtain ⟨W,hW⟩:∃ W,W=W0.alloc (Obj.cells #[.slice none 0 0,.slice none 0 0,.slice none 0 0,.slice none 0 0,.slice none 0 0,.slice none 0 0,.slice none 0 0] 30):=⟨_,rfl⟩
 first
  | rw [←hW]
  | rw [show (w.heap.size+1)=W0.heap.size from hsz0.symm,←hW]
 have h0a:Blk W N 30 #[y0,y1,y2,y3,y4,y5,y6]:=by rw [hW,hW0];exact (h0.alloc _).alloc _
 have h1a:Blk W (N+1) 3 #[x1]:=by rw [hW,hW0];exact (h1.alloc _).alloc _
 have h2a:Blk W (N+2) 31 #[x2]:=by rw [hW,hW0];exact (h2.alloc _).alloc _
 have h3a:Blk W w.heap.size 141 #[.int .i64 p,.int .i64 x]:=by rw [hW];exact h3b.alloc _
 have h4a:Blk W (w.heap.size+1) 30 #[.slice none 0 0,.slice none 0 0,.slice none 0 0,.slice none 0 0,.slice none 0 0,.slice none 0 0,.slice none 0 0]:=by rw [hW];exact Blk.new_at _ _ hsz0
 have hbel:Below N w W:=by rw [hW,hW0];exact ((Below.refl _ _).alloc (by omega) _).alloc (by simp;omega) _
 have c0:=h0a.cell 0
 have c1:=h0a.cell 1
 have c2:=h0a.cell 2
 have c3:=h0a.cell 3
 have c4:=h0a.cell 4
 have c5:=h0a.cell 5
 have c6:=h0a.cell 6
 have e1:=h1a.cell 0;have e2:=h2a.cell 0
 have f0:=h0a.free 0
 have f1:=h0a.free 1
 have f2:=h0a.free 2
 have f3:=h0a.free 3
 have f4:=h0a.free 4
 have f5:=h0a.free 5
 have f6:=h0a.free 6
 have g1:=h1a.free 0;have g2:=h2a.free 0
 have k0:=h3a.cell 0;have k1:=h3a.cell 1
 have m0:=h4a.cell 0
 have m1:=h4a.cell 1
 have m2:=h4a.cell 2
 have m3:=h4a.cell 3
 have m4:=h4a.cell 4
 have m5:=h4a.cell 5
 have m6:=h4a.cell 6
 have hne0:w.heap.size≠N:=by omega
 have hne1:w.heap.size≠N+1:=by omega
 have hne2:w.heap.size≠N+2:=by omega
 have hne3:w.heap.size+1≠N:=by omega
 simp at c0 c1 c2 c3 c4 c5 c6 e1 e2 k0 k1 m0 m1 m2 m3 m4 m5 m6
 have H0:=Lh h0a;have H1:=Lh h1a;have H2:=Lh h2a;have HB:=Lh hbel
 clear hW hW0 h3b h0 h1 h2 h0a h1a h2a h3a h4a hbel
 have HFin:Hid (Blk (((((((((W.setCell ⟨N,0,none⟩ (.slice none 0 0)).setCell ⟨N,1,none⟩ (.slice none 0 0)).setCell ⟨N,2,none⟩ (.slice none 0 0)).setCell ⟨N,3,none⟩ (.slice none 0 0)).setCell ⟨N,4,none⟩ (.slice none 0 0)).setCell ⟨N,5,none⟩ (.slice none 0 0)).setCell ⟨N,6,none⟩ (.slice none 0 0)).setCell ⟨N+1,0,none⟩ (.int .i64 p)).setCell ⟨N+2,0,none⟩ (.int .i64 x)).drew N 30 #[.slice none 0 0,.slice none 0 0,.slice none 0 0,.slice none 0 0,.slice none 0 0,.slice none 0 0,.slice none 0 0]∧Blk (((((((((W.setCell ⟨N,0,none⟩ (.slice none 0 0)).setCell ⟨N,1,none⟩ (.slice none 0 0)).setCell ⟨N,2,none⟩ (.slice none 0 0)).setCell ⟨N,3,none⟩ (.slice none 0 0)).setCell ⟨N,4,none⟩ (.slice none 0 0)).setCell ⟨N,5,none⟩ (.slice none 0 0)).setCell ⟨N,6,none⟩ (.slice none 0 0)).setCell ⟨N+1,0,none⟩ (.int .i64 p)).setCell ⟨N+2,0,none⟩ (.int .i64 x)).drew (N+1) 3 #[.int .i64 p]∧Blk (((((((((W.setCell ⟨N,0,none⟩ (.slice none 0 0)).setCell ⟨N,1,none⟩ (.slice none 0 0)).setCell ⟨N,2,none⟩ (.slice none 0 0)).setCell ⟨N,3,none⟩ (.slice none 0 0)).setCell ⟨N,4,none⟩ (.slice none 0 0)).setCell ⟨N,5,none⟩ (.slice none 0 0)).setCell ⟨N,6,none⟩ (.slice none 0 0)).setCell ⟨N+1,0,none⟩ (.int .i64 p)).setCell ⟨N+2,0,none⟩ (.int .i64 x)).drew (N+2) 31 #[.int .i64 x]∧Below N w (((((((((W.setCell ⟨N,0,none⟩ (.slice none 0 0)).setCell ⟨N,1,none⟩ (.slice none 0 0)).setCell ⟨N,2,none⟩ (.slice none 0 0)).setCell ⟨N,3,none⟩ (.slice none 0 0)).setCell ⟨N,4,none⟩ (.slice none 0 0)).setCell ⟨N,5,none⟩ (.slice none 0 0)).setCell ⟨N,6,none⟩ (.slice none 0 0)).setCell ⟨N+1,0,none⟩ (.int .i64 p)).setCell ⟨N+2,0,none⟩ (.int .i64 x)).drew):=Lh (by
  refine ⟨?_,?_,?_,?_⟩
  ·have:=((((((((((H0.out).set 0 (.slice none 0 0)).set 1 (.slice none 0 0)).set 2 (.slice none 0 0)).set 3 (.slice none 0 0)).set 4 (.slice none 0 0)).set 5 (.slice none 0 0)).set 6 (.slice none 0 0)).far (p:=⟨N+1,0,none⟩) (by simp) (.int .i64 p)).far (p:=⟨N+2,0,none⟩) (by simp) (.int .i64 x)).drew
   simpa using this
  ·have:=((((((((((H1.out).far (p:=⟨N,0,none⟩) (by simp) (.slice none 0 0)).far (p:=⟨N,1,none⟩) (by simp) (.slice none 0 0)).far (p:=⟨N,2,none⟩) (by simp) (.slice none 0 0)).far (p:=⟨N,3,none⟩) (by simp) (.slice none 0 0)).far (p:=⟨N,4,none⟩) (by simp) (.slice none 0 0)).far (p:=⟨N,5,none⟩) (by simp) (.slice none 0 0)).far (p:=⟨N,6,none⟩) (by simp) (.slice none 0 0)).set 0 (.int .i64 p)).far (p:=⟨N+2,0,none⟩) (by simp) (.int .i64 x)).drew
   simpa using this
  ·have:=((((((((((H2.out).far (p:=⟨N,0,none⟩) (by simp) (.slice none 0 0)).far (p:=⟨N,1,none⟩) (by simp) (.slice none 0 0)).far (p:=⟨N,2,none⟩) (by simp) (.slice none 0 0)).far (p:=⟨N,3,none⟩) (by simp) (.slice none 0 0)).far (p:=⟨N,4,none⟩) (by simp) (.slice none 0 0)).far (p:=⟨N,5,none⟩) (by simp) (.slice none 0 0)).far (p:=⟨N,6,none⟩) (by simp) (.slice none 0 0)).far (p:=⟨N+1,0,none⟩) (by simp) (.int .i64 p)).set 0 (.int .i64 x)).drew
   simpa using this
  ·exact ((((((((((HB.out).setCell (p:=⟨N,0,none⟩) (Nat.le_refl _) _).setCell (p:=⟨N,1,none⟩) (Nat.le_refl _) _).setCell (p:=⟨N,2,none⟩) (Nat.le_refl _) _).setCell (p:=⟨N,3,none⟩) (Nat.le_refl _) _).setCell (p:=⟨N,4,none⟩) (Nat.le_refl _) _).setCell (p:=⟨N,5,none⟩) (Nat.le_refl _) _).setCell (p:=⟨N,6,none⟩) (Nat.le_refl _) _).setCell (p:=⟨N+1,0,none⟩) (show N≤N+1 by omega) _).setCell (p:=⟨N+2,0,none⟩) (show N≤N+2 by omega) _).drew)
 go_region
 all_goals exact ⟨rfl,_,rfl,.tuple #[],by simp [results,Tryz.results82],rfl,rfl,HFin.out⟩

set_option maxHeartbeats 1000000 in
theorem sCatchIdleRule (p q r:Addr) (w:World) :
  CallsD Tryz.prog 106 #[.pointer (some p),.pointer (some q),.pointer (some r)] .returning w fun e u' w'=>e = .returned (.tuple #[])∧u' = .returning∧w'=w:=by
 refine callsD_of_wpS Tryz.func106 rfl fun c₀ cs hu=>?_
 apply wpS_seq
 apply wpS_region
 simp[wpOpsS,go_sem,recoverD,hu,Tryz.ntmps106,Exit.thenS,Array.replicate_succ]
 refine wpS_of_wp ?_
 go_wp2
 cases c₀
 simp_all [bodyPostS,results,Tryz.results106]
set_option maxRecDepth 20000 in
set_option maxHeartbeats 4000000 in
theorem sCatchRule (N:Nat) (p x:Int) (cq:Array Value) (x1 x2:Value) (hcq:cq.size=6) (w:World) (h0:Blk w N 38 cq) (h1:Blk w (N+1) 3 #[x1]) (h2:Blk w (N+2) 31 #[x2]) :
  CallsD Tryz.prog 106 #[.pointer (some ⟨N,0,none⟩),.pointer (some ⟨N+1,0,none⟩),.pointer (some ⟨N+2,0,none⟩)] (.panicking [{ v:=.iface 141 (.agg #[.int .i64 p,.int .i64 x]),recovered:=false }]) w fun e u' w'=>
   e = .returned (.tuple #[])∧u' = .panicking [{ v:=.iface 141 (.agg #[.int .i64 p,.int .i64 x]),recovered:=true }]∧Blk w' N 38 #[.int .i64 0,.int .i64 0,.string ⟨#[]⟩,.int .i64 0,.int .i64 0,.slice none 0 0]∧Blk w' (N+1) 3 #[.int .i64 p]∧Blk w' (N+2) 31 #[.int .i64 x]∧Below N w w':=by
 obtain ⟨y0,y1,y2,y3,y4,y5,rfl⟩:∃ y0 y1 y2 y3 y4 y5,cq=#[y0,y1,y2,y3,y4,y5]:=by
  obtain ⟨l⟩:=cq
  match l,hcq with
  | [y0,y1,y2,y3,y4,y5],_=>exact ⟨y0,y1,y2,y3,y4,y5,rfl⟩
 refine callsD_of_wpS Tryz.func106 rfl fun c₀ cs hu=>?_
 apply wpS_seq
 apply wpS_region
 simp[wpOpsS,go_sem,recoverD,hu,Tryz.ntmps106,Exit.thenS,Array.replicate_succ]
 refine wpS_of_wp ?_
 have l2:=h2.lt
 have hta:=assert_failureS
 go_wp2
 clear hta hcq hu
 obtain ⟨W0,hW0⟩:∃ W0,W0=w.alloc (Obj.cells #[Value.int IntKind.i64 p,Value.int IntKind.i64 x] 141):=⟨_,rfl⟩
 rw[←hW0]
 have h3b:Blk W0 w.heap.size 141 #[.int .i64 p,.int .i64 x]:=by rw [hW0];exact Blk.new _ _ _
 have hsz0:W0.heap.size=w.heap.size+1:=by rw [hW0];simp
 obtain ⟨W,hW⟩:∃ W,W=W0.alloc (Obj.cells #[.int .i64 0,.int .i64 0,.string ⟨#[]⟩,.int .i64 0,.int .i64 0,.slice none 0 0] 38):=⟨_,rfl⟩
 first
  | rw [←hW]
  | rw [show (w.heap.size+1)=W0.heap.size from hsz0.symm,←hW]
 have h0a:Blk W N 38 #[y0,y1,y2,y3,y4,y5]:=by rw [hW,hW0];exact (h0.alloc _).alloc _
 have h1a:Blk W (N+1) 3 #[x1]:=by rw [hW,hW0];exact (h1.alloc _).alloc _
 have h2a:Blk W (N+2) 31 #[x2]:=by rw [hW,hW0];exact (h2.alloc _).alloc _
 have h3a:Blk W w.heap.size 141 #[.int .i64 p,.int .i64 x]:=by rw [hW];exact h3b.alloc _
 have h4a:Blk W (w.heap.size+1) 38 #[.int .i64 0,.int .i64 0,.string ⟨#[]⟩,.int .i64 0,.int .i64 0,.slice none 0 0]:=by rw [hW];exact Blk.new_at _ _ hsz0
 have hbel:Below N w W:=by rw [hW,hW0];exact ((Below.refl _ _).alloc (by omega) _).alloc (by simp;omega) _
 have c0:=h0a.cell 0
 have c1:=h0a.cell 1
 have c2:=h0a.cell 2
 have c3:=h0a.cell 3
 have c4:=h0a.cell 4
 have c5:=h0a.cell 5
 have e1:=h1a.cell 0;have e2:=h2a.cell 0
 have f0:=h0a.free 0
 have f1:=h0a.free 1
 have f2:=h0a.free 2
 have f3:=h0a.free 3
 have f4:=h0a.free 4
 have f5:=h0a.free 5
 have g1:=h1a.free 0;have g2:=h2a.free 0
 have k0:=h3a.cell 0;have k1:=h3a.cell 1
 have m0:=h4a.cell 0
 have m1:=h4a.cell 1
 have m2:=h4a.cell 2
 have m3:=h4a.cell 3
 have m4:=h4a.cell 4
 have m5:=h4a.cell 5
 have hne0:w.heap.size≠N:=by omega
 have hne1:w.heap.size≠N+1:=by omega
 have hne2:w.heap.size≠N+2:=by omega
 have hne3:w.heap.size+1≠N:=by omega
 simp at c0 c1 c2 c3 c4 c5 e1 e2 k0 k1 m0 m1 m2 m3 m4 m5
 have H0:=Lh h0a;have H1:=Lh h1a;have H2:=Lh h2a;have HB:=Lh hbel
 clear hW hW0 h3b h0 h1 h2 h0a h1a h2a h3a h4a hbel
 have HFin:Hid (Blk ((((((((W.setCell ⟨N,0,none⟩ (.int .i64 0)).setCell ⟨N,1,none⟩ (.int .i64 0)).setCell ⟨N,2,none⟩ (.string ⟨#[]⟩)).setCell ⟨N,3,none⟩ (.int .i64 0)).setCell ⟨N,4,none⟩ (.int .i64 0)).setCell ⟨N,5,none⟩ (.slice none 0 0)).setCell ⟨N+1,0,none⟩ (.int .i64 p)).setCell ⟨N+2,0,none⟩ (.int .i64 x)).drew N 38 #[.int .i64 0,.int .i64 0,.string ⟨#[]⟩,.int .i64 0,.int .i64 0,.slice none 0 0]∧Blk ((((((((W.setCell ⟨N,0,none⟩ (.int .i64 0)).setCell ⟨N,1,none⟩ (.int .i64 0)).setCell ⟨N,2,none⟩ (.string ⟨#[]⟩)).setCell ⟨N,3,none⟩ (.int .i64 0)).setCell ⟨N,4,none⟩ (.int .i64 0)).setCell ⟨N,5,none⟩ (.slice none 0 0)).setCell ⟨N+1,0,none⟩ (.int .i64 p)).setCell ⟨N+2,0,none⟩ (.int .i64 x)).drew (N+1) 3 #[.int .i64 p]∧Blk ((((((((W.setCell ⟨N,0,none⟩ (.int .i64 0)).setCell ⟨N,1,none⟩ (.int .i64 0)).setCell ⟨N,2,none⟩ (.string ⟨#[]⟩)).setCell ⟨N,3,none⟩ (.int .i64 0)).setCell ⟨N,4,none⟩ (.int .i64 0)).setCell ⟨N,5,none⟩ (.slice none 0 0)).setCell ⟨N+1,0,none⟩ (.int .i64 p)).setCell ⟨N+2,0,none⟩ (.int .i64 x)).drew (N+2) 31 #[.int .i64 x]∧Below N w ((((((((W.setCell ⟨N,0,none⟩ (.int .i64 0)).setCell ⟨N,1,none⟩ (.int .i64 0)).setCell ⟨N,2,none⟩ (.string ⟨#[]⟩)).setCell ⟨N,3,none⟩ (.int .i64 0)).setCell ⟨N,4,none⟩ (.int .i64 0)).setCell ⟨N,5,none⟩ (.slice none 0 0)).setCell ⟨N+1,0,none⟩ (.int .i64 p)).setCell ⟨N+2,0,none⟩ (.int .i64 x)).drew):=Lh (by
  refine ⟨?_,?_,?_,?_⟩
  ·have:=(((((((((H0.out).set 0 (.int .i64 0)).set 1 (.int .i64 0)).set 2 (.string ⟨#[]⟩)).set 3 (.int .i64 0)).set 4 (.int .i64 0)).set 5 (.slice none 0 0)).far (p:=⟨N+1,0,none⟩) (by simp) (.int .i64 p)).far (p:=⟨N+2,0,none⟩) (by simp) (.int .i64 x)).drew
   simpa using this
  ·have:=(((((((((H1.out).far (p:=⟨N,0,none⟩) (by simp) (.int .i64 0)).far (p:=⟨N,1,none⟩) (by simp) (.int .i64 0)).far (p:=⟨N,2,none⟩) (by simp) (.string ⟨#[]⟩)).far (p:=⟨N,3,none⟩) (by simp) (.int .i64 0)).far (p:=⟨N,4,none⟩) (by simp) (.int .i64 0)).far (p:=⟨N,5,none⟩) (by simp) (.slice none 0 0)).set 0 (.int .i64 p)).far (p:=⟨N+2,0,none⟩) (by simp) (.int .i64 x)).drew
   simpa using this
  ·have:=(((((((((H2.out).far (p:=⟨N,0,none⟩) (by simp) (.int .i64 0)).far (p:=⟨N,1,none⟩) (by simp) (.int .i64 0)).far (p:=⟨N,2,none⟩) (by simp) (.string ⟨#[]⟩)).far (p:=⟨N,3,none⟩) (by simp) (.int .i64 0)).far (p:=⟨N,4,none⟩) (by simp) (.int .i64 0)).far (p:=⟨N,5,none⟩) (by simp) (.slice none 0 0)).far (p:=⟨N+1,0,none⟩) (by simp) (.int .i64 p)).set 0 (.int .i64 x)).drew
   simpa using this
  ·exact (((((((((HB.out).setCell (p:=⟨N,0,none⟩) (Nat.le_refl _) _).setCell (p:=⟨N,1,none⟩) (Nat.le_refl _) _).setCell (p:=⟨N,2,none⟩) (Nat.le_refl _) _).setCell (p:=⟨N,3,none⟩) (Nat.le_refl _) _).setCell (p:=⟨N,4,none⟩) (Nat.le_refl _) _).setCell (p:=⟨N,5,none⟩) (Nat.le_refl _) _).setCell (p:=⟨N+1,0,none⟩) (show N≤N+1 by omega) _).setCell (p:=⟨N+2,0,none⟩) (show N≤N+2 by omega) _).drew)
 go_region
 all_goals exact ⟨rfl,_,rfl,.tuple #[],by simp [results,Tryz.results106],rfl,rfl,HFin.out⟩

end Go.Proofs.YtjonaidancomgaaGreatDoor
