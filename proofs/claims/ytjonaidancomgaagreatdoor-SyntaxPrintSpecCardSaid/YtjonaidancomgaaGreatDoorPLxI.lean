/- Parts of the proof, joined into one text: LxI, LxJ, q1a, q1b, Wx. -/
import Derived.Test.YtjonaidancomgaaGreatDoorPLxE
import Derived.Defers
import Derived.Recover
import Derived.Laws.EntriesVeiled
import Derived.Deep.LoopGhost
import Derived.Deep.QuietTactic
import Derived.BigQuiet
import Derived.Test.YtjonaidancomgaaGreatDoorPSxEq
import Derived.Deep.AppendLies
import Derived.Deep.RegionLaw
set_option maxHeartbeats 8000000
set_option maxRecDepth 20000
namespace Go.Proofs.YtjonaidancomgaaGreatDoor
open Go.RowKit
open Lx (Tok)
theorem D8 (p q r:Addr) (w:World) :
  CallsD Tryz.prog 75 #[.pointer (some p),.pointer (some q),.pointer (some r)] .returning w fun e u' w'=>e = .returned (.tuple #[])∧u' = .returning∧w'=w:=by
 refine callsD_of_wpS Tryz.func75 rfl fun c₀ cs hu=>?_;apply wpS_seq;apply wpS_region;simp[wpOpsS,go_sem,recoverD,hu,Tryz.ntmps75,Exit.thenS,Array.replicate_succ];refine wpS_of_wp ?_;go_wp2;cases c₀
 simp_all [bodyPostS,results,Tryz.results75]
theorem Al (n:Int) (w:World):(Instr.typeAssert (.iface 131 (.int .i64 n)) 20 131 false).run Tryz.prog w = .ok (.int .i64 n) w:=by kernel_rfl
theorem Qh (N a:Nat) (x0 x1 x2:Value) (w:World) (h0:aC w N 51 #[x0]) (h1:aC w (N+1) 3 #[x1]) (h2:aC w (N+2) 31 #[x2]) :
  CallsD Tryz.prog 75 #[.pointer (some ⟨N,0,none⟩),.pointer (some ⟨N+1,0,none⟩),.pointer (some ⟨N+2,0,none⟩)] (.panicking [{ v:=.iface 131 (.int .i64 a),recovered:=false }]) w fun e u' w'=>
   e = .returned (.tuple #[])∧u' = .panicking [{ v:=.iface 131 (.int .i64 a),recovered:=true }]∧aC w' N 51 #[.slice none 0 0]∧aC w' (N+1) 3 #[.int .i64 a]∧aC w' (N+2) 31 #[.int .i64 90]∧Below N w w':=by
 refine callsD_of_wpS Tryz.func75 rfl fun c₀ cs hu=>?_;apply wpS_seq;apply wpS_region;simp[wpOpsS,go_sem,recoverD,hu,Tryz.ntmps75,Exit.thenS,Array.replicate_succ];refine wpS_of_wp ?_;have c0:=h0.cell 0;have c1:=h1.cell 0;have c2:=h2.cell 0;have f0:=h0.free 0;have f1:=h1.free 0;have f2:=h2.free 0;simp at c0 c1 c2;have Wy:=Al;go_wp2
 go_region
 refine ⟨rfl,_,rfl,.tuple #[],by simp [results,Tryz.results75],rfl,rfl,?_,?_,?_,?_⟩
 ·have:=(((h0.set 0 (.slice none 0 0)).far (p:=⟨N+1,0,none⟩) (by simp) (.int .i64 a)).far (p:=⟨N+2,0,none⟩) (by simp) (.int .i64 90)).drew;simpa using this
 ·have:=(((h1.far (p:=⟨N,0,none⟩) (by simp) (.slice none 0 0)).set 0 (.int .i64 a)).far (p:=⟨N+2,0,none⟩) (by simp) (.int .i64 90)).drew;simpa using this
 ·have:=(((h2.far (p:=⟨N,0,none⟩) (by simp) (.slice none 0 0)).far (p:=⟨N+1,0,none⟩) (by simp) (.int .i64 a)).set 0 (.int .i64 90)).drew;simpa using this
 ·exact ((((Below.refl N w).setCell (p:=⟨N,0,none⟩) (Nat.le_refl _) _).setCell (p:=⟨N+1,0,none⟩) (show N≤N+1 by omega) _).setCell (p:=⟨N+2,0,none⟩) (show N≤N+2 by omega) _).drew
def oJ (s:List UInt8) (w:World) (e:Ending) (w':World):Prop:=
 Below w.heap.size w w'∧
 if 65536 < s.length then e = .returned (.tuple #[.slice none 0 0,.int .i64 0,.int .i64 2]) else
 match Lx.lex s with
 | .ok l=>∃ A c,e = .returned (.tuple #[.slice A l.length c,.int .i64 0,.int .i64 0])∧iw w' w'.heap.size A l∧l.length≤c
 | .err p=>e = .returned (.tuple #[.slice none 0 0,.int .i64 p,.int .i64 90])
theorem MH {w:World} {base sz n c:Nat} {e:TypeId} {A:Option Addr} {xs:List Value} (h:w.ownsRow base e sz (.slice A n c) n xs):n≤c:=by
 rcases h.2 with ⟨hv,h0⟩ | ⟨g,cap,cur,hv,_,_,hc,_⟩
 ·omega
 ·injection hv with _ _ hv;omega
theorem JE (s:ByteArray) (w:World) (hs:s.size≤maxLen) (h:65536 < s.size):Calls Tryz.prog 27 #[.string s] w (oJ s.data.toList w):=by
 unfold maxLen at hs;go_enter Tryz.func27,Tryz.ntmps27;go_wp2;refine bodyPost_ret (v:=.tuple #[.slice none 0 0,.int .i64 0,.int .i64 2]) (by simp [results,Tryz.results27,go_sem]) rfl ⟨?_,by rw [if_pos (by rw [Lx.bX];omega)]⟩;exact (((Below.refl _ _).alloc (Nat.le_refl _) _).alloc (by simp) _).alloc (by simp;omega) _
def wU (s:ByteArray) (w:World):World:=
 (((((w.alloc (Obj.cells #[Value.slice none 0 0] 51)).alloc (Obj.cells #[Value.int IntKind.i64 0] 3)).alloc
  (Obj.cells #[Value.int IntKind.i64 0] 31)).alloc
  (Obj.cells #[Value.func (Fn.func 76) #[] #[],Value.func (Fn.func 77) #[] #[],Value.func (Fn.func 78) #[] #[],
   Value.func (Fn.func 79) #[] #[],Value.func (Fn.func 80) #[] #[],Value.func (Fn.func 76) #[] #[]] 135)).alloc
  (Obj.cells #[Value.string s,Value.int IntKind.i64 0,Value.slice none 0 0] 138))
theorem aC.aZ {t:TypeId} {cs:Array Value} (w:World) (n:Nat) (h:w.heap.size=n):aC (w.alloc (.cells cs t)) n t cs:=by subst h;exact aC.new w t cs
structure wV (s : ByteArray) (w : World) (wr : World) : Prop where
 b0:aC wr w.heap.size 51 #[.slice none 0 0]
 b1:aC wr (w.heap.size+1) 3 #[.int .i64 0]
 b2:aC wr (w.heap.size+1+1) 31 #[.int .i64 0]
 b3:aC wr (w.heap.size+1+1+1) 135 #[.func (.func 76) #[] #[],.func (.func 77) #[] #[],.func (.func 78) #[] #[],
   .func (.func 79) #[] #[],.func (.func 80) #[] #[],.func (.func 76) #[] #[]]
 aY:Below w.heap.size w wr
theorem BR (s:ByteArray) (w:World):wV s w (wU s w):=by
 refine ⟨?_,?_,?_,?_,?_⟩
 ·exact ((((aC.aZ w w.heap.size rfl).alloc _).alloc _).alloc _).alloc _
 ·exact (((aC.aZ (w.alloc _) (w.heap.size+1) (by simp)).alloc _).alloc _).alloc _
 ·exact ((aC.aZ ((w.alloc _).alloc _) (w.heap.size+1+1) (by simp)).alloc _).alloc _
 ·exact (aC.aZ (((w.alloc _).alloc _).alloc _) (w.heap.size+1+1+1) (by simp)).alloc _
 ·exact (((((Below.refl _ _).alloc (Nat.le_refl _) _).alloc (by simp) _).alloc (by simp;omega) _).alloc (by simp;omega) _).alloc (by simp;omega) _
theorem yC (s:ByteArray) (w:World) (h:s.size≤65536):Scan (w.heap.size+1+1+1+1) s 0 [] (wU s w):=by
 refine ⟨⟨.slice none 0 0,?_,?_⟩,by simp,by omega,h⟩
 ·exact aC.aZ ((((w.alloc _).alloc _).alloc _).alloc _) (w.heap.size+1+1+1+1) (by simp)
 ·exact ⟨by simp,.inl ⟨rfl,rfl⟩⟩
theorem wV.next {s:ByteArray} {w wr wr':World} (h:wV s w wr) (hb:Below (w.heap.size+1+1+1+1) wr wr'):wV s w wr':=
 ⟨h.b0.below hb (by omega),h.b1.below hb (by omega),h.b2.below hb (by omega),h.b3.below hb (by omega),h.aY.trans (hb.mono (by omega))⟩
theorem JF {w:World} {base:Nat} {e:TypeId} {size n:Nat} {v:Value} {xs:List Value} (h:w.ownsRow base e size v n xs):∃ A c,v = .slice A n c:=by
 rcases h.2 with ⟨rfl,h0⟩ | ⟨g,cap,cur,rfl,_⟩
 ·exact ⟨none,0,by rw [h0]⟩
 ·exact ⟨_,_,rfl⟩
def BS (w:World):List Deferred:=[{ target:=.fn (.func 75) #[.pointer (some ⟨w.heap.size,0,none⟩),.pointer (some ⟨w.heap.size+1,0,none⟩),.pointer (some ⟨w.heap.size+1+1,0,none⟩)],args:=#[] }]
theorem kP (s:ByteArray) (h:s.size≤65536) (w w1:World) (a:Nat) (tmps:Array Value) (h2:tmps[2]?=some (.pointer (some ⟨w.heap.size,0,none⟩))) (h3:tmps[3]?=some (.pointer (some ⟨w.heap.size+1,0,none⟩))) (h4:tmps[4]?=some (.pointer (some ⟨w.heap.size+1+1,0,none⟩)))
  (hA:wV s w w1) (hl:Lx.lex s.data.toList = .err a) :
  Leaves Tryz.prog Tryz.f27 tmps (oJ s.data.toList w) (BS w) (.panicking [{ v:=.iface 131 (.int .i64 a),recovered:=false }]) w1:=by
 refine leaves_cons (f:=75) (args:=#[.pointer (some ⟨w.heap.size,0,none⟩),.pointer (some ⟨w.heap.size+1,0,none⟩),.pointer (some ⟨w.heap.size+1+1,0,none⟩)]) (by simp) (by simp [go_sem]) ?_;refine (Qh w.heap.size a _ _ _ w1 hA.b0 hA.b1 hA.b2).mono ?_;rintro e u' w2 ⟨rfl,rfl,q0,q1,q2,hb⟩;have c0:=q0.cell 0;have c1:=q1.cell 0;have c2:=q2.cell 0;simp at c0 c1 c2;refine ⟨.tuple #[.slice none 0 0,.int .i64 a,.int .i64 90],?_,?_⟩
 ·simp[results,Tryz.results27,go_sem,h2,h3,h4,c0,c1,c2]
 ·refine ⟨hA.aY.trans hb,?_⟩;rw[if_neg (by rw [Lx.bX];omega),hl]
theorem Fu:∀ (l:List Tok) (k:Nat) (t:Tok) (j:Nat),l[k]?=some t→j < 4→(l.flatMap Tok.cells)[k*4+j]?=t.cells[j]?
 | [],k,t,j,h,_=>by simp at h
 | x::r,0,t,j,h,hj=>by
  simp at h;subst h;rw[List.flatMap_cons,List.getElem?_append_left (by simp [Tok.cells];omega)];simp
 | x::r,k+1,t,j,h,hj=>by
  rw[List.flatMap_cons,List.getElem?_append_right (by simp [Tok.cells];omega)];simp only[List.getElem?_cons_succ] at h;rw[←Fu r k t j h hj]
  congr 1
  simp[Tok.cells];omega
theorem wM {w:World} {base c:Nat} {A:Option Addr} {l:List Tok} (h:w.ownsRow base 55 4 (.slice A l.length c) l.length (l.flatMap Tok.cells)) (hl:l.length≤65536) (ht:∀ t∈l,t.text.length≤65536):iw w w.heap.size A l:=by
 refine ⟨fun k t hk=>?_,by omega,fun t h=>by have:=ht t h;omega⟩;have hlt:k < l.length:=(List.getElem?_eq_some_iff.1 hk).1;obtain ⟨g,cap,hv,_,hg⟩:=h.form (by omega);injection hv with hA _ _;subst hA;have hcell:=fun (j:Nat) (hj:j < 4)=>(h.cellAt (g:=g) (k*4+j) (by omega)).trans (Fu l k t j hk hj);refine ⟨g,0,rfl,hg,?_,?_,?_,?_⟩
 ·have:=hcell 0 (by omega);simp[Tok.cells] at this ⊢
 ·have:=hcell 1 (by omega);simp[Tok.cells,Lx.bs] at this ⊢
 ·have:=hcell 2 (by omega);simp[Tok.cells] at this ⊢
 ·have:=hcell 3 (by omega);simp[Tok.cells] at this ⊢
theorem Am (s:ByteArray) (h:s.size≤65536) (w w1:World) (tmps:Array Value) (h2:tmps[2]?=some (.pointer (some ⟨w.heap.size,0,none⟩))) (h3:tmps[3]?=some (.pointer (some ⟨w.heap.size+1,0,none⟩))) (h4:tmps[4]?=some (.pointer (some ⟨w.heap.size+1+1,0,none⟩)))
  (A:Option Addr) (c:Nat) (l:List Tok) (q0:aC w1 w.heap.size 51 #[.slice A l.length c]) (q1:aC w1 (w.heap.size+1) 3 #[.int .i64 0]) (q2:aC w1 (w.heap.size+1+1) 31 #[.int .i64 0]) (hbel:Below w.heap.size w w1)
  (hT:iw w1 w1.heap.size A l) (hc:l.length≤c) (hl:Lx.lex s.data.toList = .ok l) :
  Leaves Tryz.prog Tryz.f27 tmps (oJ s.data.toList w) (BS w) .returning w1:=by
 refine leaves_cons (f:=75) (args:=#[.pointer (some ⟨w.heap.size,0,none⟩),.pointer (some ⟨w.heap.size+1,0,none⟩),.pointer (some ⟨w.heap.size+1+1,0,none⟩)]) (by simp) (by simp [go_sem]) ?_;refine (D8 _ _ _ w1).mono ?_;rintro e u' w2 ⟨rfl,rfl,rfl⟩;have c0:=q0.cell 0;have c1:=q1.cell 0;have c2:=q2.cell 0;simp at c0 c1 c2;refine ⟨.tuple #[.slice A l.length c,.int .i64 0,.int .i64 0],?_,?_⟩
 ·simp[results,Tryz.results27,go_sem,h2,h3,h4,c0,c1,c2]
 ·refine ⟨hbel,?_⟩;rw[if_neg (by rw [Lx.bX];omega),hl];exact ⟨A,c,rfl,hT,hc⟩
theorem GN (s:ByteArray) (w:World) (he:Env w) (h:s.size≤65536):Calls Tryz.prog 27 #[.string s] w (oJ s.data.toList w):=by
 have hmf:∀ (fn:Fn) (first cap:Array Value) (w:World),(Instr.makeFunc fn first cap).run Tryz.prog w = .ok (.func fn first cap) w:=fun _ _ _ _=>rfl;have h7:10+1≤w.heap.size:=he.size
 go_enter_defers Tryz.func27,Tryz.ntmps27
 go_wp2;obtain ⟨W,hW⟩:∃ W,W=wU s w:=⟨_,rfl⟩
 rw[show (((((w.alloc (Obj.cells #[Value.slice none 0 0] 51)).alloc (Obj.cells #[Value.int IntKind.i64 0] 3)).alloc
  (Obj.cells #[Value.int IntKind.i64 0] 31)).alloc
  (Obj.cells #[Value.func (Fn.func 76) #[] #[],Value.func (Fn.func 77) #[] #[],Value.func (Fn.func 78) #[] #[],
   Value.func (Fn.func 79) #[] #[],Value.func (Fn.func 80) #[] #[],Value.func (Fn.func 76) #[] #[]] 135)).alloc
  (Obj.cells #[Value.string s,Value.int IntKind.i64 0,Value.slice none 0 0] 138))=W from hW.symm]
 have hA:wV s w W:=hW ▸ BR s w;have hS:Scan (w.heap.size+1+1+1+1) s 0 [] W:=hW ▸ yC s w h;clear hW
 go_loopg [16] (s.size) (fun k _ wr=>∃ a l,k+a=s.size∧Scan (w.heap.size+1+1+1+1) s a l wr∧wV s w wr∧(Lx.gu (s.data.toList.drop a) a).app l=Lx.lex s.data.toList)
 case atStart=>exact ⟨0,[],by omega,hS,hA,by rw [Lx.yD.MI];rfl⟩
 case round=>
  obtain ⟨a,l,hka,hS',hA',hlex⟩:=hrel;have qK:=Lh hlex;clear hlex;obtain ⟨v,hblk,hown⟩:=hS'.st;obtain ⟨A,cp,hv⟩:=JF hown;subst hv;have c0:=hblk.cell 0;have c1:=hblk.cell 1;have c2:=hblk.cell 2;simp at c0 c1 c2;have t0:=hA'.b3.cell 0;have t1:=hA'.b3.cell 1;have t2:=hA'.b3.cell 2;have t3:=hA'.b3.cell 3;have t4:=hA'.b3.cell 4;have t5:=hA'.b3.cell 5;simp at t0 t1 t2 t3 t4 t5;have UD:Env wr:=he.next hA'.aY;have qJ:=Lh hblk;have HA:=Lh hA';have HS:=Lh hS';have HE:=Lh UD;have ha0:=hS'.at_;clear hblk hA' hS' UD hA hS
  by_cases hlt:a < s.size
  ·have hdrop:s.data.toList.drop a=s[a]::s.data.toList.drop (a+1):=by
    rw[List.drop_eq_getElem_cons (by rw [Lx.bX];exact hlt)];rfl
   have jK:=Lh hdrop;clear hdrop;have hF:=Lx.facts s[a]
   rcases Lx.GQ s[a] with hc | hc | hc | hc | hc | hc
   ·have JG:=(Lx.vW l jK.out (Lx.sD (by rw [←hF.c1,hc];rfl) (by rw [←hF.c2,hc];rfl) (by rw [←hF.c3,hc];rfl) (by rw [←hF.c4,hc];rfl)))
    have D9:=Lh JG;clear JG hF;go_wp2_with (go_at_call 81;refine (gU _ _).mono ?_;rintro e w' ⟨rfl,rfl⟩)
    refine (Ju _ a s _ _ qJ.out).mono ?_;rintro e w1 ⟨he1,rfl⟩;unfold kK at he1;subst he1;exact kP s h w _ a _ rfl rfl rfl HA.out (qK.out.symm.trans D9.out)
   ·have hsp:Lx.space s[a]=true:=by rw [←hF.c1,hc];rfl
    obtain ⟨t,ht⟩:∃ t:ByteArray,t.data.toList=(s.data.toList.drop a).takeWhile Lx.space:=⟨Lx.bs _,Lx.aK _⟩
    have hpos:0 < t.size:=by rw [←Lx.bX,ht,jK.out,List.takeWhile_cons,hsp];simp
    have hsl:=Lx.Ea (D:=s.data.toList) (a:=a) l;rw[←ht,Lx.bX] at hsl;have hcall:=MC _ a s l _ HS.out t ht;have aH:=Lh hcall;have Eb:=Lh hsl;clear hcall hsl ht hF hsp;go_wp2_with (go_at_call 81;refine (gU _ _).mono ?_;rintro e w' ⟨rfl,rfl⟩)
    refine (aH.out).mono ?_;rintro e w1 ⟨rfl,hS1,hb1⟩;have HA1:=Lh (HA.out.next hb1);have MJ:=Lh hS1;have MK:=hS1.at_;clear hS1 hb1;go_wp2_with fail
    go_roundg (s.size - (a+t.size))
    case measure=>omega
    case rel=>exact ⟨a+t.size,l,by omega,MJ.out,HA1.out,Eb.out.trans qK.out⟩
   ·have hle:Lx.letter s[a]=true:=by rw [←hF.c2,hc];rfl
    obtain ⟨t,ht⟩:∃ t:ByteArray,t.data.toList=(s.data.toList.drop a).takeWhile Lx.part:=⟨Lx.bs _,Lx.aK _⟩
    have hpos:0 < t.size:=by rw [←Lx.bX,ht,jK.out,List.takeWhile_cons,Lx.oK hle];simp
    have hcall:=Qe _ a s l _ HS.out t ht hpos;have hst:=Lx.lU (r:=s.data.toList.drop (a+1)) hle;rw[←jK.out,←ht] at hst;cases hn:Lx.isName t.data.toList
    ·have hE:Lx.kL t.data.toList a l=none:=by unfold Lx.kL;rw[hn];rfl
     rw[hn] at hst;rw[hE] at hcall;have D9:=Lh (Lx.vW l jK.out hst);have aH:=Lh hcall;clear hcall hst ht hn hE hF hle;go_wp2_with (go_at_call 81;refine (gU _ _).mono ?_;rintro e w' ⟨rfl,rfl⟩)
     refine (aH.out).mono ?_;rintro e w1 ⟨he1,hb1⟩;unfold kK at he1;subst he1;exact kP s h w _ a _ rfl rfl rfl (HA.out.next hb1) (qK.out.symm.trans D9.out)
    ·have hE:Lx.kL t.data.toList a l=some (a+t.size,l++[⟨1,t.data.toList,0,a⟩]):=by unfold Lx.kL;rw[hn,Lx.bX];rfl
     rw[hn,Lx.bX] at hst;rw[hE] at hcall;have Qi:=Lh (Lx.Ao l jK.out hst);have aH:=Lh hcall;clear hcall hst ht hn hE hF hle;go_wp2_with (go_at_call 81;refine (gU _ _).mono ?_;rintro e w' ⟨rfl,rfl⟩)
     refine (aH.out).mono ?_;rintro e w1 ⟨rfl,hS1,hb1⟩;have HA1:=Lh (HA.out.next hb1);have MJ:=Lh hS1;have MK:=hS1.at_;clear hS1 hb1;go_wp2_with fail
     go_roundg (s.size - (a+t.size))
     case measure=>omega
     case rel=>exact ⟨a+t.size,_,by omega,MJ.out,HA1.out,Qi.out.trans qK.out⟩
   ·have hfi:Lx.figure s[a]=true:=by rw [←hF.c3,hc];rfl
    obtain ⟨t,ht⟩:∃ t:ByteArray,t.data.toList=(s.data.toList.drop a).takeWhile Lx.figure:=⟨Lx.bs _,Lx.aK _⟩
    have hpos:0 < t.size:=by rw [←Lx.bX,ht,jK.out,List.takeWhile_cons,hfi];simp
    have hcall:=JA _ a s l _ HS.out HE.out (by omega) t ht hpos;have hst:=Lx.lV (r:=s.data.toList.drop (a+1)) hfi;rw[←jK.out,←ht] at hst;cases hn:Lx.number t.data.toList with
    | none=>
     have hE:Lx.nH t.data.toList a l=none:=by unfold Lx.nH;rw[hn]
     rw[hn] at hst;rw[hE] at hcall;have D9:=Lh (Lx.vW l jK.out hst);have aH:=Lh hcall;clear hcall hst ht hn hE hF hfi;go_wp2_with (go_at_call 81;refine (gU _ _).mono ?_;rintro e w' ⟨rfl,rfl⟩)
     refine (aH.out).mono ?_;rintro e w1 ⟨he1,hb1⟩;unfold kK at he1;subst he1;exact kP s h w _ a _ rfl rfl rfl (HA.out.next hb1) (qK.out.symm.trans D9.out)
    | some num=>
     have hE:Lx.nH t.data.toList a l=some (a+t.size,l++[⟨2,[],num,a⟩]):=by unfold Lx.nH;rw[hn,Lx.bX]
     rw[hn,Lx.bX] at hst;rw[hE] at hcall;have Qi:=Lh (Lx.Ao l jK.out hst);have aH:=Lh hcall;clear hcall hst ht hn hE hF hfi;go_wp2_with (go_at_call 81;refine (gU _ _).mono ?_;rintro e w' ⟨rfl,rfl⟩)
     refine (aH.out).mono ?_;rintro e w1 ⟨rfl,hS1,hb1⟩;have HA1:=Lh (HA.out.next hb1);have MJ:=Lh hS1;have MK:=hS1.at_;clear hS1 hb1;go_wp2_with fail
     go_roundg (s.size - (a+t.size))
     case measure=>omega
     case rel=>exact ⟨a+t.size,_,by omega,MJ.out,HA1.out,Qi.out.trans qK.out⟩
   ·have hsi:Lx.sign s[a]=true:=by rw [←hF.c4,hc];rfl
    have hcall:=Qg _ a s l _ HS.out hlt hsi;cases hco:Lx.comment (s.data.toList.drop a)
    ·have hE:Lx.kM (s.data.toList.drop a) a l=some (a+1,l++[⟨3,[s[a]],0,a⟩]):=by unfold Lx.kM;rw[hco,jK.out];rfl
     rw[hE] at hcall;rw[jK.out] at hco;have Qi:=Lh (Lx.Ao l jK.out (Lx.ql hsi hco));have aH:=Lh hcall;clear hcall hco hE hF hsi;go_wp2_with (go_at_call 81;refine (gU _ _).mono ?_;rintro e w' ⟨rfl,rfl⟩)
     refine (aH.out).mono ?_;rintro e w1 ⟨rfl,hS1,hb1⟩;have HA1:=Lh (HA.out.next hb1);have MJ:=Lh hS1;have MK:=hS1.at_;clear hS1 hb1;go_wp2_with fail
     go_roundg (s.size - (a+1))
     case measure=>omega
     case rel=>exact ⟨a+1,_,by omega,MJ.out,HA1.out,Qi.out.trans qK.out⟩
    ·have hE:Lx.kM (s.data.toList.drop a) a l=some (a+((s.data.toList.drop a).takeWhile (· != 10)).length,l):=by unfold Lx.kM;rw[hco];rfl
     rw[hE] at hcall;have hst:=Lx.nI (c:=s[a]) (r:=s.data.toList.drop (a+1)) (by rw [←jK.out];exact hco);have hpos:=Lx.mJ hst;rw[←jK.out] at hst hpos;obtain ⟨k,hk⟩:∃ k,k=((s.data.toList.drop a).takeWhile (· != 10)).length:=⟨_,rfl⟩
     rw[←hk] at hst hpos hcall;have Qi:=Lh (Lx.JH l jK.out hst);have aH:=Lh hcall;clear hcall hco hE hF hsi hst hk;go_wp2_with (go_at_call 81;refine (gU _ _).mono ?_;rintro e w' ⟨rfl,rfl⟩)
     refine (aH.out).mono ?_;rintro e w1 ⟨rfl,hS1,hb1⟩;have HA1:=Lh (HA.out.next hb1);have MJ:=Lh hS1;have MK:=hS1.at_;clear hS1 hb1;go_wp2_with fail
     go_roundg (s.size - (a+k))
     case measure=>omega
     case rel=>exact ⟨a+k,_,by omega,MJ.out,HA1.out,Qi.out.trans qK.out⟩
   ·have JG:=(Lx.vW l jK.out (Lx.sD (by rw [←hF.c1,hc];rfl) (by rw [←hF.c2,hc];rfl) (by rw [←hF.c3,hc];rfl) (by rw [←hF.c4,hc];rfl)))
    have D9:=Lh JG;clear JG hF;go_wp2_with (go_at_call 81;refine (gU _ _).mono ?_;rintro e w' ⟨rfl,rfl⟩)
    refine (Ju _ a s _ _ qJ.out).mono ?_;rintro e w1 ⟨he1,rfl⟩;unfold kK at he1;subst he1;exact kP s h w _ a _ rfl rfl rfl HA.out (qK.out.symm.trans D9.out)
  ·have q0:=HA.out.b0.cell 0;have q1:=HA.out.b1.cell 0;have q2:=HA.out.b2.cell 0;have e0:=HA.out.b0.free 0;have e1:=HA.out.b1.free 0;have e2:=HA.out.b2.free 0;simp at q0 q1 q2;go_wp2;have hB:a=s.size:=by omega
   have hok:Lx.lex s.data.toList = .ok l:=by
    rw[←qK.out,List.drop_of_length_le (by rw [Lx.bX];omega),Lx.za];simp[Lx.yD.app]
   have B0:=((HA.out.b0.set 0 (.slice A l.length cp)).far (p:=⟨w.heap.size+1,0,none⟩) (by simp) (.int .i64 0)).far (p:=⟨w.heap.size+1+1,0,none⟩) (by simp;omega) (.int .i64 0);have B1:=((HA.out.b1.far (p:=⟨w.heap.size,0,none⟩) (by simp) (.slice A l.length cp)).set 0 (.int .i64 0)).far (p:=⟨w.heap.size+1+1,0,none⟩) (by simp) (.int .i64 0);have B2:=((HA.out.b2.far (p:=⟨w.heap.size,0,none⟩) (by simp;omega) (.slice A l.length cp)).far (p:=⟨w.heap.size+1,0,none⟩) (by simp) (.int .i64 0)).set 0 (.int .i64 0);have n0:=own_ne hown HA.out.b0 (show 55≠51 by decide)
   have n1:=own_ne hown HA.out.b1 (show 55≠3 by decide);have n2:=own_ne hown HA.out.b2 (show 55≠31 by decide);have hO:=dZ (p:=⟨w.heap.size+1+1,0,none⟩) (dZ (p:=⟨w.heap.size+1,0,none⟩) (dZ (p:=⟨w.heap.size,0,none⟩) hown n0 (.slice A l.length cp)) n1 (.int .i64 0)) n2 (.int .i64 0);refine Am s h w _ _ rfl rfl rfl A cp l (by simpa using B0) (by simpa using B1) (by simpa using B2) ?_ (wM hO (by have:=HS.out.few;omega) fun t ht=>by have:=(Lx.qo hok t ht).2;omega) (MH hO) hok
   exact ((HA.out.aY.setCell (p:=⟨w.heap.size,0,none⟩) (Nat.le_refl _) _).setCell (p:=⟨w.heap.size+1,0,none⟩) (show w.heap.size≤w.heap.size+1 by omega) _).setCell (p:=⟨w.heap.size+1+1,0,none⟩) (show w.heap.size≤w.heap.size+1+1 by omega) _
theorem O7 (s:ByteArray) (w:World) (hs:s.size≤maxLen) (he:Env w):Calls Tryz.prog 27 #[.string s] w (oJ s.data.toList w):=by
 by_cases h:s.size≤65536
 ·exact GN s w he h
 ·exact JE s w hs (by omega)
end Go.Proofs.YtjonaidancomgaaGreatDoor
namespace Go.Proofs.YtjonaidancomgaaGreatDoor
open Go.RowKit
theorem u64_neg (n:Int) (h1:-1073741824≤n) (h:n < 0):IntKind.u64.wrap (-IntKind.u64.wrap n)=(n.natAbs:Nat):=by
 unfold IntKind.wrap;simp only[show IntKind.u64.signed=false from rfl,show IntKind.u64.bits=64 from rfl,Bool.false_and,Bool.false_eq_true,if_false];omega
theorem O8 (n:Int) (h1:-1073741824≤n) (h2:n≤1073741824) (w:World):Calls Tryz.prog 203 #[.int .i64 n] w fun e w'=>e = .returned (.int .u64 (n.natAbs:Nat))∧w'=w:=by
 by_cases h:n < 0
 ·go_enter Tryz.func203,Tryz.ntmps203;go_wp2;go_ret;exact ⟨bU (u64_neg n h1 h),rfl⟩
 ·go_enter Tryz.func203,Tryz.ntmps203;go_wp2;go_ret;exact ⟨bU (by omega),rfl⟩
def qO (sb:Nat):Value:=.func (.func 222) #[] #[.pointer (some ⟨sb,0,none⟩)]
theorem UE (sb:Nat):∀ (k:Nat) (x y:Nat) (w:World),y≤k→x≤1073741824→y≤1073741824→w.cell? ⟨sb,0,none⟩=some (qO sb)→
  Calls Tryz.prog 222 #[.int .u64 x,.int .u64 y,.pointer (some ⟨sb,0,none⟩)] w fun e w'=>e = .returned (.int .u64 (Nat.gcd x y:Nat))∧∃ n,w'=w.drewN n:=by
 intro k
 induction k with
 | zero=>
  intro x y w hy _ _ hc;obtain rfl:y=0:=by omega
  clear hc;go_enter Tryz.func222,Tryz.ntmps222;go_wp2_with fail;go_ret;exact ⟨by simp,0,rfl⟩
 | succ k ih=>
  intro x y w hy hx hy2 hc
  by_cases h0:y=0
  ·subst h0;clear hc;go_enter Tryz.func222,Tryz.ntmps222;go_wp2_with fail;go_ret;exact ⟨by simp,0,rfl⟩
  ·have hm:x % y < y:=Nat.mod_lt _ (by omega);have hy0:((y:Int) == 0)=false:=by simp;omega
   have hg:Nat.gcd y (x % y)=Nat.gcd x y:=by rw [Nat.gcd_comm x y,Nat.gcd_rec y x,Nat.gcd_comm]
   have ML:=Lh (fun n=>ih y (x % y) (w.drewN n) (by omega) hy2 (by omega) hc);rw[hg] at ML;have hy1:1≤y:=by omega
   unfold qO at hc;clear hg h0 ih;go_enter Tryz.func222,Tryz.ntmps222;go_wp2_with fail
   go_quiet ((go_at_call 222;exact Calls.quiet_of (ML.out _)))
   go_wp2_with fail;go_ret;exact ⟨rfl,_,rfl⟩
theorem Fv (a b:Int) (h1:-1073741824≤a) (h2:a≤1073741824) (h3:-1073741824≤b) (h4:b≤1073741824) (w:World) :
  Calls Tryz.prog 202 #[.int .i64 a,.int .i64 b] w fun e w'=>e = .returned (.int .u64 (Int.gcd a b:Nat))∧Below w.heap.size w w':=by
 have Hs:=Lh (fun (W:World) (hc:W.cell? ⟨w.heap.size,0,none⟩=some (qO w.heap.size))=>UE w.heap.size b.natAbs a.natAbs b.natAbs W (Nat.le_refl _) (by omega) (by omega) hc);have hg:Nat.gcd a.natAbs b.natAbs=Int.gcd a b:=rfl;rw[hg] at Hs;clear hg;go_enter Tryz.func202,Tryz.ntmps202;go_wp2_with fail
 go_quiet (first
  | (go_at_call 203;exact Calls.quiet_of_same (O8 _ (by assumption) (by assumption) _))
  | (go_at_call 222;exact Calls.quiet_of (Hs.out _ (by simp [qO]))))
 go_wp2_with fail;go_ret;exact ⟨rfl,ay ((Below.refl _ _).alloc (Nat.le_refl _) _) _⟩
theorem Qj (n:Nat) (h2:n≤1073741824) (w:World):Calls Tryz.prog 203 #[.int .i64 n] w fun e w'=>e = .returned (.int .u64 n)∧w'=w:=O8 n (by omega) (by omega) w
theorem JI (a b:Nat) (h2:a≤1073741824) (h4:b≤1073741824) (w:World) :
  Calls Tryz.prog 202 #[.int .i64 a,.int .i64 b] w fun e w'=>e = .returned (.int .u64 (Nat.gcd a b:Nat))∧Below w.heap.size w w':=Fv a b (by omega) (by omega) (by omega) (by omega) w
def MO (n d:Nat) (w:World) (e:Ending) (w':World):Prop:=e = .returned (.tuple #[.agg #[.int .i64 (Sx.lowest n d).num,.int .i64 (Sx.lowest n d).den],.int .i64 0])∧Below w.heap.size w w'
theorem sNew (n d:Nat) (h1:n≤12000) (h2:1≤d) (h3:d≤1000) (w:World):Calls Tryz.prog 172 #[.int .i64 n,.int .i64 d] w (MO n d w):=by
 have hg1:1≤Nat.gcd n d:=Nat.gcd_pos_of_pos_right n (by omega);have hq1:n / Nat.gcd n d≤n:=Nat.div_le_self _ _;have hq2:d / Nat.gcd n d≤d:=Nat.div_le_self _ _;have hlow:Sx.lowest n d=⟨((n / Nat.gcd n d:Nat):Int),((d / Nat.gcd n d:Nat):Int)⟩:=by
  unfold Sx.lowest;rw[show Int.gcd (n:Int) (d:Int)=Nat.gcd n d from rfl];simp
 have Hl:=Lh hlow;have Hc:=Lh (fun W=>JI n d (by omega) (by omega) W);obtain ⟨g,hg⟩:∃ g,g=Nat.gcd n d:=⟨_,rfl⟩
 rw[←hg] at hg1 hq1 hq2 Hl Hc;have hgd:g≤1000:=by rw [hg];exact Nat.le_trans (Nat.gcd_le_right n (by omega)) h3
 have hd0:((d:Int) == 0)=false:=by simp;omega
 have hg0:((g:Int) == 0)=false:=by simp;omega
 obtain ⟨q,hq⟩:∃ q,q=n / g:=⟨_,rfl⟩
 obtain ⟨r,hr⟩:∃ r,r=d / g:=⟨_,rfl⟩
 have e1:(n:Int) / (g:Int)=(q:Int):=by rw [hq];rfl
 have e2:(d:Int) / (g:Int)=(r:Int):=by rw [hr];rfl
 rw[←hq] at hq1 Hl;rw[←hr] at hq2 Hl;clear hlow hg hq hr;have hn2:n≤1073741824:=by omega
 have hd2:d≤1073741824:=by omega
 go_enter Tryz.func172,Tryz.ntmps172;go_wp2_with fail;refine (Hc.out _).mono ?_;rintro e w1 ⟨rfl,hb⟩;have hx:=(aC.new w 75 #[.int .i64 0,.int .i64 0]).below hb (by simp);have hbel:=((Below.refl w.heap.size w).alloc (Nat.le_refl _) (.cells #[.int .i64 0,.int .i64 0] 75)).trans (hb.mono (by simp));have x0:=hx.cell 0;have x1:=hx.cell 1;have f0:=hx.free 0;have f1:=hx.free 1;simp at x0 x1;have kW:=Lh hbel;have Hx:=Lh hx;clear hb hx hbel;go_wp2_with fail
 go_quiet ((go_at_call 203;exact Calls.quiet_of_same (Qj _ (by assumption) _)))
 go_wp2_with fail;obtain ⟨W,hW⟩:∃ W,W=((((w1.drewN nq).setCell ⟨w.heap.size,0,none⟩ (.int .i64 q)).setCell ⟨w.heap.size,1,none⟩ (.int .i64 r)).setCell ⟨w.heap.size,0,none⟩ (.int .i64 q)).setCell ⟨w.heap.size,1,none⟩ (.int .i64 r):=⟨_,rfl⟩
 have hB:aC W w.heap.size 75 #[.int .i64 q,.int .i64 r]:=by
  rw[hW];have:=((((Hx.out.drewN nq).set 0 (.int .i64 q)).set 1 (.int .i64 r)).set 0 (.int .i64 q)).set 1 (.int .i64 r);simpa using this
 have d0:=hB.cell 0;have d1:=hB.cell 1;simp at d0 d1;have hb:=ay kW.out nq;have hbW:Below w.heap.size w W:=by
  rw[hW];exact (((hb.setCell (p:=⟨w.heap.size,0,none⟩) (Nat.le_refl _) _).setCell (p:=⟨w.heap.size,1,none⟩) (Nat.le_refl _) _).setCell (p:=⟨w.heap.size,0,none⟩) (Nat.le_refl _) _).setCell (p:=⟨w.heap.size,1,none⟩) (Nat.le_refl _) _
 rw[←hW];clear hW;exact bodyPost_ret (v:=.tuple #[.agg #[.int .i64 q,.int .i64 r],.int .i64 0]) (by simp [results,Tryz.results172,go_sem,d0,d1]) rfl ⟨by rw [Hl.out],hbW⟩
def iL (p x:Int) (e:Ending):Prop:=e = .panicked [{ v:=.iface 141 (.agg #[.int .i64 p,.int .i64 x]),recovered:=false }]
structure PS (g B : Nat) (last : Int) (l : List Lx.Tok) (w : World) : Prop where
 st:∃ A c,aC w g 143 #[.slice A l.length c,.int .i64 last]∧iw w B A l∧l.length≤c
 le:B≤g
structure eP (g : Nat) (w w' : World) : Prop where
 aY:Below g w w'
 keep:∀ k,k < w.heap.size→k≠g→w'.heap[k]?=w.heap[k]?
section
variable {g : Nat} {w w' w'' : World}
theorem eP.refl (g:Nat) (w:World):eP g w w:=⟨Below.refl _ _,fun _ _ _=>rfl⟩
theorem eP.trans (h:eP g w w') (k:eP g w' w''):eP g w w'':=⟨h.aY.trans k.aY,fun i hi hg=>(k.keep i (by have:=h.aY.size;omega) hg).trans (h.keep i hi hg)⟩
theorem eP.set (g i:Nat) (w:World) (u:Value):eP g w (w.setCell ⟨g,i,none⟩ u):=⟨Below.setCell (Below.refl g w) (show g≤(⟨g,i,none⟩:Addr).block from Nat.le_refl g) u,fun k _ hk=>Below.heap_setCell w ⟨g,i,none⟩ u k hk⟩
theorem eP.below (hb:Below w.heap.size w w') (hg:g < w.heap.size):eP g w w':=⟨hb.mono (by omega),fun k hk _=>hb.block k hk⟩
theorem eP.blk (h:eP g w w') {b:Nat} {t:TypeId} {cs:Array Value} (hb:aC w b t cs) (hn:b≠g):aC w' b t cs:=(h.keep b hb.lt hn).trans hb
theorem eP.cell (h:eP g w w') {b:Nat} (hb:b < w.heap.size) (hn:b≠g) (i:Nat):w'.cell? ⟨b,i,none⟩=w.cell? ⟨b,i,none⟩:=World.cell?_of_block (a:=⟨b,i,none⟩) (h.keep b hb hn)
theorem PS.lt {B:Nat} {last:Int} {l:List Lx.Tok} (h:PS g B last l w):g < w.heap.size:=by
 obtain ⟨A,c,hb,_⟩:=h.st;exact hb.lt
theorem PS.next {B:Nat} {last:Int} {l:List Lx.Tok} (h:PS g B last l w) (hb:Below w.heap.size w w'):PS g B last l w':=by
 have hlt:=h.lt;obtain ⟨⟨A,c,h1,h2,h3⟩,hB⟩:=h;exact ⟨⟨A,c,h1.below hb hlt,h2.below hb (by omega),h3⟩,hB⟩
end
def dH {α:Type} (g B:Nat) (last:Int) (w:World) (V:α→Value→World→Prop) (r:Sx.R α) (e:Ending) (w':World):Prop:=
 match r with
 | .ok a l=>∃ v,e = .returned v∧V a v w'∧PS g B last l w'∧eP g w w'
 | .bad p x=>iL p x e∧eP g w w'
def fQ (_:Unit) (v:Value) (_:World):Prop:=v = .tuple #[]
def gJ (n:Int) (v:Value) (_:World):Prop:=v = .int .i64 n
def Yb (s:List UInt8) (v:Value) (_:World):Prop:=v=bB s∧s.length≤140737488351232
theorem og (g B:Nat) (l:List Lx.Tok) (last x:Int) (w:World) (h:PS g B last l w) :
  Calls Tryz.prog 83 #[.pointer (some ⟨g,0,none⟩),.int .i64 x] w fun e w'=>iL (Sx.front last l) x e∧w=w':=by
 obtain ⟨⟨A,c,hb,hT,_⟩,_⟩:=h;have c0:=hb.cell 0;have c1:=hb.cell 1;simp at c0 c1;cases l with
 | nil=>
  clear hb hT;go_enter Tryz.func83,Tryz.ntmps83;go_wp2;exact ⟨rfl,rfl,rfl⟩
 | cons t r=>
  obtain ⟨b,o,rfl,_,q0,q1,q2,q3⟩:=hT.at_ 0 t rfl;obtain ⟨n,hn⟩:∃ n,n=(t::r).length:=⟨_,rfl⟩
  have hn0:0 < n:=by rw [hn];simp
  have hl:=hT.len;rw[←hn] at c0 hl;simp only[Nat.zero_mul,Nat.add_zero] at q0 q1 q2 q3;clear hb hT hn;go_enter Tryz.func83,Tryz.ntmps83;go_wp2;exact ⟨rfl,rfl,rfl⟩
theorem O9 (g B:Nat) (l:List Lx.Tok) (last k:Int) (x:ByteArray) (w:World) (h:PS g B last l w) :
  Calls Tryz.prog 160 #[.pointer (some ⟨g,0,none⟩),.int .i64 k,.string x] w fun e w'=>e = .returned (.bool (Sx.hit k x.data.toList l))∧w=w':=by
 obtain ⟨⟨A,c,hb,hT,_⟩,_⟩:=h;have c0:=hb.cell 0;simp at c0;cases l with
 | nil=>
  clear hb hT;go_enter Tryz.func160,Tryz.ntmps160;go_wp2;go_ret;exact ⟨rfl,rfl⟩
 | cons t r=>
  obtain ⟨b,o,rfl,_,q0,q1,q2,q3⟩:=hT.at_ 0 t rfl;obtain ⟨n,hn⟩:∃ n,n=(t::r).length:=⟨_,rfl⟩
  have hn0:0 < n:=by rw [hn];simp
  have hl:=hT.len;rw[←hn] at c0 hl;simp only[Nat.zero_mul,Nat.add_zero] at q0 q1 q2 q3;clear hb hT hn;have hx:((Lx.bs t.text).toList == x.toList)=(t.text == x.data.toList):=by rw [ByteArray.toList_eq,ByteArray.toList_eq,Lx.aK]
  have HR:Hid (Sx.hit k x.data.toList (t::r)=(t.kind == k && t.text == x.data.toList)):=Lh rfl;cases hk:t.kind == k
  ·rw[hk] at HR;clear hx;go_enter Tryz.func160,Tryz.ntmps160;go_wp2;go_ret;exact ⟨aj (by rw [HR.out];rfl),rfl⟩
  ·rw[hk] at HR;cases ht:t.text == x.data.toList
   all_goals
    rw[ht] at HR hx;clear ht;go_enter Tryz.func160,Tryz.ntmps160;go_wp2;go_ret;exact ⟨aj (by rw [HR.out];rfl),rfl⟩
def ak (b:Bool) (w:World) (e:Ending) (w':World):Prop:=e = .returned (.bool b)∧Below w.heap.size w w'
def Old (w:World) (b:Nat):Prop:=b < w.heap.size
theorem aB.old {w w':World} {r:Sx.Rule} {cs:List Value} (h:aB w (Old w) r cs) (hb:Below w.heap.size w w'):aB w' (Old w') r cs:=
 aB.keep (fun b hb1=>⟨Nat.lt_of_lt_of_le hb1 hb.size,fun i=>hb.cell (p:=⟨b,i,none⟩) hb1⟩) r cs h
theorem qp:∀ (n:Nat) (a b:Sx.Rule),SizeOf.sizeOf a < n→∀ (w:World) (ca cb:List Value),aB w (Old w) a ca→aB w (Old w) b cb→
  Calls Tryz.prog 17 #[.agg ca.toArray,.agg cb.toArray] w (ak (Sx.jw a b) w)
 | 0,a,b,hn,w,ca,cb,ha,hb=>by omega
 | n+1,.mk op co nm x d ks,.mk op' BF nm' x' d' ks',hn,w,ca,cb,ha,hb=>by
  have BG:=Lh (qp n);have HA:=Lh ha;have HB:=Lh hb;rw[aB] at ha hb;obtain ⟨A,c,rfl,ha2,LU,MP⟩:=ha;obtain ⟨B,c',rfl,hb2,hb3,hb4⟩:=hb;have UF:=Lh MP;have Hkb:=Lh hb4;obtain ⟨R,hR⟩:∃ R,R=Sx.jw (.mk op co nm x d ks) (.mk op' BF nm' x' d' ks'):=⟨_,rfl⟩
  rw[←hR];rw[Sx.jw] at hR;obtain ⟨m,hm⟩:∃ m,m=ks.length:=⟨_,rfl⟩
  obtain ⟨m',hm'⟩:∃ m',m'=ks'.length:=⟨_,rfl⟩
  rw[←hm] at LU ⊢;rw[←hm'] at hb3 ⊢;have Hm:=Lh hm;have lM:=Lh hm';have Hsz:Hid (∀ (i:Nat) y,ks[i]?=some y→SizeOf.sizeOf y < n):=Lh (fun i y hy=>by have:=Sx.BU (op:=op) (co:=co) (nm:=nm) (n:=x) (d:=d) hy;omega);have hb0:Below w.heap.size w ((w.alloc (.cells #[.int .i64 op,.int .i64 co,.string (Lx.bs nm),.int .i64 x,.int .i64 d,.slice A m c] 38)).alloc (.cells #[.int .i64 op',.int .i64 BF,.string (Lx.bs nm'),.int .i64 x',.int .i64 d',.slice B m' c'] 38)):=((Below.refl _ _).alloc (Nat.le_refl _) _).alloc (by simp) _;have HB0:=Lh hb0;unfold aT bB;clear MP hb4 hm hm' hn hb0
  cases q0:op != op' with
  | true=>
   have HR:Hid (R=false):=Lh (by rw [hR];have:(op == op')=false:=(by simpa using q0);rw[this];rfl);clear hR;go_enter Tryz.func17,Tryz.ntmps17;go_wp2_with fail;go_ret;exact ⟨aj HR.out.symm,HB0.out⟩
  | false=>
  have p0:(op == op')=true:=by simpa using q0
  rw[p0,Bool.true_and] at hR;cases q1:co != BF with
  | true=>
   have HR:Hid (R=false):=Lh (by rw [hR];have:(co == BF)=false:=(by simpa using q1);rw[this];rfl);clear hR;go_enter Tryz.func17,Tryz.ntmps17;go_wp2_with fail;go_ret;exact ⟨aj HR.out.symm,HB0.out⟩
  | false=>
  have p1:(co == BF)=true:=by simpa using q1
  rw[p1,Bool.true_and] at hR;have hbs:((Lx.bs nm).toList == (Lx.bs nm').toList)=(nm == nm'):=by rw [ByteArray.toList_eq,ByteArray.toList_eq,Lx.aK,Lx.aK]
  cases q2:nm == nm' with
  | false=>
   have HR:Hid (R=false):=Lh (by rw [hR,q2];rfl);rw[q2] at hbs;clear hR;go_enter Tryz.func17,Tryz.ntmps17;go_wp2_with fail;go_ret;exact ⟨aj HR.out.symm,HB0.out⟩
  | true=>
  rw[q2] at hbs;rw[q2,Bool.true_and] at hR;cases q3:x != x' with
  | true=>
   have HR:Hid (R=false):=Lh (by rw [hR];have:(x == x')=false:=(by simpa using q3);rw[this];rfl);clear hR;go_enter Tryz.func17,Tryz.ntmps17;go_wp2_with fail;go_ret;exact ⟨aj HR.out.symm,HB0.out⟩
  | false=>
  have p3:(x == x')=true:=by simpa using q3
  rw[p3,Bool.true_and] at hR;cases q4:d != d' with
  | true=>
   have HR:Hid (R=false):=Lh (by rw [hR];have:(d == d')=false:=(by simpa using q4);rw[this];rfl);clear hR;go_enter Tryz.func17,Tryz.ntmps17;go_wp2_with fail;go_ret;exact ⟨aj HR.out.symm,HB0.out⟩
  | false=>
  have p4:(d == d')=true:=by simpa using q4
  rw[p4,Bool.true_and] at hR;cases q5:((m:Int) != (m':Int)) with
  | true=>
   have HR:Hid (R=false):=Lh (by rw [hR];exact Sx.uJ (fun e=>by rw [←Hm.out,←lM.out] at e;simp[e] at q5));clear hR;go_enter Tryz.func17,Tryz.ntmps17;go_wp2_with fail;go_ret;exact ⟨aj HR.out.symm,HB0.out⟩
  | false=>
  obtain rfl:m=m':=by have:(m:Int)=m':=(by simpa using q5);omega
  clear q5;obtain ⟨W,hW⟩:∃ W,W=(w.alloc (.cells #[.int .i64 op,.int .i64 co,.string (Lx.bs nm),.int .i64 x,.int .i64 d,.slice A m c] 38)).alloc (.cells #[.int .i64 op',.int .i64 BF,.string (Lx.bs nm'),.int .i64 x',.int .i64 d',.slice B m c'] 38):=⟨_,rfl⟩
  have e0:aC W w.heap.size 38 #[.int .i64 op,.int .i64 co,.string (Lx.bs nm),.int .i64 x,.int .i64 d,.slice A m c]:=by rw [hW];exact (aC.new _ _ _).alloc _
  have e1:aC W (w.heap.size+1) 38 #[.int .i64 op',.int .i64 BF,.string (Lx.bs nm'),.int .i64 x',.int .i64 d',.slice B m c']:=by rw [hW];exact aC.aZ _ _ (by simp)
  have sF:=Lh e0;have rX:=Lh e1;have HR:=Lh hR;rw[←hW] at HB0;clear hR e0 e1;go_enter Tryz.func17,Tryz.ntmps17;go_wp2_with fail
  try rw [←hW]
  clear hW q0 q1 q2 q3 q4 p0 p1 p3 p4 hbs
  go_loopg [5] m (fun gk v5 wr=>∃ i:Nat,v5 = .int .i64 i∧i+gk=m∧Hid (Below W.heap.size W wr)∧Hid (∀ j y z,j < i→ks[j]?=some y→ks'[j]?=some z→Sx.jw y z=true))
  case atStart=>exact ⟨0,rfl,by omega,Lh (Below.refl _ _),Lh (fun j y z hj=>absurd hj (Nat.not_lt_zero j))⟩
  case round=>
   obtain ⟨i,rfl,hi,Hb,dQ⟩:=hrel;have Bl:=Lh (HB0.out.trans (Hb.out.mono HB0.out.size));have g0:=sF.out.below Hb.out sF.out.lt;have g1:=rX.out.below Hb.out rX.out.lt;have g5:=g0.cell 5;have h5:=g1.cell 5;simp at g5 h5;have hWs:=HB0.out.size;clear g0 g1
   by_cases hlt:i < m
   ·obtain ⟨y,hy⟩:∃ y,ks[i]?=some y:=⟨_,List.getElem?_eq_getElem (by have:=Hm.out;omega)⟩
    obtain ⟨z,hz⟩:∃ z,ks'[i]?=some z:=⟨_,List.getElem?_eq_getElem (by have:=lM.out;omega)⟩
    have Hy:=Lh hy;have Hz:=Lh hz;have hcall:=BG.out y z (Hsz.out i y hy);obtain ⟨bk,ok,Fw,rfl,gV,oL,hck⟩:=UF.out.get i y hy;have mK:=oL.old Bl.out;obtain ⟨ko,kc,kn,kx,kd,kk⟩:=y;rw[aB] at oL;obtain ⟨kA,kq,rfl,-,-,-⟩:=oL;have k0:=(Bl.out.cell (p:=⟨bk,_,none⟩) gV).trans (hck 0 _ rfl);have k1:=(Bl.out.cell (p:=⟨bk,_,none⟩) gV).trans (hck 1 _ rfl);have k2:=(Bl.out.cell (p:=⟨bk,_,none⟩) gV).trans (hck 2 _ rfl);have k3:=(Bl.out.cell (p:=⟨bk,_,none⟩) gV).trans (hck 3 _ rfl);have k4:=(Bl.out.cell (p:=⟨bk,_,none⟩) gV).trans (hck 4 _ rfl)
    have k5:=(Bl.out.cell (p:=⟨bk,_,none⟩) gV).trans (hck 5 _ rfl);simp only[Nat.zero_add,Nat.add_zero] at k0 k1 k2 k3 k4 k5;simp only[aT,bB] at k0 k1 k2 k3 k4 k5 mK;obtain ⟨bl,ol,Wz,rfl,kR,hrl,hcl⟩:=Hkb.out.get i z hz;have ru:=hrl.old Bl.out;obtain ⟨lo,lc,ln,lx,ld,lk⟩:=z;rw[aB] at hrl;obtain ⟨lA,lq,rfl,-,-,-⟩:=hrl;have l0:=(Bl.out.cell (p:=⟨bl,_,none⟩) kR).trans (hcl 0 _ rfl);have l1:=(Bl.out.cell (p:=⟨bl,_,none⟩) kR).trans (hcl 1 _ rfl);have l2:=(Bl.out.cell (p:=⟨bl,_,none⟩) kR).trans (hcl 2 _ rfl);have l3:=(Bl.out.cell (p:=⟨bl,_,none⟩) kR).trans (hcl 3 _ rfl)
    have l4:=(Bl.out.cell (p:=⟨bl,_,none⟩) kR).trans (hcl 4 _ rfl);have l5:=(Bl.out.cell (p:=⟨bl,_,none⟩) kR).trans (hcl 5 _ rfl);simp only[Nat.zero_add,Nat.add_zero] at l0 l1 l2 l3 l4 l5;simp only[aT,bB] at l0 l1 l2 l3 l4 l5 ru;have aH:=Lh (hcall wr.drew _ _ (mK.old ((Below.refl wr.heap.size wr).drew)) (ru.old ((Below.refl wr.heap.size wr).drew)));clear hcall mK ru hck hcl hy hz;cases hq:Sx.jw (.mk ko kc kn kx kd kk) (.mk lo lc ln lx ld lk) with
    | false=>
     rw[hq] at aH;have HR2:Hid (R=false):=Lh (by rw [HR.out];exact Sx.Ec Hy.out Hz.out hq);clear hq;go_wp2_with fail
     go_region_law (go_simp;go_at_call 17;refine aH.out.mono ?_;rintro e w5 ⟨rfl,hb5⟩;have Hb5:=Lh hb5;clear hb5)
     all_goals (try go_wp2_with fail)
     all_goals go_ret
     all_goals exact ⟨aj HR2.out.symm,Bl.out.trans (Below.trans (Below.refl _ _).drew (Hb5.out.mono (by have:=Bl.out.size;exact this)))⟩
    | true=>
     rw[hq] at aH;have Hq:=Lh hq;clear hq;go_wp2_with fail
     go_region_law (go_simp;go_at_call 17;refine aH.out.mono ?_;rintro e w5 ⟨rfl,hb5⟩;have Hb5:=Lh hb5;clear hb5)
     all_goals (try go_wp2_with fail)
     all_goals go_roundg (gk - 1)
     all_goals first
      | omega
      | exact ⟨i+1,by go_num,by omega,Lh (Hb.out.trans (Below.trans (Below.refl _ _).drew (Hb5.out.mono (by have:=Hb.out.size;exact this)))),Lh (fun j y z hj h1 h2=>by
        rcases Nat.lt_or_ge j i with h3 | h3
        ·exact dQ.out j y z h3 h1 h2
        ·obtain rfl:j=i:=by omega
         rw[Hy.out] at h1;rw[Hz.out] at h2;injection h1 with h1;injection h2 with h2;rw[←h1,←h2];exact Hq.out)⟩
   ·obtain rfl:i=m:=by omega
    have HR2:Hid (R=true):=Lh (by rw [HR.out];exact Sx.BX (by rw [←Hm.out,←lM.out]) (fun j y z h1 h2=>dQ.out j y z (by have:=(List.getElem?_eq_some_iff.1 h1).1;have:=Hm.out;omega) h1 h2));go_wp2_with fail;go_ret;exact ⟨aj HR2.out.symm,Bl.out⟩
end Go.Proofs.YtjonaidancomgaaGreatDoor
