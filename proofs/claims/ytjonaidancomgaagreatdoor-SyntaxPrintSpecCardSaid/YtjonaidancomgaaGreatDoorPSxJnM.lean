/- Parts of the proof, joined into one text: q1v, q1w, q1x, q1y. -/
import Derived.Test.YtjonaidancomgaaGreatDoorPSxSameC
import Derived.Test.YtjonaidancomgaaGreatDoorPSxKids
import Derived.Deep.AppendLies
import Derived.Deep.Upon
import Derived.Test.YtjonaidancomgaaGreatDoorPSxPut
import Derived.Test.YtjonaidancomgaaGreatDoorPLxI
import Derived.Test.YtjonaidancomgaaGreatDoorPSxRd
import Derived.Deep.RegionHeldLaw
import Derived.Deep.Cut
import Derived.Test.YtjonaidancomgaaGreatDoorPSxVal
import Derived.Test.YtjonaidancomgaaGreatDoorPSxFewW
import Derived.Deep.LoopGhost
import Derived.Deep.CutRange
set_option maxHeartbeats 16000000
set_option maxRecDepth 20000
namespace Go.Proofs.YtjonaidancomgaaGreatDoor
open Go.RowKit
theorem eZ.app {w:World} {b o:Nat} {cs ds:List Value} (h:eZ w b o cs) (k:eZ w b (o+cs.length) ds):eZ w b o (cs++ds):=fun j v hj=>by
 by_cases hl:j < cs.length
 ·rw[List.getElem?_append_left hl] at hj;exact h j v hj
 ·rw[List.getElem?_append_right (by omega)] at hj;have:=k (j - cs.length) v hj;rw[show o+cs.length+(j - cs.length)=o+j by omega] at this;exact this
theorem zO {α:Type} {w:World} {b o sz:Nat} {P:α→List Value→Prop} (hsz:∀ x cs,P x cs→cs.length=sz):∀ (l:List α) (k:Nat),(∀ i x,l[i]?=some x→∃ cs,P x cs∧eZ w b (o+(k+i)*sz) cs)→
  ∃ rs:List (List Value),rs.length=l.length∧(∀ (i:Nat) x cs,l[i]?=some x→rs[i]?=some cs→P x cs)∧eZ w b (o+k*sz) rs.flatten
 | [],k,_=>⟨[],rfl,fun i x cs h=>by simp at h,fun j v h=>by simp at h⟩
 | x::l,k,h=>by
  obtain ⟨cs,hP,hc⟩:=h 0 x rfl;obtain ⟨rs,h1,h2,h3⟩:=zO hsz l (k+1) (fun i y hi=>by
   have:=h (i+1) y (by simpa using hi)
   rwa [show k+(i+1)=k+1+i by omega] at this)
  refine ⟨cs::rs,by simp [h1],fun i y ds hi hd=>?_,?_⟩
  ·cases i with
   | zero=>
    simp at hi hd;subst hi;subst hd;exact hP
   | succ i=>exact h2 i y ds (by simpa using hi) (by simpa using hd)
  ·rw[List.flatten_cons];refine eZ.app (by simpa using hc) ?_;rw[hsz x cs hP,show o+k*sz+sz=o+(k+1)*sz by rw [Nat.add_mul];omega];exact h3
theorem Row.flat {α:Type} {w:World} {S:Nat→Prop} {A:Option Addr} {sz:Nat} {P:α→List Value→Prop} {l:List α} (h:Row w S A sz P l) (hsz:∀ x cs,P x cs→cs.length=sz) :
  ∃ rs:List (List Value),rs.length=l.length∧(∀ (i:Nat) x cs,l[i]?=some x→rs[i]?=some cs→P x cs)∧(l = []∨∃ b o,A=some ⟨b,o,none⟩∧S b∧eZ w b o rs.flatten):=by
 cases l with
 | nil=>exact ⟨[],rfl,fun i x cs h=>by simp at h,.inl rfl⟩
 | cons x l=>
  obtain ⟨b,o,cs0,rfl,hS,_⟩:=h.at_ 0 x rfl;obtain ⟨rs,h1,h2,h3⟩:=zO (w:=w) (b:=b) (o:=o) hsz (x::l) 0 (fun i y hi=>by
   obtain ⟨b',o',cs,e,_,hP,hc⟩:=h.at_ i y hi;injection e with e;injection e with e1 e2;subst e1;subst e2;exact ⟨cs,hP,by simpa using hc⟩)
  exact ⟨rs,h1,h2,.inr ⟨b,o,rfl,hS,by simpa using h3⟩⟩
theorem Iu {w:World} {base sz n:Nat} {e:TypeId} {v:Value} {xs:List Value} (h:w.ownsRow base e sz v n xs):∃ A c,v = .slice A n c∧n≤c:=by
 rcases h.2 with ⟨rfl,h0⟩ | ⟨g,cap,cur,rfl,_,_,hc,_⟩
 ·exact ⟨none,0,by rw [h0],by omega⟩
 ·exact ⟨_,cap,rfl,hc⟩
theorem xO {ops:Array Oper} {o:Oper} {a:Act} {w:World} {K:Act→World→Prop} {Q:Exit→Act→World→Prop} {E:Prop} (hgd:o.guard=none) (s x:Operand) (t:TypeId)
  (ho:o.op = .call { callee:=.builtin .append,args:=#[s,x],argTypes:=#[t,t] }) {v u:Value} (hs:a.eval s=v) (hx:a.eval x=u) {R:Value→World→Prop} (hr:∃ v' w',(Builtin.append_ #[t,t] o.type #[v,u]).run Tryz.prog w = .ok v' w'∧R v' w')
  (h:∀ v' w',R v' w'→K (a.put o.dst v') w'):if Region.wanted o (yielded ops a.tmps)=true then Oper.wp Tryz.prog o a w K Q else E:=by
 have hw:Region.wanted o (yielded ops a.tmps)=true:=by simp [Region.wanted,hgd]
 rw[if_pos hw];obtain ⟨v',w',hr,hR⟩:=hr;unfold Oper.wp execOp;simp only[ho,resolve,invoke,builtin,Sem.run_bind,Sem.run_pure,Result.andThen_ok,List.map_toArray,List.map_cons,List.map_nil,hs,hx,hr];exact h v' w' hR
end Go.Proofs.YtjonaidancomgaaGreatDoor
namespace Go.Proofs.YtjonaidancomgaaGreatDoor
open Go.RowKit
open Lx (Tok)
theorem nS:Tryz.prog.underlying 51=some (.slice 55):=by kernel_rfl
def Oa (w:World) (A:Option Addr) (m:List Tok):Prop:=m.length=0∨∃ b o,A=some ⟨b,o,none⟩∧eZ w b o (m.flatMap Tok.cells)
structure TS (W V : World) (l : List Tok) (A : Option Addr) (n c : Nat) (w : World) : Prop where
 row:w.ownsRow W.heap.size 55 4 (.slice A n c) l.length (l.flatMap Tok.cells)
 len:l.length=n
 aY:Below W.heap.size W w
 kp:KP V w
def jD (l:List Tok) (w:World) (e:Ending) (w':World):Prop:=∃ A n c,e = .returned (.slice A n c)∧TS w w l A n c w'
section
variable {b : Nat} {l m l' : List Tok} {v : Value} {A : Option Addr} {n k c d : Nat} {W V U w w' : World} {cs : Array Value} {o : Obj}
theorem EL (l:List Tok):(l.flatMap Tok.cells).length=l.length*4:=by
 induction l with
 | nil=>rfl
 | cons t l ih=>rw [List.flatMap_cons,List.length_append,ih];simp[Tok.cells];omega
theorem Q8 (l:List Tok):∀ u∈l.flatMap Tok.cells,u.oneCell'=true:=fun u hu=>by
 obtain ⟨t,_,hu⟩:=List.mem_flatMap.1 hu;simp only[Tok.cells,List.mem_cons,List.not_mem_nil,or_false] at hu
 rcases hu with rfl | rfl | rfl | rfl <;> rfl
theorem CV {B:Nat} (h:w.ownsRow B 55 4 (.slice A n c) l.length (l.flatMap Tok.cells)):Oa w A l:=by
 rcases h.2 with ⟨_,h0⟩ | ⟨g,cap,cur,hv,_,hg,_,_,hs,ht⟩
 ·exact .inl h0
 ·injection hv with hA _ _;subst hA;refine .inr ⟨g,0,rfl,fun j u hj=>?_⟩;rw[Nat.zero_add,cell_of_row w g j cur _ _ hg];rw[←ht,List.getElem?_take] at hj
  split at hj
  ·simpa using hj
  ·cases hj
theorem TS.lies (h:TS W V l A n c w):Oa w A l:=CV h.row
theorem TS.call (h:TS W V l A n c w) (hb:Below w.heap.size w w'):TS W V l A n c w':=⟨own_below h.row hb,h.len,h.aY.trans (hb.mono h.aY.size),h.kp.trans (KP.below hb)⟩
theorem TS.drew (h:TS W V l A n c w):TS W V l A n c w.drew:=h.call (Below.refl _ _).drew
theorem TS.alloc (h:TS W V l A n c w):TS W V l A n c (w.alloc o):=h.call ((Below.refl _ _).alloc (Nat.le_refl _) _)
theorem TS.at (h:TS W V l A n c w):TS W w l A n c w:=⟨h.row,h.len,h.aY,KP.refl _⟩
theorem TS.onto (h:TS W V l A n c w) (hk:KP U V):TS W U l A n c w:=⟨h.row,h.len,h.aY,hk.trans h.kp⟩
theorem TS.re (h:TS W V l A n c w) (e:n=k):TS W V l A k c w:=e ▸ h
theorem TS.start (hW:Below W.heap.size W w) (hk:KP V w) (hc:cs.toList=l.flatMap Tok.cells) (hl:l.length≤100000) (hn:l.length=n):TS W V l (some ⟨w.heap.size,0,none⟩) n n (w.alloc (.cells cs 55)):=by
 have hb:Below w.heap.size w (w.alloc (.cells cs 55)):=(Below.refl _ _).alloc (Nat.le_refl _) _;refine ⟨?_,hn,hW.trans (hb.mono hW.size),hk.trans (KP.below hb)⟩;have hs:cs.size=l.length*4:=by rw [←EL,←hc];simp
 refine ⟨EL l,.inr ⟨w.heap.size,l.length,cs,by rw [hn],hW.size,heap_alloc_new w _,Nat.le_refl _,by unfold maxLen;omega,hs,?_⟩⟩;rw[←hc];exact List.take_of_length_le (by simp [hs])
theorem Oa.call (_h:Oa w A m) (ho:∃ B,w.ownsRow B 55 4 (.slice A n c) m.length (m.flatMap Tok.cells)) (hb:Below w.heap.size w w'):Oa w' A m:=by
 obtain ⟨B,ho⟩:=ho;exact CV (own_below ho hb)
theorem Oa.blk:Oa (w.alloc (.cells (m.flatMap Tok.cells).toArray 55)) (some ⟨w.heap.size,0,none⟩) m:=
 .inr ⟨w.heap.size,0,rfl,fun j u hj=>by
  rw[Nat.zero_add,cell_of_row _ _ j _ _ _ (heap_alloc_new w _)];simpa using hj⟩
def TkA (W V:World) (l m:List Tok) (n k:Nat) (v:Value) (w':World):Prop:=∃ A' n' c' l',v = .slice A' n' c'∧n'=n+k∧l'=l++m∧TS W V l' A' n' c' w'
theorem TS.app {A':Option Addr} (ty:TypeId) (h:TS W V l A n c w) (hA:Oa w A' m) (hm:m.length=k) (hl:n+k≤100000) :
  ∃ v' w',(Builtin.append_ #[51,51] ty #[.slice A n c,.slice A' k d]).run Tryz.prog w = .ok v' w'∧TkA W V l m n k v' w':=by
 obtain ⟨i,hi,hz,hs,hb⟩:=info_parts Tryz.infoTok;obtain ⟨h1,h2,h3,h4⟩:=h;subst h2;subst hm
 rcases Nat.eq_zero_or_pos m.length with h0 | h0
 ·have hm0:m = []:=List.eq_nil_of_length_eq_zero h0;subst hm0;obtain ⟨B,cap,e,hc⟩:=Iu h1;injection e with e1 e2 e3;subst e3;refine ⟨_,w,run_append_nothing w _ _ ty _ i nS hi A l.length c hc _ ?_,A,_,c,l,rfl,rfl,by simp,⟨h1,rfl,h3,h4⟩⟩;cases A' with
  | none=>exact Src.ofNil (w:=w) nS d
  | some a=>exact Src.ofSlice (w:=w) nS a 0 d [] (by simp) (by simp) (by simp)
 ·rcases hA with hA | ⟨b,o,rfl,hc⟩
  ·omega
  ·obtain ⟨g,cap,w',hr,h5,h6,_,_⟩:=run_append_lies (P:=Tryz.prog) w _ ty W.heap.size _ i _ 4 40 nS hi hz hs hb rfl (by decide) _ l.length _ h1 ⟨b,o,none⟩ m.length d (m.flatMap Tok.cells) (EL m) (fun j u hj=>by
    have hadd:(⟨b,o,none⟩:Addr).add j=⟨b,o+j,none⟩:=by unfold Addr.add;split <;> simp_all
    rw[hadd];exact hc j u hj) (Q8 m) h0 (by unfold maxLen;omega) (by omega) h3.size _ rfl
   refine ⟨_,w',hr,_,_,cap,l++m,rfl,rfl,rfl,⟨by rw [List.length_append,List.flatMap_append];exact h5,by simp,Below.grown h3 h6 h3.size (fun k hk=>jY h1 hk),?_⟩⟩;refine h4.trans ⟨h6.size,fun j x hj hx=>(h6.block j (Array.getElem?_eq_some_iff.1 hj).1 fun e=>?_).trans hj⟩
   rcases h1.2 with ⟨e1,_⟩ | ⟨g',cap',cur',e1,_,hh',_⟩
   ·rw[e1] at e;simp[Value.ownBlock] at e
   ·rw[e1] at e;have:j=g':=by simpa [Value.ownBlock] using e
    subst this;rw[hj] at hh';injection hh' with hh';exact (hx _ _ _ hh').1 rfl
theorem TS.lit (ty:TypeId) (h:TS W V l A n c w) (m:List Tok) (hc:cs=(m.flatMap Tok.cells).toArray) (hm:m.length=k) (hl:n+k≤100000) :
  ∃ v' w',(Builtin.append_ #[51,51] ty #[.slice A n c,.slice (some ⟨w.heap.size,0,none⟩) k k]).run Tryz.prog (w.alloc (.cells cs 55)) = .ok v' w'∧TkA W V l m n k v' w':=by
 subst hc;exact h.alloc.app ty Oa.blk hm hl
theorem aL {ops:Array Oper} {o:Oper} {a:Act} {K:Act→World→Prop} {Q:Exit→Act→World→Prop} {E:Prop} (hgd:o.guard=none) (hd:o.dst=some k) (s x:Operand) (t:TypeId)
  (ho:o.op = .call { callee:=.builtin .append,args:=#[s,x],argTypes:=#[t,t] }) {u:Value} (hs:a.eval s=v) (hx:a.eval x=u) {R:Value→World→Prop} (hr:∃ v' w',(Builtin.append_ #[t,t] o.type #[v,u]).run Tryz.prog w = .ok v' w'∧R v' w')
  (h:∀ v' w',R v' w'→K (a.put (some k) v') w'):if Region.wanted o (yielded ops a.tmps)=true then Oper.wp Tryz.prog o a w K Q else E:=
 xO hgd s x t ho hs hx hr fun v' w' hR=>by rw [hd];exact h v' w' hR
theorem aI {ops:Array Oper} {rest:List Oper} {o:Oper} {a:Act} {Q:Exit→Act→World→Prop} (hgd:o.guard=none) (s x:Operand) (t:TypeId)
  (ho:o.op = .call { callee:=.builtin .append,args:=#[s,x],argTypes:=#[t,t] }) {u:Value} (hs:a.eval s=v) (hx:a.eval x=u) {R:Value→World→Prop} (hr:∃ v' w',(Builtin.append_ #[t,t] o.type #[v,u]).run Tryz.prog w = .ok v' w'∧R v' w')
  (h:∀ v' w',R v' w'→wpList Tryz.prog ops Q rest (a.put o.dst v') w'):wpList Tryz.prog ops Q (o::rest) a w:=
 wpList_plain hgd fun _ hK=>by
  obtain ⟨v',w',hr,hR⟩:=hr;unfold Oper.wp execOp;simp only[ho,resolve,invoke,builtin,Sem.run_bind,Sem.run_pure,Result.andThen_ok,List.map_toArray,List.map_cons,List.map_nil,hs,hx,hr];exact hK _ _ (h v' w' hR)
end
theorem sj (x:ByteArray) (w:World):Calls Tryz.prog 140 #[.string x] w fun e w'=>e = .returned (.agg #[.int .i64 1,.string x,.int .i64 0,.int .i64 0])∧Below w.heap.size w w':=by
 go_enter Tryz.func140,Tryz.ntmps140;go_wp2_with fail
 try simp only [Exit.inBlock,Exit.then]
 refine bodyPost_ret (v:=.agg #[.int .i64 1,.string x,.int .i64 0,.int .i64 0]) (by simp [results,Tryz.results140,go_sem]) rfl ⟨rfl,?_⟩
 first
  | exact (Below.refl _ _).alloc (Nat.le_refl _) _
  | exact ((Below.refl _ _).alloc (Nat.le_refl _) _).setCell (by simp) _
  | exact (((((Below.refl _ _).alloc (Nat.le_refl _) _).setCell (by simp) _).setCell (by simp) _).setCell (by simp) _).setCell (by simp) _
theorem uY (x:ByteArray) (w:World):Calls Tryz.prog 142 #[.string x] w fun e w'=>e = .returned (.agg #[.int .i64 3,.string x,.int .i64 0,.int .i64 0])∧Below w.heap.size w w':=by
 go_enter Tryz.func142,Tryz.ntmps142;go_wp2_with fail
 try simp only [Exit.inBlock,Exit.then]
 refine bodyPost_ret (v:=.agg #[.int .i64 3,.string x,.int .i64 0,.int .i64 0]) (by simp [results,Tryz.results142,go_sem]) rfl ⟨rfl,?_⟩
 first
  | exact (Below.refl _ _).alloc (Nat.le_refl _) _
  | exact ((Below.refl _ _).alloc (Nat.le_refl _) _).setCell (by simp) _
  | exact (((((Below.refl _ _).alloc (Nat.le_refl _) _).setCell (by simp) _).setCell (by simp) _).setCell (by simp) _).setCell (by simp) _
theorem EN (x:Int) (w:World):Calls Tryz.prog 141 #[.int .i64 x] w fun e w'=>e = .returned (.agg #[.int .i64 2,.string ⟨#[]⟩,.int .i64 x,.int .i64 0])∧Below w.heap.size w w':=by
 go_enter Tryz.func141,Tryz.ntmps141;go_wp2_with fail
 try simp only [Exit.inBlock,Exit.then]
 refine bodyPost_ret (v:=.agg #[.int .i64 2,.string ⟨#[]⟩,.int .i64 x,.int .i64 0]) (by simp [results,Tryz.results141,go_sem]) rfl ⟨rfl,?_⟩
 first
  | exact (Below.refl _ _).alloc (Nat.le_refl _) _
  | exact ((Below.refl _ _).alloc (Nat.le_refl _) _).setCell (by simp) _
  | exact (((((Below.refl _ _).alloc (Nat.le_refl _) _).setCell (by simp) _).setCell (by simp) _).setCell (by simp) _).setCell (by simp) _
end Go.Proofs.YtjonaidancomgaaGreatDoor
namespace Go.Proofs.YtjonaidancomgaaGreatDoor
open Go.RowKit
theorem bT {w a b:World} (h:Hid (Below w.heap.size w a)) (k:Below a.heap.size a b):Hid (Below w.heap.size w b):=Lh (h.out.trans (k.mono h.out.size))
theorem xP (x:List UInt8) (n:Int) (w:World):Calls Tryz.prog 143 #[.string (Lx.bs x),.int .i64 n] w (jD (Sx.fO x n) w):=by
 have hbs:((Lx.bs x).toList == (⟨#[]⟩:ByteArray).toList)=x.isEmpty:=by rw [ByteArray.toList_eq,ByteArray.toList_eq,Lx.aK];cases x <;> rfl
 have fH:(Lx.bs x).toList.isEmpty=x.isEmpty:=by rw [ByteArray.toList_eq,Lx.aK]
 unfold Sx.fO;cases q:x.isEmpty with
 | true=>
  rw[q] at hbs fH;go_enter Tryz.func143,Tryz.ntmps143;go_wp2_with fail;refine (uY _ _).mono ?_;rintro e w1 ⟨rfl,hb⟩;have HB:=Lh hb;clear hb;go_wp2_with fail;refine (EN _ _).mono ?_;rintro e w2 ⟨rfl,hb⟩;replace HB:=bT HB hb;clear hb;go_wp2_with fail;go_ret;exact ⟨_,_,_,rfl,TS.start HB.out (KP.below HB.out) rfl (by simp) rfl⟩
 | false=>
  rw[q] at hbs fH;go_enter Tryz.func143,Tryz.ntmps143;go_wp2_with fail;refine (sj _ _).mono ?_;rintro e w1 ⟨rfl,hb⟩;have HB:=Lh hb;clear hb;go_wp2_with fail;go_ret;exact ⟨_,_,_,rfl,TS.start HB.out (KP.below HB.out) rfl (by simp) rfl⟩
theorem Bh (r:Sx.bL) (w:World):Calls Tryz.prog 150 #[.agg #[.int .i64 r.num,.int .i64 r.den]] w (jD (Sx.bO r) w):=by
 obtain ⟨n,d⟩:=r;obtain ⟨W,hW⟩:∃ W,W=w.alloc (.cells #[.int .i64 n,.int .i64 d] 75):=⟨_,rfl⟩
 have hb0:Below w.heap.size w W:=by rw [hW];exact (Below.refl _ _).alloc (Nat.le_refl _) _
 have e0:aC W w.heap.size 75 #[.int .i64 n,.int .i64 d]:=by rw [hW];exact aC.new _ _ _
 have aX:Hid (∀ w':World,Below W.heap.size W w'→w'.cell? ⟨w.heap.size,0,none⟩=some (.int .i64 n)∧w'.cell? ⟨w.heap.size,1,none⟩=some (.int .i64 d)):=Lh (fun w' hb=>by
  obtain ⟨x0,x1,_⟩:=AL (e0.below hb e0.lt);exact ⟨x0,x1⟩)
 have HB0:=Lh hb0;have HB:=Lh (Below.refl W.heap.size W);obtain ⟨x0,x1,xz⟩:=AL e0;clear hb0 e0;go_enter Tryz.func150,Tryz.ntmps150;go_upto_region 1 with fail;rw[←hW];clear hW
 go_region_held_law (fun w':World=>w'.cell? ⟨w.heap.size,0,none⟩=some (.int .i64 n)∧w'.cell? ⟨w.heap.size,1,none⟩=some (.int .i64 d)) (first | exact aX.out _ (Below.refl W.heap.size W).drew | go_keep) (first
  | (go_at_call 141;refine (EN _ _).mono ?_;rintro e w5 ⟨rfl,hb⟩;replace HB:=(by first | exact bT HB hb | exact bT (Lh HB.out.drew) hb);obtain ⟨r0,r1⟩:=aX.out _ HB.out;clear hb)
  | (go_at_call 142;refine (uY _ _).mono ?_;rintro e w5 ⟨rfl,hb⟩;replace HB:=(by first | exact bT HB hb | exact bT (Lh HB.out.drew) hb);obtain ⟨r0,r1⟩:=aX.out _ HB.out;clear hb))
 all_goals (try go_wp2_with fail)
 all_goals go_ret
 all_goals exact ⟨_,_,_,rfl,TS.start (bT HB0 HB.out).out (KP.below (bT HB0 HB.out).out) rfl (by simp [Sx.bO]) rfl⟩
theorem Sx.zP:∀ {zs:List (List UInt8 × Int)} {i:Nat} {p:List UInt8 × Int},zs[i]?=some p→Sx.dF (zs.take (i+1))=Sx.dF (zs.take i)++((if i=0 then [] else [Sx.bI 44])++Sx.fO p.1 p.2)
 | [],i,p,h=>by simp at h
 | [q],i,p,h=>by
  cases i with
  | zero=>
   obtain rfl:q=p:=by simpa using h
   simp[Sx.dF]
  | succ i=>simp at h
 | q::r::zs,i,p,h=>by
  cases i with
  | zero=>
   obtain rfl:q=p:=by simpa using h
   simp[Sx.dF]
  | succ i=>
   have ih:=Sx.zP (zs:=r::zs) (i:=i) (p:=p) (by simpa using h);cases i with
   | zero=>
    obtain rfl:r=p:=by simpa using h
    simp[Sx.dF]
   | succ i=>
    simp only[List.take_succ_cons] at ih ⊢;rw[Sx.dF,ih,Sx.dF];simp
theorem iZ {α:Type} {f:α→List Lx.Tok} {l:List α} {i:Nat} {y:α} (h:l[i]?=some y):(l.take (i+1)).flatMap f=(l.take i).flatMap f++f y:=by
 rw[List.take_add_one,h,Option.toList_some,List.flatMap_append];simp
theorem mh {α:Type} {f:α→List Lx.Tok} (l:List α) (i:Nat):((l.take i).flatMap f).length≤(l.flatMap f).length:=by
 have:l.flatMap f=(l.take i).flatMap f++(l.drop i).flatMap f:=by rw [←List.flatMap_append,List.take_append_drop]
 rw[this,List.length_append];omega
theorem jS (s:List UInt8) (n:Int):(Sx.fO s n).length≤2:=by unfold Sx.fO;split <;> simp
theorem Q9 (x:Sx.Prog) (w:World) (ca:List Value) (ha:bS w (Old w) x ca) (hlen:(Sx.eB x).length≤60000) (Vx:∀ z∈x.reqs,z.names.length=z.froms.length∧z.names.length≤20):Calls Tryz.prog 144 #[.agg ca.toArray] w (jD (Sx.eB x) w):=by
 obtain ⟨A,c,rfl,-,hrow⟩:=ha;obtain ⟨m,hm⟩:∃ m,m=x.reqs.length:=⟨_,rfl⟩
 have hm0:=hrow.len;rw[←hm] at hm0 ⊢;simp only[bB,aT];obtain ⟨nm,hnm⟩:∃ s,s=x.name:=⟨_,rfl⟩
 obtain ⟨no,hno⟩:∃ s,s=x.number:=⟨_,rfl⟩
 obtain ⟨us,Vy⟩:∃ s,s=x.uses:=⟨_,rfl⟩
 obtain ⟨ea,Vz⟩:∃ s,s=x.gD:=⟨_,rfl⟩
 obtain ⟨mn,hmn⟩:∃ s,s=x.mean.num:=⟨_,rfl⟩
 obtain ⟨md,hmd⟩:∃ s,s=x.mean.den:=⟨_,rfl⟩
 rw[←hnm,←hno,←Vy,←Vz,←hmn,←hmd];have HX:=Lh (show Sx.eB x = [Sx.av Sx.bR,Sx.aW no,Sx.av nm,Sx.bI 123]++(if us≠1 then [Sx.av Sx.jL,Sx.aW us,Sx.bI 59] else [])++(if ea≠0 then [Sx.av Sx.gY,Sx.aW ea,Sx.bI 59] else [])++(if mn≠0 then Sx.av Sx.fD::(Sx.bO ⟨mn,md⟩++[Sx.bI 59]) else [])++x.reqs.flatMap Sx.gL++[Sx.bI 125] by rw [hnm,hno,Vy,Vz,hmn,hmd];rfl);have Hm:=Lh hm;have HR:=Lh hrow;have HLEN:=Lh hlen;have Zq:=Lh Vx
 obtain ⟨W,hW⟩:∃ W,W=w.alloc (.cells #[.string (Lx.bs nm),.int .i64 no,.int .i64 us,.int .i64 ea,.int .i64 mn,.int .i64 md,.slice A m c] 78):=⟨_,rfl⟩
 have hb0:Below w.heap.size w W:=by rw [hW];exact (Below.refl _ _).alloc (Nat.le_refl _) _
 have e0:aC W w.heap.size 78 #[.string (Lx.bs nm),.int .i64 no,.int .i64 us,.int .i64 ea,.int .i64 mn,.int .i64 md,.slice A m c]:=by rw [hW];exact aC.new _ _ _
 have aX:Hid (∀ w':World,KP W w'→w'.cell? ⟨w.heap.size,0,none⟩=some (.string (Lx.bs nm))∧w'.cell? ⟨w.heap.size,1,none⟩=some (.int .i64 no)∧w'.cell? ⟨w.heap.size,2,none⟩=some (.int .i64 us)∧w'.cell? ⟨w.heap.size,3,none⟩=some (.int .i64 ea)∧w'.cell? ⟨w.heap.size,4,none⟩=some (.int .i64 mn)∧w'.cell? ⟨w.heap.size,5,none⟩=some (.int .i64 md)∧w'.cell? ⟨w.heap.size,6,none⟩=some (.slice A m c)):=Lh (fun w' hk=>by
  obtain ⟨x0,x1,x2,x3,x4,x5,x6,_⟩:=bJ (hk.blk e0 (by decide) (by decide));exact ⟨x0,x1,x2,x3,x4,x5,x6⟩)
 have HB0:=Lh hb0;have HB:=Lh (Below.refl W.heap.size W);have xz:=e0.lt;clear hb0 e0 hrow hm hlen Vx hnm hno Vy Vz hmn hmd;go_enter Tryz.func144,Tryz.ntmps144;go_upto_region 1 with fail;rw[←hW];clear hW
 go_region_held_law (fun w':World=>w'.cell? ⟨w.heap.size,0,none⟩=some (.string (Lx.bs nm))∧w'.cell? ⟨w.heap.size,1,none⟩=some (.int .i64 no)∧w'.cell? ⟨w.heap.size,2,none⟩=some (.int .i64 us)∧w'.cell? ⟨w.heap.size,3,none⟩=some (.int .i64 ea)∧w'.cell? ⟨w.heap.size,4,none⟩=some (.int .i64 mn)∧w'.cell? ⟨w.heap.size,5,none⟩=some (.int .i64 md)∧w'.cell? ⟨w.heap.size,6,none⟩=some (.slice A m c)) (first | exact aX.out _ (KP.below (Below.refl W.heap.size W).drew) | go_keep) (first
 | ((first | (go_at_call 140;refine (sj _ _).mono ?_) | (go_at_call 141;refine (EN _ _).mono ?_) | (go_at_call 142;refine (uY _ _).mono ?_));rintro e w5 ⟨rfl,hb⟩;(first | (replace HT:=(by first | exact Lh (HT.out.call hb) | exact Lh (HT.out.drew.call hb) | exact Lh (HT.out.alloc.call hb));obtain ⟨r0,r1,r2,r3,r4,r5,r6⟩:=aX.out _ HT.out.kp) | (replace HB:=(by first | exact bT HB hb | exact bT (Lh HB.out.drew) hb | exact bT (bT HB ((Below.refl _ _).alloc (Nat.le_refl _) _)) hb);obtain ⟨r0,r1,r2,r3,r4,r5,r6⟩:=aX.out _ (KP.below HB.out)));clear hb))
 have HT:=Lh (TS.start (V:=W) (l:=[Sx.av Sx.bR,Sx.aW no,Sx.av nm,Sx.bI 123]) (n:=4) (cs:=#[.int .i64 1,.string ⟨#[112,114,111,103,114,97,109,109,101]⟩,.int .i64 0,.int .i64 0,.int .i64 2,.string ⟨#[]⟩,.int .i64 no,.int .i64 0,.int .i64 1,.string (Lx.bs nm),.int .i64 0,.int .i64 0,.int .i64 3,.string ⟨#[123]⟩,.int .i64 0,.int .i64 0]) (bT HB0 HB.out).out (KP.below HB.out) rfl (by simp) rfl);clear r0 r1 r2 r3 r4 r5 r6;obtain ⟨r0,r1,r2,r3,r4,r5,r6⟩:=aX.out _ HT.out.kp;go_upto_if 18 with fail
 go_cut [3] from 16 to 26 (fun v3 wx=>∃ A n c L,v3 = .slice A n c∧Hid (TS w W L A n c wx)∧Hid (L = [Sx.av Sx.bR,Sx.aW no,Sx.av nm,Sx.bI 123]++(if us≠1 then [Sx.av Sx.jL,Sx.aW us,Sx.bI 59] else []))∧Hid (n≤7))
 case first=>
  cases q:(us != 1) with
  | true=>
   go_wp2_with fail
   go_region_held_law (fun w':World=>w'.cell? ⟨w.heap.size,0,none⟩=some (.string (Lx.bs nm))∧w'.cell? ⟨w.heap.size,1,none⟩=some (.int .i64 no)∧w'.cell? ⟨w.heap.size,2,none⟩=some (.int .i64 us)∧w'.cell? ⟨w.heap.size,3,none⟩=some (.int .i64 ea)∧w'.cell? ⟨w.heap.size,4,none⟩=some (.int .i64 mn)∧w'.cell? ⟨w.heap.size,5,none⟩=some (.int .i64 md)∧w'.cell? ⟨w.heap.size,6,none⟩=some (.slice A m c)) (first | exact aX.out _ HT.out.drew.kp | go_keep) (first
    | ((first | (go_at_call 140;refine (sj _ _).mono ?_) | (go_at_call 141;refine (EN _ _).mono ?_) | (go_at_call 142;refine (uY _ _).mono ?_));rintro e w5 ⟨rfl,hb⟩;replace HT:=(by first | exact Lh (HT.out.call hb) | exact Lh (HT.out.drew.call hb));obtain ⟨r0,r1,r2,r3,r4,r5,r6⟩:=aX.out _ HT.out.kp;clear hb)
    | (have ex:=TS.lit (k:=3) 51 HT.out [Sx.av Sx.jL,Sx.aW us,Sx.bI 59] rfl rfl (by omega);refine aL rfl rfl _ _ _ rfl rfl rfl ex ?_;clear ex;rintro v w6 ⟨wm,n1',c1',tq,rfl,hn,hL,ht⟩;have mq:=Lh hn;have mX:=Lh hL;replace HT:=Lh ht;clear hn hL ht;obtain ⟨r0,r1,r2,r3,r4,r5,r6⟩:=aX.out _ HT.out.kp;(try simp only [Act.put,List.setIfInBounds_toArray,List.set_cons_zero,List.set_cons_succ])))
   all_goals (try go_wp2_with fail)
   all_goals go_meet
   all_goals exact ⟨_,_,_,_,rfl,HT,Lh (by rw [mX.out,if_pos (by simpa using q)] <;> simp [Sx.bO]),Lh (by have:=mq.out;omega)⟩
  | false=>
   go_wp2_with fail
   go_meet
   exact ⟨_,_,_,_,rfl,HT,Lh (by rw [if_neg (by simpa using q)];simp),Lh (by omega)⟩
 case rest=>
 obtain ⟨A1,n1,c1,L1,rfl,HT,HK1,HB1⟩:=hcut;clear r0 r1 r2 r3 r4 r5 r6;obtain ⟨r0,r1,r2,r3,r4,r5,r6⟩:=aX.out _ HT.out.kp;go_upto_if 29 with fail;go_cut [3] from 27 to 37 (fun v3 wx=>∃ A n c L,v3 = .slice A n c∧Hid (TS w W L A n c wx)∧Hid (L=L1++(if ea≠0 then [Sx.av Sx.gY,Sx.aW ea,Sx.bI 59] else []))∧Hid (n≤10))
 case first=>
  cases q:(ea != 0) with
  | true=>
   go_wp2_with fail
   go_region_held_law (fun w':World=>w'.cell? ⟨w.heap.size,0,none⟩=some (.string (Lx.bs nm))∧w'.cell? ⟨w.heap.size,1,none⟩=some (.int .i64 no)∧w'.cell? ⟨w.heap.size,2,none⟩=some (.int .i64 us)∧w'.cell? ⟨w.heap.size,3,none⟩=some (.int .i64 ea)∧w'.cell? ⟨w.heap.size,4,none⟩=some (.int .i64 mn)∧w'.cell? ⟨w.heap.size,5,none⟩=some (.int .i64 md)∧w'.cell? ⟨w.heap.size,6,none⟩=some (.slice A m c)) (first | exact aX.out _ HT.out.drew.kp | go_keep) (first
    | ((first | (go_at_call 140;refine (sj _ _).mono ?_) | (go_at_call 141;refine (EN _ _).mono ?_) | (go_at_call 142;refine (uY _ _).mono ?_));rintro e w5 ⟨rfl,hb⟩;replace HT:=(by first | exact Lh (HT.out.call hb) | exact Lh (HT.out.drew.call hb));obtain ⟨r0,r1,r2,r3,r4,r5,r6⟩:=aX.out _ HT.out.kp;clear hb)
    | (have ex:=TS.lit (k:=3) 51 HT.out [Sx.av Sx.gY,Sx.aW ea,Sx.bI 59] rfl rfl (by have:=HB1.out;omega);refine aL rfl rfl _ _ _ rfl rfl rfl ex ?_;clear ex;rintro v w6 ⟨wm,n1',c1',tq,rfl,hn,hL,ht⟩;have mq:=Lh hn;have mX:=Lh hL;replace HT:=Lh ht;clear hn hL ht;obtain ⟨r0,r1,r2,r3,r4,r5,r6⟩:=aX.out _ HT.out.kp;(try simp only [Act.put,List.setIfInBounds_toArray,List.set_cons_zero,List.set_cons_succ])))
   all_goals (try go_wp2_with fail)
   all_goals go_meet
   all_goals exact ⟨_,_,_,_,rfl,HT,Lh (by rw [mX.out,if_pos (by simpa using q)] <;> simp [Sx.bO]),Lh (by have:=mq.out;have:=HB1.out;omega)⟩
  | false=>
   go_wp2_with fail
   go_meet
   exact ⟨_,_,_,_,rfl,HT,Lh (by rw [if_neg (by simpa using q)];simp),Lh (by have:=HB1.out;omega)⟩
 case rest=>
 obtain ⟨A2,n2,c2,L2,rfl,HT,Xh,HB2⟩:=hcut;clear r0 r1 r2 r3 r4 r5 r6;obtain ⟨r0,r1,r2,r3,r4,r5,r6⟩:=aX.out _ HT.out.kp;go_upto_if 41 with fail;go_cut [3] from 38 to 52 (fun v3 wx=>∃ A n c L,v3 = .slice A n c∧Hid (TS w W L A n c wx)∧Hid (L=L2++(if mn≠0 then Sx.av Sx.fD::(Sx.bO ⟨mn,md⟩++[Sx.bI 59]) else []))∧Hid (n≤15))
 case first=>
  cases q:(mn != 0) with
  | true=>
   go_wp2_with fail
   go_region_held_law (fun w':World=>w'.cell? ⟨w.heap.size,0,none⟩=some (.string (Lx.bs nm))∧w'.cell? ⟨w.heap.size,1,none⟩=some (.int .i64 no)∧w'.cell? ⟨w.heap.size,2,none⟩=some (.int .i64 us)∧w'.cell? ⟨w.heap.size,3,none⟩=some (.int .i64 ea)∧w'.cell? ⟨w.heap.size,4,none⟩=some (.int .i64 mn)∧w'.cell? ⟨w.heap.size,5,none⟩=some (.int .i64 md)∧w'.cell? ⟨w.heap.size,6,none⟩=some (.slice A m c)) (first | exact aX.out _ HT.out.drew.kp | go_keep) (first
    | ((first | (go_at_call 140;refine (sj _ _).mono ?_) | (go_at_call 142;refine (uY _ _).mono ?_));rintro e w5 ⟨rfl,hb⟩;replace HT:=(by first | exact Lh (HT.out.call hb) | exact Lh (HT.out.drew.call hb));obtain ⟨r0,r1,r2,r3,r4,r5,r6⟩:=aX.out _ HT.out.kp;clear hb)
    | (go_at_call 150;refine (Bh ⟨mn,md⟩ _).mono ?_;rintro e w5 ⟨A5,n5,c5,rfl,hr⟩;have hb:=hr.aY;have HQ:=Lh hr;replace HT:=(by first | exact Lh (HT.out.call hb) | exact Lh (HT.out.drew.call hb));obtain ⟨r0,r1,r2,r3,r4,r5,r6⟩:=aX.out _ HT.out.kp;clear hb)
    | (have ex:=TS.lit (k:=1) 51 HT.out [Sx.bI 59] rfl rfl (by have a1:=mq.out;have a2:=Ji.out;have:=HB2.out;have h:=HQ.out.len;simp[Sx.bO] at h;omega);refine aL rfl rfl _ _ _ rfl rfl rfl ex ?_;clear ex;rintro v w6 ⟨Xi,n3',c3',L3',rfl,hn,hL,ht⟩;have Xj:=Lh hn;have Zr:=Lh hL;replace HT:=Lh ht;clear hn hL ht;obtain ⟨r0,r1,r2,r3,r4,r5,r6⟩:=aX.out _ HT.out.kp;(try simp only [Act.put,List.setIfInBounds_toArray,List.set_cons_zero,List.set_cons_succ]))
    | (have ex:=TS.app (d:=c5) 51 HT.out HQ.out.lies HQ.out.len (by have a1:=mq.out;have:=HB2.out;have h:=HQ.out.len;simp[Sx.bO] at h;omega);refine aL rfl rfl _ _ _ rfl rfl rfl ex ?_;clear ex;rintro v w6 ⟨Pm,Pn,c2',Ob,rfl,hn,hL,ht⟩;have Ji:=Lh hn;have HL2:=Lh hL;replace HT:=Lh ht;clear hn hL ht;obtain ⟨r0,r1,r2,r3,r4,r5,r6⟩:=aX.out _ HT.out.kp;(try simp only [Act.put,List.setIfInBounds_toArray,List.set_cons_zero,List.set_cons_succ]))
    | (have ex:=TS.lit (k:=1) 51 HT.out [Sx.av Sx.fD] rfl rfl (by have:=HB2.out;omega);refine aL rfl rfl _ _ _ rfl rfl rfl ex ?_;clear ex;rintro v w6 ⟨wm,n1',c1',tq,rfl,hn,hL,ht⟩;have mq:=Lh hn;have mX:=Lh hL;replace HT:=Lh ht;clear hn hL ht;obtain ⟨r0,r1,r2,r3,r4,r5,r6⟩:=aX.out _ HT.out.kp;(try simp only [Act.put,List.setIfInBounds_toArray,List.set_cons_zero,List.set_cons_succ])))
   all_goals (try go_wp2_with fail)
   all_goals go_meet
   all_goals exact ⟨_,_,_,_,rfl,HT,Lh (by rw [Zr.out,HL2.out,mX.out,if_pos (by simpa using q)] <;> simp [Sx.bO]),Lh (by have:=mq.out;have:=Ji.out;have:=Xj.out;have:=HB2.out;have h:=HQ.out.len;simp[Sx.bO] at h;omega)⟩
  | false=>
   go_wp2_with fail
   go_meet
   exact ⟨_,_,_,_,rfl,HT,Lh (by rw [if_neg (by simpa using q)];simp),Lh (by have:=HB2.out;omega)⟩
 case rest=>
 obtain ⟨A3,n3,c3,L3,rfl,HT,HK3,HB3⟩:=hcut;clear r0 r1 r2 r3 r4 r5 r6;obtain ⟨r0,r1,r2,r3,r4,r5,r6⟩:=aX.out _ HT.out.kp;go_wp2_with fail
 go_loopg [3,4] m (fun gk v3 v4 wr=>∃ (i n' c':Nat) (A':Option Addr) (L':List Lx.Tok),v4 = .int .i64 i∧i+gk=m∧v3 = .slice A' n' c'∧Hid (TS w W L' A' n' c' wr)∧Hid (L'=L3++(x.reqs.take i).flatMap Sx.gL))
 case atStart=>exact ⟨0,_,_,_,_,rfl,by omega,rfl,HT,Lh (by simp)⟩
 case round=>
  obtain ⟨i,n',c',A',L',rfl,hi,rfl,HT,HL⟩:=hrel;obtain ⟨Zt,rfl⟩:∃ Zt,Zt=gk:=⟨gk,rfl⟩
  obtain ⟨r0,r1,r2,r3,r4,r5,r6⟩:=aX.out _ HT.out.kp;have Hn:=Lh (show n'≤60000 by
   rw[←HT.out.len,HL.out,HK3.out,Xh.out,HK1.out];have h1:=HLEN.out;rw[HX.out] at h1;have h2:=mh (f:=Sx.gL) x.reqs i;simp only[List.length_append] at h1 ⊢;omega)
  by_cases hlt:i < m
  ·obtain ⟨z,hz⟩:∃ z,x.reqs[i]?=some z:=⟨_,List.getElem?_eq_getElem (by have:=Hm.out;omega)⟩
   have Hz:=Lh hz;obtain ⟨bf,of,cf,rfl,BH,hrf,hcf⟩:=HR.out.at_ i z hz;obtain ⟨A8,c8,B8,d8,rfl,hzl,h8,h9⟩:=hrf;obtain ⟨hnf,Oc⟩:=Zq.out z (List.mem_of_getElem? hz);obtain ⟨nn,hnn⟩:∃ n,n=z.names.length:=⟨_,rfl⟩
   rw[←hnf,←hnn] at hcf;obtain ⟨ho,hho⟩:∃ b,b=z.home:=⟨_,rfl⟩
   rw[←hho] at hcf;have Hho:=Lh hho;rw[←hnn] at Oc;have EG:=Lh Oc;have Hnm:=Lh hnn;have Tf:=Lh (hnn.trans hnf);have R8:=Lh h8;have R9:=Lh h9;have g0:=(HT.out.aY.cell (p:=⟨bf,_,none⟩) BH).trans (hcf 0 _ rfl);have g1:=(HT.out.aY.cell (p:=⟨bf,_,none⟩) BH).trans (hcf 1 _ rfl);have g2:=(HT.out.aY.cell (p:=⟨bf,_,none⟩) BH).trans (hcf 2 _ rfl);have g3:=(HT.out.aY.cell (p:=⟨bf,_,none⟩) BH).trans (hcf 3 _ rfl);have g4:=(HT.out.aY.cell (p:=⟨bf,_,none⟩) BH).trans (hcf 4 _ rfl);have g5:=(HT.out.aY.cell (p:=⟨bf,_,none⟩) BH).trans (hcf 5 _ rfl)
   try simp only [Nat.add_zero,bB,aT] at g0 g1 g2 g3 g4 g5
   have hbf:bf < wr.heap.size:=Nat.lt_of_lt_of_le BH HT.out.aY.size;have q2l:nn≤20:=Oc;clear hnn hnf Oc h8 h9 hcf hz hho;obtain ⟨v,hv⟩:∃ V,V=wr.alloc (.cells #[.string (Lx.bs z.name),.int .i64 z.aU,.int .i64 z.gX,.bool ho,.slice A8 nn c8,.slice B8 nn d8] 108):=⟨_,rfl⟩
   have hb0:Below wr.heap.size wr v:=by rw [hv];exact (Below.refl _ _).alloc (Nat.le_refl _) _
   have e0:aC v wr.heap.size 108 #[.string (Lx.bs z.name),.int .i64 z.aU,.int .i64 z.gX,.bool ho,.slice A8 nn c8,.slice B8 nn d8]:=by rw [hv];exact aC.new _ _ _
   have Ra:=Lh (HT.out.call hb0).kp;replace HT:=Lh (HT.out.call hb0).at;go_upto_region 12 with fail;rw[←hv];obtain ⟨bz,hbz⟩:∃ b,b=wr.heap.size:=⟨_,rfl⟩
   rw[←hbz] at e0 ⊢;have jT:Hid (∀ w':World,KP v w'→w'.cell? ⟨bz,0,none⟩=some (.string (Lx.bs z.name))∧w'.cell? ⟨bz,1,none⟩=some (.int .i64 z.aU)∧w'.cell? ⟨bz,2,none⟩=some (.int .i64 z.gX)∧w'.cell? ⟨bz,3,none⟩=some (.bool ho)∧w'.cell? ⟨bz,4,none⟩=some (.slice A8 nn c8)∧w'.cell? ⟨bz,5,none⟩=some (.slice B8 nn d8)):=Lh (fun w' hk=>by
    obtain ⟨x0,x1,x2,x3,x4,x5,_⟩:=aQ (hk.blk e0 (by decide) (by decide));exact ⟨x0,x1,x2,x3,x4,x5⟩)
   clear hv hb0 e0 hbz g0 g1 g2 g3 g4 g5 r0 r1 r2 r3 r4 r5 r6;obtain ⟨r0,r1,r2,r3,r4,r5⟩:=jT.out _ HT.out.kp
   go_region_held_law (fun w':World=>w'.cell? ⟨bz,0,none⟩=some (.string (Lx.bs z.name))∧w'.cell? ⟨bz,1,none⟩=some (.int .i64 z.aU)∧w'.cell? ⟨bz,2,none⟩=some (.int .i64 z.gX)∧w'.cell? ⟨bz,3,none⟩=some (.bool ho)∧w'.cell? ⟨bz,4,none⟩=some (.slice A8 nn c8)∧w'.cell? ⟨bz,5,none⟩=some (.slice B8 nn d8)) (first | exact jT.out _ HT.out.drew.kp | go_keep) (first
    | ((first | (go_at_call 140;refine (sj _ _).mono ?_) | (go_at_call 141;refine (EN _ _).mono ?_));rintro e w5 ⟨rfl,hb⟩;replace HT:=(by first | exact Lh (HT.out.call hb) | exact Lh (HT.out.drew.call hb));obtain ⟨r0,r1,r2,r3,r4,r5⟩:=jT.out _ HT.out.kp;clear hb)
    | (have ex:=TS.lit (k:=4) 51 HT.out [Sx.av Sx.iE,Sx.av z.name,Sx.aW z.aU,Sx.av Sx.ku] rfl rfl (by have:=Hn.out;omega);refine aL rfl rfl _ _ _ rfl rfl rfl ex ?_;clear ex;rintro v w6 ⟨wm,n1',c1',tq,rfl,hn,hL,ht⟩;have mq:=Lh hn;have mX:=Lh hL;replace HT:=Lh ht;clear hn hL ht;obtain ⟨r0,r1,r2,r3,r4,r5⟩:=jT.out _ HT.out.kp;(try simp only [Act.put,List.setIfInBounds_toArray,List.set_cons_zero,List.set_cons_succ])))
   all_goals (try go_wp2_with fail)
   go_loopg [3,6] nn (fun gk v3 v6 wr=>∃ (k n'' c'':Nat) (Zu:Option Addr) (Xk:List Lx.Tok),v6 = .int .i64 k∧k+gk=nn∧v3 = .slice Zu n'' c''∧Hid (TS w v Xk Zu n'' c'' wr)∧Hid (Xk=tq++Sx.dF ((z.names.zip z.froms).take k))∧Hid (n''≤n1'+3*k))
   case atStart=>exact ⟨0,_,_,_,_,rfl,by omega,rfl,HT,Lh (by simp [Sx.dF]),Lh (by omega)⟩
   case round=>
    obtain ⟨k,n'',c'',Zu,Xk,rfl,hk,rfl,HT,HL2,nE⟩:=hrel;obtain ⟨r0,r1,r2,r3,r4,r5⟩:=jT.out _ HT.out.kp
    by_cases hlk:k < nn
    ·obtain ⟨s,hs⟩:∃ s,z.names[k]?=some s:=⟨_,List.getElem?_eq_getElem (by have:=Hnm.out;omega)⟩
     obtain ⟨f,hf⟩:∃ f,z.froms[k]?=some f:=⟨_,List.getElem?_eq_getElem (by have:=Tf.out;omega)⟩
     have Gb:=Lh (Sx.zP (show (z.names.zip z.froms)[k]?=some (s,f) by rw [List.getElem?_zip_eq_some];exact ⟨hs,hf⟩));obtain ⟨bk,ok,cs,rfl,gV,⟨rfl,-⟩,hck⟩:=R8.out.at_ k s hs;obtain ⟨bl,ol,cl,rfl,kR,hP,hcl⟩:=R9.out.at_ k f hf;unfold lT at hP;subst hP;have k0:=hck 0 _ rfl;have l0:=hcl 0 _ rfl;simp only[Nat.add_zero,Nat.mul_one,bB,aT] at k0 l0;have VA:=Lh k0;have Hl0:=Lh l0;have hbk:bk < wr.heap.size:=Nat.lt_of_lt_of_le gV HT.out.aY.size;have hbl:bl < wr.heap.size:=Nat.lt_of_lt_of_le kR HT.out.aY.size;clear hck hcl hs hf
     have kC:Hid (∀ {w':World} {l:List Lx.Tok} {A:Option Addr} {n c:Nat},TS w v l A n c w'→w'.cell? ⟨bz,4,none⟩=some (.slice (some ⟨bk,ok,none⟩) nn c8)∧w'.cell? ⟨bz,5,none⟩=some (.slice (some ⟨bl,ol,none⟩) nn d8)∧w'.cell? ⟨bk,ok+k,none⟩=some (.string (Lx.bs s))∧w'.cell? ⟨bl,ol+k,none⟩=some (.int .i64 f)):=Lh (fun h=>by
      obtain ⟨_,_,_,_,q4,q5⟩:=jT.out _ h.kp;exact ⟨q4,q5,(h.aY.cell (p:=⟨bk,_,none⟩) gV).trans VA.out,(h.aY.cell (p:=⟨bl,_,none⟩) kR).trans Hl0.out⟩)
     clear k0 l0;have k0:=(kC.out HT.out).2.2.1;have l0:=(kC.out HT.out).2.2.2
     by_cases h0:k=0
     ·subst h0;replace kC:Hid (∀ {w':World} {l:List Lx.Tok} {A:Option Addr} {n c:Nat},TS w v l A n c w'→w'.cell? ⟨bz,4,none⟩=some (.slice (some ⟨bk,ok,none⟩) nn c8)∧w'.cell? ⟨bz,5,none⟩=some (.slice (some ⟨bl,ol,none⟩) nn d8)∧w'.cell? ⟨bk,ok,none⟩=some (.string (Lx.bs s))∧w'.cell? ⟨bl,ol,none⟩=some (.int .i64 f)):=kC;go_wp2_with fail
      go_region_held_law (fun w':World=>w'.cell? ⟨bz,4,none⟩=some (.slice (some ⟨bk,ok,none⟩) nn c8)∧w'.cell? ⟨bz,5,none⟩=some (.slice (some ⟨bl,ol,none⟩) nn d8)∧w'.cell? ⟨bk,ok,none⟩=some (.string (Lx.bs s))∧w'.cell? ⟨bl,ol,none⟩=some (.int .i64 f)) (first | exact kC.out HT.out.drew | go_keep) (first
       | (go_at_call 143;refine (xP s f _).mono ?_;rintro e w5 ⟨A5,n5,c5,rfl,hr⟩;have hb:=hr.aY;have HQ:=Lh hr;replace HT:=(by first | exact Lh (HT.out.call hb) | exact Lh (HT.out.drew.call hb));obtain ⟨r0,r1,r2,r3⟩:=kC.out HT.out;clear hb)
       | (have ex:=TS.app (d:=c5) 51 HT.out HQ.out.lies HQ.out.len (by have:=HQ.out.len;have:=jS s f;have:=nE.out;have:=EG.out;have a0:=mq.out;have:=Hn.out;omega);refine aL rfl rfl _ _ _ rfl rfl rfl ex ?_;clear ex;rintro v w6 ⟨Od,n12',Oe,Og,rfl,hn,hL,ht⟩;have Bj:=Lh hn;have Bn:=Lh hL;replace HT:=Lh ht;clear hn hL ht;obtain ⟨r0,r1,r2,r3⟩:=kC.out HT.out;(try simp only [Act.put,List.setIfInBounds_toArray,List.set_cons_zero,List.set_cons_succ])))
      all_goals (try go_wp2_with fail)
      all_goals go_roundg (gk - 1)
      all_goals first
       | omega
       | exact ⟨1,_,_,_,_,by go_num,by omega,rfl,HT,Lh (by rw [Bn.out,HL2.out,Gb.out];simp),Lh (by have:=Bj.out;have:=HQ.out.len;have:=jS s f;have:=nE.out;omega)⟩
     ·have h0':(0:Int) < (k:Int):=by omega
      go_wp2_with (first | (go_at_call 142;refine (uY _ _).mono ?_;rintro e w5 ⟨rfl,hb⟩;replace HT:=(by first | exact Lh (HT.out.call hb) | exact Lh (HT.out.drew.call hb));obtain ⟨r0,r1,r2,r3,r4,r5⟩:=jT.out _ HT.out.kp;clear hb) | (at_builtin;have ex:=TS.lit (k:=1) 51 HT.out [Sx.bI 44] rfl rfl (by have:=nE.out;have:=EG.out;have:=mq.out;have:=Hn.out;omega);refine aI rfl _ _ _ rfl rfl rfl ex ?_;clear ex;rintro v w6 ⟨q2m,q2n,c11',q2o,rfl,hn,hL,ht⟩;have VB:=Lh hn;have Zv:=Lh hL;replace HT:=Lh ht;clear hn hL ht;obtain ⟨r0,r1,r2,r3,r4,r5⟩:=jT.out _ HT.out.kp;have k0:=(kC.out HT.out).2.2.1;have l0:=(kC.out HT.out).2.2.2))
      go_region_held_law (fun w':World=>w'.cell? ⟨bz,4,none⟩=some (.slice (some ⟨bk,ok,none⟩) nn c8)∧w'.cell? ⟨bz,5,none⟩=some (.slice (some ⟨bl,ol,none⟩) nn d8)∧w'.cell? ⟨bk,ok+k,none⟩=some (.string (Lx.bs s))∧w'.cell? ⟨bl,ol+k,none⟩=some (.int .i64 f)) (first | exact kC.out HT.out.drew | go_keep) (first
       | (go_at_call 143;refine (xP s f _).mono ?_;rintro e w5 ⟨A5,n5,c5,rfl,hr⟩;have hb:=hr.aY;have HQ:=Lh hr;replace HT:=(by first | exact Lh (HT.out.call hb) | exact Lh (HT.out.drew.call hb));obtain ⟨r0,r1,r2,r3⟩:=kC.out HT.out;clear hb)
       | (have ex:=TS.app (d:=c5) 51 HT.out HQ.out.lies HQ.out.len (by have:=HQ.out.len;have:=jS s f;have:=nE.out;have:=EG.out;have a0:=mq.out;have:=Hn.out;have:=VB.out;omega);refine aL rfl rfl _ _ _ rfl rfl rfl ex ?_;clear ex;rintro v w6 ⟨Od,n12',Oe,Og,rfl,hn,hL,ht⟩;have Bj:=Lh hn;have Bn:=Lh hL;replace HT:=Lh ht;clear hn hL ht;obtain ⟨r0,r1,r2,r3⟩:=kC.out HT.out;(try simp only [Act.put,List.setIfInBounds_toArray,List.set_cons_zero,List.set_cons_succ])))
      all_goals (try go_wp2_with fail)
      all_goals go_roundg (gk - 1)
      all_goals first
       | omega
       | exact ⟨k+1,_,_,_,_,by go_num,by omega,rfl,HT,Lh (by rw [Bn.out,Zv.out,HL2.out,Gb.out,if_neg h0];simp),Lh (by have:=Bj.out;have:=VB.out;have:=HQ.out.len;have:=jS s f;have:=nE.out;omega)⟩
    ·obtain rfl:k=nn:=by omega
     have HZ:=Lh (show (z.names.zip z.froms).take k=z.names.zip z.froms from List.take_of_length_le (by rw [List.length_zip];have:=Hnm.out;omega));have yS:=Lh (show n''≤60100 by have:=nE.out;have:=EG.out;have:=mq.out;have:=Hn.out;omega);clear hk;go_upto_if 104 with fail;go_cut [3] from 102 to 111 (fun v3 wx=>∃ A n c L,v3 = .slice A n c∧Hid (TS w v L A n c wx)∧Hid (L=Xk++(if z.gX≠1 then [Sx.av Sx.vX,Sx.aW z.gX] else []))∧Hid (n≤60110))
     case first=>
      cases q:(z.gX != 1) with
      | true=>
       go_wp2_with fail
       go_region_held_law (fun w':World=>w'.cell? ⟨bz,0,none⟩=some (.string (Lx.bs z.name))∧w'.cell? ⟨bz,1,none⟩=some (.int .i64 z.aU)∧w'.cell? ⟨bz,2,none⟩=some (.int .i64 z.gX)∧w'.cell? ⟨bz,3,none⟩=some (.bool ho)∧w'.cell? ⟨bz,4,none⟩=some (.slice A8 k c8)∧w'.cell? ⟨bz,5,none⟩=some (.slice B8 k d8)) (first | exact jT.out _ HT.out.drew.kp | go_keep) (first
        | ((first | (go_at_call 140;refine (sj _ _).mono ?_) | (go_at_call 141;refine (EN _ _).mono ?_));rintro e w5 ⟨rfl,hb⟩;replace HT:=(by first | exact Lh (HT.out.call hb) | exact Lh (HT.out.drew.call hb));obtain ⟨r0,r1,r2,r3,r4,r5⟩:=jT.out _ HT.out.kp;clear hb)
        | (have ex:=TS.lit (k:=2) 51 HT.out [Sx.av Sx.vX,Sx.aW z.gX] rfl rfl (by have:=yS.out;omega);refine aL rfl rfl _ _ _ rfl rfl rfl ex ?_;clear ex;rintro v w6 ⟨q2p,n21',q2q,q2r,rfl,hn,hL,ht⟩;have Zw:=Lh hn;have Zx:=Lh hL;replace HT:=Lh ht;clear hn hL ht;obtain ⟨r0,r1,r2,r3,r4,r5⟩:=jT.out _ HT.out.kp;(try simp only [Act.put,List.setIfInBounds_toArray,List.set_cons_zero,List.set_cons_succ])))
       all_goals (try go_wp2_with fail)
       all_goals go_meet
       all_goals exact ⟨_,_,_,_,rfl,HT,Lh (by rw [Zx.out,if_pos (by simpa using q)]),Lh (by have:=Zw.out;have:=yS.out;omega)⟩
      | false=>
       go_wp2_with fail
       go_meet
       exact ⟨_,_,_,_,rfl,HT,Lh (by rw [if_neg (by simpa using q)];simp),Lh (by have:=yS.out;omega)⟩
     case rest=>
     obtain ⟨A4,n4,c4,L4,rfl,HT,HK4,oP⟩:=hcut;clear r0 r1 r2 r3 r4 r5;obtain ⟨r0,r1,r2,r3,r4,r5⟩:=jT.out _ HT.out.kp;go_upto_if 113 with fail;go_cut [3] from 112 to 117 (fun v3 wx=>∃ A n c L,v3 = .slice A n c∧Hid (TS w v L A n c wx)∧Hid (L=L4++(if ho then [Sx.av Sx.dV] else []))∧Hid (n≤60120))
     case first=>
      cases ho with
      | true=>
       go_wp2_with (first | (go_at_call 140;refine (sj _ _).mono ?_;rintro e w5 ⟨rfl,hb⟩;replace HT:=(by first | exact Lh (HT.out.call hb) | exact Lh (HT.out.drew.call hb));obtain ⟨r0,r1,r2,r3,r4,r5⟩:=jT.out _ HT.out.kp;clear hb) | (at_builtin;have ex:=TS.lit (k:=1) 51 HT.out [Sx.av Sx.dV] rfl rfl (by have:=oP.out;omega);refine aI rfl _ _ _ rfl rfl rfl ex ?_;clear ex;rintro v w6 ⟨q2s,n22',q2t,q2u,rfl,hn,hL,ht⟩;have Zy:=Lh hn;have Zz:=Lh hL;replace HT:=Lh ht;clear hn hL ht;obtain ⟨r0,r1,r2,r3,r4,r5⟩:=jT.out _ HT.out.kp))
       go_meet
       exact ⟨_,_,_,_,rfl,HT,Lh (by rw [Zz.out];rfl),Lh (by have:=Zy.out;have:=oP.out;omega)⟩
      | false=>
       go_wp2_with fail
       go_meet
       exact ⟨_,_,_,_,rfl,HT,Lh (by simp),Lh (by have:=oP.out;omega)⟩
     case rest=>
     obtain ⟨A5,n5,c5,L5,rfl,HT,Mi,rY⟩:=hcut;clear r0 r1 r2 r3 r4 r5;obtain ⟨r0,r1,r2,r3,r4,r5⟩:=jT.out _ HT.out.kp
     go_wp2_with (first | (go_at_call 142;refine (uY _ _).mono ?_;rintro e w5 ⟨rfl,hb⟩;replace HT:=(by first | exact Lh (HT.out.call hb) | exact Lh (HT.out.drew.call hb));obtain ⟨r0,r1,r2,r3,r4,r5⟩:=jT.out _ HT.out.kp;clear hb) | (at_builtin;have ex:=TS.lit (k:=1) 51 HT.out [Sx.bI 59] rfl rfl (by have:=rY.out;omega);refine aI rfl _ _ _ rfl rfl rfl ex ?_;clear ex;rintro v w6 ⟨q2v,q2w,q2x,q2y,rfl,hn,hL,ht⟩;have q2A:=Lh hn;have ZA:=Lh hL;replace HT:=Lh ht;clear hn hL ht;obtain ⟨r0,r1,r2,r3,r4,r5⟩:=jT.out _ HT.out.kp))
     go_roundg (Zt - 1)
     all_goals first
      | omega
      | exact ⟨i+1,_,_,_,_,by go_num,by omega,rfl,Lh (HT.out.onto Ra.out),Lh (by rw [ZA.out,Mi.out,Hho.out,HK4.out,HL2.out,HZ.out,mX.out,HL.out,iZ Hz.out];simp[Sx.gL])⟩
  ·obtain rfl:i=m:=by omega
   have HM:=Lh (show x.reqs.take i=x.reqs by rw [Hm.out];exact List.take_length)
   go_wp2_with (first | (go_at_call 142;refine (uY _ _).mono ?_;rintro e w5 ⟨rfl,hb⟩;replace HT:=(by first | exact Lh (HT.out.call hb) | exact Lh (HT.out.drew.call hb));obtain ⟨r0,r1,r2,r3,r4,r5,r6⟩:=aX.out _ HT.out.kp;clear hb) | (at_builtin;have ex:=TS.lit (k:=1) 51 HT.out [Sx.bI 125] rfl rfl (by have:=Hn.out;omega);refine aI rfl _ _ _ rfl rfl rfl ex ?_;clear ex;rintro v w6 ⟨q2B,q2C,q2D,ZB,rfl,hn,hL,ht⟩;have q2E:=Lh hn;have ZC:=Lh hL;replace HT:=Lh ht;clear hn hL ht;obtain ⟨r0,r1,r2,r3,r4,r5,r6⟩:=aX.out _ HT.out.kp))
   go_ret;have e:ZB=Sx.eB x:=by rw [HX.out,ZC.out,HL.out,HM.out,HK3.out,Xh.out,HK1.out]
   rw[←e];exact ⟨_,_,_,rfl,(HT.out.onto (KP.below HB0.out)).re (by first | rfl | omega)⟩
end Go.Proofs.YtjonaidancomgaaGreatDoor
