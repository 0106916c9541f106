/- Parts of the proof, joined into one text: q1I, LxK, LxL, LxM, q0d, q0e, q0f. -/
import Derived.Test.YtjonaidancomgaaGreatDoorPSxOk
import Derived.Deep.AppendLies
import Derived.Deep.RegionWith
import Derived.StillTailTactics
import Derived.Test.YtjonaidancomgaaGreatDoorPLxI
import Derived.Deep.OwnRows
import Derived.Lib.Join
import Derived.Test.YtjonaidancomgaaGreatDoorPSxEq
set_option maxHeartbeats 4000000
set_option maxRecDepth 20000
namespace Go.Proofs.YtjonaidancomgaaGreatDoor
open Go.RowKit
def iq (g:Nat) (l:List Lx.Tok) (w:World):Prop:=∃ vT,aC w g 110 #[vT]∧w.ownsRow g 55 4 vT l.length (l.flatMap Lx.Tok.cells)
structure KP (w w' : World) : Prop where
 size:w.heap.size≤w'.heap.size
 keep:∀ (k:Nat) (o:Obj),w.heap[k]?=some o→(∀ cs t fr,o = .cells cs t fr→t≠55∧t≠110)→w'.heap[k]?=some o
theorem KP.refl (w:World):KP w w:=⟨Nat.le_refl _,fun _ _ h _=>h⟩
theorem KP.trans {a b c:World} (h:KP a b) (k:KP b c):KP a c:=⟨Nat.le_trans h.size k.size,fun i o hi ho=>k.keep i o (h.keep i o hi ho) ho⟩
theorem KP.below {w w':World} (h:Below w.heap.size w w'):KP w w':=⟨h.size,fun k _ hk _=>(h.block k (Array.getElem?_eq_some_iff.1 hk).1).trans hk⟩
theorem KP.blk {w w':World} (h:KP w w') {b:Nat} {t:TypeId} {cs:Array Value} (hb:aC w b t cs) (h1:t≠55) (h2:t≠110):aC w' b t cs:=
 h.keep b _ hb (fun _ _ _ e=>by injection e with _ e _;subst e;exact ⟨h1,h2⟩)
theorem KP.set {w w':World} (h:KP w w') {b i:Nat} (hb:w.heap.size≤b) (u:Value):KP w (w'.setCell ⟨b,i,none⟩ u):=
 ⟨by simpa [World.setCell] using h.size,fun k o hk ho=>(Below.heap_setCell w' ⟨b,i,none⟩ u k (fun e=>by have:=(Array.getElem?_eq_some_iff.1 hk).1;have e:k=b:=e;omega)).trans (h.keep k o hk ho)⟩
theorem iq.lt {g:Nat} {l:List Lx.Tok} {w:World} (h:iq g l w):g < w.heap.size:=by
 obtain ⟨vT,h1,_⟩:=h;exact h1.lt
theorem iq.next {g:Nat} {l:List Lx.Tok} {w w':World} (h:iq g l w) (hb:Below w.heap.size w w'):iq g l w':=by
 obtain ⟨vT,h1,h3⟩:=h;exact ⟨vT,h1.below hb h1.lt,own_below h3 hb⟩
theorem Br {g gg cap:Nat} {vT:Value} {l:List Lx.Tok} {x:Lx.Tok} {w w1 w3:World} (hb:aC w g 110 #[vT])
  (hown:w.ownsRow g 55 4 vT l.length (l.flatMap Lx.Tok.cells)) (h1:Below w.heap.size w w1) (hgrow:w1.grownBy w3 vT.ownBlock)
  (hown3:w3.ownsRow g 55 4 (.slice (some ⟨gg,0,none⟩) (l.length+1) cap) (l.length+1) (l.flatMap Lx.Tok.cells++x.cells)) :
  aC w3 g 110 #[vT]∧iq g (l++[x]) (w3.setCell ⟨g,0,none⟩ (.slice (some ⟨gg,0,none⟩) (l.length+1) cap))∧
  Below g w (w3.setCell ⟨g,0,none⟩ (.slice (some ⟨gg,0,none⟩) (l.length+1) cap))∧KP w (w3.setCell ⟨g,0,none⟩ (.slice (some ⟨gg,0,none⟩) (l.length+1) cap)):=by
 have hlt:=hb.lt;have hne:=own_ne hown hb (by decide);have hb1:=hb.below h1 hlt;have hb3:aC w3 g 110 #[vT]:=(hgrow.block g hb1.lt (fun e=>hne e.symm)).trans hb1;have hbel:Below g w w3:=Below.grown (h1.mono (by omega)) hgrow (by have:=h1.size;omega) (fun k hk=>jY hown hk);refine ⟨hb3,⟨_,by have:=hb3.set 0 (.slice (some ⟨gg,0,none⟩) (l.length+1) cap);simpa using this,?_⟩,hbel.setCell (p:=⟨g,0,none⟩) (Nat.le_refl _) _,?_⟩
 ·rw[List.length_append,List.flatMap_append];have:[x].flatMap Lx.Tok.cells=x.cells:=by simp
  rw[this];exact dZ hown3 (own_ne hown3 hb3 (by decide)) _
 ·refine ⟨by have:=h1.size;have:=hgrow.size;simp[World.setCell];omega,fun k o hk ho=>?_⟩;have hkl:=(Array.getElem?_eq_some_iff.1 hk).1;have hk1:=(h1.block k hkl).trans hk;have hgk:k≠g:=fun e=>by
   subst e;unfold aC at hb;rw[hk] at hb;injection hb with hb;exact (ho _ _ _ hb).2 rfl
  rw[Below.heap_setCell w3 ⟨g,0,none⟩ _ k hgk];refine (hgrow.block k (Array.getElem?_eq_some_iff.1 hk1).1 (fun e=>?_)).trans hk1
  rcases hown.2 with ⟨rfl,_⟩ | ⟨g',cap',cur',rfl,_,hh',_⟩
  ·simp[Value.ownBlock] at e
  ·have:k=g':=by simpa [Value.ownBlock] using e
   subst this;rw[hk] at hh';injection hh' with hh';exact (ho _ _ _ hh').1 rfl
def jh (g:Nat) (l ts:List Lx.Tok) (w:World) (e:Ending) (w':World):Prop:=
 e = .returned (.tuple #[])∧iq g (l++ts) w'∧Below g w w'∧KP w w'
inductive dN where
 | name (t:List UInt8)
 | sign (t:List UInt8)
 | num (n:Int)
 | ratio (r:Sx.bL)
 | rule (r:Sx.Rule) (cs:List Value)
def dN.val:dN→Value
 | .name t=>.iface 9 (.string (Lx.bs t))
 | .sign t=>.iface 114 (.string (Lx.bs t))
 | .num n=>.iface 3 (.int .i64 n)
 | .ratio r=>.iface 75 (.agg #[.int .i64 r.num,.int .i64 r.den])
 | .rule _ cs=>.iface 38 (.agg cs.toArray)
def dN.toks:dN→List Lx.Tok
 | .name t=>[⟨1,t,0,0⟩]
 | .sign t=>[⟨3,t,0,0⟩]
 | .num n=>[⟨2,[],n,0⟩]
 | .ratio r=>Sx.bO r
 | .rule r _=>Sx.aF r
def dN.flat:dN→Prop
 | .ratio _=>False
 | .rule _ _=>False
 | _=>True
theorem mR:Tryz.prog.underlying 110=some (.slice 55):=by kernel_rfl
-- the assertions of put's switch
theorem RX (x:ByteArray) (w:World):(Instr.typeAssert (.iface 9 (.string x)) 20 9 true).run Tryz.prog w = .ok (.tuple #[.string x,.bool true]) w:=by kernel_rfl
theorem IY (x:ByteArray) (w:World):(Instr.typeAssert (.iface 114 (.string x)) 20 9 true).run Tryz.prog w = .ok (.tuple #[.string ⟨#[]⟩,.bool false]) w:=by kernel_rfl
theorem EW (x:Int) (w:World):(Instr.typeAssert (.iface 3 (.int .i64 x)) 20 9 true).run Tryz.prog w = .ok (.tuple #[.string ⟨#[]⟩,.bool false]) w:=by kernel_rfl
theorem EX (v:Value) (w:World):(Instr.typeAssert (.iface 75 v) 20 9 true).run Tryz.prog w = .ok (.tuple #[.string ⟨#[]⟩,.bool false]) w:=by kernel_rfl
theorem EY (v:Value) (w:World):(Instr.typeAssert (.iface 38 v) 20 9 true).run Tryz.prog w = .ok (.tuple #[.string ⟨#[]⟩,.bool false]) w:=by kernel_rfl
theorem VO (x:ByteArray) (w:World):(Instr.typeAssert (.iface 114 (.string x)) 20 114 true).run Tryz.prog w = .ok (.tuple #[.string x,.bool true]) w:=by kernel_rfl
theorem IZ (x:Int) (w:World):(Instr.typeAssert (.iface 3 (.int .i64 x)) 20 114 true).run Tryz.prog w = .ok (.tuple #[.string ⟨#[]⟩,.bool false]) w:=by kernel_rfl
theorem I4 (v:Value) (w:World):(Instr.typeAssert (.iface 75 v) 20 114 true).run Tryz.prog w = .ok (.tuple #[.string ⟨#[]⟩,.bool false]) w:=by kernel_rfl
theorem I5 (v:Value) (w:World):(Instr.typeAssert (.iface 38 v) 20 114 true).run Tryz.prog w = .ok (.tuple #[.string ⟨#[]⟩,.bool false]) w:=by kernel_rfl
theorem RY (x:Int) (w:World):(Instr.typeAssert (.iface 3 (.int .i64 x)) 20 3 true).run Tryz.prog w = .ok (.tuple #[.int .i64 x,.bool true]) w:=by kernel_rfl
theorem EZ (v:Value) (w:World):(Instr.typeAssert (.iface 75 v) 20 3 true).run Tryz.prog w = .ok (.tuple #[.int .i64 0,.bool false]) w:=by kernel_rfl
theorem E8 (v:Value) (w:World):(Instr.typeAssert (.iface 38 v) 20 3 true).run Tryz.prog w = .ok (.tuple #[.int .i64 0,.bool false]) w:=by kernel_rfl
theorem RZ (v:Value) (w:World):(Instr.typeAssert (.iface 75 v) 20 75 true).run Tryz.prog w = .ok (.tuple #[v,.bool true]) w:=by kernel_rfl
theorem E9 (v:Value) (w:World):(Instr.typeAssert (.iface 38 v) 20 75 true).run Tryz.prog w = .ok (.tuple #[.agg #[.int .i64 0,.int .i64 0],.bool false]) w:=by kernel_rfl
theorem R7 (v:Value) (w:World):(Instr.typeAssert (.iface 38 v) 20 38 true).run Tryz.prog w = .ok (.tuple #[v,.bool true]) w:=by kernel_rfl
def Gg (g:Nat):Prop:=∀ (its:List dN) (l:List Lx.Tok) (b:Nat) (W:World),(∀ j∈its,j.flat)→iq g l W→aC W b 20 (its.map dN.val).toArray→its.length≤100→l.length+(its.flatMap dN.toks).length≤60000→
 Calls Tryz.prog 50 #[.pointer (some ⟨g,0,none⟩),.slice (some ⟨b,0,none⟩) its.length its.length] W (jh g l (its.flatMap dN.toks) W)
def eD (g:Nat) (w:World) (r:Sx.Rule) (cs:List Value):Prop:=(∃ v0 v1 v2 v3 v4 A n c,cs = [.int .i64 v0,.int .i64 v1,.string v2,.int .i64 v3,.int .i64 v4,.slice A n c])∧
 ∀ (l:List Lx.Tok) (W:World),iq g l W→Below g w W→l.length+(Sx.aF r).length≤60000→Calls Tryz.prog 58 #[.pointer (some ⟨g,0,none⟩),.agg cs.toArray] W (jh g l (Sx.aF r) W)
theorem PG (g:Nat) (its:List dN) (l:List Lx.Tok) (b:Nat) (w:World) (h:iq g l w) (hb:aC w b 20 (its.map dN.val).toArray) (hn1:its.length≤100) (hlen:l.length+(its.flatMap dN.toks).length≤60000)
  (hrec:(∃ r,dN.ratio r∈its)→Gg g) (Dk:∀ r cs,dN.rule r cs∈its→eD g w r cs) :
  Calls Tryz.prog 50 #[.pointer (some ⟨g,0,none⟩),.slice (some ⟨b,0,none⟩) its.length its.length] w (jh g l (its.flatMap dN.toks) w):=by
 obtain ⟨i0,hi0,hz0,hz1,hz2⟩:=info_parts Tryz.infoTok;obtain ⟨n,hn⟩:∃ n,n=its.length:=⟨_,rfl⟩
 rw[←hn] at hn1 ⊢;have Hn:=Lh hn;have H:=Lh h;have Hb:=Lh hb;have ML:=Lh hrec;have q0g:=Lh Dk;have Hlen:=Lh hlen;have vQ:=h.lt;clear hn h hb hrec Dk hlen;go_enter Tryz.func50,Tryz.ntmps50;go_wp2_with fail
 go_loopw [13] (fun v13 wr=>∃ k:Nat,k≤n∧v13 = .int .i64 k∧iq g (l++(its.take k).flatMap dN.toks) wr∧Below g w wr∧KP w wr) (fun v13 _=>n - (intOf v13).toNat)
 case atStart=>exact ⟨0,by omega,rfl,by simpa using H.out,Below.refl _ _,KP.refl _⟩
 case round=>
  obtain ⟨k,hk,rfl,hS,hbel,hkp⟩:=hrel
  by_cases hlt:k < n
  ·obtain ⟨x,hx⟩:∃ x,its[k]?=some x:=⟨_,List.getElem?_eq_getElem (by have:=Hn.out;omega)⟩
   have hbr:=hkp.blk Hb.out (by decide) (by decide);have c0:=hbr.cell k;rw[List.getElem?_toArray,List.getElem?_map,hx] at c0;simp only[Option.map_some] at c0;obtain ⟨L,hL⟩:∃ L,L=l++(its.take k).flatMap dN.toks:=⟨_,rfl⟩
   have hLn:l++(its.take (k+1)).flatMap dN.toks=L++x.toks:=by
    rw[List.take_add_one,hx,List.flatMap_append,←List.append_assoc,←hL];simp
   have Sb:L.length+x.toks.length≤60000:=by
    have e:its.flatMap dN.toks=(its.take (k+1)).flatMap dN.toks++(its.drop (k+1)).flatMap dN.toks:=by rw [←List.flatMap_append,List.take_append_drop]
    have h1:=congrArg List.length hLn;have h2:=Hlen.out;rw[e] at h2;simp only[List.length_append] at h1 h2;omega
   rw[←hL] at hS;have q2H:=hbel.size;have Hx:=Lh hx;have zu:=Lh hLn;have HS:=Lh hS;have kW:=Lh hbel;have VP:=Lh hkp;obtain ⟨vT,hp,hown⟩:=hS;have p0:=hp.cell 0;have pf0:=hp.free 0;have hgr:=hp.lt;simp at p0;have Hp:=Lh hp;have I6:=Lh hown;clear hL hLn hbel hkp hbr hx hp hown;cases x with
   | name t=>
    have ha:=RX (Lx.bs t);simp only[dN.val] at c0;simp only[dN.toks,List.length_singleton] at Sb
    go_wp2_with (at_builtin;refine wpList_append_lies _ rfl _ _ _ rfl g 55 i0 _ 4 40 mR hi0 hz0 hz1 hz2 rfl (by omega) _ L.length _ rfl ((I6.out).alloc _) ⟨wr.heap.size,0,none⟩ 1 1 [.int .i64 1,.string (Lx.bs t),.int .i64 0,.int .i64 0] rfl rfl (World.news_of_block (cs:=#[.int .i64 1,.string (Lx.bs t),.int .i64 0,.int .i64 0]) (t:=55) (fr:=(0,0)) (heap_alloc_new wr _)) (by simp [Value.oneCell']) (by omega) (by unfold maxLen;omega) (by omega) (by simp;omega) (wr.heap.size+1) (by simp) ?_;intro gg cap w3 hown3 hgrow3 qX hlt3;have hG:=Br (x:=⟨1,t,0,0⟩) Hp.out I6.out ((Below.refl _ _).alloc (Nat.le_refl _) _) hgrow3 hown3;have d1:=hG.1.cell 0;have Nr:=hG.1.free 0;simp at d1;have HG:=Lh hG.2;clear hG hown3 hgrow3 qX)
    go_roundw
    case rel=>exact ⟨k+1,by omega,by go_num,by rw [zu.out];exact HG.out.1,kW.out.trans HG.out.2.1,VP.out.trans HG.out.2.2⟩
    case measure=>simp [intOf];omega
   | sign t=>
    have ha:=IY (Lx.bs t);have ha2:=VO (Lx.bs t);simp only[dN.val] at c0;simp only[dN.toks,List.length_singleton] at Sb
    go_wp2_with (at_builtin;refine wpList_append_lies _ rfl _ _ _ rfl g 55 i0 _ 4 40 mR hi0 hz0 hz1 hz2 rfl (by omega) _ L.length _ rfl ((I6.out).alloc _) ⟨wr.heap.size,0,none⟩ 1 1 [.int .i64 3,.string (Lx.bs t),.int .i64 0,.int .i64 0] rfl rfl (World.news_of_block (cs:=#[.int .i64 3,.string (Lx.bs t),.int .i64 0,.int .i64 0]) (t:=55) (fr:=(0,0)) (heap_alloc_new wr _)) (by simp [Value.oneCell']) (by omega) (by unfold maxLen;omega) (by omega) (by simp;omega) (wr.heap.size+1) (by simp) ?_;intro gg cap w3 hown3 hgrow3 qX hlt3;have hG:=Br (x:=⟨3,t,0,0⟩) Hp.out I6.out ((Below.refl _ _).alloc (Nat.le_refl _) _) hgrow3 hown3;have d1:=hG.1.cell 0;have Nr:=hG.1.free 0;simp at d1;have HG:=Lh hG.2;clear hG hown3 hgrow3 qX)
    go_roundw
    case rel=>exact ⟨k+1,by omega,by go_num,by rw [zu.out];exact HG.out.1,kW.out.trans HG.out.2.1,VP.out.trans HG.out.2.2⟩
    case measure=>simp [intOf];omega
   | num z=>
    have ha:=EW z;have ha2:=IZ z;have LU:=RY z;simp only[dN.val] at c0;simp only[dN.toks,List.length_singleton] at Sb
    go_wp2_with (at_builtin;refine wpList_append_lies _ rfl _ _ _ rfl g 55 i0 _ 4 40 mR hi0 hz0 hz1 hz2 rfl (by omega) _ L.length _ rfl ((I6.out).alloc _) ⟨wr.heap.size,0,none⟩ 1 1 [.int .i64 2,.string ⟨#[]⟩,.int .i64 z,.int .i64 0] rfl rfl (World.news_of_block (cs:=#[.int .i64 2,.string ⟨#[]⟩,.int .i64 z,.int .i64 0]) (t:=55) (fr:=(0,0)) (heap_alloc_new wr _)) (by simp [Value.oneCell']) (by omega) (by unfold maxLen;omega) (by omega) (by simp;omega) (wr.heap.size+1) (by simp) ?_;intro gg cap w3 hown3 hgrow3 qX hlt3;have hG:=Br (x:=⟨2,[],z,0⟩) Hp.out I6.out ((Below.refl _ _).alloc (Nat.le_refl _) _) hgrow3 hown3;have d1:=hG.1.cell 0;have Nr:=hG.1.free 0;simp at d1;have HG:=Lh hG.2;clear hG hown3 hgrow3 qX)
    go_roundw
    case rel=>exact ⟨k+1,by omega,by go_num,by rw [zu.out];exact HG.out.1,kW.out.trans HG.out.2.1,VP.out.trans HG.out.2.2⟩
    case measure=>simp [intOf];omega
   | ratio r=>
    obtain ⟨rn,rd⟩:=r;have ha:=EX (.agg #[.int .i64 rn,.int .i64 rd]);have ha2:=I4 (.agg #[.int .i64 rn,.int .i64 rd]);have LU:=EZ (.agg #[.int .i64 rn,.int .i64 rd]);have MP:=RZ (.agg #[.int .i64 rn,.int .i64 rd]);simp only[dN.val] at c0;have PK:=ML.out ⟨_,List.mem_of_getElem? Hx.out⟩;have VQ:=Lh PK;have HLl:=Lh Sb;clear PK Sb;go_wp2_with fail;obtain ⟨W,hW⟩:∃ W,W=(wr.alloc (.cells #[.int .i64 rn,.int .i64 rd] 75)).alloc (.cells #[.iface 3 (.int .i64 rn),.iface 114 (.string ⟨#[47]⟩),.iface 3 (.int .i64 rd)] 20):=⟨_,rfl⟩
    have hbw:Below wr.heap.size wr W:=by rw [hW];exact ((Below.refl _ _).alloc (Nat.le_refl _) _).alloc (by simp) _
    have hbb:aC W (wr.heap.size+1) 20 ([dN.num rn,dN.sign [47],dN.num rd].map dN.val).toArray:=by rw [hW];exact aC.aZ _ _ (by simp)
    rw[←hW];refine (VQ.out [.num rn,.sign [47],.num rd] L _ W (by simp [dN.flat]) (HS.out.next hbw) hbb (by simp) (by simpa [dN.toks,Sx.bO] using HLl.out)).mono ?_;rintro e w3 ⟨rfl,h3,h4,h5⟩;have H3:=Lh h3;have H4:=Lh ((hbw.mono (by omega)).trans h4);have H5:=Lh ((KP.below hbw).trans h5);clear h3 h4 h5 hbw hbb hW;go_wp2_with fail
    go_roundw
    case rel=>exact ⟨k+1,by omega,by go_num,by rw [zu.out];exact H3.out,kW.out.trans H4.out,VP.out.trans H5.out⟩
    case measure=>simp [intOf];omega
   | rule r cs=>
    obtain ⟨⟨v0,v1,v2,v3,v4,A,m,c,rfl⟩,hcall⟩:=q0g.out r cs (List.mem_of_getElem? Hx.out);have ha:=EY (.agg #[.int .i64 v0,.int .i64 v1,.string v2,.int .i64 v3,.int .i64 v4,.slice A m c]);have ha2:=I5 (.agg #[.int .i64 v0,.int .i64 v1,.string v2,.int .i64 v3,.int .i64 v4,.slice A m c]);have LU:=E8 (.agg #[.int .i64 v0,.int .i64 v1,.string v2,.int .i64 v3,.int .i64 v4,.slice A m c]);have MP:=E9 (.agg #[.int .i64 v0,.int .i64 v1,.string v2,.int .i64 v3,.int .i64 v4,.slice A m c])
    have ha5:=R7 (.agg #[.int .i64 v0,.int .i64 v1,.string v2,.int .i64 v3,.int .i64 v4,.slice A m c]);simp only[dN.val] at c0;have aH:=Lh hcall;have HLl:=Lh Sb;clear hcall Sb;go_wp2_with fail;obtain ⟨W,hW⟩:∃ W,W=wr.alloc (.cells #[.int .i64 v0,.int .i64 v1,.string v2,.int .i64 v3,.int .i64 v4,.slice A m c] 38):=⟨_,rfl⟩
    have hbw:Below wr.heap.size wr W:=by rw [hW];exact (Below.refl _ _).alloc (Nat.le_refl _) _
    rw[←hW];refine (aH.out L W (HS.out.next hbw) (kW.out.trans (hbw.mono (by omega))) HLl.out).mono ?_;rintro e w3 ⟨rfl,h3,h4,h5⟩;have H3:=Lh h3;have H4:=Lh ((hbw.mono (by omega)).trans h4);have H5:=Lh ((KP.below hbw).trans h5);clear h3 h4 h5 hbw hW;go_wp2_with fail
    go_roundw
    case rel=>exact ⟨k+1,by omega,by go_num,by rw [zu.out];exact H3.out,kW.out.trans H4.out,VP.out.trans H5.out⟩
    case measure=>simp [intOf];omega
  ·obtain rfl:k=n:=by omega
   go_wp2_with fail
   go_end0
   exact ⟨rfl,by rw [Hn.out,List.take_length] at hS;exact hS,hbel,hkp⟩
theorem K9 (g:Nat):Gg g:=fun its l b W hj h hb h1 hl=>
 PG g its l b W h hb h1 hl (fun ⟨_r,hr⟩=>(hj _ hr).elim) (fun _r _cs hr=>(hj _ hr).elim)
theorem q0h (g:Nat) (its:List dN) (l:List Lx.Tok) (b:Nat) (w:World) (h:iq g l w) (hb:aC w b 20 (its.map dN.val).toArray) (hn1:its.length≤100) (hlen:l.length+(its.flatMap dN.toks).length≤60000) (Dk:∀ r cs,dN.rule r cs∈its→eD g w r cs) :
  Calls Tryz.prog 50 #[.pointer (some ⟨g,0,none⟩),.slice (some ⟨b,0,none⟩) its.length its.length] w (jh g l (its.flatMap dN.toks) w):=
 PG g its l b w h hb hn1 hlen (fun _=>K9 g) Dk
end Go.Proofs.YtjonaidancomgaaGreatDoor
namespace Go.Proofs.YtjonaidancomgaaGreatDoor
open Go.RowKit
open Lx (Tok)
theorem Tryz.infoStr:(Tryz.prog.info? 9).map (fun i=>(i.zero,i.size,i.bytes))=some (some (.string ⟨#[]⟩),1,16):=by kernel_rfl
theorem VR (bk o c:Nat) (xs:List ByteArray) (sep:ByteArray) (w:World) (hcells:∀ (j:Nat) x,xs[j]?=some x→w.cell? ⟨bk,o+j,none⟩=some (.string x)) (hbk:bk < w.heap.size) (hN:xs.length≤140737488355328) (hcap:xs.length≤c) (hlen:(Lib.join (xs.map (·.data.toList)) sep.data.toList).length≤140737488355328) :
  Calls Tryz.prog 133 #[.slice (some ⟨bk,o,none⟩) xs.length c,.string sep] w fun e w'=>e = .returned (.string ⟨(Lib.join (xs.map (·.data.toList)) sep.data.toList).toArray⟩)∧Below w.heap.size w w':=
 Any.strings_Join Tryz.lays156 Tryz.Builder_Extra_156 bk o c xs sep w hcells hbk hN hcap hlen
def wI (l:List Tok) (w:World) (e:Ending) (w':World):Prop:=
 Below w.heap.size w w'∧match Lx.text l with
  | some s=>e = .returned (.tuple #[.string (Lx.bs s),.int .i64 0])
  | none=>e = .returned (.tuple #[.string ⟨#[]⟩,.int .i64 90])
theorem Lx.yV {l:List Tok} {k:Nat} {x:Tok} (hx:l[k]?=some x) (h:Lx.valid x=false):Lx.text l=none:=by
 unfold Lx.text;rw[if_neg];intro ha;rw[List.all_eq_true] at ha;rw[ha x (List.mem_of_getElem? hx)] at h;cases h
theorem Lx.yX {l:List Tok} (h:∀ (j:Nat) (t:Tok),l[j]?=some t→Lx.valid t=true):Lx.text l=some (Lx.dB (l.map Tok.out)):=by
 unfold Lx.text;rw[if_pos];rw[List.all_eq_true];intro t ht;obtain ⟨j,hj⟩:=List.mem_iff_getElem?.1 ht;exact h j t hj
theorem Lx.Gh:∀ xs:List (List UInt8),Lib.join xs [32]=Lx.dB xs
 | []=>rfl
 | [x]=>by rw [Lib.join_one];rfl
 | x::y::r=>by
  rw[Lib.join_cons];have ih:=Lx.Gh (y::r);rw[Lib.join_cons] at ih;simp only[Lx.dB,←ih];simp[Lib.joinTail]
theorem Lx.tT {t:Tok} (h:Lx.valid t=true) (hk:t.kind=2):0≤t.n∧t.n≤1099511627776:=by
 unfold Lx.valid at h;rw[hk] at h;simp at h;omega
theorem Lx.kV (u:Nat) (h:u≤1099511627776):(Lib.decDigits u).length≤13:=by
 rw[Lib.decDigits_length]
 by_cases h0:u=0
 ·subst h0;rw[Lib.nDigits_small (by omega)];omega
 rcases Nat.lt_or_ge (Lib.nDigits u) 14 with hn | hn
 ·omega
 exfalso
 have:∀ (k u:Nat),k+1≤Lib.nDigits u→u≠0→10 ^ k≤u:=by
  intro k
  induction k with
  | zero=>intro u _ h0;simp;omega
  | succ k ih=>
   intro u hk h0
   by_cases hu:u < 10
   ·rw[Lib.nDigits_small hu] at hk;omega
   ·rw[Lib.nDigits_big hu] at hk;have:=ih (u / 10) (by omega) (by omega);rw[Nat.pow_succ];omega
 have h13:=this 13 u (by omega) h0;have e:(10:Nat) ^ 13=10000000000000:=by decide
 omega
theorem Lx.tQ {t:Tok} (h:Lx.valid t=true):t.out.length≤32:=by
 unfold Tok.out
 split
 ·rename_i hk;obtain ⟨h1,h2⟩:=Lx.tT h hk;have:=Lx.kV t.n.toNat (by omega);omega
 ·rename_i hk;unfold Lx.valid at h
  split at h
  ·simp only[Bool.and_eq_true,Lx.isName] at h;have h1:=h.1
   split at h1
   ·cases h1
   ·rename_i e;simp only[Bool.and_eq_true,decide_eq_true_eq] at h1;rw[e] at h1 ⊢;exact h1.1.1
  ·split at h
   ·simp only[Bool.and_eq_true] at h;have h1:=h.1
    split at h1
    ·rename_i e;rw[e];simp
    ·cases h1
   ·cases h
theorem Lx.qV:∀ xs:List (List UInt8),(∀ x∈xs,x.length≤32)→(Lx.dB xs).length≤33*xs.length
 | [],_=>by simp [Lx.dB]
 | [x],h=>by have:=h x (by simp);simp[Lx.dB];omega
 | x::y::r,h=>by
  have h1:=h x (by simp);have ih:=Lx.qV (y::r) (fun z hz=>h z (List.mem_cons_of_mem _ hz));simp only[Lx.dB,List.length_append,List.length_cons] at ih ⊢;omega
theorem zW {l:List Tok} {k m:Nat} {x:Tok} {cs:Array Value} {u:List UInt8} (hcs:cs.size=m) (hk:k < m) (hh:∀ (j:Nat) (t:Tok),j < k→l[j]?=some t→cs[j]?=some (.string (Lx.bs t.out))∧Lx.valid t=true)
  (hx:l[k]?=some x) (hu:x.out=u) (hv:Lx.valid x=true):∀ (j:Nat) (t:Tok),j < k+1→l[j]?=some t→(cs.setIfInBounds k (.string (Lx.bs u)))[j]?=some (.string (Lx.bs t.out))∧Lx.valid t=true:=by
 intro j t hj ht
 rcases Nat.lt_or_ge j k with h | h
 ·obtain ⟨h1,h2⟩:=hh j t h ht;exact ⟨by rw [Array.getElem?_setIfInBounds_ne (by omega)];exact h1,h2⟩
 ·obtain rfl:j=k:=by omega
  rw[hx] at ht;obtain rfl:=Option.some.inj ht;exact ⟨by rw [Array.getElem?_setIfInBounds_self_of_lt (by omega),hu],hv⟩
theorem VT (A:Option Addr) (c:Nat) (l:List Tok) (w:World) (he:Env w) (h:iw w w.heap.size A l) (hl:l.length≤65536) :
  Calls Tryz.prog 53 #[.slice A l.length c] w (wI l w):=by
 have hmk:=fun W=>run_make_row' (P:=Tryz.prog) 105 9 (.string ⟨#[]⟩) 16 Tryz.underlying105 Tryz.infoStr rfl .i64 .i64 l.length (by omega) (by omega) W;obtain ⟨m,hm⟩:∃ m,m=l.length:=⟨_,rfl⟩
 rw[←hm] at hmk ⊢;have hml:m≤l.length:=by omega
 have hlm:l.length≤m:=by omega
 have Hm:=Lh hm;clear hm;obtain ⟨cs0,Sc⟩:∃ cs0,cs0=madeCells #[.string ⟨#[]⟩] m:=⟨_,rfl⟩
 have PL:cs0.size=m:=by rw [Sc,size_madeCells]
 rw[←Sc] at hmk;have q0i:=Lh PL;clear Sc PL;go_enter Tryz.func53,Tryz.ntmps53;go_wp2
 go_loopw [12] (fun i wr=>∃ (k:Nat) (cs:Array Value),k≤m∧i = .int .i64 k∧aC wr w.heap.size 9 cs∧cs.size=m∧(∀ (j:Nat) (t:Tok),j < k→l[j]?=some t→cs[j]?=some (.string (Lx.bs t.out))∧Lx.valid t=true)∧Below w.heap.size w wr)
  (fun i _=>m - (intOf i).toNat)
 case atStart=>exact ⟨0,cs0,by omega,rfl,aC.new _ _ _,q0i.out,fun j t hj=>absurd hj (by omega),(Below.refl _ _).alloc (Nat.le_refl _) _⟩
 case round=>
  obtain ⟨k,cs,hk,rfl,hblk,hcs,hh,hbel⟩:=hrel;have H:=h.below hbel (Nat.le_refl _);have hsz:=hblk.lt;have UD:=he.next hbel;have Hh:=Lh hh;have qJ:=Lh hblk;have kW:=Lh hbel;have Ti:=Lh hcs;have HE:=Lh UD;clear hh hblk hbel hcs UD hmk
  by_cases hlt:k < m
  ·obtain ⟨x,hx⟩:∃ x,l[k]?=some x:=⟨_,List.getElem?_eq_getElem (by omega)⟩
   obtain ⟨b,o,rfl,hb,h4⟩:=H.at_ k x hx;have hxl:=h.texts x (List.mem_of_getElem? hx);obtain ⟨p1,p2,p3,p4⟩:=h4;have hval:=fun W=>DY x.kind x.n x.pos (Lx.bs x.text) W (by rw [Lx.jc];unfold maxLen;omega);rw[Lx.aK] at hval;have hne1:b < wr.heap.size:=by omega
   have Hx:=Lh hx;have HH:=Lh H;clear hx H;cases hs:Lx.valid x
   ·have hval':∀ W,Calls Tryz.prog 131 #[.agg #[.int .i64 x.kind,.string (Lx.bs x.text),.int .i64 x.n,.int .i64 x.pos]] W fun e w'=>e = .returned (.bool false)∧Below W.heap.size W w':=by rw [←hs];exact hval
    have wJ:=Lh hval';have Hs:=Lh hs;clear hval hval' hs;go_wp2_with fail;refine (wJ.out _).mono ?_;rintro e w1 ⟨rfl,hb1⟩;have Hb1:=Lh hb1;clear hb1;go_wp2_with fail;go_ret2;refine ⟨kW.out.trans (((Below.refl _ _).alloc (by omega) _).trans (Hb1.out.mono (by simp;omega))),?_⟩;rw[Lx.yV Hx.out Hs.out];rfl
   ·have hval':∀ W,Calls Tryz.prog 131 #[.agg #[.int .i64 x.kind,.string (Lx.bs x.text),.int .i64 x.n,.int .i64 x.pos]] W fun e w'=>e = .returned (.bool true)∧Below W.heap.size W w':=by rw [←hs];exact hval
    have wJ:=Lh hval';have Hs:=Lh hs;clear hval hval' hs;go_wp2_with fail;refine (wJ.out _).mono ?_;rintro e w1 ⟨rfl,hb1⟩;have hbx:=(aC.new wr 55 #[.int .i64 x.kind,.string (Lx.bs x.text),.int .i64 x.n,.int .i64 x.pos]).below hb1 (by simp);have x0:=hbx.cell 0;have x1:=hbx.cell 1;have x2:=hbx.cell 2;simp at x0 x1 x2;have hbw:=((qJ.out).alloc (.cells #[.int .i64 x.kind,.string (Lx.bs x.text),.int .i64 x.n,.int .i64 x.pos] 55)).below hb1 (by simp;omega);have y0:=hbw.cell k;have y1:=hbw.free k;have Hb1:=Lh hb1;have gy:=Lh hbw;clear hb1 hbx hbw
    by_cases h2:x.kind=2
    ·obtain ⟨hn0,hn1⟩:=Lx.tT Hs.out h2;have h2':(x.kind == 2)=true:=beq_iff_eq.2 h2;have O5:=fun W (hE:Env W)=>O6 x.n (by omega) (by omega) W hE;have hout:(⟨(Lib.itoa x.n).toArray⟩:ByteArray)=Lx.bs x.out:=by
      unfold Tok.out Lib.itoa;rw[if_pos h2,if_neg (by omega)];rfl
     rw[hout] at O5;have rX:=Lh ((HE.out.next ((Below.refl _ _).alloc (Nat.le_refl _) (.cells #[.int .i64 x.kind,.string (Lx.bs x.text),.int .i64 x.n,.int .i64 x.pos] 55))).next Hb1.out);have X7:=Lh O5;clear O5 hout h2;obtain ⟨cv,hcv⟩:∃ cv,cs[k]?=some cv:=⟨_,Array.getElem?_eq_getElem (by rw [Ti.out];omega)⟩
     rw[hcv] at y0;clear hcv;go_wp2_with fail;refine (X7.out _ rX.out).mono ?_;rintro e w2 ⟨rfl,hb2⟩;have hw1:=gy.out.lt;have hbw2:=gy.out.below hb2 (by omega);have hcell:=hbw2.cell k;have hfree:=hbw2.free k;rw[←gy.out.cell k,y0] at hcell;have Hb2:=Lh hb2;have q0j:=Lh hbw2;clear hb2 hbw2 x0 x1 x2 y0 y1;go_wp2_with fail
     go_roundw
     case rel=>exact ⟨k+1,_,by omega,by go_num,q0j.out.set k _,by rw [Array.size_setIfInBounds];exact Ti.out,zW Ti.out hlt Hh.out Hx.out rfl Hs.out,
      ((kW.out.trans (((Below.refl _ _).alloc (by omega) _).trans (Hb1.out.mono (by simp;omega)))).trans (Hb2.out.mono (by omega))).setCell (show w.heap.size≤w.heap.size from Nat.le_refl _) _⟩
     case measure=>simp [intOf];omega
    ·have h2':(x.kind == 2)=false:=beq_eq_false_iff_ne.2 h2;have H2:=Lh h2;clear h2;obtain ⟨cv,hcv⟩:∃ cv,cs[k]?=some cv:=⟨_,Array.getElem?_eq_getElem (by rw [Ti.out];omega)⟩
     rw[hcv] at y0;clear hcv;go_wp2_with fail
     go_roundw
     case rel=>exact ⟨k+1,_,by omega,by go_num,gy.out.set k _,by rw [Array.size_setIfInBounds];exact Ti.out,zW Ti.out hlt Hh.out Hx.out (by unfold Tok.out;rw[if_neg H2.out]) Hs.out,
      (kW.out.trans (((Below.refl _ _).alloc (by omega) _).trans (Hb1.out.mono (by simp;omega)))).setCell (show w.heap.size≤w.heap.size from Nat.le_refl _) _⟩
     case measure=>simp [intOf];omega
  ·obtain rfl:k=m:=by omega
   have hall:∀ (j:Nat) (t:Tok),l[j]?=some t→Lx.valid t=true:=fun j t hj=>(Hh.out j t (by have:=(List.getElem?_eq_some_iff.1 hj).1;omega) hj).2;have htx:=Lx.yX hall;have hcells:∀ (j:Nat) x,(l.map fun t=>Lx.bs t.out)[j]?=some x→wr.cell? ⟨w.heap.size,0+j,none⟩=some (.string x):=fun j x hj=>by
    rw[List.getElem?_map] at hj;obtain ⟨t,ht,rfl⟩:=Option.map_eq_some_iff.1 hj;rw[qJ.out.cell,Nat.zero_add];exact (Hh.out j t (by have:=(List.getElem?_eq_some_iff.1 ht).1;omega) ht).1
   have hmap:((l.map fun t=>Lx.bs t.out).map (·.data.toList))=l.map Tok.out:=by
    rw[List.map_map];exact List.map_congr_left fun t _=>Lx.aK _
   have hjn:Lib.join ((l.map fun t=>Lx.bs t.out).map (·.data.toList)) (⟨#[32]⟩:ByteArray).data.toList=Lx.dB (l.map Tok.out):=by rw [hmap];exact Lx.Gh _
   have hjl:(Lx.dB (l.map Tok.out)).length≤33*l.length:=by
    have:=Lx.qV (l.map Tok.out) (fun x hx=>by
     obtain ⟨t,ht,rfl⟩:=List.mem_map.1 hx;obtain ⟨j,hj⟩:=List.mem_iff_getElem?.1 ht;exact Lx.tQ (hall j t hj))
    rwa [List.length_map] at this
   have hcall:=VR w.heap.size 0 k (l.map fun t=>Lx.bs t.out) ⟨#[32]⟩ wr hcells (by omega) (by rw [List.length_map];omega) (by rw [List.length_map];omega) (by rw [hjn];omega);rw[hjn,List.length_map,←Hm.out] at hcall;have aH:=Lh hcall;have XY:=Lh htx;clear hcall htx hjn hjl hcells hmap hall;go_wp2_with fail;refine (aH.out).mono ?_;rintro e w1 ⟨rfl,hb1⟩;have Hb1:=Lh hb1;clear hb1;go_wp2_with fail;go_ret2;refine ⟨kW.out.trans (Hb1.out.mono (by omega)),?_⟩;rw[XY.out];rfl
theorem Gf (A:Option Addr) (c:Nat) (l:List Tok) (s:List UInt8) (w:World) (he:Env w) (h:iw w w.heap.size A l) (hl:l.length≤65536) (ht:Lx.text l=some s) :
  Calls Tryz.prog 53 #[.slice A l.length c] w fun e w'=>e = .returned (.tuple #[.string (Lx.bs s),.int .i64 0])∧Below w.heap.size w w'∧Env w':=by
 refine (VT A c l w he h hl).mono fun e w' ⟨hb,h⟩=>?_;rw[ht] at h;exact ⟨h,hb,he.next hb⟩
theorem iw.first {w:World} {B:Nat} {A:Option Addr} {t:Tok} {l:List Tok} (h:iw w B A (t::l)):∃ b o,A=some ⟨b,o,none⟩∧b < B∧w.cell? ⟨b,o,none⟩=some (.int .i64 t.kind)∧w.cell? ⟨b,o+1,none⟩=some (.string (Lx.bs t.text))∧w.cell? ⟨b,o+2,none⟩=some (.int .i64 t.n)∧w.cell? ⟨b,o+3,none⟩=some (.int .i64 t.pos):=by
 obtain ⟨b,o,h1,h2,h3⟩:=h.at_ 0 t rfl;exact ⟨b,o,h1,h2,by simpa using h3.kind,by simpa using h3.text,by simpa using h3.n,by simpa using h3.pos⟩
end Go.Proofs.YtjonaidancomgaaGreatDoor
namespace Go.Proofs.YtjonaidancomgaaGreatDoor.Lx
theorem pO {s:List UInt8} (h:isName s=true):∃ c r,s=c::r∧letter c=true∧s.all part=true∧s.length≤32:=by
 match s,h with
 | c::r,h=>
  simp only[isName,Bool.and_eq_true,decide_eq_true_eq] at h;exact ⟨c,r,rfl,h.1.2,h.2,h.1.1⟩
theorem mU {p:UInt8→Bool} : ∀ {l:List UInt8},l.all p=true→l.takeWhile p=l
 | [],_=>rfl
 | c::r,h=>by
  simp only[List.all_cons,Bool.and_eq_true] at h;rw[List.takeWhile_cons,if_pos h.1,mU h.2]
def Sep (rest:List UInt8):Prop:=rest = []∨∃ d r,rest=d::r∧part d=false∧d≠47
theorem OC:Sep []:=Or.inl rfl
theorem I7 {d:UInt8} {r:List UInt8} (h:space d=true):Sep (d::r):=Or.inr ⟨d,r,rfl,((facts d).JO h).1,((facts d).JO h).2.1⟩
theorem Sep.stop {rest:List UInt8} (h:Sep rest):rest.takeWhile part = []∧rest.takeWhile figure = []:=by
 rcases h with rfl | ⟨d,r,rfl,h1,_⟩
 ·exact ⟨rfl,rfl⟩
 ·have h2:figure d=false:=by
   unfold part at h1;cases hh:figure d
   ·rfl
   ·rw[hh] at h1;simp at h1
  exact ⟨by simp [h1],by simp [h2]⟩
theorem xV {t:Tok} (hv:valid t=true) {rest:List UInt8} (hr:Sep rest) (p:Nat):gu (t.out++rest) p=(gu rest (p+t.out.length)).cons { t with pos:=p }:=by
 have key:∀ c r,t.out++rest=c::r→step c r = .tok { t with pos:=0 } t.out.length→gu (t.out++rest) p=(gu rest (p+t.out.length)).cons { t with pos:=p }:=by
  intro c r e hs;rw[e,zl hs,←e,List.drop_left]
 obtain ⟨k,x,n,q⟩:=t;unfold valid at hv
 split at hv
 ·rename_i hk;simp only at hk;subst hk;simp only[Bool.and_eq_true,decide_eq_true_eq] at hv;obtain ⟨hn,rfl⟩:=hv;obtain ⟨c,r,rfl,hl,ha,_⟩:=pO hn;have hout:(⟨1,c::r,0,q⟩:Tok).out=c::r:=rfl;rw[hout] at key ⊢;refine key c (r++rest) rfl ?_;rw[lU hl];have e:(c::(r++rest)).takeWhile part=c::r:=by
   have:=Kl (p:=part) (a:=c::r) (b:=rest) (Or.inr (Or.inl hr.stop.1));rw[mU ha] at this;exact this
  rw[e,if_pos hn]
 ·split at hv
  ·rename_i hk;simp only at hk;subst hk;simp only[Bool.and_eq_true,decide_eq_true_eq,List.isEmpty_iff] at hv;obtain ⟨⟨rfl,h0⟩,h1⟩:=hv;obtain ⟨u,rfl⟩:=Int.eq_ofNat_of_zero_le h0;have hout:(⟨2,[],(u:Int),q⟩:Tok).out=Lib.decDigits u:=rfl;rw[hout] at key ⊢;obtain ⟨c,r,hd⟩:∃ c r,Lib.decDigits u=c::r:=by
    cases h:Lib.decDigits u with
    | nil=>exact absurd h (zi u)
    | cons c r=>exact ⟨c,r,rfl⟩
   have ha:=Ef u;have JC:=yE u (by omega);rw[hd] at key ha JC ⊢;refine key c (r++rest) rfl ?_;have hf:figure c=true:=by simp only [List.all_cons,Bool.and_eq_true] at ha;exact ha.1
   rw[lV hf];have e:(c::(r++rest)).takeWhile figure=c::r:=by
    have:=Kl (p:=figure) (a:=c::r) (b:=rest) (Or.inr (Or.inl hr.stop.2));rw[mU ha] at this;exact this
   rw[e,JC]
  ·split at hv
   ·rename_i hk;simp only at hk;subst hk;simp only[Bool.and_eq_true,decide_eq_true_eq] at hv;obtain ⟨h1,rfl⟩:=hv
    match x,h1 with
    | [c],h1=>
     have hout:(⟨3,[c],0,q⟩:Tok).out = [c]:=rfl;rw[hout] at key ⊢;refine key c rest rfl (ql h1 ?_)
     rcases hr with rfl | ⟨d,r,rfl,_,h3⟩
     ·simp[comment]
     ·have:((some d:Option UInt8) == some 47)=false:=beq_eq_false_iff_ne.2 (fun h=>h3 (by injection h));simp only[comment,List.head?_cons,this,Bool.and_false]
   ·cases hv
theorem La {c:UInt8} {r:List UInt8} {t:Tok} {k:Nat} (h:step c r = .tok t k):t.out=(c::r).take k∧t.out.length=k∧k≤(c::r).length∧t.pos=0:=by
 cases h1:space c
 case true=>rw [nM h1] at h;cases h
 cases h2:comment (c::r)
 case true=>rw [nI h2] at h;cases h
 cases h3:letter c
 case true=>
  rw[lU h3] at h
  split at h
  ·injection h with h h';subst h;subst h';exact ⟨(vV part _).symm,rfl,yZ part _,rfl⟩
  ·cases h
 cases h4:figure c
 case true=>
  rw[lV h4] at h
  split at h
  ·rename_i n hn;injection h with h h';subst h;subst h';obtain ⟨hv,_,hp⟩:=qY hn;have e:(⟨2,[],(n:Int),0⟩:Tok).out=(c::r).takeWhile figure:=by
    show Lib.decDigits (n:Int).toNat=_;rw[Int.toNat_natCast,hv];exact (qN (D5 figure _) (by rw [List.takeWhile_cons,if_pos h4];simp)).2 hp
   rw[e];exact ⟨(vV figure _).symm,rfl,yZ figure _,rfl⟩
  ·cases h
 cases h5:sign c
 case true=>
  rw[ql h5 h2] at h;injection h with h h';subst h;subst h';exact ⟨rfl,rfl,by simp,rfl⟩
 rw[sD h1 h3 h4 h5] at h;cases h
theorem zX (t:Tok) (p:Int):Fy t { t with pos:=p } = true:=by simp [Fy]
theorem xW:∀ (l:List Tok),(∀ t∈l,valid t=true)→∀ p,∃ m,gu (dB (l.map Tok.out)) p = .ok m∧same l m=true
 | [],_,p=>⟨[],rfl,rfl⟩
 | [t],h,p=>by
  have:=xV (h t (by simp)) OC p;rw[List.append_nil] at this;refine ⟨[{ t with pos:=p }],?_,?_⟩
  ·show gu t.out p=_;rw[this,za];rfl
  ·simp only[same,zX,Bool.and_true]
 | t::u::l,h,p=>by
  obtain ⟨m,hm,hs⟩:=xW (u::l) (fun x hx=>h x (List.mem_cons_of_mem _ hx)) (p+t.out.length+1);refine ⟨{ t with pos:=p } :: m,?_,?_⟩
  ·show gu (t.out++32::dB ((u::l).map Tok.out)) p=_;rw[xV (h t (by simp)) (I7 rfl) p,xk (k:=1) (nM rfl),List.drop_one,List.tail_cons,hm];rfl
  ·simp only[same,zX,Bool.true_and];exact hs
theorem Lb {l:List Tok} {s:List UInt8} (h:text l=some s):∃ m,lex s = .ok m∧same l m=true:=by
 unfold text at h
 split at h
 ·rename_i hv;injection h with h;subst h;exact xW l (fun t ht=>List.all_eq_true.1 hv t ht) 0
 ·cases h
theorem xX:∀ (f:Nat) (l:List UInt8) (p:Nat) (ts:List Tok),oM f l p = .ok ts→(dB (ts.map Tok.out)).length+1≤2*l.length+1∧ts.length≤l.length
 | f,[],p,ts,h=>by
  have:ts = []:=by cases f <;> (simp only [oM] at h;injection h with h;exact h.symm)
  subst this;simp[dB]
 | 0,_::_,p,ts,h=>by
  simp only[oM] at h;injection h with h;subst h;simp[dB]
 | f+1,c::r,p,ts,h=>by
  simp only[oM] at h;cases hs:step c r with
  | skip k=>
   rw[hs] at h;have:=xX f _ _ ts h;rw[List.length_drop] at this;exact ⟨by omega,by omega⟩
  | err=>rw [hs] at h;cases h
  | tok t k=>
   rw[hs] at h;simp only at h;cases hr:oM f ((c::r).drop k) (p+k) with
   | err q=>rw [hr] at h;cases h
   | ok ts'=>
    rw[hr] at h;simp only[yD.cons] at h;injection h with h;subst h;obtain ⟨h1,h1',h2,_⟩:=La hs;have h3:=nJ hs;have h4:=xX f _ _ ts' hr;rw[List.length_drop] at h4;have e:({ t with pos:=(p:Int) } : Tok).out=t.out:=rfl;refine ⟨?_,by simp only [List.length_cons] at h4 h2 ⊢;omega⟩;rw[List.map_cons,e];cases ts' with
    | nil=>simp only [List.map_nil,dB];omega
    | cons u us=>
     simp only[List.map_cons,dB,List.length_append,List.length_cons] at h4 h2 ⊢;omega
theorem Bg {l:List UInt8} {ts:List Tok} (h:lex l = .ok ts):(dB (ts.map Tok.out)).length≤2*l.length∧ts.length≤l.length:=by
 have:=xX _ _ _ _ h;omega
end Go.Proofs.YtjonaidancomgaaGreatDoor.Lx
namespace Go.Proofs.YtjonaidancomgaaGreatDoor.Sx
open Lx (Tok)
theorem Lc {α:Type} {last:Int} {x y:α} {l r:List Tok} (h:ended last x l = .ok y r):l = []∧y=x:=by
 cases l with
 | nil=>unfold ended at h;injection h with h;exact ⟨rfl,h.symm⟩
 | cons=>unfold ended fail at h;cases h
theorem xK {α:Type} {f:Int→List Tok→R α} {src:List UInt8} {x:α} (h:dS f src = .ok x):∃ l,src.length≤65536∧Lx.lex src = .ok l∧f src.length l = .ok x []:=by
 unfold dS at h
 split at h
 ·cases h
 ·rename_i hl
  split at h
  ·cases h
  ·rename_i l hlx
   split at h
   ·rename_i y r hb;injection h with h;subst h;obtain ⟨z,l1,k1,k2⟩:=bind_ok hb;obtain ⟨rfl,rfl⟩:=Lc k2;exact ⟨l,by omega,hlx,k1⟩
   ·cases h
theorem aD {α β:Type} (a:α) (l:List Tok) (f:α→List Tok→R β):(R.ok a l).bind f=f a l:=rfl
theorem nX {k:Int} {x:List UInt8} {t:Tok} {l:List Tok} (h1:t.kind=k) (h2:t.text=x):hit k x (t::l)=true:=by
 unfold hit;simp[h1,h2]
end Go.Proofs.YtjonaidancomgaaGreatDoor.Sx
