/- Parts of the proof, joined into one text: XL, q0w, q0x. -/
import Derived.Test.YtjonaidancomgaaGreatDoorPSxKids
import Derived.Deep.CutRange
import Derived.Deep.CutBlock
namespace Go.Proofs.YtjonaidancomgaaGreatDoor
open Go.RowKit
theorem jl.grown {g B:Nat} {last:Int} {l:List Lx.Tok} {p:Nat} {t:TypeId} {cs:Array Value} {w0 w w3:World} {ob:Option Nat} (h:jl g B last l p t cs w0 w) (hgrow:w.grownBy w3 ob) (Sr:∀ z,ob=some z→p < z):jl g B last l p t cs w0 w3:=by
  have h1:=h.fr.aY.size;have h2:=h.old;have h3:=h.lt;have h4:=h.blk.lt;have hbel:Below g w w3:=Below.grown (Below.refl _ _) hgrow (by omega) (fun z hz=>by have:=Sr z hz;omega);refine ⟨?_,⟨h.fr.aY.trans hbel,fun k hk hn=>(hgrow.block k (by omega) (fun e=>by have:=Sr k e.symm;omega)).trans (h.fr.keep k hk hn)⟩,h.blk.grown hgrow (fun e=>by have:=Sr p e;omega),h.old,h.lt⟩;obtain ⟨⟨A,c,q1,q2,q3⟩,hB⟩:=h.ps;exact ⟨⟨A,c,q1.grown hgrow (fun e=>by have:=Sr g e;omega),q2.below hbel hB,q3⟩,hB⟩
structure dO (g B : Nat) (last : Int) (p r0 : Nat) (w0 : World) (nm : List UInt8) (cr : Int) (gv hv cN cF vN vF : Value) (xs : List (List UInt8)) (ys : List Int) (nb : Option (Nat × List UInt8)) (fb : Option (Nat × Int)) (l : List Lx.Tok) (w : World) : Prop where
  st:jl g B last l p 108 #[.string (Lx.bs nm),.int .i64 cr,gv,hv,cN,cF] w0 w
  res:aC w r0 108 #[.string ⟨#[]⟩,.int .i64 0,.int .i64 0,.bool false,.slice none 0 0,.slice none 0 0]
  names:w.ownsRow p 9 1 vN xs.length (xs.map bB)
  froms:w.ownsRow p 3 1 vF ys.length (ys.map aT)
  rp:r0 < p
  gr:g < r0
  vR:vN.ownBlock≠some p
  vS:vF.ownBlock≠some p
  bN:∀ b x,nb=some (b,x)→p < b∧aC w b 9 #[bB x]
  bF:∀ b n,fb=some (b,n)→p < b∧aC w b 3 #[aT n]
section
variable {g B : Nat} {last : Int} {p r0 : Nat} {w0 w w' : World} {nm : List UInt8} {cr : Int} {gv hv cN cF vN vF : Value} {xs : List (List UInt8)} {ys : List Int} {nb : Option (Nat × List UInt8)} {fb : Option (Nat × Int)} {l l' : List Lx.Tok}
theorem dO.gp (h:dO g B last p r0 w0 nm cr gv hv cN cF vN vF xs ys nb fb l w):g < p:=by have:=h.rp;have:=h.gr;omega
theorem dO.oN (h:dO g B last p r0 w0 nm cr gv hv cN cF vN vF xs ys nb fb l w):∀ z,vN.ownBlock=some z→p < z:=fun z hz=>by
  have h1:=jY h.names hz;have:z≠p:=fun e=>h.vR (by rw [hz,e]);omega
theorem dO.oF (h:dO g B last p r0 w0 nm cr gv hv cN cF vN vF xs ys nb fb l w):∀ z,vF.ownBlock=some z→p < z:=fun z hz=>by
  have h1:=jY h.froms hz;have:z≠p:=fun e=>h.vS (by rw [hz,e]);omega
theorem dO.step (h:dO g B last p r0 w0 nm cr gv hv cN cF vN vF xs ys nb fb l w) (hf:eP g w w') (hs:PS g B last l' w'):dO g B last p r0 w0 nm cr gv hv cN cF vN vF xs ys nb fb l' w':=
  ⟨h.st.step hf hs,hf.blk h.res (by have:=h.gr;omega),qE hf h.names h.gp,qE hf h.froms h.gp,h.rp,h.gr,h.vR,h.vS,
   fun b x e=>⟨(h.bN b x e).1,hf.blk (h.bN b x e).2 (by have:=(h.bN b x e).1;have:=h.gp;omega)⟩,fun b x e=>⟨(h.bF b x e).1,hf.blk (h.bF b x e).2 (by have:=(h.bF b x e).1;have:=h.gp;omega)⟩⟩
theorem dO.uF (h:dO g B last p r0 w0 nm cr gv hv cN cF vN vF xs ys none fb l w) (x:List UInt8):dO g B last p r0 w0 nm cr gv hv cN cF vN vF xs ys (some (w.heap.size,x)) fb l (w.alloc (.cells #[.string (Lx.bs x)] 9)):=
  have hb:Below w.heap.size w (w.alloc (.cells #[.string (Lx.bs x)] 9)):=(Below.refl _ _).alloc (Nat.le_refl _) _;have h2:=h.step (eP.below hb h.st.ps.lt) (h.st.ps.alloc _)
  ⟨h2.st,h2.res,h2.names,h2.froms,h2.rp,h2.gr,h2.vR,h2.vS,fun b y e=>by
    injection e with e;injection e with e1 e2;subst e1;subst e2;exact ⟨h.st.blk.lt,aC.new _ _ _⟩,h2.bF⟩
theorem dO.uG (h:dO g B last p r0 w0 nm cr gv hv cN cF vN vF xs ys nb none l w) (x:Int):dO g B last p r0 w0 nm cr gv hv cN cF vN vF xs ys nb (some (w.heap.size,x)) l (w.alloc (.cells #[.int .i64 x] 3)):=
  have hb:Below w.heap.size w (w.alloc (.cells #[.int .i64 x] 3)):=(Below.refl _ _).alloc (Nat.le_refl _) _;have h2:=h.step (eP.below hb h.st.ps.lt) (h.st.ps.alloc _)
  ⟨h2.st,h2.res,h2.names,h2.froms,h2.rp,h2.gr,h2.vR,h2.vS,h2.bN,fun b y e=>by
    injection e with e;injection e with e1 e2;subst e1;subst e2;exact ⟨h.st.blk.lt,aC.new _ _ _⟩⟩
theorem Dv {b1 b2 s1 s2 n1 n2:Nat} {e1 e2:TypeId} {v1 v2:Value} {x1 x2:List Value} (h1:w.ownsRow b1 e1 s1 v1 n1 x1) (h2:w.ownsRow b2 e2 s2 v2 n2 x2) (hne:e1≠e2):v1.ownBlock=none∨v1.ownBlock≠v2.ownBlock:=by
  cases h:v1.ownBlock with
  | none=>exact .inl rfl
  | some z=>
    right
    intro e
    rcases h1.2 with ⟨a,-⟩ | ⟨z1,c1,u1,a,_,k1,_⟩
    · rw[a] at h;simp[Value.ownBlock] at h
    rcases h2.2 with ⟨b,-⟩ | ⟨z2,c2,u2,b,_,k2,_⟩
    · rw[b] at e;simp[Value.ownBlock] at e
    rw[a] at h;rw[b] at e;simp[Value.ownBlock] at h e;subst h;rw[←e] at k2;rw[k1] at k2;simp at k2;exact hne k2.2
theorem dO.Sv {gg cap:Nat} {w3:World} {b:Nat} {x:List UInt8} (h:dO g B last p r0 w0 nm cr gv hv cN cF vN vF xs ys (some (b,x)) fb l w) (hgrow:w.grownBy w3 vN.ownBlock) (hat:vN.ownBlock=some gg∨gg=w.heap.size) (hown:w3.ownsRow p 9 1 (.slice (some ⟨gg,0,none⟩) (xs.length+1) cap) (xs.length+1) (xs.map bB++[bB x])) :
    dO g B last p r0 w0 nm cr gv hv cN cF (.slice (some ⟨gg,0,none⟩) (xs.length+1) cap) vF (xs++[x]) ys none fb l w3:=by
  have hgg:p < gg:=by
    rcases hat with e | e
    · exact h.oN gg e
    · have:=h.st.blk.lt;omega
  refine ⟨h.st.grown hgrow h.oN,h.res.grown hgrow (fun e=>by have:=h.oN r0 e;have:=h.rp;omega),?_,h.froms.kept hgrow (Dv h.froms h.names (by decide)),h.rp,h.gr,fun e=>?_,h.vS,fun b y e=>(by cases e),fun b n e=>⟨(h.bF b n e).1,(h.bF b n e).2.grown hgrow (own_ne h.names (h.bF b n e).2 (by decide))⟩⟩
  · rw[show (xs++[x]).length=xs.length+1 by simp,show (xs++[x]).map bB=xs.map bB++[bB x] by simp];exact hown
  · have e1:gg=p:=by simpa [Value.ownBlock] using e
    omega
theorem dO.Sw {gg cap:Nat} {w3:World} {b:Nat} {x:Int} (h:dO g B last p r0 w0 nm cr gv hv cN cF vN vF xs ys nb (some (b,x)) l w) (hgrow:w.grownBy w3 vF.ownBlock) (hat:vF.ownBlock=some gg∨gg=w.heap.size) (hown:w3.ownsRow p 3 1 (.slice (some ⟨gg,0,none⟩) (ys.length+1) cap) (ys.length+1) (ys.map aT++[aT x])) :
    dO g B last p r0 w0 nm cr gv hv cN cF vN (.slice (some ⟨gg,0,none⟩) (ys.length+1) cap) xs (ys++[x]) nb none l w3:=by
  have hgg:p < gg:=by
    rcases hat with e | e
    · exact h.oF gg e
    · have:=h.st.blk.lt;omega
  refine ⟨h.st.grown hgrow h.oF,h.res.grown hgrow (fun e=>by have:=h.oF r0 e;have:=h.rp;omega),h.names.kept hgrow (Dv h.names h.froms (by decide)),?_,h.rp,h.gr,h.vR,fun e=>?_,fun b n e=>⟨(h.bN b n e).1,(h.bN b n e).2.grown hgrow (own_ne h.froms (h.bN b n e).2 (by decide))⟩,fun b y e=>(by cases e)⟩
  · rw[show (ys++[x]).length=ys.length+1 by simp,show (ys++[x]).map aT=ys.map aT++[aT x] by simp];exact hown
  · have e1:gg=p:=by simpa [Value.ownBlock] using e
    omega
theorem dO.store (h:dO g B last p r0 w0 nm cr gv hv cN cF vN vF xs ys none none l w):dO g B last p r0 w0 nm cr gv hv vN vF vN vF xs ys none none l ((w.setCell ⟨p,4,none⟩ vN).setCell ⟨p,5,none⟩ vF):=by
  have hL:=(h.st.set 4 vN).set 5 vF;refine ⟨by simpa using hL,(h.res.far (p:=⟨p,4,none⟩) (show r0≠p by have:=h.rp;omega) _).far (p:=⟨p,5,none⟩) (show r0≠p by have:=h.rp;omega) _,ownsRow_setCell_other (ownsRow_setCell_other h.names h.vR _) h.vR _,ownsRow_setCell_other (ownsRow_setCell_other h.froms h.vS _) h.vS _,h.rp,h.gr,h.vR,h.vS,fun b y e=>(by cases e),fun b y e=>(by cases e)⟩
theorem dO.q0y (h:dO g B last p r0 w0 nm cr gv hv cN cF vN vF xs ys none none l w) (u:Value):dO g B last p r0 w0 nm cr u hv cN cF vN vF xs ys none none l (w.setCell ⟨p,2,none⟩ u):=
  ⟨by simpa using h.st.set 2 u,h.res.far (p:=⟨p,2,none⟩) (show r0≠p by have:=h.rp;omega) _,ownsRow_setCell_other h.names h.vR _,ownsRow_setCell_other h.froms h.vS _,h.rp,h.gr,h.vR,h.vS,fun b y e=>(by cases e),fun b y e=>(by cases e)⟩
theorem dO.setH (h:dO g B last p r0 w0 nm cr gv hv cN cF vN vF xs ys none none l w) (u:Value):dO g B last p r0 w0 nm cr gv u cN cF vN vF xs ys none none l (w.setCell ⟨p,3,none⟩ u):=
  ⟨by simpa using h.st.set 3 u,h.res.far (p:=⟨p,3,none⟩) (show r0≠p by have:=h.rp;omega) _,ownsRow_setCell_other h.names h.vR _,ownsRow_setCell_other h.froms h.vS _,h.rp,h.gr,h.vR,h.vS,fun b y e=>(by cases e),fun b y e=>(by cases e)⟩
theorem yj {α:Type} (f:α→Value):∀ xs:List α,(xs.map fun x=>[f x]).flatten=xs.map f
  | []=>rfl
  | x::xs=>by simp [yj f xs]
theorem dO.rows (h:dO g B last p r0 w0 nm cr gv hv cN cF vN vF xs ys nb fb l w) (hx:xs.length≤1000001) (hy:ys.length≤1000001) (hl:∀ x∈xs,x.length≤140737488351232) :
    ∃ A c B' d,vN = .slice A xs.length c∧vF = .slice B' ys.length d∧Row w (fun b=>p < b∧b < w.heap.size) A 1 qM xs∧Row w (fun b=>p < b∧b < w.heap.size) B' 1 (lT aT) ys:=by
  have hN:=h.names;have hF:=h.froms;rw[←yj bB xs] at hN;rw[←yj aT ys] at hF;obtain ⟨A,c,a1,a2⟩:=wu (P:=qM) (S:=fun b=>p < b∧b < w.heap.size) hN (by simp) rfl (fun cs hcs=>by obtain ⟨x,_,rfl⟩:=List.mem_map.1 hcs;rfl) (fun k x cs hk hc=>by
    rw[List.getElem?_map,hk] at hc;have:cs = [bB x]:=by simpa using hc.symm
    exact ⟨this,hl x (List.mem_of_getElem? hk)⟩) (fun z hz=>⟨h.oN z hz,kY h.names hz⟩) (by omega)
  obtain ⟨B',d,b1,b2⟩:=wu (P:=lT aT) (S:=fun b=>p < b∧b < w.heap.size) hF (by simp) rfl (fun cs hcs=>by obtain ⟨x,_,rfl⟩:=List.mem_map.1 hcs;rfl) (fun k x cs hk hc=>by
    rw[List.getElem?_map,hk] at hc;have:cs = [aT x]:=by simpa using hc.symm
    exact this) (fun z hz=>⟨h.oF z hz,kY h.froms hz⟩) (by omega)
  exact ⟨A,c,B',d,a1,b1,a2,b2⟩
def q0A (lo:Nat) (x:Sx.iK) (v:Value) (w:World):Prop:=∃ cs:List Value,v = .agg cs.toArray∧bW w (fun b=>lo≤b∧b < w.heap.size) x cs
theorem dO.Dw {P:Program} {b:Nat} {x:List UInt8} (h:dO g B last p r0 w0 nm cr gv hv cN cF vN vF xs ys (some (b,x)) fb l w) (gT:xs.length≤1000000)
    {ops:Array Oper} {o:Oper} {a:Act} {K:Act→World→Prop} {Q:Exit→Act→World→Prop} {E:Prop} (hgd:o.guard=none) (s y:Operand) (t:TypeId)
    (ho:o.op = .call { callee:=.builtin .append,args:=#[s,y],argTypes:=#[t,t] }) (inf:TypeInfo) (z:Value) (ht:P.underlying t=some (.slice 9)) (hi:P.info? 9=some inf) (hz:inf.zero=some z)
    (hsize:inf.size=1) (hby:inf.bytes=16) (hzs:z.cells.size=1) (hs:a.eval s=vN) (hy:a.eval y = .slice (some ⟨b,0,none⟩) 1 1)
    (hK:∀ gg cap w3,dO g B last p r0 w0 nm cr gv hv cN cF (.slice (some ⟨gg,0,none⟩) (xs.length+1) cap) vF (xs++[x]) ys none fb l w3→K (a.put o.dst (.slice (some ⟨gg,0,none⟩) (xs.length+1) cap)) w3) :
    if Region.wanted o (yielded ops a.tmps)=true then Oper.wp P o a w K Q else E:=by
  refine step_append_lies _ hgd s y t ho p 9 inf z 1 16 ht hi hz hsize hby hzs (by omega) vN xs.length (xs.map bB) hs h.names ⟨b,0,none⟩ 1 1 [bB x] hy rfl (World.news_of_block (cs:=#[bB x]) (t:=9) (fr:=(0,0)) (h.bN b x rfl).2) (by simp [bB,Value.oneCell']) (by omega) (by unfold maxLen;omega) (by omega) (by have:=h.st.blk.lt;omega) w.heap.size rfl ?_;intro gg cap w3 hown hgrow hat hlt;exact hK gg cap w3 (h.Sv hgrow hat hown)
theorem dO.qO {P:Program} {b:Nat} {x:Int} (h:dO g B last p r0 w0 nm cr gv hv cN cF vN vF xs ys nb (some (b,x)) l w) (gT:ys.length≤1000000)
    {ops:Array Oper} {o:Oper} {a:Act} {K:Act→World→Prop} {Q:Exit→Act→World→Prop} {E:Prop} (hgd:o.guard=none) (s y:Operand) (t:TypeId)
    (ho:o.op = .call { callee:=.builtin .append,args:=#[s,y],argTypes:=#[t,t] }) (inf:TypeInfo) (z:Value) (ht:P.underlying t=some (.slice 3)) (hi:P.info? 3=some inf) (hz:inf.zero=some z)
    (hsize:inf.size=1) (hby:inf.bytes=8) (hzs:z.cells.size=1) (hs:a.eval s=vF) (hy:a.eval y = .slice (some ⟨b,0,none⟩) 1 1)
    (hK:∀ gg cap w3,dO g B last p r0 w0 nm cr gv hv cN cF vN (.slice (some ⟨gg,0,none⟩) (ys.length+1) cap) xs (ys++[x]) nb none l w3→K (a.put o.dst (.slice (some ⟨gg,0,none⟩) (ys.length+1) cap)) w3) :
    if Region.wanted o (yielded ops a.tmps)=true then Oper.wp P o a w K Q else E:=by
  refine step_append_lies _ hgd s y t ho p 3 inf z 1 8 ht hi hz hsize hby hzs (by omega) vF ys.length (ys.map aT) hs h.froms ⟨b,0,none⟩ 1 1 [aT x] hy rfl (World.news_of_block (cs:=#[aT x]) (t:=3) (fr:=(0,0)) (h.bF b x rfl).2) (by simp [aT,Value.oneCell']) (by omega) (by unfold maxLen;omega) (by omega) (by have:=h.st.blk.lt;omega) w.heap.size rfl ?_;intro gg cap w3 hown hgrow hat hlt;exact hK gg cap w3 (h.Sw hgrow hat hown)
end
structure mO (g B : Nat) (last : Int) (p : Nat) (x0 x1 x2 x3 x4 x5 : Value) (w0 : World) (qs : List Sx.iK) (css : List (List Value)) (v : Value) (l : List Lx.Tok) (w : World) : Prop where
 st:jl g B last l p 78 #[x0,x1,x2,x3,x4,x5,v] w0 w
 own:w.ownsRow p 108 6 v qs.length css.flatten
 len:css.length=qs.length
 kid:∀ (i:Nat) r cs,qs[i]?=some r→css[i]?=some cs→bW w (fun b=>p < b∧b < w.heap.size∧v.ownBlock≠some b) r cs
 far:v.ownBlock≠some p
theorem bW.length {w:World} {S:Nat→Prop} {x:Sx.iK} {cs:List Value} (h:bW w S x cs):cs.length=6:=by
 obtain ⟨A,c,B,d,rfl,_⟩:=h;rfl
section
variable {g B : Nat} {last : Int} {p : Nat} {x0 x1 x2 x3 x4 x5 : Value} {w0 w w' : World} {qs : List Sx.iK} {css : List (List Value)} {v : Value} {l l' : List Lx.Tok}
theorem mO.gp (h:mO g B last p x0 x1 x2 x3 x4 x5 w0 qs css v l w):g < p:=by have:=h.st.old;have:=h.st.lt;omega
theorem mO.oV (h:mO g B last p x0 x1 x2 x3 x4 x5 w0 qs css v l w):∀ z,v.ownBlock=some z→p < z:=fun z hz=>by
 have h1:=jY h.own hz;have:z≠p:=fun e=>h.far (by rw [hz,e]);omega
theorem mO.step (h:mO g B last p x0 x1 x2 x3 x4 x5 w0 qs css v l w) (hf:eP g w w') (hs:PS g B last l' w'):mO g B last p x0 x1 x2 x3 x4 x5 w0 qs css v l' w':=
 ⟨h.st.step hf hs,qE hf h.own h.gp,h.len,fun i r cs h1 h2=>bW.keep (fun b hb=>⟨⟨hb.1,Nat.lt_of_lt_of_le hb.2.1 hf.aY.size,hb.2.2⟩,fun j=>hf.cell hb.2.1 (by have:=h.gp;have:=hb.1;omega) j⟩) (h.kid i r cs h1 h2),h.far⟩
theorem mO.start (h:jl g B last l p 78 #[x0,x1,x2,x3,x4,x5,.slice none 0 0] w0 w):mO g B last p x0 x1 x2 x3 x4 x5 w0 [] [] (.slice none 0 0) l w:=
 ⟨h,⟨rfl,.inl ⟨rfl,rfl⟩⟩,rfl,fun i r cs h1 _=>by simp at h1,by simp [Value.ownBlock]⟩
theorem mO.grow {gg cap lo:Nat} {r:Sx.iK} {cs:List Value} {w1 w3:World} (h:mO g B last p x0 x1 x2 x3 x4 x5 w0 qs css v l w) (hr:bW w (fun b=>lo≤b∧b < w.heap.size) r cs) (hlo:p < lo) (hrow:∀ z,v.ownBlock=some z→z < lo)
  (hb1:Below w.heap.size w w1) (hgrow:w1.grownBy w3 v.ownBlock) (hat:v.ownBlock=some gg∨w.heap.size≤gg) (hown:w3.ownsRow p 108 6 (.slice (some ⟨gg,0,none⟩) (qs.length+1) cap) (qs.length+1) (css.flatten++cs)) :
  (w3.cell? ⟨p,6,none⟩=some v∧w3.frozen? ⟨p,6,none⟩=false)∧mO g B last p x0 x1 x2 x3 x4 x5 w0 (qs++[r]) (css++[cs]) (.slice (some ⟨gg,0,none⟩) (qs.length+1) cap) l (w3.setCell ⟨p,6,none⟩ (.slice (some ⟨gg,0,none⟩) (qs.length+1) cap)):=by
 have hgp:=h.gp;have hpl:=h.st.blk.lt;have hz1:=hb1.size;have hz3:=hgrow.size;have hkeep:∀ b,b < w.heap.size→v.ownBlock≠some b→w3.heap[b]?=w.heap[b]?:=fun b hb hn=>(hgrow.block b (by omega) (fun e=>hn e.symm)).trans (hb1.block b hb);have hL1:=h.st.step (eP.below hb1 (by omega)) (h.st.ps.next hb1);have hL3:jl g B last l p 78 #[x0,x1,x2,x3,x4,x5,v] w0 w3:=hL1.grown hgrow h.oV;have hgg:p < gg:=by
  rcases hat with e | e
  ·exact h.oV gg e
  ·omega
 have hne:(Value.slice (some ⟨gg,0,none⟩) (qs.length+1) cap).ownBlock≠some p:=by
  intro e;have e1:gg=p:=by simpa [Value.ownBlock] using e
  omega
 have VH:∀ b,b < w.heap.size→v.ownBlock≠some b→b≠gg:=fun b h1 h2 e=>by
  rcases hat with h3 | h3
  ·exact h2 (by rw [e];exact h3)
  ·omega
 have hsz:(w3.setCell ⟨p,6,none⟩ (.slice (some ⟨gg,0,none⟩) (qs.length+1) cap)).heap.size=w3.heap.size:=by simp [World.setCell]
 have hS:∀ b,p < b→b < w.heap.size→v.ownBlock≠some b→(p < b∧b < (w3.setCell ⟨p,6,none⟩ (.slice (some ⟨gg,0,none⟩) (qs.length+1) cap)).heap.size∧(Value.slice (some ⟨gg,0,none⟩) (qs.length+1) cap).ownBlock≠some b)∧∀ i,(w3.setCell ⟨p,6,none⟩ (.slice (some ⟨gg,0,none⟩) (qs.length+1) cap)).cell? ⟨b,i,none⟩=w.cell? ⟨b,i,none⟩:=fun b h1 h2 h3=>
  ⟨⟨h1,by rw [hsz];omega,fun e=>VH b h2 h3 (by simpa [Value.ownBlock] using e.symm)⟩,fun i=>World.cell?_of_block (a:=⟨b,i,none⟩) ((Below.heap_setCell w3 ⟨p,6,none⟩ _ b (show b≠p by omega)).trans (hkeep b h2 h3))⟩
 refine ⟨⟨?_,?_⟩,?_⟩
 ·exact hL3.blk.cell 6
 ·exact hL3.blk.free 6
 ·refine ⟨?_,?_,by simp [h.len],?_,hne⟩
  ·have:=hL3.set 6 (.slice (some ⟨gg,0,none⟩) (qs.length+1) cap);simpa using this
  ·rw[show (qs++[r]).length=qs.length+1 by simp,show (css++[cs]).flatten=css.flatten++cs by simp];exact ownsRow_setCell_other hown hne _
  ·intro i r1 cs1 h1 h2
   rcases Nat.lt_or_ge i qs.length with hi | hi
   ·rw[List.getElem?_append_left hi] at h1;rw[List.getElem?_append_left (by rw [h.len];exact hi)] at h2;exact bW.keep (fun b hb=>hS b hb.1 hb.2.1 hb.2.2) (h.kid i r1 cs1 h1 h2)
   ·rw[List.getElem?_append_right hi] at h1;rw[List.getElem?_append_right (by rw [h.len];exact hi)] at h2;rw[h.len] at h2;cases hd:i - qs.length with
    | succ m=>rw [hd] at h1;simp at h1
    | zero=>
     rw[hd] at h1 h2;simp at h1 h2;subst h1;subst h2;exact bW.keep (fun b hb=>hS b (by have:=hb.1;omega) hb.2 (fun e=>by have:=hrow b e;have:=hb.1;omega)) hr
theorem mO.out (h:mO g B last p x0 x1 x2 x3 x4 x5 w0 qs css v l w) (hq:qs.length≤64):∃ A c,v = .slice A qs.length c∧Row w (fun b=>p < b∧b < w.heap.size) A 6 (bW w (fun b=>p < b∧b < w.heap.size)) qs:=
 wu (P:=bW w (fun b=>p < b∧b < w.heap.size)) (S:=fun b=>p < b∧b < w.heap.size) h.own h.len rfl (fun cs hcs=>by
  obtain ⟨i,hi⟩:=List.getElem?_of_mem hcs;have hl:=(List.getElem?_eq_some_iff.1 hi).1;rw[h.len] at hl;exact (h.kid i qs[i] cs (List.getElem?_eq_getElem hl) hi).length) (fun k x cs h1 h2=>bW.keep (fun b hb=>⟨⟨hb.1,hb.2.1⟩,fun _=>rfl⟩) (h.kid k x cs h1 h2)) (fun z hz=>⟨h.oV z hz,kY h.own hz⟩) (by omega)
theorem mO.form (h:mO g B last p x0 x1 x2 x3 x4 x5 w0 qs css v l w):∃ A c,v = .slice A qs.length c:=by
 rcases h.own.2 with ⟨e,e0⟩ | ⟨z,cap,cur,e,-⟩
 ·exact ⟨_,_,by rw [e,e0]⟩
 ·exact ⟨_,_,e⟩
theorem mO.step_append {P:Program} {lo:Nat} {x:Sx.iK} {cs:List Value} (h:mO g B last p x0 x1 x2 x3 x4 x5 w0 qs css v l w) (hx:bW w (fun b=>lo≤b∧b < w.heap.size) x cs) (hlo:p < lo) (hrow:∀ z,v.ownBlock=some z→z < lo) (gT:qs.length≤64)
  {ops:Array Oper} {o:Oper} {a:Act} {K:Act→World→Prop} {Q:Exit→Act→World→Prop} {E:Prop} (hgd:o.guard=none) (s y:Operand) (t:TypeId)
  (ho:o.op = .call { callee:=.builtin .append,args:=#[s,y],argTypes:=#[t,t] }) (inf:TypeInfo) (z:Value) (ht:P.underlying t=some (.slice 108)) (hi:P.info? 108=some inf) (hz:inf.zero=some z)
  (hsize:inf.size=6) (hby:inf.bytes=88) (hzs:z.cells.size=6) (hs:a.eval s=v) (hy:a.eval y = .slice (some ⟨w.heap.size,0,none⟩) 1 1) (h1:∀ u∈cs,u.oneCell'=true)
  (hK:∀ gg cap w3,w3.cell? ⟨p,6,none⟩=some v→w3.frozen? ⟨p,6,none⟩=false→mO g B last p x0 x1 x2 x3 x4 x5 w0 (qs++[x]) (css++[cs]) (.slice (some ⟨gg,0,none⟩) (qs.length+1) cap) l (w3.setCell ⟨p,6,none⟩ (.slice (some ⟨gg,0,none⟩) (qs.length+1) cap))→K (a.put o.dst (.slice (some ⟨gg,0,none⟩) (qs.length+1) cap)) w3) :
  if Region.wanted o (yielded ops a.tmps)=true then Oper.wp P o a (w.alloc (.cells cs.toArray 108)) K Q else E:=by
 have hpl:=h.st.blk.lt;refine step_append_lies _ hgd s y t ho p 108 inf z 6 88 ht hi hz hsize hby hzs (by omega) v qs.length css.flatten hs (h.own.alloc _) ⟨w.heap.size,0,none⟩ 1 1 cs hy (by rw [hx.length]) (World.news_of_block (cs:=cs.toArray) (t:=108) (fr:=(0,0)) (heap_alloc_new w _)) h1 (by omega) (by unfold maxLen;omega) (by omega) (by simp;omega) (w.heap.size+1) (by simp) ?_;intro gg cap w3 hown hgrow hat hlt;have hG:=h.grow hx hlo hrow ((Below.refl _ _).alloc (Nat.le_refl _) _) hgrow (hat.imp id (fun h=>by omega)) hown;exact hK gg cap w3 hG.1.1 hG.1.2 hG.2
end
theorem Tryz.infoStrT:(Tryz.prog.info? 9).map (fun i=>(i.zero,i.size,i.bytes))=some (some (.string ⟨#[]⟩),1,16):=by kernel_rfl
theorem Tryz.infoIntT:(Tryz.prog.info? 3).map (fun i=>(i.zero,i.size,i.bytes))=some (some (.int .i64 0),1,8):=by kernel_rfl
set_option maxRecDepth 20000 in
set_option maxHeartbeats 40000000 in
theorem U3 (g B:Nat) (l:List Lx.Tok) (last:Int) (w:World) (h:PS g B last l w) (hl:l.length≤1000000) :
  Calls Tryz.prog 162 #[.pointer (some ⟨g,0,none⟩)] w (dH g B last w (q0A w.heap.size) (Sx.take last l)):=by
 obtain ⟨R,hR⟩:∃ R,R=Sx.take last l:=⟨_,rfl⟩
 rw[←hR];obtain ⟨Rest,xw⟩:∃ Rest:List UInt8→Int→List (List UInt8 × Int)→List Lx.Tok→Sx.R Sx.iK,Rest=fun nm cr rs l=>(if Sx.hit 1 Sx.vX l=true then Sx.number last 0 12 l.tail else .ok 1 l).bind fun gr l=>(Sx.sign last 59 (if Sx.hit 1 Sx.dV l=true then l.tail else l)).bind fun _ l'=>.ok ⟨nm,cr,gr,Sx.hit 1 Sx.dV l,rs.map (·.1),rs.map (·.2)⟩ l':=⟨_,rfl⟩
 replace hR:R=(Sx.name last l).bind fun nm l=>(Sx.number last 1 10000 l).bind fun cr l=>(Sx.word last Sx.ku l).bind fun _ l=>(Sx.refs last l.length.succ [] l).bind (Rest nm cr):=by rw [hR,xw];rfl
 have HR:=Lh hR;have Cr:=Lh xw;have hlt:=h.lt;have L:=Lh (jl.start h 108 #[.string ⟨#[]⟩,.int .i64 0,.int .i64 0,.bool false,.slice none 0 0,.slice none 0 0]);obtain ⟨i0,hi0,hz0,hz1,hz2⟩:=info_parts Tryz.infoStrT;obtain ⟨j0,hj0,QH,jz1,QI⟩:=info_parts Tryz.infoIntT;have Hl:=Lh hl;clear h hR xw hl;go_enter Tryz.func162,Tryz.ntmps162;go_wp2_with fail;refine (zq g B l last _ L.out.ps).mono ?_;intro e w1 he
 rcases he.split with ⟨p,x,hv,rfl,hf⟩ | ⟨nm,l1,v,hv,rfl,hV,hs,hf⟩
 ·exact ⟨rfl,dH.aM (Sx.aR HR.out hv) (L.out.fr.trans hf)⟩
 obtain ⟨hV,hnl⟩:=hV;unfold bB at hV;subst hV;replace HR:=Lh (Sx.go_ok HR.out hv);have L1:=Lh (L.out.step hf hs);have Hnl:=Lh hnl;have t1:=Lh (Sx.iC last l _ _ hv);clear hv hs hf he L hnl;go_wp2_with fail;refine (fV g B l1 last 1 10000 _ L1.out.ps).mono ?_;intro e w2 he
 rcases he.split with ⟨p,x,hv,rfl,hf⟩ | ⟨cr,l2,v,hv,rfl,hV,hs,hf⟩
 ·exact ⟨rfl,dH.aM (Sx.aR HR.out hv) (L1.out.fr.trans hf)⟩
 unfold gJ at hV;subst hV;replace HR:=Lh (Sx.go_ok HR.out hv);have L2:=L1.out.step hf hs;have t2:=Lh (Sx.bD last _ _ l1 _ _ hv);have T:Hid (dO g B last w2.heap.size w.heap.size w nm cr (.int .i64 1) (.bool false) (.slice none 0 0) (.slice none 0 0) (.slice none 0 0) (.slice none 0 0) [] [] none none l2 (w2.alloc (.cells #[.string (Lx.bs nm),.int .i64 cr,.int .i64 1,.bool false,.slice none 0 0,.slice none 0 0] 108))):=
  Lh ⟨L2.new _ _,(L2.alloc _).blk,World.ownsRow_nil _ _ _ _,World.ownsRow_nil _ _ _ _,L2.blk.lt,hlt,by simp [Value.ownBlock],by simp [Value.ownBlock],fun b y e=>(by cases e),fun b y e=>(by cases e)⟩
 have hpr:w.heap.size < w2.heap.size:=L2.blk.lt;clear hv hs hf he L1 L2;go_wp2_with fail;refine (FE g B l2 last _ _ T.out.st.ps).mono ?_;intro e w3 he
 rcases he.split with ⟨p,x,hv,rfl,hf⟩ | ⟨u,l3,v,hv,rfl,hV,hs,hf⟩
 ·exact ⟨rfl,dH.aM (Sx.aR HR.out hv) (T.out.st.fr.trans hf)⟩
 unfold fQ at hV;subst hV;replace HR:=Lh (Sx.go_ok HR.out hv);have T3:=Lh (T.out.step hf hs);have t3:=Lh (Sx.bK last _ _ l2 _ _ hv);have hl3:l3.length≤1000000:=by have a:=Hl.out;have b:=t1.out;have c:=t2.out;have d:=t3.out;omega
 have Hl3:=Lh hl3;clear hv hs hf he T t1 t2 t3 hl3 Hl;go_wp2_with fail
 go_loopg [4,5,6] l3.length (fun gk v4 v5 v6 wr=>∃ more rs vN vF l4,v4 = .bool more∧Hid (R=if more=true then (Sx.refs last (gk+1) rs l4).bind (Rest nm cr) else Rest nm cr rs l4)∧Hid (dO g B last w2.heap.size w.heap.size w nm cr (.int .i64 1) (.bool false) vN vF vN vF (rs.map (·.1)) (rs.map (·.2)) none none l4 wr)∧Hid (more=true→l4.length≤gk)∧Hid (rs.length+l4.length≤1000000)∧Hid (∀ r∈rs,r.1.length≤140737488351232))
 case atStart=>exact ⟨true,[],_,_,l3,rfl,HR,T3,Lh (fun _=>Nat.le_refl _),Lh (by have:=Hl3.out;simp;exact this),Lh (by simp)⟩
 case round=>
  clear HR T3;obtain ⟨more,rs,vN,vF,l4,rfl,HR,HT,Hk,yG,Eb⟩:=hrel;cases more with
  | true=>
   replace HR:Hid (R=(Sx.refs last (gk+1) rs l4).bind (Rest nm cr)):=Lh (by rw [HR.out,if_pos rfl]);replace Hk:Hid (l4.length≤gk):=Lh (Hk.out rfl);go_upto_block 1 with fail;go_cut [0,5,6] from 14 to 33 (fun v0 v5 v6 wx=>v0 = .pointer (some ⟨g,0,none⟩)∧∃ XM XO s l5,Hid (Sx.ref last l4 = .ok s l5)∧Hid (s.1.length≤140737488351232)∧Hid (dO g B last w2.heap.size w.heap.size w nm cr (.int .i64 1) (.bool false) XM XO XM XO (rs.map (·.1)++[s.1]) (rs.map (·.2)++[s.2]) none none l5 wx))
   case first=>
    go_wp2_with fail;refine (IB g B l4 last _ HT.out.st.ps).mono ?_;intro e w5 he
    rcases he.split with ⟨p,x,hv,rfl,hf⟩ | ⟨s,l5,v,hv,rfl,hV,hs,hf⟩
    ·exact ⟨rfl,dH.aM (by rw [HR.out,Sx.refs,hv];rfl) (HT.out.st.fr.trans hf)⟩
    obtain ⟨hV,hsl⟩:=hV;unfold bB at hV;subst hV;have Ho:R=(if Sx.hit 3 [44] l5=true then Sx.refs last gk (rs++[s]) l5.tail else .ok (rs++[s]) l5).bind (Rest nm cr):=by rw [HR.out,Sx.refs,hv];rfl
    have rZ:=Lh Ho;have T5:=HT.out.step hf hs;have d4:=T5.st.blk.cell 4;have d5:=T5.st.blk.cell 5;have Ml:=T5.st.blk.free 4;have Iw:=T5.st.blk.free 5;simp at d4 d5;have dl:=T5.st.blk.lt;have HV:=Lh hv;have M0:=Lh (T5.step (w':=w5.drew) (eP.below (Below.refl _ _).drew T5.st.ps.lt) (T5.st.ps.next (Below.refl _ _).drew));have Sy:=Lh hsl;have hrl:(rs.map (·.1)).length≤1000000:=by have:=yG.out;simp;omega
    have hrl2:(rs.map (·.2)).length≤1000000:=by have:=yG.out;simp;omega
    clear hv hs hf he HR Ho T5 HT hsl;go_wp2_with fail
    go_region_law (first
     | (refine Sz.out.Dw hrl rfl _ _ _ rfl i0 _ Tryz.underlying105 hi0 hz0 hz1 hz2 rfl rfl (by first | rfl | exact Eq.trans (show _=Value.slice (some ⟨w5.heap.size+1,0,none⟩) 1 1 from rfl) (by simp)) ?_;intro gg cap w6 MN;have d4:=MN.st.blk.cell 4;have d5:=MN.st.blk.cell 5;have Ml:=MN.st.blk.free 4;have Iw:=MN.st.blk.free 5;have dl:=MN.st.blk.lt;simp at d4 d5;have Tp:=Lh MN;clear MN)
     | (refine (Sz.out.uF s.1).Dw hrl rfl _ _ _ rfl i0 _ Tryz.underlying105 hi0 hz0 hz1 hz2 rfl rfl (by first | rfl | exact Eq.trans (show _=Value.slice (some ⟨w5.heap.size+1,0,none⟩) 1 1 from rfl) (by simp)) ?_;intro gg cap w6 MN;have d4:=MN.st.blk.cell 4;have d5:=MN.st.blk.cell 5;have Ml:=MN.st.blk.free 4;have Iw:=MN.st.blk.free 5;have dl:=MN.st.blk.lt;simp at d4 d5;have Tp:=Lh MN;clear MN)
     | (refine (M0.out.uF s.1).Dw hrl rfl _ _ _ rfl i0 _ Tryz.underlying105 hi0 hz0 hz1 hz2 rfl rfl (by first | rfl | exact Eq.trans (show _=Value.slice (some ⟨w5.heap.size+1,0,none⟩) 1 1 from rfl) (by simp)) ?_;intro gg cap w6 MN;have d4:=MN.st.blk.cell 4;have d5:=MN.st.blk.cell 5;have Ml:=MN.st.blk.free 4;have Iw:=MN.st.blk.free 5;have dl:=MN.st.blk.lt;simp at d4 d5;have Tp:=Lh MN;clear MN)
     | (refine ((M0.out.uF s.1).uG s.2).Dw hrl rfl _ _ _ rfl i0 _ Tryz.underlying105 hi0 hz0 hz1 hz2 rfl rfl (by first | rfl | exact Eq.trans (show _=Value.slice (some ⟨w5.heap.size+1,0,none⟩) 1 1 from rfl) (by simp)) ?_;intro gg cap w6 MN;have d4:=MN.st.blk.cell 4;have d5:=MN.st.blk.cell 5;have Ml:=MN.st.blk.free 4;have Iw:=MN.st.blk.free 5;have dl:=MN.st.blk.lt;simp at d4 d5;have Tp:=Lh MN;clear MN)
     | (refine ((M0.out.uG s.2).uF s.1).Dw hrl rfl _ _ _ rfl i0 _ Tryz.underlying105 hi0 hz0 hz1 hz2 rfl rfl (by first | rfl | exact Eq.trans (show _=Value.slice (some ⟨w5.heap.size+1,0,none⟩) 1 1 from rfl) (by simp)) ?_;intro gg cap w6 MN;have d4:=MN.st.blk.cell 4;have d5:=MN.st.blk.cell 5;have Ml:=MN.st.blk.free 4;have Iw:=MN.st.blk.free 5;have dl:=MN.st.blk.lt;simp at d4 d5;have Tp:=Lh MN;clear MN)
     | (refine Tp.out.qO hrl2 rfl _ _ _ rfl j0 _ Tryz.underlying106 hj0 QH jz1 QI rfl rfl (by first | rfl | exact Eq.trans (show _=Value.slice (some ⟨w5.heap.size+1,0,none⟩) 1 1 from rfl) (by simp)) ?_;intro gg cap w7 MF;have d4:=MF.st.blk.cell 4;have d5:=MF.st.blk.cell 5;have Ml:=MF.st.blk.free 4;have Iw:=MF.st.blk.free 5;have dl:=MF.st.blk.lt;simp at d4 d5;have Sz:=Lh MF;clear MF)
     | (refine (Tp.out.uG s.2).qO hrl2 rfl _ _ _ rfl j0 _ Tryz.underlying106 hj0 QH jz1 QI rfl rfl (by first | rfl | exact Eq.trans (show _=Value.slice (some ⟨w5.heap.size+1,0,none⟩) 1 1 from rfl) (by simp)) ?_;intro gg cap w7 MF;have d4:=MF.st.blk.cell 4;have d5:=MF.st.blk.cell 5;have Ml:=MF.st.blk.free 4;have Iw:=MF.st.blk.free 5;have dl:=MF.st.blk.lt;simp at d4 d5;have Sz:=Lh MF;clear MF)
     | (refine (M0.out.uG s.2).qO hrl2 rfl _ _ _ rfl j0 _ Tryz.underlying106 hj0 QH jz1 QI rfl rfl (by first | rfl | exact Eq.trans (show _=Value.slice (some ⟨w5.heap.size+1,0,none⟩) 1 1 from rfl) (by simp)) ?_;intro gg cap w7 MF;have d4:=MF.st.blk.cell 4;have d5:=MF.st.blk.cell 5;have Ml:=MF.st.blk.free 4;have Iw:=MF.st.blk.free 5;have dl:=MF.st.blk.lt;simp at d4 d5;have Sz:=Lh MF;clear MF)
     | (refine ((M0.out.uG s.2).uF s.1).qO hrl2 rfl _ _ _ rfl j0 _ Tryz.underlying106 hj0 QH jz1 QI rfl rfl (by first | rfl | exact Eq.trans (show _=Value.slice (some ⟨w5.heap.size+1,0,none⟩) 1 1 from rfl) (by simp)) ?_;intro gg cap w7 MF;have d4:=MF.st.blk.cell 4;have d5:=MF.st.blk.cell 5;have Ml:=MF.st.blk.free 4;have Iw:=MF.st.blk.free 5;have dl:=MF.st.blk.lt;simp at d4 d5;have Sz:=Lh MF;clear MF)
     | (refine ((M0.out.uF s.1).uG s.2).qO hrl2 rfl _ _ _ rfl j0 _ Tryz.underlying106 hj0 QH jz1 QI rfl rfl (by first | rfl | exact Eq.trans (show _=Value.slice (some ⟨w5.heap.size+1,0,none⟩) 1 1 from rfl) (by simp)) ?_;intro gg cap w7 MF;have d4:=MF.st.blk.cell 4;have d5:=MF.st.blk.cell 5;have Ml:=MF.st.blk.free 4;have Iw:=MF.st.blk.free 5;have dl:=MF.st.blk.lt;simp at d4 d5;have Sz:=Lh MF;clear MF))
    all_goals (try go_wp2_with fail)
    all_goals go_meet
    all_goals exact ⟨rfl,_,_,s,l5,HV,Sy,Lh (by have h:=Sz.out.store;simp only[List.length_map] at h;exact h)⟩
   case rest=>
    obtain ⟨rfl,XM,XO,s,l5,HV,Sy,T5⟩:=hcut;have Ho:R=(if Sx.hit 3 [44] l5=true then Sx.refs last gk (rs++[s]) l5.tail else .ok (rs++[s]) l5).bind (Rest nm cr):=by rw [HR.out,Sx.refs,HV.out];rfl
    have t5:=Lh (Sx.lG last l4 _ _ HV.out);have rZ:=Lh Ho;clear Ho HV HT HR;go_wp2_with fail;refine (qD g B l5 last _ _ T5.out.st.ps).mono ?_;rw[show (⟨#[44]⟩:ByteArray).data.toList = [44] from rfl];rintro e w6 ⟨rfl,hs,hf⟩;have T6:=Lh (T5.out.step hf hs);have hlen:(if Sx.hit 3 [44] l5=true then l5.tail else l5).length≤l5.length:=by
     split
     ·simp
     ·exact Nat.le_refl _
    have Hlen:=Lh hlen;obtain ⟨l6,SA⟩:∃ l6,l6=(if Sx.hit 3 [44] l5=true then l5.tail else l5):=⟨_,rfl⟩
    rw[←SA] at T6 Hlen;have Ls:R=if Sx.hit 3 [44] l5=true then (Sx.refs last gk (rs++[s]) l6).bind (Rest nm cr) else Rest nm cr (rs++[s]) l6:=by
     rw[rZ.out,SA];cases Sx.hit 3 [44] l5 <;> rfl
    obtain ⟨mo,hmo⟩:∃ mo,mo=Sx.hit 3 [44] l5:=⟨_,rfl⟩
    have V9:mo=true→l6.length+1≤l5.length:=fun e=>by
     rw[hmo] at e;rw[SA,if_pos e];have:=Sx.eT e;omega
    rw[←hmo] at Ls ⊢;have xJ:=Lh Ls;have q0B:=Lh V9;clear hs hf hlen SA Ls hmo V9 rZ T5;go_wp2_with fail
    go_roundg (gk - 1)
    case measure=>have a:=Hk.out;have b:=t5.out;omega
    case rel=>
     have a:=Hk.out;have b:=t5.out;have e1:gk - 1+1=gk:=by omega
     exact ⟨mo,rs++[s],XM,XO,l6,rfl,Lh (by rw [e1];exact xJ.out),Lh (by have h:=T6.out;simpa using h),Lh (fun e=>by have:=q0B.out e;omega),Lh (by have:=yG.out;have:=Hlen.out;simp;omega),Lh (fun r hr=>by
      rcases List.mem_append.1 hr with h1 | h1
      ·exact Eb.out r h1
      ·obtain rfl:r=s:=by simpa using h1
       exact Sy.out)⟩
  | false=>
   replace HR:Hid (R=Rest nm cr rs l4):=Lh (by have:=HR.out;simpa using this);have Ho:=HR.out;rw[Cr.out] at Ho;replace HR:=Lh Ho;clear Ho Cr Hk;go_wp2_with fail;refine (jG g B l4 last _ _ HT.out.st.ps).mono ?_;rw[show (⟨#[97,116]⟩:ByteArray).data.toList=Sx.vX from rfl];rintro e w5 ⟨rfl,hs,hf⟩;have T5:=HT.out.step hf hs;cases hh:Sx.hit 1 Sx.vX l4 with
   | true=>
    rw[hh,if_pos rfl] at T5;have Ls:=HR.out;simp only[hh,if_true] at Ls;have xJ:=Lh Ls;have T6:=Lh T5;clear hs hf hh T5 HT Ls HR;go_wp2_with fail;refine (fV g B l4.tail last 0 12 _ T6.out.st.ps).mono ?_;intro e w6 he
    rcases he.split with ⟨p,x,hv,rfl,hf⟩ | ⟨gr,l6,v,hv,rfl,hV,hs,hf⟩
    ·exact ⟨rfl,dH.aM (Sx.aR xJ.out hv) (T6.out.st.fr.trans hf)⟩
    unfold gJ at hV;subst hV;have HR:=Lh (Sx.go_ok xJ.out hv);have T7:=T6.out.step hf hs;have q2:=T7.st.blk.cell 2;have yA:=T7.st.blk.free 2;simp at q2;have QE:=T7.st.blk.lt;have T:=Lh (T7.q0y (.int .i64 gr));clear hv hs hf he T6 T7 xJ;go_wp2_with fail;refine (jG g B l6 last _ _ T.out.st.ps).mono ?_;rw[show (⟨#[104,111,109,101]⟩:ByteArray).data.toList=Sx.dV from rfl];rintro e w8 ⟨rfl,hs,hf⟩;have T8:=T.out.step hf hs;obtain ⟨hm,hhm⟩:∃ hm,hm=Sx.hit 1 Sx.dV l6:=⟨_,rfl⟩
    obtain ⟨l8,FD⟩:∃ l8,l8=(if Sx.hit 1 Sx.dV l6=true then l6.tail else l6):=⟨_,rfl⟩
    have OJ:=HR.out;rw[←FD] at T8 OJ;rw[←hhm] at OJ ⊢;have vM:=Lh OJ;have q3:=T8.st.blk.cell 3;have sQ:=T8.st.blk.free 3;simp at q3;have WO:=T8.st.blk.lt;have T9:=Lh (T8.setH (.bool hm));clear hs hf T T8 HR OJ FD hhm;go_wp2_with fail;refine (iA g B l8 last 59 _ T9.out.st.ps).mono ?_;intro e w9 he
    rcases he.split with ⟨p,x,hv,rfl,hf⟩ | ⟨_,l9,v,hv,rfl,hV,hs,hf⟩
    ·exact ⟨rfl,dH.aM (Sx.aR vM.out hv) (T9.out.st.fr.trans hf)⟩
    unfold fQ at hV;subst hV;have QW:=Lh (Sx.go_ok vM.out hv);have lK:=T9.out.step hf hs;have gT:=yG.out;obtain ⟨An,cn,Af,cf,eN,eF,rN,rF⟩:=lK.rows (by simp;omega) (by simp;omega) (fun x hx=>by obtain ⟨r,hr,rfl⟩:=List.mem_map.1 hx;exact Eb.out r hr);subst eN;subst eF;have x0:=lK.st.blk.cell 0;have x1:=lK.st.blk.cell 1;have x2:=lK.st.blk.cell 2;have x3:=lK.st.blk.cell 3;have x4:=lK.st.blk.cell 4;have x5:=lK.st.blk.cell 5;simp only[List.length_map] at x4 x5;simp at x0 x1 x2 x3 x4 x5
    have y0:=lK.res.cell 0;have y1:=lK.res.cell 1;have y2:=lK.res.cell 2;have y3:=lK.res.cell 3;have y4:=lK.res.cell 4;have y5:=lK.res.cell 5;simp at y0 y1 y2 y3 y4 y5;have WC:=lK.res.free 0;have WE:=lK.res.free 1;have WG:=lK.res.free 2;have WH:=lK.res.free 3;have Yi:=lK.res.free 4;have Yj:=lK.res.free 5;have Ze:=lK.st.blk.lt;have hr9:=lK.res.lt;have Fb:=Lh lK;have HN:=Lh rN;have HF:=Lh rF;clear hv hs hf he T9 lK vM rN rF gT q3 sQ WO;go_wp2_with fail
    obtain ⟨V,hV⟩:∃ V,V=(((((w9.setCell ⟨w.heap.size,0,none⟩ (.string (Lx.bs nm))).setCell ⟨w.heap.size,1,none⟩ (.int .i64 cr)).setCell ⟨w.heap.size,2,none⟩ (.int .i64 gr)).setCell ⟨w.heap.size,3,none⟩ (.bool hm)).setCell ⟨w.heap.size,4,none⟩ (.slice An rs.length cn)).setCell ⟨w.heap.size,5,none⟩ (.slice Af rs.length cf):=⟨_,rfl⟩
    have hL:jl g B last l9 w.heap.size 108 #[.string (Lx.bs nm),.int .i64 cr,.int .i64 gr,.bool hm,.slice An rs.length cn,.slice Af rs.length cf] w V:=by
     rw[hV];have:=((((((jl.mk Fb.out.st.ps Fb.out.st.fr Fb.out.res (Nat.le_refl _) hlt).set 0 (.string (Lx.bs nm))).set 1 (.int .i64 cr)).set 2 (.int .i64 gr)).set 3 (.bool hm)).set 4 (.slice An rs.length cn)).set 5 (.slice Af rs.length cf);simpa using this
    have tN:V.heap.size=w9.heap.size:=by rw [hV];simp[World.setCell]
    have vI:∀ b,b≠w.heap.size→V.heap[b]?=w9.heap[b]?:=fun b h1=>by
     rw[hV,Below.heap_setCell _ _ _ b h1,Below.heap_setCell _ _ _ b h1,Below.heap_setCell _ _ _ b h1,Below.heap_setCell _ _ _ b h1,Below.heap_setCell _ _ _ b h1,Below.heap_setCell _ _ _ b h1]
    have hkeep:∀ b,w2.heap.size < b∧b < w9.heap.size→(w.heap.size≤b∧b < V.heap.size)∧∀ i,V.cell? ⟨b,i,none⟩=w9.cell? ⟨b,i,none⟩:=fun b hb=>⟨⟨by omega,by rw [tN];exact hb.2⟩,fun i=>World.cell?_of_block (a:=⟨b,i,none⟩) (vI b (by omega))⟩
    have d0:=hL.blk.cell 0;have d1:=hL.blk.cell 1;have d2:=hL.blk.cell 2;have d3:=hL.blk.cell 3;have d4:=hL.blk.cell 4;have d5:=hL.blk.cell 5;simp at d0 d1 d2 d3 d4 d5
    try simp only [Exit.inBlock,Exit.then]
    rw[←hV];clear hV;exact bodyPost_ret (v:=.agg #[.string (Lx.bs nm),.int .i64 cr,.int .i64 gr,.bool hm,.slice An rs.length cn,.slice Af rs.length cf]) (by simp [results,Tryz.results162,go_sem,d0,d1,d2,d3,d4,d5]) rfl (by rw [QW.out];exact ⟨_,rfl,⟨[.string (Lx.bs nm),.int .i64 cr,.int .i64 gr,.bool hm,.slice An rs.length cn,.slice Af rs.length cf],rfl,An,cn,Af,cf,by simp [bB,aT],Hnl.out,HN.out.keep hkeep (fun _ _ _ h=>h),HF.out.keep hkeep (fun _ _ _ h=>h)⟩,hL.ps,hL.fr⟩)
   | false=>
    rw[hh,if_neg (by simp)] at T5;have Ls:=HR.out;simp only[hh,if_false,Bool.false_eq_true,Sx.fU] at Ls;obtain ⟨gr,hgr⟩:∃ gr:Int,gr=1:=⟨_,rfl⟩
    have HR':Hid (R=(Sx.sign last 59 (if Sx.hit 1 Sx.dV l4=true then l4.tail else l4)).bind fun _ l'=>.ok ⟨nm,cr,gr,Sx.hit 1 Sx.dV l4,rs.map (·.1),rs.map (·.2)⟩ l'):=Lh (by rw [Ls,hgr]);have T:Hid (dO g B last w2.heap.size w.heap.size w nm cr (.int .i64 gr) (.bool false) vN vF vN vF (rs.map (·.1)) (rs.map (·.2)) none none l4 w5):=Lh (by rw [hgr];exact T5);clear HR;have HR:=HR';clear HR' hgr;obtain ⟨l6,SA⟩:∃ l6,l6=l4:=⟨_,rfl⟩
    rw[←SA] at HR T;clear hs hf hh T5 HT Ls SA;go_wp2_with fail;refine (jG g B l6 last _ _ T.out.st.ps).mono ?_;rw[show (⟨#[104,111,109,101]⟩:ByteArray).data.toList=Sx.dV from rfl];rintro e w8 ⟨rfl,hs,hf⟩;have T8:=T.out.step hf hs;obtain ⟨hm,hhm⟩:∃ hm,hm=Sx.hit 1 Sx.dV l6:=⟨_,rfl⟩
    obtain ⟨l8,FD⟩:∃ l8,l8=(if Sx.hit 1 Sx.dV l6=true then l6.tail else l6):=⟨_,rfl⟩
    have OJ:=HR.out;rw[←FD] at T8 OJ;rw[←hhm] at OJ ⊢;have vM:=Lh OJ;have q3:=T8.st.blk.cell 3;have sQ:=T8.st.blk.free 3;simp at q3;have WO:=T8.st.blk.lt;have T9:=Lh (T8.setH (.bool hm));clear hs hf T T8 HR OJ FD hhm;go_wp2_with fail;refine (iA g B l8 last 59 _ T9.out.st.ps).mono ?_;intro e w9 he
    rcases he.split with ⟨p,x,hv,rfl,hf⟩ | ⟨_,l9,v,hv,rfl,hV,hs,hf⟩
    ·exact ⟨rfl,dH.aM (Sx.aR vM.out hv) (T9.out.st.fr.trans hf)⟩
    unfold fQ at hV;subst hV;have QW:=Lh (Sx.go_ok vM.out hv);have lK:=T9.out.step hf hs;have gT:=yG.out;obtain ⟨An,cn,Af,cf,eN,eF,rN,rF⟩:=lK.rows (by simp;omega) (by simp;omega) (fun x hx=>by obtain ⟨r,hr,rfl⟩:=List.mem_map.1 hx;exact Eb.out r hr);subst eN;subst eF;have x0:=lK.st.blk.cell 0;have x1:=lK.st.blk.cell 1;have x2:=lK.st.blk.cell 2;have x3:=lK.st.blk.cell 3;have x4:=lK.st.blk.cell 4;have x5:=lK.st.blk.cell 5;simp only[List.length_map] at x4 x5;simp at x0 x1 x2 x3 x4 x5
    have y0:=lK.res.cell 0;have y1:=lK.res.cell 1;have y2:=lK.res.cell 2;have y3:=lK.res.cell 3;have y4:=lK.res.cell 4;have y5:=lK.res.cell 5;simp at y0 y1 y2 y3 y4 y5;have WC:=lK.res.free 0;have WE:=lK.res.free 1;have WG:=lK.res.free 2;have WH:=lK.res.free 3;have Yi:=lK.res.free 4;have Yj:=lK.res.free 5;have Ze:=lK.st.blk.lt;have hr9:=lK.res.lt;have Fb:=Lh lK;have HN:=Lh rN;have HF:=Lh rF;clear hv hs hf he T9 lK vM rN rF gT q3 sQ WO;go_wp2_with fail
    obtain ⟨V,hV⟩:∃ V,V=(((((w9.setCell ⟨w.heap.size,0,none⟩ (.string (Lx.bs nm))).setCell ⟨w.heap.size,1,none⟩ (.int .i64 cr)).setCell ⟨w.heap.size,2,none⟩ (.int .i64 gr)).setCell ⟨w.heap.size,3,none⟩ (.bool hm)).setCell ⟨w.heap.size,4,none⟩ (.slice An rs.length cn)).setCell ⟨w.heap.size,5,none⟩ (.slice Af rs.length cf):=⟨_,rfl⟩
    have hL:jl g B last l9 w.heap.size 108 #[.string (Lx.bs nm),.int .i64 cr,.int .i64 gr,.bool hm,.slice An rs.length cn,.slice Af rs.length cf] w V:=by
     rw[hV];have:=((((((jl.mk Fb.out.st.ps Fb.out.st.fr Fb.out.res (Nat.le_refl _) hlt).set 0 (.string (Lx.bs nm))).set 1 (.int .i64 cr)).set 2 (.int .i64 gr)).set 3 (.bool hm)).set 4 (.slice An rs.length cn)).set 5 (.slice Af rs.length cf);simpa using this
    have tN:V.heap.size=w9.heap.size:=by rw [hV];simp[World.setCell]
    have vI:∀ b,b≠w.heap.size→V.heap[b]?=w9.heap[b]?:=fun b h1=>by
     rw[hV,Below.heap_setCell _ _ _ b h1,Below.heap_setCell _ _ _ b h1,Below.heap_setCell _ _ _ b h1,Below.heap_setCell _ _ _ b h1,Below.heap_setCell _ _ _ b h1,Below.heap_setCell _ _ _ b h1]
    have hkeep:∀ b,w2.heap.size < b∧b < w9.heap.size→(w.heap.size≤b∧b < V.heap.size)∧∀ i,V.cell? ⟨b,i,none⟩=w9.cell? ⟨b,i,none⟩:=fun b hb=>⟨⟨by omega,by rw [tN];exact hb.2⟩,fun i=>World.cell?_of_block (a:=⟨b,i,none⟩) (vI b (by omega))⟩
    have d0:=hL.blk.cell 0;have d1:=hL.blk.cell 1;have d2:=hL.blk.cell 2;have d3:=hL.blk.cell 3;have d4:=hL.blk.cell 4;have d5:=hL.blk.cell 5;simp at d0 d1 d2 d3 d4 d5
    try simp only [Exit.inBlock,Exit.then]
    rw[←hV];clear hV;exact bodyPost_ret (v:=.agg #[.string (Lx.bs nm),.int .i64 cr,.int .i64 gr,.bool hm,.slice An rs.length cn,.slice Af rs.length cf]) (by simp [results,Tryz.results162,go_sem,d0,d1,d2,d3,d4,d5]) rfl (by rw [QW.out];exact ⟨_,rfl,⟨[.string (Lx.bs nm),.int .i64 cr,.int .i64 gr,.bool hm,.slice An rs.length cn,.slice Af rs.length cf],rfl,An,cn,Af,cf,by simp [bB,aT],Hnl.out,HN.out.keep hkeep (fun _ _ _ h=>h),HF.out.keep hkeep (fun _ _ _ h=>h)⟩,hL.ps,hL.fr⟩)
end Go.Proofs.YtjonaidancomgaaGreatDoor
