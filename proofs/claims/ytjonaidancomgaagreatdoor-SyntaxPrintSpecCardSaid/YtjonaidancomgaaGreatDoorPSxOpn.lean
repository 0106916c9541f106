/- Parts of the proof, joined into one text: q1C. -/
import Derived.Test.YtjonaidancomgaaGreatDoorPLxI
import Derived.Test.YtjonaidancomgaaGreatDoorPLxDec
set_option maxRecDepth 100000
namespace Go.Proofs.YtjonaidancomgaaGreatDoor
open Go.RowKit Go.WideShapes Go.ChangeShapes Go.Deep
section
variable {H : Type} {enc : TypeId × Value → H}
def nT (t:TypeId) (d:DataW H):Prop:=∀ k∈d.weights Tryz.prog t,k≤reachBytes
theorem Gc {e:TypeId} {d:DataW H} {k:Nat} : ∀ {ds:List (DataW H)},d∈ds→k∈d.weights Tryz.prog e→k∈DataW.weightsAll Tryz.prog e ds
 | [],h,_=>by simp at h
 | x::r,h,hk=>by
  simp only[DataW.weightsAll,List.mem_append]
  rcases List.mem_cons.1 h with rfl | h
  ·exact .inl hk
  ·exact .inr (Gc h hk)
theorem Dg {d:DataW H} {k:Nat} {u:TypeId} : ∀ {ts:List TypeId} {ds:List (DataW H)} {i:Nat},ts[i]?=some u→ds[i]?=some d→k∈d.weights Tryz.prog u→k∈DataW.weightsEach Tryz.prog ts ds
 | [],_,i,h,_,_=>by simp at h
 | _::_,[],i,_,h,_=>by simp at h
 | a::ts,x::ds,i,h1,h2,hk=>by
  simp only[DataW.weightsEach,List.mem_append];cases i with
  | zero=>
   obtain rfl:a=u:=by simpa using h1
   obtain rfl:x=d:=by simpa using h2
   exact .inl hk
  | succ i=>exact .inr (Dg (i:=i) (by simpa using h1) (by simpa using h2) hk)
theorem eO {t:TypeId} {fs:Array Field} (ht:Tryz.prog.underlying t=some (.struct fs)) {ys:List (DataW H × List MemPlace)} (h:nT t (.agg (ys.map (·.1)))) {i:Nat} {f:Field} {y:DataW H × List MemPlace} (hf:fs[i]?=some f) (hy:ys[i]?=some y):nT f.type y.1:=fun k hk=>by
 refine h k ?_;unfold DataW.weights;rw[ht];refine Dg (i:=i) (u:=f.type) (d:=y.1) ?_ ?_ hk
 ·rw[List.getElem?_map,Array.getElem?_toList,hf];rfl
 ·rw[List.getElem?_map,hy];rfl
theorem Oj {s:List UInt8} (h:nT 9 (.lit (.string s):DataW H)):s.length≤140737488351232:=h _ (by simp [DataW.weights])
theorem gF {t e:TypeId} {W:World} {fuel:Nat} {v:Value} {x:DataW H × List MemPlace} (ht:Tryz.prog.underlying t=some (.slice e)) (h:DataW.trod enc Tryz.prog W 0 (fun _=>true) true fuel t [v]=some x):∃ A n c,v = .slice A n c:=by
 rcases open_slice ht h with ⟨h1,_⟩ | ⟨a,len,cap,m,nf,D,Pl,h1,_⟩
 ·injection h1 with h1;exact ⟨none,0,0,h1⟩
 ·injection h1 with h1;exact ⟨some a,len,cap,h1⟩
theorem KO {t e:TypeId} (sz Jl:Nat) {W:World} {fuel:Nat} {A:Option Addr} {n c:Nat} {x:DataW H × List MemPlace}
  (ht:Tryz.prog.underlying t=some (.slice e)) (hC:Tryz.prog.cellsOf e=sz) (hsz:0 < sz) (hby:Tryz.prog.bytesOf e=Jl) (hb0:0 < Jl)
  (hf:DataW.trod enc Tryz.prog W 0 (fun _=>true) true fuel t [.slice A n c]=some x) (hw:nT t x.1) :
  n≤140737488351232∧∃ m,(0 < n→fuel=m+1)∧∀ k,k < n→∃ b o cs y,A=some ⟨b,o,none⟩∧Old W b∧cs.length=sz∧eZ W b (o+k*sz) cs∧DataW.trod enc Tryz.prog W 0 (fun _=>true) true m e cs=some y∧nT e y.1:=by
 rcases DataW.trod_slice ht hf with ⟨h1,_⟩ | ⟨a,len,cap,elems,rest,m,hfu,h1,hx,hb,hl,hm,hlen,hel,hsp,hns⟩
 ·injection h1 with h1;injection h1 with e1 e2 e3;subst e1;subst e2;subst e3;exact ⟨by omega,0,fun h=>absurd h (by omega),fun k hk=>absurd hk (by omega)⟩
 ·injection h1 with h1;injection h1 with e1 e2 e3;subst e1;subst e2;subst e3;subst hx;unfold nT DataW.weights at hw;rw[ht] at hw;have hhead:=hw _ (List.mem_cons_self ..);rw[hby] at hhead;simp only[List.length_map] at hhead;have hnr:n≤reachBytes:=by
   have h2:n*1≤(elems.length+rest.length)*Jl:=Nat.mul_le_mul (by omega) hb0;omega
  refine ⟨by unfold reachBytes at hnr;omega,m,fun _=>hfu,fun k hk=>?_⟩;have hspot:a.spot=none:=by
   have h1:=hel 0 (by omega);rw[List.getElem?_eq_getElem (by omega)] at h1;obtain ⟨cs,hc,-⟩:=Option.bind_eq_some_iff.1 h1;rw[hC,Nat.zero_mul] at hc;obtain ⟨_,hcl,hat⟩:=World.cells?_some hc;have h00:=hat 0 hsz;obtain ⟨v,hv⟩:∃ v,cs[0]?=some v:=⟨_,List.getElem?_eq_getElem (by omega)⟩
   rw[hv] at h00;exact cell_spot (a:=a) h00
  have h1:=hel k hk;rw[List.getElem?_eq_getElem (by omega)] at h1;obtain ⟨cs,hc,htr⟩:=Option.bind_eq_some_iff.1 h1;rw[hC] at hc;obtain ⟨_,hcl,hat⟩:=World.cells?_some hc;have h00:=hat 0 hsz;obtain ⟨v,hv⟩:∃ v,cs[0]?=some v:=⟨_,List.getElem?_eq_getElem (by omega)⟩
  rw[hv] at h00;obtain ⟨ab,ao,asp⟩:=a;obtain rfl:asp=none:=hspot;rw[oG,oG] at h00;refine ⟨ab,ao,cs,elems[k],rfl,?_,hcl,fun j v hj=>?_,htr,fun q hq=>hw q (List.mem_cons_of_mem _ (List.mem_append_left _ (Gc (List.mem_map.2 ⟨_,List.getElem_mem _,rfl⟩) hq)))⟩
  ·rcases Nat.lt_or_ge ab W.heap.size with h | h
   ·exact h
   ·unfold World.cell? at h00;simp only[Array.getElem?_eq_none h] at h00;cases h00
  ·have hj':j < sz:=by
    have:=(List.getElem?_eq_some_iff.1 hj).1;omega
   have:=hat j hj';rw[oG,oG] at this;rw[this,hj]
theorem open_row {α:Type} {P:α→List Value→Prop} {t e:TypeId} (sz Jl:Nat) {W:World} {fuel:Nat} {A:Option Addr} {n c:Nat} {x:DataW H × List MemPlace}
  (ht:Tryz.prog.underlying t=some (.slice e)) (hC:Tryz.prog.cellsOf e=sz) (hsz:0 < sz) (hby:Tryz.prog.bytesOf e=Jl) (hb0:0 < Jl)
  (hf:DataW.trod enc Tryz.prog W 0 (fun _=>true) true fuel t [.slice A n c]=some x) (hw:nT t x.1) (hel:∀ m cs y,m < fuel→DataW.trod enc Tryz.prog W 0 (fun _=>true) true m e cs=some y→nT e y.1→∃ a,P a cs):∃ l:List α,l.length=n∧Row W (Old W) A sz P l:=by
 obtain ⟨h1,m,h2,h3⟩:=KO sz Jl ht hC hsz hby hb0 hf hw
 rcases Nat.eq_zero_or_pos n with h0 | h0
 ·subst h0;exact ⟨[],rfl,Row.nil _ _ _ _ _⟩
 have hfu:=h2 h0;have hch:∀ k:Fin n,∃ a:α,∃ b o cs,A=some ⟨b,o,none⟩∧Old W b∧P a cs∧eZ W b (o+k.1*sz) cs:=fun k=>by
  obtain ⟨b,o,cs,y,k1,k2,k3,k4,k5,k6⟩:=h3 k.1 k.2;obtain ⟨a,ha⟩:=hel m cs y (by omega) k5 k6;exact ⟨a,b,o,cs,k1,k2,ha,k4⟩
 obtain ⟨T,hT⟩:=Classical.axiomOfChoice hch;refine ⟨List.ofFn T,by simp,⟨fun k a hk=>?_,by simpa using h1⟩⟩;obtain ⟨hkn,rfl⟩:=List.getElem?_eq_some_iff.1 hk;rw[List.getElem_ofFn];exact hT ⟨k,by simpa using hkn⟩
theorem Bo {W:World} (m:Nat) (cs:List Value) (y:DataW H × List MemPlace) (h:DataW.trod enc Tryz.prog W 0 (fun _=>true) true m 9 cs=some y) (hw:nT 9 y.1):∃ a,qM a cs:=by
 obtain ⟨s,e1,e2,_⟩:=DataW.trod_string Tryz.underlying9 h;subst e1;subst e2;exact ⟨s.data.toList,by unfold bB;rw[Lx.BP],Oj hw⟩
theorem ZT {W:World} (m:Nat) (cs:List Value) (y:DataW H × List MemPlace) (h:DataW.trod enc Tryz.prog W 0 (fun _=>true) true m 3 cs=some y):∃ a,lT aT a cs:=by
 obtain ⟨s,e1,e2,_⟩:=DataW.trod_int Tryz.underlying3 h;subst e1;exact ⟨s,rfl⟩
theorem Dh {W:World} (m:Nat) (cs:List Value) (y:DataW H × List MemPlace) (h:DataW.trod enc Tryz.prog W 0 (fun _=>true) true m 75 cs=some y):∃ a:Sx.bL,cs = [aT a.num,aT a.den]:=by
 obtain ⟨y0,y1,n,rfl,hl,h0,h1⟩:=trod_struct2 Tryz.underlying75 h;rw[show Tryz.prog.cellsOf 75=2 by kernel_rfl] at hl;simp only[show Tryz.prog.cellsOf 3=1 by kernel_rfl] at h0 h1;obtain ⟨b,e1,-,-⟩:=DataW.trod_int Tryz.underlying3 h0;obtain ⟨z,e3,-,-⟩:=DataW.trod_int Tryz.underlying3 h1
 match cs,hl,e1,e3 with
 | [u,v],_,e1,e3=>
  simp at e1 e3;subst e1;subst e3;exact ⟨⟨b,z⟩,rfl⟩
theorem Bp {W:World} : ∀ (m:Nat) (cs:List Value) (y:DataW H × List MemPlace),DataW.trod enc Tryz.prog W 0 (fun _=>true) true m 38 cs=some y→nT 38 y.1→∃ a,aB W (Old W) a cs:=by
 intro m
 induction m using Nat.strongRecOn with
 | ind m ih=>
 intro cs y h hw;obtain ⟨ys,n,hmn,rfl,hl,hyl,hf⟩:=DataW.trod_struct Tryz.underlying38 h;rw[show Tryz.prog.cellsOf 38=6 by kernel_rfl] at hl;have h0 := hf 0 ⟨"Op", 3, 0, false, "", "", 0⟩ rfl
 have h1 := hf 1 ⟨"Course", 3, 1, false, "", "", 8⟩ rfl
 have h2 := hf 2 ⟨"Name", 9, 2, false, "", "", 16⟩ rfl
 have h3 := hf 3 ⟨"N", 3, 3, false, "", "", 32⟩ rfl
 have h4 := hf 4 ⟨"D", 3, 4, false, "", "", 40⟩ rfl
 have h5 := hf 5 ⟨"Kids", 36, 5, false, "", "", 48⟩ rfl
 simp only[show Tryz.prog.cellsOf 3=1 by kernel_rfl,show Tryz.prog.cellsOf 9=1 by kernel_rfl,show Tryz.prog.cellsOf 36=1 by kernel_rfl] at h0 h1 h2 h3 h4 h5
 match ys,hyl,hw,h0,h1,h2,h3,h4,h5 with
 | [y0,y1,y2,y3,y4,y5],_,hw,h0,h1,h2,h3,h4,h5=>
  simp only[List.getElem?_cons_zero,List.getElem?_cons_succ] at h0 h1 h2 h3 h4 h5;have w2 : nT 9 y2.1 := eO Tryz.underlying38 hw (i := 2) (f := ⟨"Name", 9, 2, false, "", "", 16⟩) rfl rfl
  have w5 : nT 36 y5.1 := eO Tryz.underlying38 hw (i := 5) (f := ⟨"Kids", 36, 5, false, "", "", 48⟩) rfl rfl
  match cs,hl,h0,h1,h2,h3,h4,h5 with
  | [c0,c1,c2,c3,c4,c5],_,h0,h1,h2,h3,h4,h5=>
   simp only[List.drop_zero,List.drop_succ_cons,List.take_succ_cons,List.take_zero] at h0 h1 h2 h3 h4 h5;obtain ⟨z0,e0,-,-⟩:=DataW.trod_int Tryz.underlying3 h0;obtain rfl:c0=_:=by simpa using e0
   obtain ⟨z1,e1,-,-⟩:=DataW.trod_int Tryz.underlying3 h1;obtain rfl:c1=_:=by simpa using e1
   obtain ⟨z2,e2⟩:=Bo _ _ _ h2 w2;obtain ⟨e2,l2⟩:=e2;obtain rfl:c2=_:=by simpa using e2
   obtain ⟨z3,e3,-,-⟩:=DataW.trod_int Tryz.underlying3 h3;obtain rfl:c3=_:=by simpa using e3
   obtain ⟨z4,e4,-,-⟩:=DataW.trod_int Tryz.underlying3 h4;obtain rfl:c4=_:=by simpa using e4
   obtain ⟨A5,n5,k5,rfl⟩:=gF Tryz.underlying36 h5;obtain ⟨z5,rfl,e5⟩:=open_row (P:=aB W (Old W)) 6 72 Tryz.underlying36 (by kernel_rfl) (by omega) (by kernel_rfl) (by omega) h5 w5 (fun m' cs y hm hy hwy=>ih m' (by omega) cs y hy hwy);exact ⟨.mk z0 z1 z2 z3 z4 z5,by rw [aB];exact ⟨A5,k5,rfl,l2,e5.len,kZ.2 e5.at_⟩⟩
theorem IG {W:World} (m:Nat) (cs:List Value) (y:DataW H × List MemPlace) (h:DataW.trod enc Tryz.prog W 0 (fun _=>true) true m 58 cs=some y) (hw:nT 58 y.1):∃ a,aV W (Old W) a cs:=by
 obtain ⟨ys,n,hmn,rfl,hl,hyl,hf⟩:=DataW.trod_struct Tryz.underlying58 h;rw[show Tryz.prog.cellsOf 58=16 by kernel_rfl] at hl;have h0 := hf 0 ⟨"Name", 9, 0, false, "", "", 0⟩ rfl
 have h1 := hf 1 ⟨"Number", 3, 1, false, "", "", 16⟩ rfl
 have h2 := hf 2 ⟨"Credits", 3, 2, false, "", "", 24⟩ rfl
 have h3 := hf 3 ⟨"Repeat", 3, 3, false, "", "", 32⟩ rfl
 have h4 := hf 4 ⟨"Need", 38, 4, false, "", "", 40⟩ rfl
 have h5 := hf 5 ⟨"Bar", 38, 10, false, "", "", 112⟩ rfl
 simp only[show Tryz.prog.cellsOf 9=1 by kernel_rfl,show Tryz.prog.cellsOf 3=1 by kernel_rfl,show Tryz.prog.cellsOf 38=6 by kernel_rfl] at h0 h1 h2 h3 h4 h5
 match ys,hyl,hw,h0,h1,h2,h3,h4,h5 with
 | [y0,y1,y2,y3,y4,y5],_,hw,h0,h1,h2,h3,h4,h5=>
  simp only[List.getElem?_cons_zero,List.getElem?_cons_succ] at h0 h1 h2 h3 h4 h5;have w0 : nT 9 y0.1 := eO Tryz.underlying58 hw (i := 0) (f := ⟨"Name", 9, 0, false, "", "", 0⟩) rfl rfl
  have w4 : nT 38 y4.1 := eO Tryz.underlying58 hw (i := 4) (f := ⟨"Need", 38, 4, false, "", "", 40⟩) rfl rfl
  have w5 : nT 38 y5.1 := eO Tryz.underlying58 hw (i := 5) (f := ⟨"Bar", 38, 10, false, "", "", 112⟩) rfl rfl
  match cs,hl,h0,h1,h2,h3,h4,h5 with
  | [c0,c1,c2,c3,c4,c5,c6,c7,c8,c9,c10,c11,c12,c13,c14,c15],_,h0,h1,h2,h3,h4,h5=>
   simp only[List.drop_zero,List.drop_succ_cons,List.take_succ_cons,List.take_zero] at h0 h1 h2 h3 h4 h5;obtain ⟨z0,e0⟩:=Bo _ _ _ h0 w0;obtain ⟨e0,l0⟩:=e0;obtain rfl:c0=_:=by simpa using e0
   obtain ⟨z1,e1,-,-⟩:=DataW.trod_int Tryz.underlying3 h1;obtain rfl:c1=_:=by simpa using e1
   obtain ⟨z2,e2,-,-⟩:=DataW.trod_int Tryz.underlying3 h2;obtain rfl:c2=_:=by simpa using e2
   obtain ⟨z3,e3,-,-⟩:=DataW.trod_int Tryz.underlying3 h3;obtain rfl:c3=_:=by simpa using e3
   obtain ⟨z4,e4⟩:=Bp _ _ _ h4 w4;obtain ⟨z5,e5⟩:=Bp _ _ _ h5 w5;exact ⟨⟨z0,z1,z2,z3,z4,z5⟩,_,_,rfl,l0,e4,e5⟩
theorem Ol {W:World} (m:Nat) (cs:List Value) (y:DataW H × List MemPlace) (h:DataW.trod enc Tryz.prog W 0 (fun _=>true) true m 71 cs=some y) (hw:nT 71 y.1):∃ a,fq a cs:=by
 obtain ⟨ys,n,hmn,rfl,hl,hyl,hf⟩:=DataW.trod_struct Tryz.underlying71 h;rw[show Tryz.prog.cellsOf 71=4 by kernel_rfl] at hl;have h0 := hf 0 ⟨"A", 9, 0, false, "", "", 0⟩ rfl
 have h1 := hf 1 ⟨"B", 9, 1, false, "", "", 16⟩ rfl
 have h2 := hf 2 ⟨"X", 3, 2, false, "", "", 32⟩ rfl
 have h3 := hf 3 ⟨"Y", 3, 3, false, "", "", 40⟩ rfl
 simp only[show Tryz.prog.cellsOf 9=1 by kernel_rfl,show Tryz.prog.cellsOf 3=1 by kernel_rfl] at h0 h1 h2 h3
 match ys,hyl,hw,h0,h1,h2,h3 with
 | [y0,y1,y2,y3],_,hw,h0,h1,h2,h3=>
  simp only[List.getElem?_cons_zero,List.getElem?_cons_succ] at h0 h1 h2 h3;have w0 : nT 9 y0.1 := eO Tryz.underlying71 hw (i := 0) (f := ⟨"A", 9, 0, false, "", "", 0⟩) rfl rfl
  have w1 : nT 9 y1.1 := eO Tryz.underlying71 hw (i := 1) (f := ⟨"B", 9, 1, false, "", "", 16⟩) rfl rfl
  match cs,hl,h0,h1,h2,h3 with
  | [c0,c1,c2,c3],_,h0,h1,h2,h3=>
   simp only[List.drop_zero,List.drop_succ_cons,List.take_succ_cons,List.take_zero] at h0 h1 h2 h3;obtain ⟨z0,e0⟩:=Bo _ _ _ h0 w0;obtain ⟨e0,l0⟩:=e0;obtain rfl:c0=_:=by simpa using e0
   obtain ⟨z1,e1⟩:=Bo _ _ _ h1 w1;obtain ⟨e1,l1⟩:=e1;obtain rfl:c1=_:=by simpa using e1
   obtain ⟨z2,e2,-,-⟩:=DataW.trod_int Tryz.underlying3 h2;obtain rfl:c2=_:=by simpa using e2
   obtain ⟨z3,e3,-,-⟩:=DataW.trod_int Tryz.underlying3 h3;obtain rfl:c3=_:=by simpa using e3
   exact ⟨⟨z0,z1,z2,z3⟩,rfl,l0,l1⟩
theorem Ro {W:World} (m:Nat) (cs:List Value) (y:DataW H × List MemPlace) (h:DataW.trod enc Tryz.prog W 0 (fun _=>true) true m 108 cs=some y) (hw:nT 108 y.1):∃ a,bW W (Old W) a cs:=by
 obtain ⟨ys,n,hmn,rfl,hl,hyl,hf⟩:=DataW.trod_struct Tryz.underlying108 h;rw[show Tryz.prog.cellsOf 108=6 by kernel_rfl] at hl;have h0 := hf 0 ⟨"Name", 9, 0, false, "", "", 0⟩ rfl
 have h1 := hf 1 ⟨"Credits", 3, 1, false, "", "", 16⟩ rfl
 have h2 := hf 2 ⟨"Grade", 3, 2, false, "", "", 24⟩ rfl
 have h3 := hf 3 ⟨"Home", 4, 3, false, "", "", 32⟩ rfl
 have h4 := hf 4 ⟨"Names", 105, 4, false, "", "", 40⟩ rfl
 have h5 := hf 5 ⟨"From", 106, 5, false, "", "", 64⟩ rfl
 simp only[show Tryz.prog.cellsOf 9=1 by kernel_rfl,show Tryz.prog.cellsOf 3=1 by kernel_rfl,show Tryz.prog.cellsOf 4=1 by kernel_rfl,show Tryz.prog.cellsOf 105=1 by kernel_rfl,show Tryz.prog.cellsOf 106=1 by kernel_rfl] at h0 h1 h2 h3 h4 h5
 match ys,hyl,hw,h0,h1,h2,h3,h4,h5 with
 | [y0,y1,y2,y3,y4,y5],_,hw,h0,h1,h2,h3,h4,h5=>
  simp only[List.getElem?_cons_zero,List.getElem?_cons_succ] at h0 h1 h2 h3 h4 h5;have w0 : nT 9 y0.1 := eO Tryz.underlying108 hw (i := 0) (f := ⟨"Name", 9, 0, false, "", "", 0⟩) rfl rfl
  have w4 : nT 105 y4.1 := eO Tryz.underlying108 hw (i := 4) (f := ⟨"Names", 105, 4, false, "", "", 40⟩) rfl rfl
  have w5 : nT 106 y5.1 := eO Tryz.underlying108 hw (i := 5) (f := ⟨"From", 106, 5, false, "", "", 64⟩) rfl rfl
  match cs,hl,h0,h1,h2,h3,h4,h5 with
  | [c0,c1,c2,c3,c4,c5],_,h0,h1,h2,h3,h4,h5=>
   simp only[List.drop_zero,List.drop_succ_cons,List.take_succ_cons,List.take_zero] at h0 h1 h2 h3 h4 h5;obtain ⟨z0,e0⟩:=Bo _ _ _ h0 w0;obtain ⟨e0,l0⟩:=e0;obtain rfl:c0=_:=by simpa using e0
   obtain ⟨z1,e1,-,-⟩:=DataW.trod_int Tryz.underlying3 h1;obtain rfl:c1=_:=by simpa using e1
   obtain ⟨z2,e2,-,-⟩:=DataW.trod_int Tryz.underlying3 h2;obtain rfl:c2=_:=by simpa using e2
   obtain ⟨z3,e3,-⟩:=DataW.trod_bool Tryz.underlying4 h3;obtain rfl:c3=_:=by simpa using e3
   obtain ⟨A4,n4,k4,rfl⟩:=gF Tryz.underlying105 h4;obtain ⟨z4,rfl,e4⟩:=open_row (P:=qM) 1 16 Tryz.underlying105 (by kernel_rfl) (by omega) (by kernel_rfl) (by omega) h4 w4 (fun m cs y _=>Bo m cs y);obtain ⟨A5,n5,k5,rfl⟩:=gF Tryz.underlying106 h5;obtain ⟨z5,rfl,e5⟩:=open_row (P:=(lT aT)) 1 8 Tryz.underlying106 (by kernel_rfl) (by omega) (by kernel_rfl) (by omega) h5 w5 (fun m cs y _ h _=>ZT m cs y h);exact ⟨⟨z0,z1,z2,z3,z4,z5⟩,A4,k4,A5,k5,rfl,l0,e4,e5⟩
theorem Om {W:World} (m:Nat) (cs:List Value) (y:DataW H × List MemPlace) (h:DataW.trod enc Tryz.prog W 0 (fun _=>true) true m 78 cs=some y) (hw:nT 78 y.1):∃ a,bS W (Old W) a cs:=by
 obtain ⟨ys,n,hmn,rfl,hl,hyl,hf⟩:=DataW.trod_struct Tryz.underlying78 h;rw[show Tryz.prog.cellsOf 78=7 by kernel_rfl] at hl;have h0 := hf 0 ⟨"Name", 9, 0, false, "", "", 0⟩ rfl
 have h1 := hf 1 ⟨"Number", 3, 1, false, "", "", 16⟩ rfl
 have h2 := hf 2 ⟨"Uses", 3, 2, false, "", "", 24⟩ rfl
 have h3 := hf 3 ⟨"Earn", 3, 3, false, "", "", 32⟩ rfl
 have h4 := hf 4 ⟨"Mean", 75, 4, false, "", "", 40⟩ rfl
 have h5 := hf 5 ⟨"Requirements", 76, 6, false, "", "", 56⟩ rfl
 simp only[show Tryz.prog.cellsOf 9=1 by kernel_rfl,show Tryz.prog.cellsOf 3=1 by kernel_rfl,show Tryz.prog.cellsOf 75=2 by kernel_rfl,show Tryz.prog.cellsOf 76=1 by kernel_rfl] at h0 h1 h2 h3 h4 h5
 match ys,hyl,hw,h0,h1,h2,h3,h4,h5 with
 | [y0,y1,y2,y3,y4,y5],_,hw,h0,h1,h2,h3,h4,h5=>
  simp only[List.getElem?_cons_zero,List.getElem?_cons_succ] at h0 h1 h2 h3 h4 h5;have w0 : nT 9 y0.1 := eO Tryz.underlying78 hw (i := 0) (f := ⟨"Name", 9, 0, false, "", "", 0⟩) rfl rfl
  have w5 : nT 76 y5.1 := eO Tryz.underlying78 hw (i := 5) (f := ⟨"Requirements", 76, 6, false, "", "", 56⟩) rfl rfl
  match cs,hl,h0,h1,h2,h3,h4,h5 with
  | [c0,c1,c2,c3,c4,c5,c6],_,h0,h1,h2,h3,h4,h5=>
   simp only[List.drop_zero,List.drop_succ_cons,List.take_succ_cons,List.take_zero] at h0 h1 h2 h3 h4 h5;obtain ⟨z0,e0⟩:=Bo _ _ _ h0 w0;obtain ⟨e0,l0⟩:=e0;obtain rfl:c0=_:=by simpa using e0
   obtain ⟨z1,e1,-,-⟩:=DataW.trod_int Tryz.underlying3 h1;obtain rfl:c1=_:=by simpa using e1
   obtain ⟨z2,e2,-,-⟩:=DataW.trod_int Tryz.underlying3 h2;obtain rfl:c2=_:=by simpa using e2
   obtain ⟨z3,e3,-,-⟩:=DataW.trod_int Tryz.underlying3 h3;obtain rfl:c3=_:=by simpa using e3
   obtain ⟨z4,e4⟩:=Dh _ _ _ h4;obtain ⟨rfl,rfl⟩:c4=_∧c5=_:=by simpa using e4
   obtain ⟨A5,n5,k5,rfl⟩:=gF Tryz.underlying76 h5;obtain ⟨z5,rfl,e5⟩:=open_row (P:=(bW W (Old W))) 6 88 Tryz.underlying76 (by kernel_rfl) (by omega) (by kernel_rfl) (by omega) h5 w5 (fun m cs y _=>Ro m cs y);exact ⟨⟨z0,z1,z2,z3,z4,z5⟩,A5,k5,rfl,l0,e5⟩
theorem KQ {W:World} (m:Nat) (cs:List Value) (y:DataW H × List MemPlace) (h:DataW.trod enc Tryz.prog W 0 (fun _=>true) true m 82 cs=some y) (hw:nT 82 y.1):∃ a,eu a cs:=by
 obtain ⟨ys,n,hmn,rfl,hl,hyl,hf⟩:=DataW.trod_struct Tryz.underlying82 h;rw[show Tryz.prog.cellsOf 82=4 by kernel_rfl] at hl;have h0 := hf 0 ⟨"Name", 9, 0, false, "", "", 0⟩ rfl
 have h1 := hf 1 ⟨"Earn", 3, 1, false, "", "", 16⟩ rfl
 have h2 := hf 2 ⟨"Mean", 75, 2, false, "", "", 24⟩ rfl
 simp only[show Tryz.prog.cellsOf 9=1 by kernel_rfl,show Tryz.prog.cellsOf 3=1 by kernel_rfl,show Tryz.prog.cellsOf 75=2 by kernel_rfl] at h0 h1 h2
 match ys,hyl,hw,h0,h1,h2 with
 | [y0,y1,y2],_,hw,h0,h1,h2=>
  simp only[List.getElem?_cons_zero,List.getElem?_cons_succ] at h0 h1 h2;have w0 : nT 9 y0.1 := eO Tryz.underlying82 hw (i := 0) (f := ⟨"Name", 9, 0, false, "", "", 0⟩) rfl rfl
  match cs,hl,h0,h1,h2 with
  | [c0,c1,c2,c3],_,h0,h1,h2=>
   simp only[List.drop_zero,List.drop_succ_cons,List.take_succ_cons,List.take_zero] at h0 h1 h2;obtain ⟨z0,e0⟩:=Bo _ _ _ h0 w0;obtain ⟨e0,l0⟩:=e0;obtain rfl:c0=_:=by simpa using e0
   obtain ⟨z1,e1,-,-⟩:=DataW.trod_int Tryz.underlying3 h1;obtain rfl:c1=_:=by simpa using e1
   obtain ⟨z2,e2⟩:=Dh _ _ _ h2;obtain ⟨rfl,rfl⟩:c2=_∧c3=_:=by simpa using e2
   exact ⟨⟨z0,z1,z2⟩,rfl,l0⟩
theorem Rp {W:World} (m:Nat) (cs:List Value) (y:DataW H × List MemPlace) (h:DataW.trod enc Tryz.prog W 0 (fun _=>true) true m 86 cs=some y) (hw:nT 86 y.1):∃ a,gG a cs:=by
 obtain ⟨ys,n,hmn,rfl,hl,hyl,hf⟩:=DataW.trod_struct Tryz.underlying86 h;rw[show Tryz.prog.cellsOf 86=2 by kernel_rfl] at hl;have h0 := hf 0 ⟨"Name", 9, 0, false, "", "", 0⟩ rfl
 have h1 := hf 1 ⟨"Credits", 3, 1, false, "", "", 16⟩ rfl
 simp only[show Tryz.prog.cellsOf 9=1 by kernel_rfl,show Tryz.prog.cellsOf 3=1 by kernel_rfl] at h0 h1
 match ys,hyl,hw,h0,h1 with
 | [y0,y1],_,hw,h0,h1=>
  simp only[List.getElem?_cons_zero,List.getElem?_cons_succ] at h0 h1;have w0 : nT 9 y0.1 := eO Tryz.underlying86 hw (i := 0) (f := ⟨"Name", 9, 0, false, "", "", 0⟩) rfl rfl
  match cs,hl,h0,h1 with
  | [c0,c1],_,h0,h1=>
   simp only[List.drop_zero,List.drop_succ_cons,List.take_succ_cons,List.take_zero] at h0 h1;obtain ⟨z0,e0⟩:=Bo _ _ _ h0 w0;obtain ⟨e0,l0⟩:=e0;obtain rfl:c0=_:=by simpa using e0
   obtain ⟨z1,e1,-,-⟩:=DataW.trod_int Tryz.underlying3 h1;obtain rfl:c1=_:=by simpa using e1
   exact ⟨⟨z0,z1⟩,rfl,l0⟩
theorem II {W:World} (m:Nat) (cs:List Value) (y:DataW H × List MemPlace) (h:DataW.trod enc Tryz.prog W 0 (fun _=>true) true m 90 cs=some y) (hw:nT 90 y.1):∃ a,bH a cs:=by
 obtain ⟨ys,n,hmn,rfl,hl,hyl,hf⟩:=DataW.trod_struct Tryz.underlying90 h;rw[show Tryz.prog.cellsOf 90=4 by kernel_rfl] at hl;have h0 := hf 0 ⟨"Kind", 3, 0, false, "", "", 0⟩ rfl
 have h1 := hf 1 ⟨"When", 3, 1, false, "", "", 8⟩ rfl
 have h2 := hf 2 ⟨"Action", 3, 2, false, "", "", 16⟩ rfl
 have h3 := hf 3 ⟨"Until", 3, 3, false, "", "", 24⟩ rfl
 simp only[show Tryz.prog.cellsOf 3=1 by kernel_rfl] at h0 h1 h2 h3
 match ys,hyl,hw,h0,h1,h2,h3 with
 | [y0,y1,y2,y3],_,hw,h0,h1,h2,h3=>
  simp only[List.getElem?_cons_zero,List.getElem?_cons_succ] at h0 h1 h2 h3
  match cs,hl,h0,h1,h2,h3 with
  | [c0,c1,c2,c3],_,h0,h1,h2,h3=>
   simp only[List.drop_zero,List.drop_succ_cons,List.take_succ_cons,List.take_zero] at h0 h1 h2 h3;obtain ⟨z0,e0,-,-⟩:=DataW.trod_int Tryz.underlying3 h0;obtain rfl:c0=_:=by simpa using e0
   obtain ⟨z1,e1,-,-⟩:=DataW.trod_int Tryz.underlying3 h1;obtain rfl:c1=_:=by simpa using e1
   obtain ⟨z2,e2,-,-⟩:=DataW.trod_int Tryz.underlying3 h2;obtain rfl:c2=_:=by simpa using e2
   obtain ⟨z3,e3,-,-⟩:=DataW.trod_int Tryz.underlying3 h3;obtain rfl:c3=_:=by simpa using e3
   exact ⟨⟨z0,z1,z2,z3⟩,rfl⟩
theorem Rq {W:World} (m:Nat) (cs:List Value) (y:DataW H × List MemPlace) (h:DataW.trod enc Tryz.prog W 0 (fun _=>true) true m 30 cs=some y) (hw:nT 30 y.1):∃ a,bE W (Old W) a cs:=by
 obtain ⟨ys,n,hmn,rfl,hl,hyl,hf⟩:=DataW.trod_struct Tryz.underlying30 h;rw[show Tryz.prog.cellsOf 30=7 by kernel_rfl] at hl;have h0 := hf 0 ⟨"Courses", 23, 0, false, "", "", 0⟩ rfl
 have h1 := hf 1 ⟨"Same", 24, 1, false, "", "", 24⟩ rfl
 have h2 := hf 2 ⟨"Programmes", 25, 2, false, "", "", 48⟩ rfl
 have h3 := hf 3 ⟨"Classes", 26, 3, false, "", "", 72⟩ rfl
 have h4 := hf 4 ⟨"Fees", 27, 4, false, "", "", 96⟩ rfl
 have h5 := hf 5 ⟨"Honours", 26, 5, false, "", "", 120⟩ rfl
 have h6 := hf 6 ⟨"Clauses", 28, 6, false, "", "", 144⟩ rfl
 simp only[show Tryz.prog.cellsOf 23=1 by kernel_rfl,show Tryz.prog.cellsOf 24=1 by kernel_rfl,show Tryz.prog.cellsOf 25=1 by kernel_rfl,show Tryz.prog.cellsOf 26=1 by kernel_rfl,show Tryz.prog.cellsOf 27=1 by kernel_rfl,show Tryz.prog.cellsOf 28=1 by kernel_rfl] at h0 h1 h2 h3 h4 h5 h6
 match ys,hyl,hw,h0,h1,h2,h3,h4,h5,h6 with
 | [y0,y1,y2,y3,y4,y5,y6],_,hw,h0,h1,h2,h3,h4,h5,h6=>
  simp only[List.getElem?_cons_zero,List.getElem?_cons_succ] at h0 h1 h2 h3 h4 h5 h6;have w0 : nT 23 y0.1 := eO Tryz.underlying30 hw (i := 0) (f := ⟨"Courses", 23, 0, false, "", "", 0⟩) rfl rfl
  have w1 : nT 24 y1.1 := eO Tryz.underlying30 hw (i := 1) (f := ⟨"Same", 24, 1, false, "", "", 24⟩) rfl rfl
  have w2 : nT 25 y2.1 := eO Tryz.underlying30 hw (i := 2) (f := ⟨"Programmes", 25, 2, false, "", "", 48⟩) rfl rfl
  have w3 : nT 26 y3.1 := eO Tryz.underlying30 hw (i := 3) (f := ⟨"Classes", 26, 3, false, "", "", 72⟩) rfl rfl
  have w4 : nT 27 y4.1 := eO Tryz.underlying30 hw (i := 4) (f := ⟨"Fees", 27, 4, false, "", "", 96⟩) rfl rfl
  have w5 : nT 26 y5.1 := eO Tryz.underlying30 hw (i := 5) (f := ⟨"Honours", 26, 5, false, "", "", 120⟩) rfl rfl
  have w6 : nT 28 y6.1 := eO Tryz.underlying30 hw (i := 6) (f := ⟨"Clauses", 28, 6, false, "", "", 144⟩) rfl rfl
  match cs,hl,h0,h1,h2,h3,h4,h5,h6 with
  | [c0,c1,c2,c3,c4,c5,c6],_,h0,h1,h2,h3,h4,h5,h6=>
   simp only[List.drop_zero,List.drop_succ_cons,List.take_succ_cons,List.take_zero] at h0 h1 h2 h3 h4 h5 h6;obtain ⟨A0,n0,k0,rfl⟩:=gF Tryz.underlying23 h0;obtain ⟨z0,rfl,e0⟩:=open_row (P:=(aV W (Old W))) 16 184 Tryz.underlying23 (by kernel_rfl) (by omega) (by kernel_rfl) (by omega) h0 w0 (fun m cs y _=>IG m cs y);obtain ⟨A1,n1,k1,rfl⟩:=gF Tryz.underlying24 h1;obtain ⟨z1,rfl,e1⟩:=open_row (P:=fq) 4 48 Tryz.underlying24 (by kernel_rfl) (by omega) (by kernel_rfl) (by omega) h1 w1 (fun m cs y _=>Ol m cs y);obtain ⟨A2,n2,k2,rfl⟩:=gF Tryz.underlying25 h2
   obtain ⟨z2,rfl,e2⟩:=open_row (P:=(bS W (Old W))) 7 80 Tryz.underlying25 (by kernel_rfl) (by omega) (by kernel_rfl) (by omega) h2 w2 (fun m cs y _=>Om m cs y);obtain ⟨A3,n3,k3,rfl⟩:=gF Tryz.underlying26 h3;obtain ⟨z3,rfl,e3⟩:=open_row (P:=eu) 4 40 Tryz.underlying26 (by kernel_rfl) (by omega) (by kernel_rfl) (by omega) h3 w3 (fun m cs y _=>KQ m cs y);obtain ⟨A4,n4,k4,rfl⟩:=gF Tryz.underlying27 h4;obtain ⟨z4,rfl,e4⟩:=open_row (P:=gG) 2 24 Tryz.underlying27 (by kernel_rfl) (by omega) (by kernel_rfl) (by omega) h4 w4 (fun m cs y _=>Rp m cs y)
   obtain ⟨A5,n5,k5,rfl⟩:=gF Tryz.underlying26 h5;obtain ⟨z5,rfl,e5⟩:=open_row (P:=eu) 4 40 Tryz.underlying26 (by kernel_rfl) (by omega) (by kernel_rfl) (by omega) h5 w5 (fun m cs y _=>KQ m cs y);obtain ⟨A6,n6,k6,rfl⟩:=gF Tryz.underlying28 h6;obtain ⟨z6,rfl,e6⟩:=open_row (P:=bH) 4 32 Tryz.underlying28 (by kernel_rfl) (by omega) (by kernel_rfl) (by omega) h6 w6 (fun m cs y _=>II m cs y);exact ⟨⟨z0,z1,z2,z3,z4,z5,z6⟩,A0,k0,A1,k1,A2,k2,A3,k3,A4,k4,A5,k5,A6,k6,rfl,e0,e1,e2,e3,e4,e5,e6⟩
theorem Di {W:World} {b0:Nat} {v:Value} {d:DataW H} {ps:List MemPlace} (hval:Value.okWide Tryz.prog W .any b0 30 v) (hd:DataW.Trod enc Tryz.prog W 0 (fun _=>true) true 30 v d ps)
  (hw:∀ k∈d.weights Tryz.prog 30,k≤reachBytes):∃ a cs,v = .agg (List.toArray cs)∧bE W (Old W) a cs:=by
 obtain ⟨cs,rfl,hsz⟩:=okWide_struct Tryz.underlying30 hval;obtain ⟨fuel,hf⟩:=hd;obtain ⟨l⟩:=cs;have hcs:(Value.agg ⟨l⟩).cells.toList=l:=by simp [Value.cells]
 rw[hcs] at hf;obtain ⟨a,ha⟩:=Rq _ _ _ hf hw;exact ⟨a,l,rfl,ha⟩
theorem IJ {W:World} {b0:Nat} {v:Value} {d:DataW H} {ps:List MemPlace} (hval:Value.okWide Tryz.prog W .any b0 38 v) (hd:DataW.Trod enc Tryz.prog W 0 (fun _=>true) true 38 v d ps)
  (hw:∀ k∈d.weights Tryz.prog 38,k≤reachBytes):∃ a cs,v = .agg (List.toArray cs)∧aB W (Old W) a cs:=by
 obtain ⟨cs,rfl,hsz⟩:=okWide_struct Tryz.underlying38 hval;obtain ⟨fuel,hf⟩:=hd;obtain ⟨l⟩:=cs;have hcs:(Value.agg ⟨l⟩).cells.toList=l:=by simp [Value.cells]
 rw[hcs] at hf;obtain ⟨a,ha⟩:=Bp _ _ _ hf hw;exact ⟨a,l,rfl,ha⟩
end
end Go.Proofs.YtjonaidancomgaaGreatDoor
