/- Parts of the proof, joined into one text: Yf. -/
import Derived.Test.YtjonaidancomgaaGreatDoorPSxEq
import Derived.Test.YtjonaidancomgaaGreatDoorPSxFn
import Derived.Test.YtjonaidancomgaaGreatDoorPSxDefsD
namespace Go.Proofs.YtjonaidancomgaaGreatDoor
open Go.RowKit Go.Maps Go.WideMaps
def Et (lo:Nat) (c:Sx.dh) (v:Value) (w:World):Prop:=∃ cs:List Value,v = .agg cs.toArray∧bE w (fun b=>lo≤b∧b < w.heap.size) c cs
theorem Qr (W1:World) (m:Nat) (h:W1.ownsMap Tryz.prog 9 yF m 0 (Sx.J7 0)):∃ W2 W3 W4 W5 W6 W7 W8:World,
    (Instr.mapUpdate 147 (.map (some m)) (.string ⟨#[99,111,117,114,115,101]⟩) (.func (.func 84) #[] #[])).run Tryz.prog W1 = .ok () W2∧
    (Instr.mapUpdate 147 (.map (some m)) (.string ⟨#[115,97,109,101]⟩) (.func (.func 85) #[] #[])).run Tryz.prog W2 = .ok () W3∧
    (Instr.mapUpdate 147 (.map (some m)) (.string ⟨#[112,114,111,103,114,97,109,109,101]⟩) (.func (.func 86) #[] #[])).run Tryz.prog W3 = .ok () W4∧
    (Instr.mapUpdate 147 (.map (some m)) (.string ⟨#[99,108,97,115,115]⟩) (.func (.func 87) #[] #[])).run Tryz.prog W4 = .ok () W5∧
    (Instr.mapUpdate 147 (.map (some m)) (.string ⟨#[104,111,110,111,117,114]⟩) (.func (.func 88) #[] #[])).run Tryz.prog W5 = .ok () W6∧
    (Instr.mapUpdate 147 (.map (some m)) (.string ⟨#[102,101,101]⟩) (.func (.func 89) #[] #[])).run Tryz.prog W6 = .ok () W7∧
    (Instr.mapUpdate 147 (.map (some m)) (.string ⟨#[119,104,101,110]⟩) (.func (.func 90) #[] #[])).run Tryz.prog W7 = .ok () W8∧
    AA W8 m∧Below m W1 W8:=by
  have hlt:∀ {W:World} {k:Nat} {D:DataW Unit},W.ownsMap Tryz.prog 9 yF m k D→m≤W.heap.size:=fun h=>Nat.le_of_lt (World.ownsMap.lt h);have hb:∀ {W W':World},m≤W.heap.size→W.grownBy W' (some m)→Below m W W':=fun hm hg=>Below.grown (Below.refl _ _) hg hm (fun z hz=>by cases hz;exact Nat.le_refl _);obtain ⟨W2,e1,o1,g1⟩:=rE h (by omega) ⟨#[99,111,117,114,115,101]⟩ 84 rfl (by decide) rfl;obtain ⟨W3,e2,o2,g2⟩:=rE o1 (by omega) ⟨#[115,97,109,101]⟩ 85 rfl (by decide) rfl;obtain ⟨W4,e3,o3,g3⟩:=rE o2 (by omega) ⟨#[112,114,111,103,114,97,109,109,101]⟩ 86 rfl (by decide) rfl
  obtain ⟨W5,e4,o4,g4⟩:=rE o3 (by omega) ⟨#[99,108,97,115,115]⟩ 87 rfl (by decide) rfl;obtain ⟨W6,e5,o5,g5⟩:=rE o4 (by omega) ⟨#[104,111,110,111,117,114]⟩ 88 rfl (by decide) rfl;obtain ⟨W7,e6,o6,g6⟩:=rE o5 (by omega) ⟨#[102,101,101]⟩ 89 rfl (by decide) rfl;obtain ⟨W8,e7,o7,g7⟩:=rE o6 (by omega) ⟨#[119,104,101,110]⟩ 90 rfl (by decide) rfl;exact ⟨W2,W3,W4,W5,W6,W7,W8,e1,e2,e3,e4,e5,e6,e7,o7,((((((hb (hlt h) g1).trans (hb (hlt o1) g2)).trans (hb (hlt o2) g3)).trans (hb (hlt o3) g4)).trans (hb (hlt o4) g5)).trans (hb (hlt o5) g6)).trans (hb (hlt o6) g7)⟩
theorem Nh (N i:Nat) (x:List UInt8) (hx:Sx.uQ x=some i):Cn N (Sx.sN.getD i 0) fun last c l=>Sx.dx last x c l:=by
  unfold Sx.uQ at hx;obtain ⟨hlt,he,-⟩:=List.findIdx?_eq_some_iff_getElem.1 hx;have hxe:x=Sx.iX[i]:=by simpa using (beq_iff_eq.1 he).symm
  subst hxe;have hi:i < 7:=hlt
  match i,hi with
  | 0,_=>exact Ni N
  | 1,_=>exact UM N
  | 2,_=>exact Eu N
  | 3,_=>exact Qs N
  | 4,_=>exact Nj N
  | 5,_=>exact Yg N
  | 6,_=>exact Nk N
def Sx.dh.size (c:Sx.dh):Nat:=c.courses.length+c.same.length+c.aS.length+c.classes.length+c.bZ.length+c.aJ.length+c.clauses.length
theorem Sx.Co {last:Int} {x:List UInt8} {c c':Sx.dh} {l l':List Lx.Tok} (h:Sx.dx last x c l = .ok c' l'):c'.size=c.size+1:=by
  have hb:∀ {α:Type} (r:Sx.R α) (f:α→Sx.dh),(∀ a,(f a).size=c.size+1)→(r.bind fun a l=>.ok (f a) l) = .ok c' l'→c'.size=c.size+1:=fun r f hf e=>by
    cases r with
    | bad p x=>cases e
    | ok a l=>injection e with e1 _;rw[←e1];exact hf a
  unfold Sx.dx at h
  split at h
  · exact hb _ _ (fun a=>by simp [Sx.dh.size];omega) h
  split at h
  · exact hb _ _ (fun a=>by simp [Sx.dh.size];omega) h
  split at h
  · exact hb _ _ (fun a=>by simp [Sx.dh.size];omega) h
  split at h
  · exact hb _ _ (fun a=>by simp [Sx.dh.size];omega) h
  split at h
  · exact hb _ _ (fun a=>by simp [Sx.dh.size];omega) h
  split at h
  · exact hb _ _ (fun a=>by simp [Sx.dh.size];omega) h
  · exact hb _ _ (fun a=>by simp [Sx.dh.size];omega) h
theorem Sx.zn {c:Sx.dh} {n:Nat} (h:c.size≤n):∀ is∈dA c,is.length≤n:=fun is his=>by
  unfold Sx.dh.size at h;simp only[dA,List.mem_cons,List.not_mem_nil,or_false] at his
  rcases his with rfl | rfl | rfl | rfl | rfl | rfl | rfl <;> simp <;> omega
theorem DL.toG {g h:Nat} {w W V:World} (h1:eP g w W) (h2:DL g h W V) (hh:w.heap.size≤h):eP g w V:=
  ⟨h1.aY.trans h2.aY,fun k hk hg=>(h2.keep k (by have:=h1.aY.size;omega) hg (by omega)).trans (h1.keep k hk hg)⟩
theorem Sx.J8 (last:Int) (n:Nat) (c:Sx.dh):Sx.defs last n c [] = .ok c []:=by cases n <;> simp [Sx.defs]
set_option maxRecDepth 20000 in
set_option maxHeartbeats 4000000 in
theorem Ev (N g B:Nat) (l:List Lx.Tok) (last:Int) (w:World) (h:PS g B last l w) (he:d9 N w) (hN:N≤g) (hl:l.length≤1000000) :
    Calls Tryz.prog 29 #[.pointer (some ⟨g,0,none⟩)] w (dH g B last w (Et w.heap.size) (Sx.cZ last l)):=by
  have hmm:=@run_makeMap Tryz.prog;obtain ⟨R,hR⟩:∃ R,R=Sx.cZ last l:=⟨_,rfl⟩
  rw[←hR];have hlt:=h.lt;obtain ⟨W0,hW0⟩:∃ W0,W0=w.alloc (.cells #[.slice none 0 0,.slice none 0 0,.slice none 0 0,.slice none 0 0,.slice none 0 0,.slice none 0 0,.slice none 0 0] 30):=⟨_,rfl⟩
  have hm:w.heap.size+1=W0.heap.size:=by rw [hW0];simp
  have J9:=World.ownsMap_made W0 Tryz.prog 9 yF;rw[←hm] at J9;obtain ⟨W2,W3,W4,W5,W6,W7,W8,e1,e2,e3,e4,e5,e6,e7,hfn,hbel⟩:=Qr _ _ J9;have hb0:Below w.heap.size w W0:=by rw [hW0];exact (Below.refl _ _).alloc (Nat.le_refl _) _
  have hb1:Below w.heap.size w (W0.alloc (.map #[] 0)):=hb0.alloc (by omega) _;have WB:Below w.heap.size w W8:=hb1.trans (hbel.mono (by omega));have hblk:aC W8 w.heap.size 30 #[.slice none 0 0,.slice none 0 0,.slice none 0 0,.slice none 0 0,.slice none 0 0,.slice none 0 0,.slice none 0 0]:=by
    have h1:aC W0 w.heap.size 30 #[.slice none 0 0,.slice none 0 0,.slice none 0 0,.slice none 0 0,.slice none 0 0,.slice none 0 0,.slice none 0 0]:=by rw [hW0];exact aC.new _ _ _
    exact (h1.alloc _).below hbel (by omega)
  have hC:=jg.start (w0:=W8) (h.next WB) (DL.refl g w.heap.size W8) hlt hblk.lt hblk;have HF8:=Lh (eP.below WB hlt);have HE8:=Lh (he.fr (eP.below WB hlt) hN);have HC:=Lh hC;have HR:=Lh hR;have HFn:=Lh hfn;have Hl:=Lh hl;have hr8:=hblk.lt;have hm8:=hfn.lt;rw[hW0] at e1;clear h hR hW0 hm J9 hbel hb0 hb1 WB hblk hC hfn he hl;go_enter Tryz.func29,Tryz.ntmps29;go_wp2_with fail;clear e1 e2 e3 e4 e5 e6 e7 hmm
  go_loopg [4,5] l.length (fun gk v4 v5 wr=>∃ c vs css l4,Hid (R=Sx.defs last gk c l4)∧Hid (jg g B last w.heap.size W8 (dA c) vs css l4 wr)∧Hid (l4.length≤gk)∧Hid (c.size+l4.length≤1000000))
  case atStart=>exact ⟨Sx.dh.none,_,_,l,HR,HC,Lh (Nat.le_refl _),Lh (by have:=Hl.out;simp[Sx.dh.size,Sx.dh.none];omega)⟩
  case round=>
    clear HR HC Hl;obtain ⟨c,vs,css,l4,HR,HK,Hk,yG⟩:=hrel;have Yh:AA wr (w.heap.size+1):=HFn.out.kept (HK.out.fr.keep _ hm8 (by omega) (by omega));have hsz:=HK.out.fr.aY.size;have HG:=Lh (HK.out.fr.toG HF8.out (Nat.le_refl _));cases l4 with
    | nil=>
      have hR2:R = .ok c []:=by rw [HR.out,Sx.J8]
      have HR2:=Lh hR2;obtain ⟨⟨A,cp,hb,hT,hcap⟩,hB⟩:=HK.out.ps;have p0:=hb.cell 0;simp at p0;have hout:=HK.out.out (Sx.zn (n:=140737488351232) (by have:=yG.out;simp at this;omega));have Ms:=Lh hout;obtain ⟨A0,n0,A1,n1,A2,n2,A3,n3,A4,n4,A5,n5,A6,n6,hvs,-⟩:=hout;subst hvs;have HKn:=HK;have y0:=HK.out.blk.cell 0;have y1:=HK.out.blk.cell 1;have y2:=HK.out.blk.cell 2;have y3:=HK.out.blk.cell 3;have y4:=HK.out.blk.cell 4;have y5:=HK.out.blk.cell 5;have y6:=HK.out.blk.cell 6;simp at y0 y1 y2 y3 y4 y5 y6
      have WC:=HK.out.blk.free 0;have WE:=HK.out.blk.free 1;have WG:=HK.out.blk.free 2;have WH:=HK.out.blk.free 3;have Yi:=HK.out.blk.free 4;have Yj:=HK.out.blk.free 5;have yf6:=HK.out.blk.free 6;have hrl:=HK.out.blk.lt;clear hR2 hb hT Yh HK HR;go_wp2_with fail
      obtain ⟨V,hV⟩:∃ V,V=((((((wr.setCell ⟨w.heap.size,0,none⟩ (.slice A0 c.courses.length n0)).setCell ⟨w.heap.size,1,none⟩ (.slice A1 c.same.length n1)).setCell ⟨w.heap.size,2,none⟩ (.slice A2 c.aS.length n2)).setCell ⟨w.heap.size,3,none⟩ (.slice A3 c.classes.length n3)).setCell ⟨w.heap.size,4,none⟩ (.slice A4 c.bZ.length n4)).setCell ⟨w.heap.size,5,none⟩ (.slice A5 c.aJ.length n5)).setCell ⟨w.heap.size,6,none⟩ (.slice A6 c.clauses.length n6):=⟨_,rfl⟩
      have hL:jl g B last [] w.heap.size 30 #[.slice A0 c.courses.length n0,.slice A1 c.same.length n1,.slice A2 c.aS.length n2,.slice A3 c.classes.length n3,.slice A4 c.bZ.length n4,.slice A5 c.aJ.length n5,.slice A6 c.clauses.length n6] w V:=by
        rw[hV];have:=((((((((jl.mk HKn.out.ps HG.out HKn.out.blk (Nat.le_refl _) hlt)).set 0 (.slice A0 c.courses.length n0)).set 1 (.slice A1 c.same.length n1)).set 2 (.slice A2 c.aS.length n2)).set 3 (.slice A3 c.classes.length n3)).set 4 (.slice A4 c.bZ.length n4)).set 5 (.slice A5 c.aJ.length n5)).set 6 (.slice A6 c.clauses.length n6);simpa using this
      have tN:V.heap.size=wr.heap.size:=by rw [hV];simp[World.setCell]
      have vI:∀ b,b≠w.heap.size→V.heap[b]?=wr.heap[b]?:=fun b h1=>by
        rw[hV,Below.heap_setCell _ _ _ b h1,Below.heap_setCell _ _ _ b h1,Below.heap_setCell _ _ _ b h1,Below.heap_setCell _ _ _ b h1,Below.heap_setCell _ _ _ b h1,Below.heap_setCell _ _ _ b h1,Below.heap_setCell _ _ _ b h1]
      have d0:=hL.blk.cell 0;have d1:=hL.blk.cell 1;have d2:=hL.blk.cell 2;have d3:=hL.blk.cell 3;have d4:=hL.blk.cell 4;have d5:=hL.blk.cell 5;have d6:=hL.blk.cell 6;simp at d0 d1 d2 d3 d4 d5 d6
      try simp only [Exit.inBlock,Exit.then]
      rw[←hV];clear hV
      exact bodyPost_ret (v:=.agg #[.slice A0 c.courses.length n0,.slice A1 c.same.length n1,.slice A2 c.aS.length n2,.slice A3 c.classes.length n3,.slice A4 c.bZ.length n4,.slice A5 c.aJ.length n5,.slice A6 c.clauses.length n6]) (by simp [results,Tryz.results29,go_sem,d0,d1,d2,d3,d4,d5,d6]) rfl (by rw [HR2.out];exact ⟨_,rfl,⟨[.slice A0 c.courses.length n0,.slice A1 c.same.length n1,.slice A2 c.aS.length n2,.slice A3 c.classes.length n3,.slice A4 c.bZ.length n4,.slice A5 c.aJ.length n5,.slice A6 c.clauses.length n6],rfl,bE.keep (fun b hb=>⟨⟨by have:=hb.1;omega,by rw [tN];exact hb.2⟩,fun i=>World.cell?_of_block (a:=⟨b,i,none⟩) (vI b (by have:=hb.1;omega))⟩) Ms.out⟩,hL.ps,hL.fr⟩)
    | cons t r=>
      obtain ⟨k,hk⟩:∃ k,gk=k+1:=⟨gk - 1,by have:=Hk.out;simp at this;omega⟩
      have sO:=HR.out;rw[hk] at sO;obtain ⟨⟨A,cp,hb,hT,hcap⟩,hB⟩:=HK.out.ps;have hps:=HK.out.ps;have p0:=hb.cell 0;have pf0:=hb.free 0;obtain ⟨b,o,rfl,UN,q0,q1,q2,q3⟩:=hT.at_ 0 t rfl;have htl:=hT.texts t (by simp);have hln:=hT.len;simp only[List.length_cons] at hln hcap p0;simp at p0;simp only[Nat.zero_mul,Nat.add_zero] at q0 q1 q2 q3;have zo:=Yh.look (Lx.bs t.text) (by rw [Lx.jc];unfold maxLen;omega);rw[Lx.aK] at zo;have Hc:=Lh (fun b1 o1 c1 h1 hc=>AB hb hT hB b1 o1 c1 h1 hc);have lu:=Lh (og g B (t::r) last 100 _ hps);have hbg:b≠g:=by omega
      have hlen1:((r.length:Int)+1 == 0)=false:=by simp;omega
      clear hb hT hps HR Yh;cases hd:Sx.uQ t.text with
      | none=>
        rw[hd] at zo;simp only at zo;have HR2:Hid (R = .bad (Sx.front last (t::r)) 100):=Lh (by rw [sO,Sx.qx (by unfold Sx.vJ;rw[if_neg (fun e=>by rw [Sx.uR,hd] at e;simp at e)])];rfl);clear sO hd;go_wp2_with fail;refine lu.out.mono ?_;rintro e w9 ⟨he,rfl⟩;unfold iL at he;subst he;exact ⟨rfl,dH.aM HR2.out HG.out⟩
      | some i=>
        rw[hd] at zo;simp only at zo;cases hk1:t.kind != 1 with
        | true=>
          have HR2:Hid (R = .bad (Sx.front last (t::r)) 100):=Lh (by rw [sO,Sx.qx (by unfold Sx.vJ;rw[if_neg (fun e=>by rw [e.1] at hk1;simp at hk1)])];rfl);clear sO;go_wp2_with fail;refine lu.out.mono ?_;rintro e w9 ⟨he,rfl⟩;unfold iL at he;subst he;exact ⟨rfl,dH.aM HR2.out HG.out⟩
        | false=>
          have hk2:t.kind=1:=by simpa using hk1
          have hdt:Sx.vJ t=some t.text:=by unfold Sx.vJ;rw[if_pos ⟨hk2,by rw [Sx.uR,hd];rfl⟩]
          have HR2:Hid (R=(Sx.dx last t.text c r).bind fun c l=>Sx.defs last k c l):=Lh (by rw [sO,Sx.qy hdt]);have hD:=Nh N i t.text hd;have UO:i < 7:=by
            unfold Sx.uQ at hd;exact (List.findIdx?_eq_some_iff_getElem.1 hd).1
          have h7:i=0∨i=1∨i=2∨i=3∨i=4∨i=5∨i=6:=by omega
          clear sO hdt hk2 hd lu UO
          rcases h7 with rfl | rfl | rfl | rfl | rfl | rfl | rfl
          all_goals
            simp only[Sx.sN,List.getD_cons_zero,List.getD_cons_succ] at zo hD;have HD:=Lh hD;clear hD;go_wp2_with fail
          all_goals
            obtain ⟨W,hW,hWs,hWf⟩:∃ W,W=_∧PS g B last r W∧eP g wr W:=by
              first
                | (have hr:r = []:=List.eq_nil_of_length_eq_zero (by omega)
                   have:=Hc.out b o 0 (fun h=>absurd hr h) (by rw [hr];exact Nat.le_refl 0);exact ⟨_,rfl,this.1,this.2⟩)
                | (have:=Hc.out b (o+4) (cp - 1) (fun _=>⟨rfl,rfl⟩) (by omega)
                   exact ⟨_,rfl,this.1,this.2⟩)
            have hKW:=HK.out.step hWf hWs;have hcall:=HD.out g B w.heap.size r last W8 W c vs css hKW (HE8.out.keep (hKW.fr.aY.mono hN)) hN (Sx.zn (by have:=yG.out;simp at this;omega)) (by have:=yG.out;simp at this;omega);rw[hW] at hcall;simp only at hcall;refine hcall.mono ?_;intro e w9 he;cases hD2:Sx.dx last t.text c r with
            | bad p x=>
              rw[hD2] at he;obtain ⟨he1,he2⟩:=he;unfold iL at he1;subst he1;exact ⟨rfl,dH.aM (Sx.aR HR2.out hD2) (he2.toG HF8.out (Nat.le_refl _))⟩
            | ok c' l'=>
              rw[hD2] at he;obtain ⟨rfl,vs',Yk,hC'⟩:=he;have vH:=Lh hC';have HR3:=Lh (Sx.go_ok HR2.out hD2);have hsh:=Sx.yH hD2;have hsz2:=Sx.Co hD2;clear hC' hcall hKW;go_wp2_with fail
              go_roundg k
              all_goals first
                | omega
                | exact ⟨c',vs',Yk,l',HR3,vH,Lh (by have:=Hk.out;simp at this;omega),Lh (by have:=yG.out;simp at this;omega)⟩
end Go.Proofs.YtjonaidancomgaaGreatDoor
