/- Parts of the proof, joined into one text: SxCata, LxK, LxL, LxM, LxWord. -/
import Derived.Test.YtjonaidancomgaaGreatDoorPSxFn
import Derived.Test.YtjonaidancomgaaGreatDoorPSxDefsD
import Derived.Test.YtjonaidancomgaaGreatDoorPLxI
import Derived.Deep.OwnRows
import Derived.Lib.Join
import Derived.Test.YtjonaidancomgaaGreatDoorPSxLen

namespace Go.Proofs.YtjonaidancomgaaGreatDoor
open Go.RowKit Go.Maps Go.WideMaps

def vCat (lo:Nat) (c:Sx.Cat) (v:Value) (w:World):Prop:=∃ cs:List Value,v = .agg cs.toArray∧CatAt w (fun b=>lo≤b∧b < w.heap.size) c cs
theorem fn_all (W1:World) (m:Nat) (h:W1.ownsMap Tryz.prog 9 fnEl m 0 (Sx.fnD 0)):∃ W2 W3 W4 W5 W6 W7 W8:World,
    (Instr.mapUpdate 147 (.map (some m)) (.string ⟨#[99,111,117,114,115,101]⟩) (.func (.func 84) #[] #[])).run Tryz.prog W1 = .ok () W2∧
    (Instr.mapUpdate 147 (.map (some m)) (.string ⟨#[115,97,109,101]⟩) (.func (.func 85) #[] #[])).run Tryz.prog W2 = .ok () W3∧
    (Instr.mapUpdate 147 (.map (some m)) (.string ⟨#[112,114,111,103,114,97,109,109,101]⟩) (.func (.func 86) #[] #[])).run Tryz.prog W3 = .ok () W4∧
    (Instr.mapUpdate 147 (.map (some m)) (.string ⟨#[99,108,97,115,115]⟩) (.func (.func 87) #[] #[])).run Tryz.prog W4 = .ok () W5∧
    (Instr.mapUpdate 147 (.map (some m)) (.string ⟨#[104,111,110,111,117,114]⟩) (.func (.func 88) #[] #[])).run Tryz.prog W5 = .ok () W6∧
    (Instr.mapUpdate 147 (.map (some m)) (.string ⟨#[102,101,101]⟩) (.func (.func 89) #[] #[])).run Tryz.prog W6 = .ok () W7∧
    (Instr.mapUpdate 147 (.map (some m)) (.string ⟨#[119,104,101,110]⟩) (.func (.func 90) #[] #[])).run Tryz.prog W7 = .ok () W8∧
    FnAt W8 m∧Below m W1 W8:=by
  have hlt:∀ {W:World} {k:Nat} {D:DataW Unit},W.ownsMap Tryz.prog 9 fnEl m k D→m≤W.heap.size:=fun h=>Nat.le_of_lt (World.ownsMap.lt h)
  have hb:∀ {W W':World},m≤W.heap.size→W.grownBy W' (some m)→Below m W W':=fun hm hg=>Below.grown (Below.refl _ _) hg hm (fun z hz=>by cases hz;exact Nat.le_refl _)
  obtain ⟨W2,e1,o1,g1⟩:=fn_put h (by omega) ⟨#[99,111,117,114,115,101]⟩ 84 rfl (by decide) rfl
  obtain ⟨W3,e2,o2,g2⟩:=fn_put o1 (by omega) ⟨#[115,97,109,101]⟩ 85 rfl (by decide) rfl
  obtain ⟨W4,e3,o3,g3⟩:=fn_put o2 (by omega) ⟨#[112,114,111,103,114,97,109,109,101]⟩ 86 rfl (by decide) rfl
  obtain ⟨W5,e4,o4,g4⟩:=fn_put o3 (by omega) ⟨#[99,108,97,115,115]⟩ 87 rfl (by decide) rfl
  obtain ⟨W6,e5,o5,g5⟩:=fn_put o4 (by omega) ⟨#[104,111,110,111,117,114]⟩ 88 rfl (by decide) rfl
  obtain ⟨W7,e6,o6,g6⟩:=fn_put o5 (by omega) ⟨#[102,101,101]⟩ 89 rfl (by decide) rfl
  obtain ⟨W8,e7,o7,g7⟩:=fn_put o6 (by omega) ⟨#[119,104,101,110]⟩ 90 rfl (by decide) rfl
  exact ⟨W2,W3,W4,W5,W6,W7,W8,e1,e2,e3,e4,e5,e6,e7,o7,((((((hb (hlt h) g1).trans (hb (hlt o1) g2)).trans (hb (hlt o2) g3)).trans (hb (hlt o3) g4)).trans (hb (hlt o4) g5)).trans (hb (hlt o5) g6)).trans (hb (hlt o6) g7)⟩
theorem sDefine (N i:Nat) (x:List UInt8) (hx:Sx.defIx x=some i):DefC N (Sx.defFs.getD i 0) fun last c l=>Sx.defineR last x c l:=by
  unfold Sx.defIx at hx
  obtain ⟨hlt,he,-⟩:=List.findIdx?_eq_some_iff_getElem.1 hx
  have hxe:x=Sx.defWs[i]:=by simpa using (beq_iff_eq.1 he).symm
  subst hxe
  have hi:i < 7:=hlt
  match i,hi with
  | 0,_=>exact sCourse N
  | 1,_=>exact sSame N
  | 2,_=>exact sProgramme N
  | 3,_=>exact sClass N
  | 4,_=>exact sHonour N
  | 5,_=>exact sFee N
  | 6,_=>exact sClause N
def Sx.Cat.size (c:Sx.Cat):Nat:=c.courses.length+c.same.length+c.progs.length+c.classes.length+c.fees.length+c.honours.length+c.clauses.length
theorem Sx.define_size {last:Int} {x:List UInt8} {c c':Sx.Cat} {l l':List Lx.Tok} (h:Sx.defineR last x c l = .ok c' l'):c'.size=c.size+1:=by
  have hb:∀ {α:Type} (r:Sx.R α) (f:α→Sx.Cat),(∀ a,(f a).size=c.size+1)→(r.bind fun a l=>.ok (f a) l) = .ok c' l'→c'.size=c.size+1:=fun r f hf e=>by
    cases r with
    | bad p x=>cases e
    | ok a l=>injection e with e1 _;rw[←e1];exact hf a
  unfold Sx.defineR at h
  split at h
  · exact hb _ _ (fun a=>by simp [Sx.Cat.size];omega) h
  split at h
  · exact hb _ _ (fun a=>by simp [Sx.Cat.size];omega) h
  split at h
  · exact hb _ _ (fun a=>by simp [Sx.Cat.size];omega) h
  split at h
  · exact hb _ _ (fun a=>by simp [Sx.Cat.size];omega) h
  split at h
  · exact hb _ _ (fun a=>by simp [Sx.Cat.size];omega) h
  split at h
  · exact hb _ _ (fun a=>by simp [Sx.Cat.size];omega) h
  · exact hb _ _ (fun a=>by simp [Sx.Cat.size];omega) h
theorem Sx.items_few {c:Sx.Cat} {n:Nat} (h:c.size≤n):∀ is∈itemsOf c,is.length≤n:=fun is his=>by
  unfold Sx.Cat.size at h
  simp only[itemsOf,List.mem_cons,List.not_mem_nil,or_false] at his
  rcases his with rfl | rfl | rfl | rfl | rfl | rfl | rfl <;> simp <;> omega

theorem FrH.toG {g h:Nat} {w W V:World} (h1:FrG g w W) (h2:FrH g h W V) (hh:w.heap.size≤h):FrG g w V:=
  ⟨h1.bel.trans h2.bel,fun k hk hg=>(h2.keep k (by have:=h1.bel.size;omega) hg (by omega)).trans (h1.keep k hk hg)⟩
theorem Sx.defs_end (last:Int) (n:Nat) (c:Sx.Cat):Sx.defs last n c [] = .ok c []:=by cases n <;> simp [Sx.defs]
set_option maxRecDepth 20000 in
set_option maxHeartbeats 4000000 in
theorem sCatalogue (N g B:Nat) (l:List Lx.Tok) (last:Int) (w:World) (h:PS g B last l w) (he:EnvS N w) (hN:N≤g) (hl:l.length≤1000000) :
    Calls Tryz.prog 29 #[.pointer (some ⟨g,0,none⟩)] w (SPar g B last w (vCat w.heap.size) (Sx.catalogue last l)):=by
  have hmm:=@run_makeMap Tryz.prog
  obtain ⟨R,hR⟩:∃ R,R=Sx.catalogue last l:=⟨_,rfl⟩
  rw[←hR]
  have hlt:=h.lt
  obtain ⟨W0,hW0⟩:∃ W0,W0=w.alloc (.cells #[.slice none 0 0,.slice none 0 0,.slice none 0 0,.slice none 0 0,.slice none 0 0,.slice none 0 0,.slice none 0 0] 30):=⟨_,rfl⟩
  have hm:w.heap.size+1=W0.heap.size:=by rw [hW0];simp
  have hmade:=World.ownsMap_made W0 Tryz.prog 9 fnEl
  rw[←hm] at hmade
  obtain ⟨W2,W3,W4,W5,W6,W7,W8,e1,e2,e3,e4,e5,e6,e7,hfn,hbel⟩:=fn_all _ _ hmade
  have hb0:Below w.heap.size w W0:=by rw [hW0];exact (Below.refl _ _).alloc (Nat.le_refl _) _
  have hb1:Below w.heap.size w (W0.alloc (.map #[] 0)):=hb0.alloc (by omega) _
  have hb8:Below w.heap.size w W8:=hb1.trans (hbel.mono (by omega))
  have hblk:Blk W8 w.heap.size 30 #[.slice none 0 0,.slice none 0 0,.slice none 0 0,.slice none 0 0,.slice none 0 0,.slice none 0 0,.slice none 0 0]:=by
    have h1:Blk W0 w.heap.size 30 #[.slice none 0 0,.slice none 0 0,.slice none 0 0,.slice none 0 0,.slice none 0 0,.slice none 0 0,.slice none 0 0]:=by rw [hW0];exact Blk.new _ _ _
    exact (h1.alloc _).below hbel (by omega)
  have hC:=CatI.start (w0:=W8) (h.next hb8) (FrH.refl g w.heap.size W8) hlt hblk.lt hblk
  have HF8:=Lh (FrG.below hb8 hlt)
  have HE8:=Lh (he.fr (FrG.below hb8 hlt) hN)
  have HC:=Lh hC;have HR:=Lh hR;have HFn:=Lh hfn;have Hl:=Lh hl
  have hr8:=hblk.lt
  have hm8:=hfn.lt
  rw[hW0] at e1
  clear h hR hW0 hm hmade hbel hb0 hb1 hb8 hblk hC hfn he hl
  go_enter Tryz.func29,Tryz.ntmps29
  go_wp2_with fail
  clear e1 e2 e3 e4 e5 e6 e7 hmm
  go_loopg [4,5] l.length (fun gk v4 v5 wr=>∃ c vs css l4,Hid (R=Sx.defs last gk c l4)∧Hid (CatI g B last w.heap.size W8 (itemsOf c) vs css l4 wr)∧Hid (l4.length≤gk)∧Hid (c.size+l4.length≤1000000))
  case atStart=>exact ⟨Sx.Cat.none,_,_,l,HR,HC,Lh (Nat.le_refl _),Lh (by have:=Hl.out;simp[Sx.Cat.size,Sx.Cat.none];omega)⟩
  case round=>
    clear HR HC Hl
    obtain ⟨c,vs,css,l4,HR,HK,Hk,Hfew⟩:=hrel
    have hfk:FnAt wr (w.heap.size+1):=HFn.out.kept (HK.out.fr.keep _ hm8 (by omega) (by omega))
    have hsz:=HK.out.fr.bel.size
    have HG:=Lh (HK.out.fr.toG HF8.out (Nat.le_refl _))
    cases l4 with
    | nil=>
      have hR2:R = .ok c []:=by rw [HR.out,Sx.defs_end]
      have HR2:=Lh hR2
      obtain ⟨⟨A,cp,hb,hT,hcap⟩,hB⟩:=HK.out.ps
      have p0:=hb.cell 0
      simp at p0
      have hout:=HK.out.out (Sx.items_few (n:=140737488351232) (by have:=Hfew.out;simp at this;omega))
      have Hout:=Lh hout
      obtain ⟨A0,n0,A1,n1,A2,n2,A3,n3,A4,n4,A5,n5,A6,n6,hvs,-⟩:=hout
      subst hvs
      have HKn:=HK
      have y0:=HK.out.blk.cell 0;have y1:=HK.out.blk.cell 1;have y2:=HK.out.blk.cell 2;have y3:=HK.out.blk.cell 3;have y4:=HK.out.blk.cell 4;have y5:=HK.out.blk.cell 5;have y6:=HK.out.blk.cell 6
      simp at y0 y1 y2 y3 y4 y5 y6
      have yf0:=HK.out.blk.free 0;have yf1:=HK.out.blk.free 1;have yf2:=HK.out.blk.free 2;have yf3:=HK.out.blk.free 3;have yf4:=HK.out.blk.free 4;have yf5:=HK.out.blk.free 5;have yf6:=HK.out.blk.free 6
      have hrl:=HK.out.blk.lt
      clear hR2 hb hT hfk HK HR
      go_wp2_with fail
      obtain ⟨V,hV⟩:∃ V,V=((((((wr.setCell ⟨w.heap.size,0,none⟩ (.slice A0 c.courses.length n0)).setCell ⟨w.heap.size,1,none⟩ (.slice A1 c.same.length n1)).setCell ⟨w.heap.size,2,none⟩ (.slice A2 c.progs.length n2)).setCell ⟨w.heap.size,3,none⟩ (.slice A3 c.classes.length n3)).setCell ⟨w.heap.size,4,none⟩ (.slice A4 c.fees.length n4)).setCell ⟨w.heap.size,5,none⟩ (.slice A5 c.honours.length n5)).setCell ⟨w.heap.size,6,none⟩ (.slice A6 c.clauses.length n6):=⟨_,rfl⟩
      have hL:LSt g B last [] w.heap.size 30 #[.slice A0 c.courses.length n0,.slice A1 c.same.length n1,.slice A2 c.progs.length n2,.slice A3 c.classes.length n3,.slice A4 c.fees.length n4,.slice A5 c.honours.length n5,.slice A6 c.clauses.length n6] w V:=by
        rw[hV]
        have:=((((((((LSt.mk HKn.out.ps HG.out HKn.out.blk (Nat.le_refl _) hlt)).set 0 (.slice A0 c.courses.length n0)).set 1 (.slice A1 c.same.length n1)).set 2 (.slice A2 c.progs.length n2)).set 3 (.slice A3 c.classes.length n3)).set 4 (.slice A4 c.fees.length n4)).set 5 (.slice A5 c.honours.length n5)).set 6 (.slice A6 c.clauses.length n6)
        simpa using this
      have hVs:V.heap.size=wr.heap.size:=by rw [hV];simp[World.setCell]
      have hVb:∀ b,b≠w.heap.size→V.heap[b]?=wr.heap[b]?:=fun b h1=>by
        rw[hV,Below.heap_setCell _ _ _ b h1,Below.heap_setCell _ _ _ b h1,Below.heap_setCell _ _ _ b h1,Below.heap_setCell _ _ _ b h1,Below.heap_setCell _ _ _ b h1,Below.heap_setCell _ _ _ b h1,Below.heap_setCell _ _ _ b h1]
      have d0:=hL.blk.cell 0;have d1:=hL.blk.cell 1;have d2:=hL.blk.cell 2;have d3:=hL.blk.cell 3;have d4:=hL.blk.cell 4;have d5:=hL.blk.cell 5;have d6:=hL.blk.cell 6
      simp at d0 d1 d2 d3 d4 d5 d6
      try simp only [Exit.inBlock,Exit.then]
      rw[←hV]
      clear hV
      exact bodyPost_ret (v:=.agg #[.slice A0 c.courses.length n0,.slice A1 c.same.length n1,.slice A2 c.progs.length n2,.slice A3 c.classes.length n3,.slice A4 c.fees.length n4,.slice A5 c.honours.length n5,.slice A6 c.clauses.length n6]) (by simp [results,Tryz.results29,go_sem,d0,d1,d2,d3,d4,d5,d6]) rfl (by rw [HR2.out];exact ⟨_,rfl,⟨[.slice A0 c.courses.length n0,.slice A1 c.same.length n1,.slice A2 c.progs.length n2,.slice A3 c.classes.length n3,.slice A4 c.fees.length n4,.slice A5 c.honours.length n5,.slice A6 c.clauses.length n6],rfl,CatAt.keep (fun b hb=>⟨⟨by have:=hb.1;omega,by rw [hVs];exact hb.2⟩,fun i=>World.cell?_of_block (a:=⟨b,i,none⟩) (hVb b (by have:=hb.1;omega))⟩) Hout.out⟩,hL.ps,hL.fr⟩)
    | cons t r=>
      obtain ⟨k,hk⟩:∃ k,gk=k+1:=⟨gk - 1,by have:=Hk.out;simp at this;omega⟩
      have hR1:=HR.out
      rw[hk] at hR1
      obtain ⟨⟨A,cp,hb,hT,hcap⟩,hB⟩:=HK.out.ps
      have hps:=HK.out.ps
      have p0:=hb.cell 0;have pf0:=hb.free 0
      obtain ⟨b,o,rfl,hbB,q0,q1,q2,q3⟩:=hT.at_ 0 t rfl
      have htl:=hT.texts t (by simp)
      have hln:=hT.len
      simp only[List.length_cons] at hln hcap p0
      simp at p0
      simp only[Nat.zero_mul,Nat.add_zero] at q0 q1 q2 q3
      have hlook:=hfk.look (Lx.bs t.text) (by rw [Lx.bs_size];unfold maxLen;omega)
      rw[Lx.bs_list] at hlook
      have Hc:=Lh (fun b1 o1 c1 h1 hc=>ps_cut hb hT hB b1 o1 c1 h1 hc)
      have Hfail:=Lh (sFail g B (t::r) last 100 _ hps)
      have hbg:b≠g:=by omega
      have hlen1:((r.length:Int)+1 == 0)=false:=by simp;omega
      clear hb hT hps HR hfk
      cases hd:Sx.defIx t.text with
      | none=>
        rw[hd] at hlook
        simp only at hlook
        have HR2:Hid (R = .bad (Sx.front last (t::r)) 100):=Lh (by rw [hR1,Sx.defs_none (by unfold Sx.defT;rw[if_neg (fun e=>by rw [Sx.defIx_isDef,hd] at e;simp at e)])];rfl)
        clear hR1 hd
        go_wp2_with fail
        refine Hfail.out.mono ?_
        rintro e w9 ⟨he,rfl⟩
        unfold FailS at he
        subst he
        exact ⟨rfl,SPar.of_bad HR2.out HG.out⟩
      | some i=>
        rw[hd] at hlook
        simp only at hlook
        cases hk1:t.kind != 1 with
        | true=>
          have HR2:Hid (R = .bad (Sx.front last (t::r)) 100):=Lh (by rw [hR1,Sx.defs_none (by unfold Sx.defT;rw[if_neg (fun e=>by rw [e.1] at hk1;simp at hk1)])];rfl)
          clear hR1
          go_wp2_with fail
          refine Hfail.out.mono ?_
          rintro e w9 ⟨he,rfl⟩
          unfold FailS at he
          subst he
          exact ⟨rfl,SPar.of_bad HR2.out HG.out⟩
        | false=>
          have hk2:t.kind=1:=by simpa using hk1
          have hdt:Sx.defT t=some t.text:=by unfold Sx.defT;rw[if_pos ⟨hk2,by rw [Sx.defIx_isDef,hd];rfl⟩]
          have HR2:Hid (R=(Sx.defineR last t.text c r).bind fun c l=>Sx.defs last k c l):=Lh (by rw [hR1,Sx.defs_some hdt])
          have hD:=sDefine N i t.text hd
          have hi7:i < 7:=by
            unfold Sx.defIx at hd
            exact (List.findIdx?_eq_some_iff_getElem.1 hd).1
          have h7:i=0∨i=1∨i=2∨i=3∨i=4∨i=5∨i=6:=by omega
          clear hR1 hdt hk2 hd Hfail hi7
          rcases h7 with rfl | rfl | rfl | rfl | rfl | rfl | rfl
          all_goals
            simp only[Sx.defFs,List.getD_cons_zero,List.getD_cons_succ] at hlook hD
            have HD:=Lh hD
            clear hD
            go_wp2_with fail
          all_goals
            obtain ⟨W,hW,hWs,hWf⟩:∃ W,W=_∧PS g B last r W∧FrG g wr W:=by
              first
                | (have hr:r = []:=List.eq_nil_of_length_eq_zero (by omega)
                   have:=Hc.out b o 0 (fun h=>absurd hr h) (by rw [hr];exact Nat.le_refl 0)
                   exact ⟨_,rfl,this.1,this.2⟩)
                | (have:=Hc.out b (o+4) (cp - 1) (fun _=>⟨rfl,rfl⟩) (by omega)
                   exact ⟨_,rfl,this.1,this.2⟩)
            have hKW:=HK.out.step hWf hWs
            have hcall:=HD.out g B w.heap.size r last W8 W c vs css hKW (HE8.out.keep (hKW.fr.bel.mono hN)) hN (Sx.items_few (by have:=Hfew.out;simp at this;omega)) (by have:=Hfew.out;simp at this;omega)
            rw[hW] at hcall
            simp only at hcall
            refine hcall.mono ?_
            intro e w9 he
            cases hD2:Sx.defineR last t.text c r with
            | bad p x=>
              rw[hD2] at he
              obtain ⟨he1,he2⟩:=he
              unfold FailS at he1
              subst he1
              exact ⟨rfl,SPar.of_bad (Sx.go_bad HR2.out hD2) (he2.toG HF8.out (Nat.le_refl _))⟩
            | ok c' l'=>
              rw[hD2] at he
              obtain ⟨rfl,vs',css',hC'⟩:=he
              have HC':=Lh hC'
              have HR3:=Lh (Sx.go_ok HR2.out hD2)
              have hsh:=(Sx.cuts_define t.text c).shrinks hD2
              have hsz2:=Sx.define_size hD2
              clear hC' hcall hKW
              go_wp2_with fail
              go_roundg k
              all_goals first
                | omega
                | exact ⟨c',vs',css',l',HR3,HC',Lh (by have:=Hk.out;simp at this;omega),Lh (by have:=Hfew.out;simp at this;omega)⟩
end Go.Proofs.YtjonaidancomgaaGreatDoor

namespace Go.Proofs.YtjonaidancomgaaGreatDoor
open Go.RowKit
open Lx (Tok)

end Go.Proofs.YtjonaidancomgaaGreatDoor

namespace Go.Proofs.YtjonaidancomgaaGreatDoor
open Go.RowKit
open Lx (Tok)

theorem Tryz.infoStr:(Tryz.prog.info? 9).map (fun i=>(i.zero,i.size,i.bytes))=some (some (.string ⟨#[]⟩),1,16):=by kernel_rfl

theorem cJoin (bk o c:Nat) (xs:List ByteArray) (sep:ByteArray) (w:World) (hcells:∀ (j:Nat) x,xs[j]?=some x→w.cell? ⟨bk,o+j,none⟩=some (.string x)) (hbk:bk < w.heap.size) (hN:xs.length≤140737488355328) (hcap:xs.length≤c) (hlen:(Lib.join (xs.map (·.data.toList)) sep.data.toList).length≤140737488355328) :
  Calls Tryz.prog 133 #[.slice (some ⟨bk,o,none⟩) xs.length c,.string sep] w fun e w'=>e = .returned (.string ⟨(Lib.join (xs.map (·.data.toList)) sep.data.toList).toArray⟩)∧Below w.heap.size w w':=
 Any.strings_Join Tryz.lays156 Tryz.Builder_Extra_156 bk o c xs sep w hcells hbk hN hcap hlen

def TextPost (l:List Tok) (w:World) (e:Ending) (w':World):Prop:=
 Below w.heap.size w w'∧match Lx.text l with
  | some s=>e = .returned (.tuple #[.string (Lx.bs s),.int .i64 0])
  | none=>e = .returned (.tuple #[.string ⟨#[]⟩,.int .i64 90])

theorem Lx.text_none {l:List Tok} {k:Nat} {x:Tok} (hx:l[k]?=some x) (h:Lx.valid x=false):Lx.text l=none:=by
 unfold Lx.text
 rw[if_neg]
 intro ha
 rw[List.all_eq_true] at ha
 rw[ha x (List.mem_of_getElem? hx)] at h
 cases h
theorem Lx.text_some {l:List Tok} (h:∀ (j:Nat) (t:Tok),l[j]?=some t→Lx.valid t=true):Lx.text l=some (Lx.joinSp (l.map Tok.out)):=by
 unfold Lx.text
 rw[if_pos]
 rw[List.all_eq_true]
 intro t ht
 obtain ⟨j,hj⟩:=List.mem_iff_getElem?.1 ht
 exact h j t hj
theorem Lx.join_sp:∀ xs:List (List UInt8),Lib.join xs [32]=Lx.joinSp xs
 | []=>rfl
 | [x]=>by rw [Lib.join_one];rfl
 | x::y::r=>by
  rw[Lib.join_cons]
  have ih:=Lx.join_sp (y::r)
  rw[Lib.join_cons] at ih
  simp only[Lx.joinSp,←ih]
  simp[Lib.joinTail]
theorem Lx.valid_num {t:Tok} (h:Lx.valid t=true) (hk:t.kind=2):0≤t.n∧t.n≤1099511627776:=by
 unfold Lx.valid at h
 rw[hk] at h
 simp at h
 omega
theorem Lx.digits_len (u:Nat) (h:u≤1099511627776):(Lib.decDigits u).length≤13:=by
 rw[Lib.decDigits_length]
 by_cases h0:u=0
 ·subst h0;rw[Lib.nDigits_small (by omega)];omega
 rcases Nat.lt_or_ge (Lib.nDigits u) 14 with hn | hn
 ·omega
 exfalso
 have:∀ (k u:Nat),k+1≤Lib.nDigits u→u≠0→10 ^ k≤u:=by
  intro k
  induction k with
  | zero=>intro u _ h0;simp;omega
  | succ k ih=>
   intro u hk h0
   by_cases hu:u < 10
   ·rw[Lib.nDigits_small hu] at hk;omega
   ·rw[Lib.nDigits_big hu] at hk
    have:=ih (u / 10) (by omega) (by omega)
    rw[Nat.pow_succ];omega
 have h13:=this 13 u (by omega) h0
 have e:(10:Nat) ^ 13=10000000000000:=by decide
 omega
theorem Lx.valid_out {t:Tok} (h:Lx.valid t=true):t.out.length≤32:=by
 unfold Tok.out
 split
 ·rename_i hk
  obtain ⟨h1,h2⟩:=Lx.valid_num h hk
  have:=Lx.digits_len t.n.toNat (by omega)
  omega
 ·rename_i hk
  unfold Lx.valid at h
  split at h
  ·simp only[Bool.and_eq_true,Lx.isName] at h
   have h1:=h.1
   split at h1
   ·cases h1
   ·rename_i e
    simp only[Bool.and_eq_true,decide_eq_true_eq] at h1
    rw[e] at h1 ⊢
    exact h1.1.1
  ·split at h
   ·simp only[Bool.and_eq_true] at h
    have h1:=h.1
    split at h1
    ·rename_i e;rw[e];simp
    ·cases h1
   ·cases h
theorem Lx.joinSp_len:∀ xs:List (List UInt8),(∀ x∈xs,x.length≤32)→(Lx.joinSp xs).length≤33*xs.length
 | [],_=>by simp [Lx.joinSp]
 | [x],h=>by have:=h x (by simp);simp[Lx.joinSp];omega
 | x::y::r,h=>by
  have h1:=h x (by simp)
  have ih:=Lx.joinSp_len (y::r) (fun z hz=>h z (List.mem_cons_of_mem _ hz))
  simp only[Lx.joinSp,List.length_append,List.length_cons] at ih ⊢
  omega

theorem text_step {l:List Tok} {k m:Nat} {x:Tok} {cs:Array Value} {u:List UInt8} (hcs:cs.size=m) (hk:k < m) (hh:∀ (j:Nat) (t:Tok),j < k→l[j]?=some t→cs[j]?=some (.string (Lx.bs t.out))∧Lx.valid t=true)
  (hx:l[k]?=some x) (hu:x.out=u) (hv:Lx.valid x=true):∀ (j:Nat) (t:Tok),j < k+1→l[j]?=some t→(cs.setIfInBounds k (.string (Lx.bs u)))[j]?=some (.string (Lx.bs t.out))∧Lx.valid t=true:=by
 intro j t hj ht
 rcases Nat.lt_or_ge j k with h | h
 ·obtain ⟨h1,h2⟩:=hh j t h ht
  exact ⟨by rw [Array.getElem?_setIfInBounds_ne (by omega)];exact h1,h2⟩
 ·obtain rfl:j=k:=by omega
  rw[hx] at ht
  obtain rfl:=Option.some.inj ht
  exact ⟨by rw [Array.getElem?_setIfInBounds_self_of_lt (by omega),hu],hv⟩

set_option maxHeartbeats 1000000 in
theorem lText (A:Option Addr) (c:Nat) (l:List Tok) (w:World) (he:Env w) (h:Toks w w.heap.size A l) (hl:l.length≤65536) :
  Calls Tryz.prog 53 #[.slice A l.length c] w (TextPost l w):=by
 have hmk:=fun W=>run_make_row' (P:=Tryz.prog) 105 9 (.string ⟨#[]⟩) 16 Tryz.underlying105 Tryz.infoStr rfl .i64 .i64 l.length (by omega) (by omega) W
 obtain ⟨m,hm⟩:∃ m,m=l.length:=⟨_,rfl⟩
 rw[←hm] at hmk ⊢
 have hml:m≤l.length:=by omega
 have hlm:l.length≤m:=by omega
 have Hm:=Lh hm;clear hm
 obtain ⟨cs0,hcs0⟩:∃ cs0,cs0=madeCells #[.string ⟨#[]⟩] m:=⟨_,rfl⟩
 have hcs0s:cs0.size=m:=by rw [hcs0,size_madeCells]
 rw[←hcs0] at hmk
 have Hcs0:=Lh hcs0s
 clear hcs0 hcs0s
 go_enter Tryz.func53,Tryz.ntmps53
 go_wp2
 go_loopw [12] (fun i wr=>∃ (k:Nat) (cs:Array Value),k≤m∧i = .int .i64 k∧Blk wr w.heap.size 9 cs∧cs.size=m∧(∀ (j:Nat) (t:Tok),j < k→l[j]?=some t→cs[j]?=some (.string (Lx.bs t.out))∧Lx.valid t=true)∧Below w.heap.size w wr)
  (fun i _=>m - (intOf i).toNat)
 case atStart=>exact ⟨0,cs0,by omega,rfl,Blk.new _ _ _,Hcs0.out,fun j t hj=>absurd hj (by omega),(Below.refl _ _).alloc (Nat.le_refl _) _⟩
 case round=>
  obtain ⟨k,cs,hk,rfl,hblk,hcs,hh,hbel⟩:=hrel
  have H:=h.below hbel (Nat.le_refl _)
  have hsz:=hblk.lt
  have hEw:=he.next hbel
  have Hh:=Lh hh;have Hblk:=Lh hblk;have Hbel:=Lh hbel;have Hcs:=Lh hcs;have HE:=Lh hEw
  clear hh hblk hbel hcs hEw hmk
  by_cases hlt:k < m
  ·obtain ⟨x,hx⟩:∃ x,l[k]?=some x:=⟨_,List.getElem?_eq_getElem (by omega)⟩
   obtain ⟨b,o,rfl,hb,h4⟩:=H.at_ k x hx
   have hxl:=h.texts x (List.mem_of_getElem? hx)
   obtain ⟨p1,p2,p3,p4⟩:=h4
   have hval:=fun W=>lValid x.kind x.n x.pos (Lx.bs x.text) W (by rw [Lx.bs_size];unfold maxLen;omega)
   rw[Lx.bs_list] at hval
   have hne1:b < wr.heap.size:=by omega
   have Hx:=Lh hx;have HH:=Lh H
   clear hx H
   cases hs:Lx.valid x
   ·have hval':∀ W,Calls Tryz.prog 131 #[.agg #[.int .i64 x.kind,.string (Lx.bs x.text),.int .i64 x.n,.int .i64 x.pos]] W fun e w'=>e = .returned (.bool false)∧Below W.heap.size W w':=by rw [←hs];exact hval
    have Hval:=Lh hval'
    have Hs:=Lh hs
    clear hval hval' hs
    go_wp2_with fail
    refine (Hval.out _).mono ?_
    rintro e w1 ⟨rfl,hb1⟩
    have Hb1:=Lh hb1;clear hb1
    go_wp2_with fail
    go_ret2
    refine ⟨Hbel.out.trans (((Below.refl _ _).alloc (by omega) _).trans (Hb1.out.mono (by simp;omega))),?_⟩
    rw[Lx.text_none Hx.out Hs.out]
    rfl
   ·have hval':∀ W,Calls Tryz.prog 131 #[.agg #[.int .i64 x.kind,.string (Lx.bs x.text),.int .i64 x.n,.int .i64 x.pos]] W fun e w'=>e = .returned (.bool true)∧Below W.heap.size W w':=by rw [←hs];exact hval
    have Hval:=Lh hval'
    have Hs:=Lh hs
    clear hval hval' hs
    go_wp2_with fail
    refine (Hval.out _).mono ?_
    rintro e w1 ⟨rfl,hb1⟩
    have hbx:=(Blk.new wr 55 #[.int .i64 x.kind,.string (Lx.bs x.text),.int .i64 x.n,.int .i64 x.pos]).below hb1 (by simp)
    have x0:=hbx.cell 0;have x1:=hbx.cell 1;have x2:=hbx.cell 2
    simp at x0 x1 x2
    have hbw:=((Hblk.out).alloc (.cells #[.int .i64 x.kind,.string (Lx.bs x.text),.int .i64 x.n,.int .i64 x.pos] 55)).below hb1 (by simp;omega)
    have y0:=hbw.cell k
    have y1:=hbw.free k
    have Hb1:=Lh hb1;have Hbw:=Lh hbw
    clear hb1 hbx hbw
    by_cases h2:x.kind=2
    ·obtain ⟨hn0,hn1⟩:=Lx.valid_num Hs.out h2
     have h2':(x.kind == 2)=true:=beq_iff_eq.2 h2
     have hio:=fun W (hE:Env W)=>cItoa x.n (by omega) (by omega) W hE
     have hout:(⟨(Lib.itoa x.n).toArray⟩:ByteArray)=Lx.bs x.out:=by
      unfold Tok.out Lib.itoa
      rw[if_pos h2,if_neg (by omega)];rfl
     rw[hout] at hio
     have HE1:=Lh ((HE.out.next ((Below.refl _ _).alloc (Nat.le_refl _) (.cells #[.int .i64 x.kind,.string (Lx.bs x.text),.int .i64 x.n,.int .i64 x.pos] 55))).next Hb1.out)
     have Hio:=Lh hio
     clear hio hout h2
     obtain ⟨cv,hcv⟩:∃ cv,cs[k]?=some cv:=⟨_,Array.getElem?_eq_getElem (by rw [Hcs.out];omega)⟩
     rw[hcv] at y0
     clear hcv
     go_wp2_with fail
     refine (Hio.out _ HE1.out).mono ?_
     rintro e w2 ⟨rfl,hb2⟩
     have hw1:=Hbw.out.lt
     have hbw2:=Hbw.out.below hb2 (by omega)
     have hcell:=hbw2.cell k
     have hfree:=hbw2.free k
     rw[←Hbw.out.cell k,y0] at hcell
     have Hb2:=Lh hb2;have Hbw2:=Lh hbw2
     clear hb2 hbw2 x0 x1 x2 y0 y1
     go_wp2_with fail
     go_roundw
     case rel=>exact ⟨k+1,_,by omega,by go_num,Hbw2.out.set k _,by rw [Array.size_setIfInBounds];exact Hcs.out,text_step Hcs.out hlt Hh.out Hx.out rfl Hs.out,
      ((Hbel.out.trans (((Below.refl _ _).alloc (by omega) _).trans (Hb1.out.mono (by simp;omega)))).trans (Hb2.out.mono (by omega))).setCell (show w.heap.size≤w.heap.size from Nat.le_refl _) _⟩
     case measure=>simp [intOf];omega
    ·have h2':(x.kind == 2)=false:=beq_eq_false_iff_ne.2 h2
     have H2:=Lh h2;clear h2
     obtain ⟨cv,hcv⟩:∃ cv,cs[k]?=some cv:=⟨_,Array.getElem?_eq_getElem (by rw [Hcs.out];omega)⟩
     rw[hcv] at y0
     clear hcv
     go_wp2_with fail
     go_roundw
     case rel=>exact ⟨k+1,_,by omega,by go_num,Hbw.out.set k _,by rw [Array.size_setIfInBounds];exact Hcs.out,text_step Hcs.out hlt Hh.out Hx.out (by unfold Tok.out;rw[if_neg H2.out]) Hs.out,
      (Hbel.out.trans (((Below.refl _ _).alloc (by omega) _).trans (Hb1.out.mono (by simp;omega)))).setCell (show w.heap.size≤w.heap.size from Nat.le_refl _) _⟩
     case measure=>simp [intOf];omega
  ·obtain rfl:k=m:=by omega
   have hall:∀ (j:Nat) (t:Tok),l[j]?=some t→Lx.valid t=true:=fun j t hj=>(Hh.out j t (by have:=(List.getElem?_eq_some_iff.1 hj).1;omega) hj).2
   have htx:=Lx.text_some hall
   have hcells:∀ (j:Nat) x,(l.map fun t=>Lx.bs t.out)[j]?=some x→wr.cell? ⟨w.heap.size,0+j,none⟩=some (.string x):=fun j x hj=>by
    rw[List.getElem?_map] at hj
    obtain ⟨t,ht,rfl⟩:=Option.map_eq_some_iff.1 hj
    rw[Hblk.out.cell,Nat.zero_add]
    exact (Hh.out j t (by have:=(List.getElem?_eq_some_iff.1 ht).1;omega) ht).1
   have hmap:((l.map fun t=>Lx.bs t.out).map (·.data.toList))=l.map Tok.out:=by
    rw[List.map_map];exact List.map_congr_left fun t _=>Lx.bs_list _
   have hjn:Lib.join ((l.map fun t=>Lx.bs t.out).map (·.data.toList)) (⟨#[32]⟩:ByteArray).data.toList=Lx.joinSp (l.map Tok.out):=by rw [hmap];exact Lx.join_sp _
   have hjl:(Lx.joinSp (l.map Tok.out)).length≤33*l.length:=by
    have:=Lx.joinSp_len (l.map Tok.out) (fun x hx=>by
     obtain ⟨t,ht,rfl⟩:=List.mem_map.1 hx
     obtain ⟨j,hj⟩:=List.mem_iff_getElem?.1 ht
     exact Lx.valid_out (hall j t hj))
    rwa [List.length_map] at this
   have hcall:=cJoin w.heap.size 0 k (l.map fun t=>Lx.bs t.out) ⟨#[32]⟩ wr hcells (by omega) (by rw [List.length_map];omega) (by rw [List.length_map];omega) (by rw [hjn];omega)
   rw[hjn,List.length_map,←Hm.out] at hcall
   have Hcall:=Lh hcall;have Htx:=Lh htx
   clear hcall htx hjn hjl hcells hmap hall
   go_wp2_with fail
   refine (Hcall.out).mono ?_
   rintro e w1 ⟨rfl,hb1⟩
   have Hb1:=Lh hb1;clear hb1
   go_wp2_with fail
   go_ret2
   refine ⟨Hbel.out.trans (Hb1.out.mono (by omega)),?_⟩
   rw[Htx.out]
   rfl
end Go.Proofs.YtjonaidancomgaaGreatDoor

namespace Go.Proofs.YtjonaidancomgaaGreatDoor
open Go.RowKit
open Lx (Tok)

theorem lTextOk (A:Option Addr) (c:Nat) (l:List Tok) (s:List UInt8) (w:World) (he:Env w) (h:Toks w w.heap.size A l) (hl:l.length≤65536) (ht:Lx.text l=some s) :
  Calls Tryz.prog 53 #[.slice A l.length c] w fun e w'=>e = .returned (.tuple #[.string (Lx.bs s),.int .i64 0])∧Below w.heap.size w w'∧Env w':=by
 refine (lText A c l w he h hl).mono fun e w' ⟨hb,h⟩=>?_
 rw[ht] at h
 exact ⟨h,hb,he.next hb⟩
theorem Toks.first {w:World} {B:Nat} {A:Option Addr} {t:Tok} {l:List Tok} (h:Toks w B A (t::l)):∃ b o,A=some ⟨b,o,none⟩∧b < B∧w.cell? ⟨b,o,none⟩=some (.int .i64 t.kind)∧w.cell? ⟨b,o+1,none⟩=some (.string (Lx.bs t.text))∧w.cell? ⟨b,o+2,none⟩=some (.int .i64 t.n)∧w.cell? ⟨b,o+3,none⟩=some (.int .i64 t.pos):=by
 obtain ⟨b,o,h1,h2,h3⟩:=h.at_ 0 t rfl
 exact ⟨b,o,h1,h2,by simpa using h3.kind,by simpa using h3.text,by simpa using h3.n,by simpa using h3.pos⟩

end Go.Proofs.YtjonaidancomgaaGreatDoor

namespace Go.Proofs.YtjonaidancomgaaGreatDoor.Lx

theorem step_out {c:UInt8} {r:List UInt8} {t:Tok} {k:Nat} (h:step c r = .tok t k):t.out=(c::r).take k∧t.out.length=k∧k≤(c::r).length∧t.pos=0:=by
 cases h1:space c
 case true=>rw [step_space h1] at h;cases h
 cases h2:comment (c::r)
 case true=>rw [step_comment h2] at h;cases h
 cases h3:letter c
 case true=>
  rw[step_letter h3] at h
  split at h
  ·injection h with h h'
   subst h;subst h'
   exact ⟨(take_tw part _).symm,rfl,tw_le part _,rfl⟩
  ·cases h
 cases h4:figure c
 case true=>
  rw[step_figure h4] at h
  split at h
  ·rename_i n hn
   injection h with h h'
   subst h;subst h'
   obtain ⟨hv,_,hp⟩:=number_val hn
   have e:(⟨2,[],(n:Int),0⟩:Tok).out=(c::r).takeWhile figure:=by
    show Lib.decDigits (n:Int).toNat=_
    rw[Int.toNat_natCast,hv]
    exact (digits_eq_iff (tw_all figure _) (by rw [List.takeWhile_cons,if_pos h4];simp)).2 hp
   rw[e]
   exact ⟨(take_tw figure _).symm,rfl,tw_le figure _,rfl⟩
  ·cases h
 cases h5:sign c
 case true=>
  rw[step_sign h5 h2] at h
  injection h with h h'
  subst h;subst h'
  exact ⟨rfl,rfl,by simp,rfl⟩
 rw[step_err h1 h3 h4 h5] at h
 cases h

theorem lexN_len:∀ (f:Nat) (l:List UInt8) (p:Nat) (ts:List Tok),lexN f l p = .ok ts→(joinSp (ts.map Tok.out)).length+1≤2*l.length+1∧ts.length≤l.length
 | f,[],p,ts,h=>by
  have:ts = []:=by cases f <;> (simp only [lexN] at h;injection h with h;exact h.symm)
  subst this;simp[joinSp]
 | 0,_::_,p,ts,h=>by
  simp only[lexN] at h;injection h with h
  subst h;simp[joinSp]
 | f+1,c::r,p,ts,h=>by
  simp only[lexN] at h
  cases hs:step c r with
  | skip k=>
   rw[hs] at h
   have:=lexN_len f _ _ ts h
   rw[List.length_drop] at this
   exact ⟨by omega,by omega⟩
  | err=>rw [hs] at h;cases h
  | tok t k=>
   rw[hs] at h
   simp only at h
   cases hr:lexN f ((c::r).drop k) (p+k) with
   | err q=>rw [hr] at h;cases h
   | ok ts'=>
    rw[hr] at h
    simp only[Res.cons] at h
    injection h with h
    subst h
    obtain ⟨h1,h1',h2,_⟩:=step_out hs
    have h3:=step_tok_pos hs
    have h4:=lexN_len f _ _ ts' hr
    rw[List.length_drop] at h4
    have e:({ t with pos:=(p:Int) } : Tok).out=t.out:=rfl
    refine ⟨?_,by simp only [List.length_cons] at h4 h2 ⊢;omega⟩
    rw[List.map_cons,e]
    cases ts' with
    | nil=>simp only [List.map_nil,joinSp];omega
    | cons u us=>
     simp only[List.map_cons,joinSp,List.length_append,List.length_cons] at h4 h2 ⊢
     omega
theorem lex_len {l:List UInt8} {ts:List Tok} (h:lex l = .ok ts):(joinSp (ts.map Tok.out)).length≤2*l.length∧ts.length≤l.length:=by
 have:=lexN_len _ _ _ _ h
 omega
end Go.Proofs.YtjonaidancomgaaGreatDoor.Lx
