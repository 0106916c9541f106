/- Parts of the proof, joined into one text: VJ, q1D, Z9. -/
import Derived.Test.YtjonaidancomgaaGreatDoorPSxEq
import Derived.Test.YtjonaidancomgaaGreatDoorPSxEqk
import Derived.Test.YtjonaidancomgaaGreatDoorPSxParseC
import Derived.Test.YtjonaidancomgaaGreatDoorPSxPut
import Derived.Deep.LoopGhost
import Derived.Test.YtjonaidancomgaaGreatDoorPLxPlain
import Derived.Test.YtjonaidancomgaaGreatDoorPSxSameC
set_option maxHeartbeats 4000000
set_option maxRecDepth 20000
namespace Go.Proofs.YtjonaidancomgaaGreatDoor
open Go.RowKit
theorem IQ (N g B:Nat) (l:List Lx.Tok) (last:Int) (w:World) (h:PS g B last l w) (he:d9 N w) (hN:N≤g) :
  Calls Tryz.prog 44 #[.pointer (some ⟨g,0,none⟩)] w (dH g B last w (iF w.heap.size) (Sx.rule last 16 0 l)):=by
 obtain ⟨R,hR⟩:∃ R,R=Sx.rule last 16 0 l:=⟨_,rfl⟩
 rw[←hR];have hlt:=h.lt;have L:=Lh (jl.start h 38 #[.int .i64 0,.int .i64 0,.string ⟨#[]⟩,.int .i64 0,.int .i64 0,.slice none 0 0]);have Hc:=Lh (Ke N g B l last _ L.out.ps (he.fr L.out.fr hN) hN);rw[←hR] at Hc;clear h hR he;go_enter Tryz.func44,Tryz.ntmps44;go_wp2_with fail;refine Hc.out.mono ?_;intro e w1 he
 rcases he.split with ⟨p,x,hv,rfl,hf⟩ | ⟨a,l1,v,hv,rfl,hV,hs,hf⟩
 ·exact ⟨rfl,dH.aM hv (L.out.fr.trans hf)⟩
 obtain ⟨cs,hV,hra⟩:=hV;obtain ⟨op,co,nm,nn,dd,ks⟩:=a;have iG:=hra;rw[aB] at hra;obtain ⟨A0,n0,rfl,-,-,-⟩:=hra;unfold aT bB at hV;subst hV;have L1:=L.out.step hf hs;have y0:=L1.blk.cell 0;have y1:=L1.blk.cell 1;have y2:=L1.blk.cell 2;have y3:=L1.blk.cell 3;have y4:=L1.blk.cell 4;have y5:=L1.blk.cell 5;have WC:=L1.blk.free 0;have WE:=L1.blk.free 1;have WG:=L1.blk.free 2;have WH:=L1.blk.free 3;have Yi:=L1.blk.free 4;have Yj:=L1.blk.free 5;simp at y0 y1 y2 y3 y4 y5;have hp1:=L1.blk.lt;have HL:=Lh L1;have HV:=Lh hv;have HA:=Lh iG;clear hv hs hf he iG L1;go_wp2_with fail
 obtain ⟨V,hV⟩:∃ V,V=(((((w1.setCell ⟨w.heap.size,0,none⟩ (.int .i64 op)).setCell ⟨w.heap.size,1,none⟩ (.int .i64 co)).setCell ⟨w.heap.size,2,none⟩ (.string (Lx.bs nm))).setCell ⟨w.heap.size,3,none⟩ (.int .i64 nn)).setCell ⟨w.heap.size,4,none⟩ (.int .i64 dd)).setCell ⟨w.heap.size,5,none⟩ (.slice A0 ks.length n0):=⟨_,rfl⟩
 have hL:jl g B last l1 w.heap.size 38 #[.int .i64 op,.int .i64 co,.string (Lx.bs nm),.int .i64 nn,.int .i64 dd,.slice A0 ks.length n0] w V:=by
  rw[hV];have:=(((((HL.out.set 0 (.int .i64 op)).set 1 (.int .i64 co)).set 2 (.string (Lx.bs nm))).set 3 (.int .i64 nn)).set 4 (.int .i64 dd)).set 5 (.slice A0 ks.length n0);simpa using this
 have tN:V.heap.size=w1.heap.size:=by rw [hV];simp[World.setCell]
 have vI:∀ b,b≠w.heap.size→V.heap[b]?=w1.heap[b]?:=fun b h1=>by
  rw[hV,Below.heap_setCell _ _ _ b h1,Below.heap_setCell _ _ _ b h1,Below.heap_setCell _ _ _ b h1,Below.heap_setCell _ _ _ b h1,Below.heap_setCell _ _ _ b h1,Below.heap_setCell _ _ _ b h1]
 have d0:=hL.blk.cell 0;have d1:=hL.blk.cell 1;have d2:=hL.blk.cell 2;have d3:=hL.blk.cell 3;have d4:=hL.blk.cell 4;have d5:=hL.blk.cell 5;simp at d0 d1 d2 d3 d4 d5
 try simp only [Exit.inBlock,Exit.then]
 rw[←hV];clear hV;exact bodyPost_ret (v:=.agg #[.int .i64 op,.int .i64 co,.string (Lx.bs nm),.int .i64 nn,.int .i64 dd,.slice A0 ks.length n0]) (by simp [results,Tryz.results44,go_sem,d0,d1,d2,d3,d4,d5]) rfl (by rw [HV.out];exact ⟨_,rfl,⟨_,rfl,aB.keep (fun b hb=>⟨⟨by have:=hb.1;simp at this;omega,by rw [tN];exact hb.2⟩,fun i=>World.cell?_of_block (a:=⟨b,i,none⟩) (vI b (by have:=hb.1;simp at this;omega))⟩) _ _ HA.out⟩,hL.ps,hL.fr⟩)
theorem nA (s:ByteArray) (w w1:World) (p x:Int) (cq:Array Value) (hcq:cq.size=6) (x1 x2:Value) (tmps:Array Value) (h4:tmps[4]?=some (.pointer (some ⟨w.heap.size,0,none⟩))) (h5:tmps[5]?=some (.pointer (some ⟨w.heap.size+1,0,none⟩))) (h6:tmps[6]?=some (.pointer (some ⟨w.heap.size+1+1,0,none⟩)))
  (q0:aC w1 (w.heap.size) 38 cq) (q1:aC w1 (w.heap.size+1) 3 #[x1]) (q2:aC w1 (w.heap.size+1+1) 31 #[x2]) (hbel:Below w.heap.size w w1) (hp:Sx.dS (fun last l=>Sx.rule last 16 0 l) s.data.toList = .bad p x) :
  Leaves Tryz.prog Tryz.f43 tmps (j6 (fun last l=>Sx.rule last 16 0 l) iF (.agg #[.int .i64 0,.int .i64 0,.string ⟨#[]⟩,.int .i64 0,.int .i64 0,.slice none 0 0]) s.data.toList w) [{ target:=.fn (.func 106) #[.pointer (some ⟨w.heap.size,0,none⟩),.pointer (some ⟨w.heap.size+1,0,none⟩),.pointer (some ⟨w.heap.size+1+1,0,none⟩)],args:=#[] }] (.panicking [{ v:=.iface 141 (.agg #[.int .i64 p,.int .i64 x]),recovered:=false }]) w1:=by
 refine leaves_cons (f:=106) (args:=#[.pointer (some ⟨w.heap.size,0,none⟩),.pointer (some ⟨w.heap.size+1,0,none⟩),.pointer (some ⟨w.heap.size+1+1,0,none⟩)]) (by simp) (by simp [go_sem]) ?_;refine (EC w.heap.size p x cq x1 x2 hcq w1 q0 q1 q2).mono ?_;rintro e u' w2 ⟨rfl,rfl,r0,r1,r2,hb⟩;have c0:=r0.cell 0;have c1:=r0.cell 1;have c2:=r0.cell 2;have c3:=r0.cell 3;have c4:=r0.cell 4;have c5:=r0.cell 5;have d1:=r1.cell 0;have d2:=r2.cell 0;simp at c0 c1 c2 c3 c4 c5 d1 d2
 refine ⟨.tuple #[.agg #[.int .i64 0,.int .i64 0,.string ⟨#[]⟩,.int .i64 0,.int .i64 0,.slice none 0 0],.int .i64 p,.int .i64 x],?_,hbel.trans hb,?_⟩
 ·simp[results,Tryz.results43,go_sem,h4,h5,h6,c0,c1,c2,c3,c4,c5,d1,d2]
 ·rw[hp]
theorem oz (s:ByteArray) (w w3:World) (p x:Int) (tmps:Array Value) (h4:tmps[4]?=some (.pointer (some ⟨w.heap.size,0,none⟩))) (h5:tmps[5]?=some (.pointer (some ⟨w.heap.size+1,0,none⟩))) (h6:tmps[6]?=some (.pointer (some ⟨w.heap.size+1+1,0,none⟩)))
  (q0:aC w3 (w.heap.size) 38 #[.int .i64 0,.int .i64 0,.string ⟨#[]⟩,.int .i64 0,.int .i64 0,.slice none 0 0]) (q1:aC w3 (w.heap.size+1) 3 #[.int .i64 p]) (q2:aC w3 (w.heap.size+1+1) 31 #[.int .i64 x]) (hbel:Below w.heap.size w w3) (hp:Sx.dS (fun last l=>Sx.rule last 16 0 l) s.data.toList = .bad p x) :
  bodyPostD Tryz.prog Tryz.f43 (j6 (fun last l=>Sx.rule last 16 0 l) iF (.agg #[.int .i64 0,.int .i64 0,.string ⟨#[]⟩,.int .i64 0,.int .i64 0,.slice none 0 0]) s.data.toList w) .ret { tmps:=tmps,defers:=[] } ((((((((w3.setCell ⟨w.heap.size,0,none⟩ (.int .i64 0)).setCell ⟨w.heap.size,1,none⟩ (.int .i64 0)).setCell ⟨w.heap.size,2,none⟩ (.string ⟨#[]⟩)).setCell ⟨w.heap.size,3,none⟩ (.int .i64 0)).setCell ⟨w.heap.size,4,none⟩ (.int .i64 0)).setCell ⟨w.heap.size,5,none⟩ (.slice none 0 0)).setCell ⟨w.heap.size+1,0,none⟩ (.int .i64 p)).setCell ⟨w.heap.size+1+1,0,none⟩ (.int .i64 x)).drew:=by
 obtain ⟨W',hW'⟩:∃ W',W'=((((((((w3.setCell ⟨w.heap.size,0,none⟩ (.int .i64 0)).setCell ⟨w.heap.size,1,none⟩ (.int .i64 0)).setCell ⟨w.heap.size,2,none⟩ (.string ⟨#[]⟩)).setCell ⟨w.heap.size,3,none⟩ (.int .i64 0)).setCell ⟨w.heap.size,4,none⟩ (.int .i64 0)).setCell ⟨w.heap.size,5,none⟩ (.slice none 0 0)).setCell ⟨w.heap.size+1,0,none⟩ (.int .i64 p)).setCell ⟨w.heap.size+1+1,0,none⟩ (.int .i64 x)).drew:=⟨_,rfl⟩
 rw[←hW'];have r0:aC W' (w.heap.size) 38 #[.int .i64 0,.int .i64 0,.string ⟨#[]⟩,.int .i64 0,.int .i64 0,.slice none 0 0]:=by
  rw[hW'];have:=(((((((((q0).set 0 (.int .i64 0)).set 1 (.int .i64 0)).set 2 (.string ⟨#[]⟩)).set 3 (.int .i64 0)).set 4 (.int .i64 0)).set 5 (.slice none 0 0)).far (p:=⟨w.heap.size+1,0,none⟩) (by simp) (.int .i64 p)).far (p:=⟨w.heap.size+1+1,0,none⟩) (by simp;omega) (.int .i64 x)).drew;simpa using this
 have r1:aC W' (w.heap.size+1) 3 #[.int .i64 p]:=by
  rw[hW'];have:=(((((((((q1).far (p:=⟨w.heap.size,0,none⟩) (by simp) (.int .i64 0)).far (p:=⟨w.heap.size,1,none⟩) (by simp) (.int .i64 0)).far (p:=⟨w.heap.size,2,none⟩) (by simp) (.string ⟨#[]⟩)).far (p:=⟨w.heap.size,3,none⟩) (by simp) (.int .i64 0)).far (p:=⟨w.heap.size,4,none⟩) (by simp) (.int .i64 0)).far (p:=⟨w.heap.size,5,none⟩) (by simp) (.slice none 0 0)).set 0 (.int .i64 p)).far (p:=⟨w.heap.size+1+1,0,none⟩) (by simp) (.int .i64 x)).drew;simpa using this
 have r2:aC W' (w.heap.size+1+1) 31 #[.int .i64 x]:=by
  rw[hW'];have:=(((((((((q2).far (p:=⟨w.heap.size,0,none⟩) (by simp;omega) (.int .i64 0)).far (p:=⟨w.heap.size,1,none⟩) (by simp;omega) (.int .i64 0)).far (p:=⟨w.heap.size,2,none⟩) (by simp;omega) (.string ⟨#[]⟩)).far (p:=⟨w.heap.size,3,none⟩) (by simp;omega) (.int .i64 0)).far (p:=⟨w.heap.size,4,none⟩) (by simp;omega) (.int .i64 0)).far (p:=⟨w.heap.size,5,none⟩) (by simp;omega) (.slice none 0 0)).far (p:=⟨w.heap.size+1,0,none⟩) (by simp) (.int .i64 p)).set 0 (.int .i64 x)).drew;simpa using this
 have hb:Below w.heap.size w W':=by
  rw[hW'];exact (((((((((hbel).setCell (p:=⟨w.heap.size,0,none⟩) (Nat.le_refl _) _).setCell (p:=⟨w.heap.size,1,none⟩) (Nat.le_refl _) _).setCell (p:=⟨w.heap.size,2,none⟩) (Nat.le_refl _) _).setCell (p:=⟨w.heap.size,3,none⟩) (Nat.le_refl _) _).setCell (p:=⟨w.heap.size,4,none⟩) (Nat.le_refl _) _).setCell (p:=⟨w.heap.size,5,none⟩) (Nat.le_refl _) _).setCell (p:=⟨w.heap.size+1,0,none⟩) (show w.heap.size≤w.heap.size+1 by omega) _).setCell (p:=⟨w.heap.size+1+1,0,none⟩) (show w.heap.size≤w.heap.size+1+1 by omega) _).drew
 clear hW';have c0:=r0.cell 0;have c1:=r0.cell 1;have c2:=r0.cell 2;have c3:=r0.cell 3;have c4:=r0.cell 4;have c5:=r0.cell 5;have d1:=r1.cell 0;have d2:=r2.cell 0;simp at c0 c1 c2 c3 c4 c5 d1 d2;refine ⟨.tuple #[.agg #[.int .i64 0,.int .i64 0,.string ⟨#[]⟩,.int .i64 0,.int .i64 0,.slice none 0 0],.int .i64 p,.int .i64 x],?_,hb,?_⟩
 ·simp[results,Tryz.results43,go_sem,h4,h5,h6,c0,c1,c2,c3,c4,c5,d1,d2]
 ·rw[hp]
theorem vP (s:ByteArray) (w w1:World) (v:Value) (tmps:Array Value) (hr:(results Tryz.f43 tmps).run Tryz.prog w1 = .ok v w1) (hP:(j6 (fun last l=>Sx.rule last 16 0 l) iF (.agg #[.int .i64 0,.int .i64 0,.string ⟨#[]⟩,.int .i64 0,.int .i64 0,.slice none 0 0]) s.data.toList w) (.returned v) w1) :
  Leaves Tryz.prog Tryz.f43 tmps (j6 (fun last l=>Sx.rule last 16 0 l) iF (.agg #[.int .i64 0,.int .i64 0,.string ⟨#[]⟩,.int .i64 0,.int .i64 0,.slice none 0 0]) s.data.toList w) [{ target:=.fn (.func 106) #[.pointer (some ⟨w.heap.size,0,none⟩),.pointer (some ⟨w.heap.size+1,0,none⟩),.pointer (some ⟨w.heap.size+1+1,0,none⟩)],args:=#[] }] .returning w1:=by
 refine leaves_cons (f:=106) (args:=#[.pointer (some ⟨w.heap.size,0,none⟩),.pointer (some ⟨w.heap.size+1,0,none⟩),.pointer (some ⟨w.heap.size+1+1,0,none⟩)]) (by simp) (by simp [go_sem]) ?_;refine (xH _ _ _ w1).mono ?_;rintro e u' w2 ⟨rfl,rfl,rfl⟩;exact ⟨v,hr,hP⟩
theorem EP (s:ByteArray) (N:Nat) (w:World) (he:d9 N w) (hs:s.size≤100000) :
  Calls Tryz.prog 43 #[.string s,.func (.func 44) #[] #[]] w (j6 (fun last l=>Sx.rule last 16 0 l) iF (.agg #[.int .i64 0,.int .i64 0,.string ⟨#[]⟩,.int .i64 0,.int .i64 0,.slice none 0 0]) s.data.toList w):=by
 have hmf:∀ (fn:Fn) (first cap:Array Value) (w:World),(Instr.makeFunc fn first cap).run Tryz.prog w = .ok (.func fn first cap) w:=fun _ _ _ _=>rfl;have DN:=he.size;obtain ⟨W0,hW0⟩:∃ W0,W0=((w.alloc (Obj.cells #[.int .i64 0,.int .i64 0,.string ⟨#[]⟩,.int .i64 0,.int .i64 0,.slice none 0 0] 38)).alloc (Obj.cells #[.int .i64 0] 3)).alloc (Obj.cells #[.int .i64 0] 31):=⟨_,rfl⟩
 have b0:aC W0 (w.heap.size) 38 #[.int .i64 0,.int .i64 0,.string ⟨#[]⟩,.int .i64 0,.int .i64 0,.slice none 0 0]:=by rw [hW0];exact ((aC.new _ _ _).alloc _).alloc _
 have b1:aC W0 (w.heap.size+1) 3 #[.int .i64 0]:=by rw [hW0];exact (aC.aZ _ _ (by simp)).alloc _
 have b2:aC W0 (w.heap.size+1+1) 31 #[.int .i64 0]:=by rw [hW0];exact aC.aZ _ _ (by simp)
 have hb0:Below w.heap.size w W0:=by rw [hW0];exact (((Below.refl _ _).alloc (Nat.le_refl _) _).alloc (by simp) _).alloc (by simp;omega) _
 have hz0:W0.heap.size=w.heap.size+3:=by rw [hW0];simp
 have HE:=Lh he;have qK:=Lh (O7 s W0 (by unfold maxLen;omega) (he.next hb0).env);have H0:=Lh b0;have H1:=Lh b1;have H2:=Lh b2;have HB:=Lh hb0;clear b0 b1 b2 hb0 he
 go_enter_defers Tryz.func43,Tryz.ntmps43
 go_wp2_with fail;rw[←hW0];clear hW0;refine qK.out.mono ?_;rintro e w1 ⟨hbel,hpost⟩;have B0:=H0.out.below hbel (by omega);have B1:=H1.out.below hbel (by omega);have B2:=H2.out.below hbel (by omega);have c0:=B1.cell 0;have f0:=B1.free 0;have c1:=B2.cell 0;have f1:=B2.free 0;simp at c0 c1;have hz1:=hbel.size;have Rs:=Lh (HB.out.trans (hbel.mono (by omega)))
 by_cases hlen:65536 < s.data.toList.length
 ·rw[if_pos hlen] at hpost;subst hpost;have HP:Hid (Sx.dS (fun last l=>Sx.rule last 16 0 l) s.data.toList = .bad 0 2):=Lh (by unfold Sx.dS;rw[if_pos hlen]);clear hbel;go_wp2_with fail;obtain ⟨w3,hw3⟩:∃ w3,w3=(w1.setCell ⟨w.heap.size+1,0,none⟩ (.int .i64 0)).setCell ⟨w.heap.size+1+1,0,none⟩ (.int .i64 2):=⟨_,rfl⟩
  have r0:aC w3 w.heap.size 38 #[.int .i64 0,.int .i64 0,.string ⟨#[]⟩,.int .i64 0,.int .i64 0,.slice none 0 0]:=by rw [hw3];exact (B0.far (p:=⟨w.heap.size+1,0,none⟩) (by simp) _).far (p:=⟨w.heap.size+1+1,0,none⟩) (by simp;omega) _
  have r1:aC w3 (w.heap.size+1) 3 #[.int .i64 0]:=by
   rw[hw3];have:=(B1.set 0 (.int .i64 0)).far (p:=⟨w.heap.size+1+1,0,none⟩) (by simp) (.int .i64 2);simpa using this
  have r2:aC w3 (w.heap.size+1+1) 31 #[.int .i64 2]:=by
   rw[hw3];have:=(B2.far (p:=⟨w.heap.size+1,0,none⟩) (by simp) (.int .i64 0)).set 0 (.int .i64 2);simpa using this
  have hb3:Below w.heap.size w w3:=by rw [hw3];exact (Rs.out.setCell (p:=⟨w.heap.size+1,0,none⟩) (show w.heap.size≤w.heap.size+1 by omega) _).setCell (p:=⟨w.heap.size+1+1,0,none⟩) (show w.heap.size≤w.heap.size+1+1 by omega) _
  rw[←hw3];clear hw3 c0 c1 f0 f1 B0 B1 B2;have m0:=r0.cell 0;have ZU:=r0.free 0;have m1:=r0.cell 1;have mf1:=r0.free 1;have m2:=r0.cell 2;have mf2:=r0.free 2;have m3:=r0.cell 3;have ZV:=r0.free 3;have m4:=r0.cell 4;have ZW:=r0.free 4;have m5:=r0.cell 5;have ZX:=r0.free 5;have m8:=r1.cell 0;have ZY:=r1.free 0;have m9:=r2.cell 0;have Z0:=r2.free 0;simp at m0 m1 m2 m3 m4 m5 m8 m9;have R0:=Lh r0;have R1:=Lh r1;have R2:=Lh r2;have HB3:=Lh hb3;clear r0 r1 r2 hb3
  go_region
  all_goals (try go_wp2_with fail)
  all_goals exact oz s w w3 _ _ _ rfl rfl rfl R0.out R1.out R2.out HB3.out HP.out
 rw[if_neg hlen] at hpost;cases hl:Lx.lex s.data.toList with
 | err p=>
  rw[hl] at hpost;subst hpost;have HP:Hid (Sx.dS (fun last l=>Sx.rule last 16 0 l) s.data.toList = .bad p 90):=Lh (by unfold Sx.dS;rw[if_neg hlen,hl]);clear hbel;go_wp2_with fail;obtain ⟨w3,hw3⟩:∃ w3,w3=(w1.setCell ⟨w.heap.size+1,0,none⟩ (.int .i64 p)).setCell ⟨w.heap.size+1+1,0,none⟩ (.int .i64 90):=⟨_,rfl⟩
  have r0:aC w3 w.heap.size 38 #[.int .i64 0,.int .i64 0,.string ⟨#[]⟩,.int .i64 0,.int .i64 0,.slice none 0 0]:=by rw [hw3];exact (B0.far (p:=⟨w.heap.size+1,0,none⟩) (by simp) _).far (p:=⟨w.heap.size+1+1,0,none⟩) (by simp;omega) _
  have r1:aC w3 (w.heap.size+1) 3 #[.int .i64 p]:=by
   rw[hw3];have:=(B1.set 0 (.int .i64 p)).far (p:=⟨w.heap.size+1+1,0,none⟩) (by simp) (.int .i64 90);simpa using this
  have r2:aC w3 (w.heap.size+1+1) 31 #[.int .i64 90]:=by
   rw[hw3];have:=(B2.far (p:=⟨w.heap.size+1,0,none⟩) (by simp) (.int .i64 p)).set 0 (.int .i64 90);simpa using this
  have hb3:Below w.heap.size w w3:=by rw [hw3];exact (Rs.out.setCell (p:=⟨w.heap.size+1,0,none⟩) (show w.heap.size≤w.heap.size+1 by omega) _).setCell (p:=⟨w.heap.size+1+1,0,none⟩) (show w.heap.size≤w.heap.size+1+1 by omega) _
  rw[←hw3];clear hw3 c0 c1 f0 f1 B0 B1 B2;have m0:=r0.cell 0;have ZU:=r0.free 0;have m1:=r0.cell 1;have mf1:=r0.free 1;have m2:=r0.cell 2;have mf2:=r0.free 2;have m3:=r0.cell 3;have ZV:=r0.free 3;have m4:=r0.cell 4;have ZW:=r0.free 4;have m5:=r0.cell 5;have ZX:=r0.free 5;have m8:=r1.cell 0;have ZY:=r1.free 0;have m9:=r2.cell 0;have Z0:=r2.free 0;simp at m0 m1 m2 m3 m4 m5 m8 m9;have R0:=Lh r0;have R1:=Lh r1;have R2:=Lh r2;have HB3:=Lh hb3;clear r0 r1 r2 hb3
  go_region
  all_goals (try go_wp2_with fail)
  all_goals exact oz s w w3 _ _ _ rfl rfl rfl R0.out R1.out R2.out HB3.out HP.out
 | ok l=>
  rw[hl] at hpost;obtain ⟨A,c,rfl,hT,hcap⟩:=hpost;have Oo:=Lh (fun p x=>Sx.vo (F:=(fun last l=>Sx.rule last 16 0 l)) (p:=p) (x:=x) hlen hl);have Rt:=Lh (fun a r=>Sx.vv (F:=(fun last l=>Sx.rule last 16 0 l)) (a:=a) (r:=r) hlen hl);have VA:=Lh (Lx.Dj hl);have hll:=(Lx.Bg hl).2;obtain ⟨W2,hW2⟩:∃ W2,W2=((w1.setCell ⟨w.heap.size+1,0,none⟩ (.int .i64 0)).setCell ⟨w.heap.size+1+1,0,none⟩ (.int .i64 0)).alloc (Obj.cells #[.slice A l.length c,.int .i64 s.size] 143):=⟨_,rfl⟩
  have k1:=nU c0;have k2:=nU (k1 _ _ c1);have Oq:iw W2 w1.heap.size A l:=by
   rw[hW2];exact (hT.same fun a v h=>k2 a v (k1 a v h)).below ((Below.refl _ _).alloc (by simp) _) (Nat.le_refl _)
  have hg2:aC W2 w1.heap.size 143 #[.slice A l.length c,.int .i64 s.size]:=by rw [hW2];exact aC.aZ _ _ (by simp [World.setCell])
  have a0:aC W2 w.heap.size 38 #[.int .i64 0,.int .i64 0,.string ⟨#[]⟩,.int .i64 0,.int .i64 0,.slice none 0 0]:=by rw [hW2];exact ((B0.far (p:=⟨w.heap.size+1,0,none⟩) (by simp) _).far (p:=⟨w.heap.size+1+1,0,none⟩) (by simp;omega) _).alloc _
  have a1:aC W2 (w.heap.size+1) 3 #[.int .i64 0]:=by
   rw[hW2];have:=((B1.set 0 (.int .i64 0)).far (p:=⟨w.heap.size+1+1,0,none⟩) (by simp) (.int .i64 0)).alloc (Obj.cells #[.slice A l.length c,.int .i64 s.size] 143);simpa using this
  have a2:aC W2 (w.heap.size+1+1) 31 #[.int .i64 0]:=by
   rw[hW2];have:=((B2.far (p:=⟨w.heap.size+1,0,none⟩) (by simp) (.int .i64 0)).set 0 (.int .i64 0)).alloc (Obj.cells #[.slice A l.length c,.int .i64 s.size] 143);simpa using this
  have hbW:Below w.heap.size w W2:=by
   rw[hW2];exact ((Rs.out.setCell (p:=⟨w.heap.size+1,0,none⟩) (show w.heap.size≤w.heap.size+1 by omega) _).setCell (p:=⟨w.heap.size+1+1,0,none⟩) (show w.heap.size≤w.heap.size+1+1 by omega) _).alloc (by simp [World.setCell];omega) _
  have Oh:PS w1.heap.size w1.heap.size (s.data.toList.length:Int) l W2:=⟨⟨A,c,by rw [Lx.bX];exact hg2,Oq,hcap⟩,Nat.le_refl _⟩
  have aH:=Lh (IQ N w1.heap.size w1.heap.size l _ W2 Oh (HE.out.next hbW) (by omega));have Ot:=Lh a0;have HA1:=Lh a1;have HA2:=Lh a2;have yN:=Lh hbW;have Z4:w1.heap.size < W2.heap.size:=hg2.lt;clear hl hT Oq hg2 a0 a1 a2 hbW Oh k1 k2 hbel B0 B1 B2 hlen qK;go_wp2_with fail
  try rw [←hW2]
  clear hW2;refine aH.out.mono ?_;intro e w4 he
  rcases he.split with ⟨p,x,hv,rfl,hf⟩ | ⟨a,l4,v,hv,rfl,hV,hs4,hf⟩
  ·refine nA s w w4 p x _ rfl _ _ _ rfl rfl rfl (hf.blk Ot.out (by omega)) (hf.blk HA1.out (by omega)) (hf.blk HA2.out (by omega)) (yN.out.trans (hf.aY.mono (by omega))) ?_;exact Oo.out p x (by rw [hv];rfl)
  obtain ⟨cs4,hV,hra⟩:=hV;have iG:=hra;obtain ⟨op,co,nm,nn,dd,ks⟩:=a;rw[aB] at hra;obtain ⟨A0,n0,rfl,-,-,-⟩:=hra
  try unfold aT bB at hV
  subst hV;have d0:=hf.blk Ot.out (by omega);have d1:=hf.blk HA1.out (by omega);have d2:=hf.blk HA2.out (by omega);have hb4:=yN.out.trans (hf.aY.mono (by omega:w.heap.size≤w1.heap.size));have q0:=d0.cell 0;have BK:=d0.free 0;have q1:=d0.cell 1;have C8:=d0.free 1;have q2:=d0.cell 2;have yA:=d0.free 2;have q3:=d0.cell 3;have sQ:=d0.free 3;have q4:=d0.cell 4;have BI:=d0.free 4;have q5:=d0.cell 5;have BJ:=d0.free 5;have e1:=d1.cell 0;have ef1:=d1.free 0;have e2:=d2.cell 0;have ef2:=d2.free 0;simp at q0 q1 q2 q3 q4 q5 e1 e2;obtain ⟨⟨AT,cT,hg4,IL,hcap4⟩,hB4⟩:=hs4;have g0:=hg4.cell 0
  simp at g0;have hz4:=hf.aY.size;cases l4 with
  | nil=>
   have HD0:=Lh d0;have HD1:=Lh d1;have HD2:=Lh d2;have oP:=Lh hb4;have HX:=Lh iG;have HV:=Lh (Rt.out _ _ (by rw [hv];rfl));clear hv hf he iG d0 d1 d2 hb4 hg4 IL Ot HA1 HA2 aH Oo Rt;go_wp2_with fail
   obtain ⟨V,hV⟩:∃ V,V=((((((((((((((w4).setCell ⟨w.heap.size,0,none⟩ (.int .i64 op)).setCell ⟨w.heap.size,1,none⟩ (.int .i64 co)).setCell ⟨w.heap.size,2,none⟩ (.string (Lx.bs nm))).setCell ⟨w.heap.size,3,none⟩ (.int .i64 nn)).setCell ⟨w.heap.size,4,none⟩ (.int .i64 dd)).setCell ⟨w.heap.size,5,none⟩ (.slice A0 ks.length n0)).setCell ⟨w.heap.size,0,none⟩ (.int .i64 op)).setCell ⟨w.heap.size,1,none⟩ (.int .i64 co)).setCell ⟨w.heap.size,2,none⟩ (.string (Lx.bs nm))).setCell ⟨w.heap.size,3,none⟩ (.int .i64 nn)).setCell ⟨w.heap.size,4,none⟩ (.int .i64 dd)).setCell ⟨w.heap.size,5,none⟩ (.slice A0 ks.length n0)).setCell ⟨w.heap.size+1,0,none⟩ (.int .i64 0)).setCell ⟨w.heap.size+1+1,0,none⟩ (.int .i64 0):=⟨_,rfl⟩
   try rw [←hV]
   have r0:aC V w.heap.size 38 #[.int .i64 op,.int .i64 co,.string (Lx.bs nm),.int .i64 nn,.int .i64 dd,.slice A0 ks.length n0]:=by
    rw[hV];have:=((((((((((((((HD0.out).set 0 (.int .i64 op)).set 1 (.int .i64 co)).set 2 (.string (Lx.bs nm))).set 3 (.int .i64 nn)).set 4 (.int .i64 dd)).set 5 (.slice A0 ks.length n0)).set 0 (.int .i64 op)).set 1 (.int .i64 co)).set 2 (.string (Lx.bs nm))).set 3 (.int .i64 nn)).set 4 (.int .i64 dd)).set 5 (.slice A0 ks.length n0)).far (p:=⟨w.heap.size+1,0,none⟩) (by simp) (.int .i64 0)).far (p:=⟨w.heap.size+1+1,0,none⟩) (by simp;omega) (.int .i64 0);simpa using this
   have r1:aC V (w.heap.size+1) 3 #[.int .i64 0]:=by
    rw[hV]
    have:=((((((((((((((HD1.out).far (p:=⟨w.heap.size,0,none⟩) (by simp) (.int .i64 op)).far (p:=⟨w.heap.size,1,none⟩) (by simp) (.int .i64 co)).far (p:=⟨w.heap.size,2,none⟩) (by simp) (.string (Lx.bs nm))).far (p:=⟨w.heap.size,3,none⟩) (by simp) (.int .i64 nn)).far (p:=⟨w.heap.size,4,none⟩) (by simp) (.int .i64 dd)).far (p:=⟨w.heap.size,5,none⟩) (by simp) (.slice A0 ks.length n0)).far (p:=⟨w.heap.size,0,none⟩) (by simp) (.int .i64 op)).far (p:=⟨w.heap.size,1,none⟩) (by simp) (.int .i64 co)).far (p:=⟨w.heap.size,2,none⟩) (by simp) (.string (Lx.bs nm))).far (p:=⟨w.heap.size,3,none⟩) (by simp) (.int .i64 nn)).far (p:=⟨w.heap.size,4,none⟩) (by simp) (.int .i64 dd)).far (p:=⟨w.heap.size,5,none⟩) (by simp) (.slice A0 ks.length n0)).set 0 (.int .i64 0)).far (p:=⟨w.heap.size+1+1,0,none⟩) (by simp) (.int .i64 0)
    simpa using this
   have r2:aC V (w.heap.size+1+1) 31 #[.int .i64 0]:=by
    rw[hV]
    have:=((((((((((((((HD2.out).far (p:=⟨w.heap.size,0,none⟩) (by simp;omega) (.int .i64 op)).far (p:=⟨w.heap.size,1,none⟩) (by simp;omega) (.int .i64 co)).far (p:=⟨w.heap.size,2,none⟩) (by simp;omega) (.string (Lx.bs nm))).far (p:=⟨w.heap.size,3,none⟩) (by simp;omega) (.int .i64 nn)).far (p:=⟨w.heap.size,4,none⟩) (by simp;omega) (.int .i64 dd)).far (p:=⟨w.heap.size,5,none⟩) (by simp;omega) (.slice A0 ks.length n0)).far (p:=⟨w.heap.size,0,none⟩) (by simp;omega) (.int .i64 op)).far (p:=⟨w.heap.size,1,none⟩) (by simp;omega) (.int .i64 co)).far (p:=⟨w.heap.size,2,none⟩) (by simp;omega) (.string (Lx.bs nm))).far (p:=⟨w.heap.size,3,none⟩) (by simp;omega) (.int .i64 nn)).far (p:=⟨w.heap.size,4,none⟩) (by simp;omega) (.int .i64 dd)).far (p:=⟨w.heap.size,5,none⟩) (by simp;omega) (.slice A0 ks.length n0)).far (p:=⟨w.heap.size+1,0,none⟩) (by simp) (.int .i64 0)).set 0 (.int .i64 0)
    simpa using this
   have KT:Below w.heap.size w V:=by
    rw[hV]
    exact ((((((((((((((oP.out).setCell (p:=⟨w.heap.size,0,none⟩) (Nat.le_refl _) _).setCell (p:=⟨w.heap.size,1,none⟩) (Nat.le_refl _) _).setCell (p:=⟨w.heap.size,2,none⟩) (Nat.le_refl _) _).setCell (p:=⟨w.heap.size,3,none⟩) (Nat.le_refl _) _).setCell (p:=⟨w.heap.size,4,none⟩) (Nat.le_refl _) _).setCell (p:=⟨w.heap.size,5,none⟩) (Nat.le_refl _) _).setCell (p:=⟨w.heap.size,0,none⟩) (Nat.le_refl _) _).setCell (p:=⟨w.heap.size,1,none⟩) (Nat.le_refl _) _).setCell (p:=⟨w.heap.size,2,none⟩) (Nat.le_refl _) _).setCell (p:=⟨w.heap.size,3,none⟩) (Nat.le_refl _) _).setCell (p:=⟨w.heap.size,4,none⟩) (Nat.le_refl _) _).setCell (p:=⟨w.heap.size,5,none⟩) (Nat.le_refl _) _).setCell (p:=⟨w.heap.size+1,0,none⟩) (show w.heap.size≤w.heap.size+1 by omega) _).setCell (p:=⟨w.heap.size+1+1,0,none⟩) (show w.heap.size≤w.heap.size+1+1 by omega) _
   have tN:V.heap.size=w4.heap.size:=by rw [hV];simp[World.setCell]
   have vI:∀ b,b≠w.heap.size→b≠w.heap.size+1→b≠w.heap.size+1+1→V.heap[b]?=w4.heap[b]?:=fun b h1 h2 h3=>by
    rw[hV]
    repeat rw [Below.heap_setCell _ _ _ b (by first | exact h1 | exact h2 | exact h3)]
   clear hV;have c0:=r0.cell 0;have c1:=r0.cell 1;have c2:=r0.cell 2;have c3:=r0.cell 3;have c4:=r0.cell 4;have c5:=r0.cell 5;have d1:=r1.cell 0;have d2:=r2.cell 0;simp at c0 c1 c2 c3 c4 c5 d1 d2;refine vP s w V (.tuple #[.agg #[.int .i64 op,.int .i64 co,.string (Lx.bs nm),.int .i64 nn,.int .i64 dd,.slice A0 ks.length n0],.int .i64 0,.int .i64 0]) _ ?_ ⟨KT,?_⟩
   ·simp[results,Tryz.results43,go_sem,c0,c1,c2,c3,c4,c5,d1,d2]
   ·rw[HV.out];exact ⟨_,rfl,⟨_,rfl,aB.keep (fun b hb=>⟨⟨by have:=hb.1;omega,by rw [tN];exact hb.2⟩,fun i=>World.cell?_of_block (a:=⟨b,i,none⟩) (vI b (by have:=hb.1;omega) (by have:=hb.1;omega) (by have:=hb.1;omega))⟩) _ _ HX.out⟩⟩
  | cons t r=>
   have Z8:=Lh (Oo.out t.pos 100 (by rw [hv];rfl));obtain ⟨pre,hpre⟩:=Sx.vZ _ _ _ _ _ _ hv;have hk:t.kind≠0:=VA.out t (by rw [hpre];simp);obtain ⟨b,o,eA,UN,qk⟩:=IL.at_ 0 t rfl;have hbN:b≠w.heap.size:=fun e=>by
    have h1:=d0.cell (o+0*4);have h2:=qk.kind;rw[e,h1] at h2;have hm:=Array.mem_of_getElem? h2;exact hk (by simpa using hm)
   have hn:∀ b' o',AT=some ⟨b',o',none⟩→b'≠w.heap.size:=fun b' o' e=>by
    rw[eA] at e;injection e with e;injection e with e3 e4;rw[←e3];exact hbN
   have hgN:w1.heap.size≠w.heap.size:=by omega
   have p1:=PS.rR hg4 IL hcap4 hB4 hgN hn 0 (.int .i64 op);have p2:=PS.rR p1.1 p1.2 hcap4 hB4 hgN hn 1 (.int .i64 co);have p3:=PS.rR p2.1 p2.2 hcap4 hB4 hgN hn 2 (.string (Lx.bs nm));have p4:=PS.rR p3.1 p3.2 hcap4 hB4 hgN hn 3 (.int .i64 nn);have p5:=PS.rR p4.1 p4.2 hcap4 hB4 hgN hn 4 (.int .i64 dd);have p6:=PS.rR p5.1 p5.2 hcap4 hB4 hgN hn 5 (.slice A0 ks.length n0);have lu:=Lh (og w1.heap.size w1.heap.size (t::r) _ 100 _ ⟨⟨AT,cT,p6.1,p6.2,hcap4⟩,hB4⟩)
   have D0:Hid (aC ((((((((w4).setCell ⟨w.heap.size,0,none⟩ (.int .i64 op)).setCell ⟨w.heap.size,1,none⟩ (.int .i64 co)).setCell ⟨w.heap.size,2,none⟩ (.string (Lx.bs nm))).setCell ⟨w.heap.size,3,none⟩ (.int .i64 nn)).setCell ⟨w.heap.size,4,none⟩ (.int .i64 dd)).setCell ⟨w.heap.size,5,none⟩ (.slice A0 ks.length n0))) w.heap.size 38 #[.int .i64 op,.int .i64 co,.string (Lx.bs nm),.int .i64 nn,.int .i64 dd,.slice A0 ks.length n0]):=Lh (by
    have:=((((((d0).set 0 (.int .i64 op)).set 1 (.int .i64 co)).set 2 (.string (Lx.bs nm))).set 3 (.int .i64 nn)).set 4 (.int .i64 dd)).set 5 (.slice A0 ks.length n0);simpa using this)
   have D1:=Lh (((((((d1).far (p:=⟨w.heap.size,0,none⟩) (by simp) (.int .i64 op)).far (p:=⟨w.heap.size,1,none⟩) (by simp) (.int .i64 co)).far (p:=⟨w.heap.size,2,none⟩) (by simp) (.string (Lx.bs nm))).far (p:=⟨w.heap.size,3,none⟩) (by simp) (.int .i64 nn)).far (p:=⟨w.heap.size,4,none⟩) (by simp) (.int .i64 dd)).far (p:=⟨w.heap.size,5,none⟩) (by simp) (.slice A0 ks.length n0))
   have D2:=Lh (((((((d2).far (p:=⟨w.heap.size,0,none⟩) (by simp;omega) (.int .i64 op)).far (p:=⟨w.heap.size,1,none⟩) (by simp;omega) (.int .i64 co)).far (p:=⟨w.heap.size,2,none⟩) (by simp;omega) (.string (Lx.bs nm))).far (p:=⟨w.heap.size,3,none⟩) (by simp;omega) (.int .i64 nn)).far (p:=⟨w.heap.size,4,none⟩) (by simp;omega) (.int .i64 dd)).far (p:=⟨w.heap.size,5,none⟩) (by simp;omega) (.slice A0 ks.length n0))
   have DB:=Lh (((((((hb4).setCell (p:=⟨w.heap.size,0,none⟩) (Nat.le_refl _) (.int .i64 op)).setCell (p:=⟨w.heap.size,1,none⟩) (Nat.le_refl _) (.int .i64 co)).setCell (p:=⟨w.heap.size,2,none⟩) (Nat.le_refl _) (.string (Lx.bs nm))).setCell (p:=⟨w.heap.size,3,none⟩) (Nat.le_refl _) (.int .i64 nn)).setCell (p:=⟨w.heap.size,4,none⟩) (Nat.le_refl _) (.int .i64 dd)).setCell (p:=⟨w.heap.size,5,none⟩) (Nat.le_refl _) (.slice A0 ks.length n0));clear hv hf he iG d0 d1 d2 hb4 hg4 IL Ot HA1 HA2 aH Oo Rt qk eA hpre p1 p2 p3 p4 p5 p6 hn hk;go_wp2_with fail;refine lu.out.mono ?_
   rintro e w5 ⟨he,rfl⟩;unfold iL at he;subst he;exact nA s w _ t.pos 100 _ rfl _ _ _ rfl rfl rfl D0.out D1.out D2.out DB.out Z8.out
theorem Gd (s:ByteArray) (N:Nat) (w:World) (he:d9 N w) (hs:s.size≤100000):Calls Tryz.prog 12 #[.string s] w (j6 Sx.cZ Et (.agg #[.slice none 0 0,.slice none 0 0,.slice none 0 0,.slice none 0 0,.slice none 0 0,.slice none 0 0,.slice none 0 0]) s.data.toList w):=by
 obtain ⟨W0,hW0⟩:∃ W0,W0=w.alloc (Obj.cells #[.slice none 0 0,.slice none 0 0,.slice none 0 0,.slice none 0 0,.slice none 0 0,.slice none 0 0,.slice none 0 0] 30):=⟨_,rfl⟩
 have b0:aC W0 w.heap.size 30 #[.slice none 0 0,.slice none 0 0,.slice none 0 0,.slice none 0 0,.slice none 0 0,.slice none 0 0,.slice none 0 0]:=by rw [hW0];exact aC.new _ _ _
 have hb0:Below w.heap.size w W0:=by rw [hW0];exact (Below.refl _ _).alloc (Nat.le_refl _) _
 have hz0:W0.heap.size=w.heap.size+1:=by rw [hW0];simp
 have aH:=Lh (IK s N W0 (he.next hb0) hs);have H0:=Lh b0;have HB0:=Lh hb0;clear b0 hb0 he;go_enter Tryz.func12,Tryz.ntmps12;go_wp2_with fail;rw[←hW0];clear hW0;refine aH.out.mono ?_;rintro e w1 ⟨hbel,hpost⟩;have q0:=H0.out.below hbel (by omega);have c0:=q0.cell 0;have f0:=q0.free 0;have c1:=q0.cell 1;have f1:=q0.free 1;have c2:=q0.cell 2;have f2:=q0.free 2;have c3:=q0.cell 3;have f3:=q0.free 3;have c4:=q0.cell 4;have f4:=q0.free 4;have c5:=q0.cell 5;have f5:=q0.free 5;have c6:=q0.cell 6;have f6:=q0.free 6;simp at c0 c1 c2 c3 c4 c5 c6;have hp:=q0.lt;have B0:=Lh q0
 have HB:=Lh (HB0.out.trans (hbel.mono (by omega)));clear q0 hbel;cases hP:Sx.dS Sx.cZ s.data.toList with
 | bad p x=>
  rw[hP] at hpost;subst hpost;have HP:=Lh hP;clear hP;go_wp2_with fail;obtain ⟨V,hV⟩:∃ V,V=((((((w1.setCell ⟨w.heap.size,0,none⟩ (.slice none 0 0)).setCell ⟨w.heap.size,1,none⟩ (.slice none 0 0)).setCell ⟨w.heap.size,2,none⟩ (.slice none 0 0)).setCell ⟨w.heap.size,3,none⟩ (.slice none 0 0)).setCell ⟨w.heap.size,4,none⟩ (.slice none 0 0)).setCell ⟨w.heap.size,5,none⟩ (.slice none 0 0)).setCell ⟨w.heap.size,6,none⟩ (.slice none 0 0):=⟨_,rfl⟩
  have hL:aC V w.heap.size 30 #[.slice none 0 0,.slice none 0 0,.slice none 0 0,.slice none 0 0,.slice none 0 0,.slice none 0 0,.slice none 0 0]:=by
   rw[hV];have:=(((((((B0.out).set 0 (.slice none 0 0)).set 1 (.slice none 0 0)).set 2 (.slice none 0 0)).set 3 (.slice none 0 0)).set 4 (.slice none 0 0)).set 5 (.slice none 0 0)).set 6 (.slice none 0 0);simpa using this
  have KT:Below w.heap.size w V:=by rw [hV];exact (((((((HB.out).setCell (p:=⟨w.heap.size,0,none⟩) (Nat.le_refl _) (.slice none 0 0)).setCell (p:=⟨w.heap.size,1,none⟩) (Nat.le_refl _) (.slice none 0 0)).setCell (p:=⟨w.heap.size,2,none⟩) (Nat.le_refl _) (.slice none 0 0)).setCell (p:=⟨w.heap.size,3,none⟩) (Nat.le_refl _) (.slice none 0 0)).setCell (p:=⟨w.heap.size,4,none⟩) (Nat.le_refl _) (.slice none 0 0)).setCell (p:=⟨w.heap.size,5,none⟩) (Nat.le_refl _) (.slice none 0 0)).setCell (p:=⟨w.heap.size,6,none⟩) (Nat.le_refl _) (.slice none 0 0)
  have tN:V.heap.size=w1.heap.size:=by rw [hV];simp[World.setCell]
  have vI:∀ b,b≠w.heap.size→V.heap[b]?=w1.heap[b]?:=fun b h1=>by
   rw[hV]
   repeat rw [Below.heap_setCell _ _ _ b h1]
  have d0:=hL.cell 0;have d1:=hL.cell 1;have d2:=hL.cell 2;have d3:=hL.cell 3;have d4:=hL.cell 4;have d5:=hL.cell 5;have d6:=hL.cell 6;simp at d0 d1 d2 d3 d4 d5 d6
  try simp only [Exit.inBlock,Exit.then]
  rw[←hV];clear hV;exact bodyPost_ret (v:=.tuple #[.agg #[.slice none 0 0,.slice none 0 0,.slice none 0 0,.slice none 0 0,.slice none 0 0,.slice none 0 0,.slice none 0 0],.int .i64 p,.int .i64 x]) (by simp [results,Tryz.results12,go_sem,d0,d1,d2,d3,d4,d5,d6]) rfl ⟨KT,by rw [HP.out]⟩
 | ok a=>
  rw[hP] at hpost;obtain ⟨v,rfl,cs,hV,hra⟩:=hpost;have HP:=Lh hP;have HX0:=hra
  skip
  obtain ⟨A0,n0,A1,n1,A2,n2,A3,n3,A4,n4,A5,n5,A6,n6,rfl,-⟩:=hra
  try unfold aT bB at hV
  subst hV;have HX:=Lh HX0;clear hP HX0;go_wp2_with fail;obtain ⟨V,hV⟩:∃ V,V=((((((w1.setCell ⟨w.heap.size,0,none⟩ (.slice A0 a.courses.length n0)).setCell ⟨w.heap.size,1,none⟩ (.slice A1 a.same.length n1)).setCell ⟨w.heap.size,2,none⟩ (.slice A2 a.aS.length n2)).setCell ⟨w.heap.size,3,none⟩ (.slice A3 a.classes.length n3)).setCell ⟨w.heap.size,4,none⟩ (.slice A4 a.bZ.length n4)).setCell ⟨w.heap.size,5,none⟩ (.slice A5 a.aJ.length n5)).setCell ⟨w.heap.size,6,none⟩ (.slice A6 a.clauses.length n6):=⟨_,rfl⟩
  have hL:aC V w.heap.size 30 #[.slice A0 a.courses.length n0,.slice A1 a.same.length n1,.slice A2 a.aS.length n2,.slice A3 a.classes.length n3,.slice A4 a.bZ.length n4,.slice A5 a.aJ.length n5,.slice A6 a.clauses.length n6]:=by
   rw[hV];have:=(((((((B0.out).set 0 (.slice A0 a.courses.length n0)).set 1 (.slice A1 a.same.length n1)).set 2 (.slice A2 a.aS.length n2)).set 3 (.slice A3 a.classes.length n3)).set 4 (.slice A4 a.bZ.length n4)).set 5 (.slice A5 a.aJ.length n5)).set 6 (.slice A6 a.clauses.length n6);simpa using this
  have KT:Below w.heap.size w V:=by rw [hV];exact (((((((HB.out).setCell (p:=⟨w.heap.size,0,none⟩) (Nat.le_refl _) (.slice A0 a.courses.length n0)).setCell (p:=⟨w.heap.size,1,none⟩) (Nat.le_refl _) (.slice A1 a.same.length n1)).setCell (p:=⟨w.heap.size,2,none⟩) (Nat.le_refl _) (.slice A2 a.aS.length n2)).setCell (p:=⟨w.heap.size,3,none⟩) (Nat.le_refl _) (.slice A3 a.classes.length n3)).setCell (p:=⟨w.heap.size,4,none⟩) (Nat.le_refl _) (.slice A4 a.bZ.length n4)).setCell (p:=⟨w.heap.size,5,none⟩) (Nat.le_refl _) (.slice A5 a.aJ.length n5)).setCell (p:=⟨w.heap.size,6,none⟩) (Nat.le_refl _) (.slice A6 a.clauses.length n6)
  have tN:V.heap.size=w1.heap.size:=by rw [hV];simp[World.setCell]
  have vI:∀ b,b≠w.heap.size→V.heap[b]?=w1.heap[b]?:=fun b h1=>by
   rw[hV]
   repeat rw [Below.heap_setCell _ _ _ b h1]
  have d0:=hL.cell 0;have d1:=hL.cell 1;have d2:=hL.cell 2;have d3:=hL.cell 3;have d4:=hL.cell 4;have d5:=hL.cell 5;have d6:=hL.cell 6;simp at d0 d1 d2 d3 d4 d5 d6
  try simp only [Exit.inBlock,Exit.then]
  rw[←hV];clear hV;exact bodyPost_ret (v:=.tuple #[.agg #[.slice A0 a.courses.length n0,.slice A1 a.same.length n1,.slice A2 a.aS.length n2,.slice A3 a.classes.length n3,.slice A4 a.bZ.length n4,.slice A5 a.aJ.length n5,.slice A6 a.clauses.length n6],.int .i64 0,.int .i64 0]) (by simp [results,Tryz.results12,go_sem,d0,d1,d2,d3,d4,d5,d6]) rfl ⟨KT,by rw [HP.out];exact ⟨_,rfl,⟨_,rfl,bE.keep (fun b hb=>⟨⟨by have:=hb.1;omega,by rw [tN];exact hb.2⟩,fun i=>World.cell?_of_block (a:=⟨b,i,none⟩) (vI b (by have:=hb.1;omega))⟩) HX.out⟩⟩⟩
theorem Ru (s:ByteArray) (N:Nat) (w:World) (he:d9 N w) (hs:s.size≤100000):Calls Tryz.prog 15 #[.string s] w (j6 (fun last l=>Sx.rule last 16 0 l) iF (.agg #[.int .i64 0,.int .i64 0,.string ⟨#[]⟩,.int .i64 0,.int .i64 0,.slice none 0 0]) s.data.toList w):=by
 obtain ⟨W0,hW0⟩:∃ W0,W0=w.alloc (Obj.cells #[.int .i64 0,.int .i64 0,.string ⟨#[]⟩,.int .i64 0,.int .i64 0,.slice none 0 0] 38):=⟨_,rfl⟩
 have b0:aC W0 w.heap.size 38 #[.int .i64 0,.int .i64 0,.string ⟨#[]⟩,.int .i64 0,.int .i64 0,.slice none 0 0]:=by rw [hW0];exact aC.new _ _ _
 have hb0:Below w.heap.size w W0:=by rw [hW0];exact (Below.refl _ _).alloc (Nat.le_refl _) _
 have hz0:W0.heap.size=w.heap.size+1:=by rw [hW0];simp
 have aH:=Lh (EP s N W0 (he.next hb0) hs);have H0:=Lh b0;have HB0:=Lh hb0;clear b0 hb0 he;go_enter Tryz.func15,Tryz.ntmps15;go_wp2_with fail;rw[←hW0];clear hW0;refine aH.out.mono ?_;rintro e w1 ⟨hbel,hpost⟩;have q0:=H0.out.below hbel (by omega);have c0:=q0.cell 0;have f0:=q0.free 0;have c1:=q0.cell 1;have f1:=q0.free 1;have c2:=q0.cell 2;have f2:=q0.free 2;have c3:=q0.cell 3;have f3:=q0.free 3;have c4:=q0.cell 4;have f4:=q0.free 4;have c5:=q0.cell 5;have f5:=q0.free 5;simp at c0 c1 c2 c3 c4 c5;have hp:=q0.lt;have B0:=Lh q0;have HB:=Lh (HB0.out.trans (hbel.mono (by omega)))
 clear q0 hbel;cases hP:Sx.dS (fun last l=>Sx.rule last 16 0 l) s.data.toList with
 | bad p x=>
  rw[hP] at hpost;subst hpost;have HP:=Lh hP;clear hP;go_wp2_with fail;obtain ⟨V,hV⟩:∃ V,V=(((((w1.setCell ⟨w.heap.size,0,none⟩ (.int .i64 0)).setCell ⟨w.heap.size,1,none⟩ (.int .i64 0)).setCell ⟨w.heap.size,2,none⟩ (.string ⟨#[]⟩)).setCell ⟨w.heap.size,3,none⟩ (.int .i64 0)).setCell ⟨w.heap.size,4,none⟩ (.int .i64 0)).setCell ⟨w.heap.size,5,none⟩ (.slice none 0 0):=⟨_,rfl⟩
  have hL:aC V w.heap.size 38 #[.int .i64 0,.int .i64 0,.string ⟨#[]⟩,.int .i64 0,.int .i64 0,.slice none 0 0]:=by
   rw[hV];have:=((((((B0.out).set 0 (.int .i64 0)).set 1 (.int .i64 0)).set 2 (.string ⟨#[]⟩)).set 3 (.int .i64 0)).set 4 (.int .i64 0)).set 5 (.slice none 0 0);simpa using this
  have KT:Below w.heap.size w V:=by rw [hV];exact ((((((HB.out).setCell (p:=⟨w.heap.size,0,none⟩) (Nat.le_refl _) (.int .i64 0)).setCell (p:=⟨w.heap.size,1,none⟩) (Nat.le_refl _) (.int .i64 0)).setCell (p:=⟨w.heap.size,2,none⟩) (Nat.le_refl _) (.string ⟨#[]⟩)).setCell (p:=⟨w.heap.size,3,none⟩) (Nat.le_refl _) (.int .i64 0)).setCell (p:=⟨w.heap.size,4,none⟩) (Nat.le_refl _) (.int .i64 0)).setCell (p:=⟨w.heap.size,5,none⟩) (Nat.le_refl _) (.slice none 0 0)
  have tN:V.heap.size=w1.heap.size:=by rw [hV];simp[World.setCell]
  have vI:∀ b,b≠w.heap.size→V.heap[b]?=w1.heap[b]?:=fun b h1=>by
   rw[hV]
   repeat rw [Below.heap_setCell _ _ _ b h1]
  have d0:=hL.cell 0;have d1:=hL.cell 1;have d2:=hL.cell 2;have d3:=hL.cell 3;have d4:=hL.cell 4;have d5:=hL.cell 5;simp at d0 d1 d2 d3 d4 d5
  try simp only [Exit.inBlock,Exit.then]
  rw[←hV];clear hV;exact bodyPost_ret (v:=.tuple #[.agg #[.int .i64 0,.int .i64 0,.string ⟨#[]⟩,.int .i64 0,.int .i64 0,.slice none 0 0],.int .i64 p,.int .i64 x]) (by simp [results,Tryz.results15,go_sem,d0,d1,d2,d3,d4,d5]) rfl ⟨KT,by rw [HP.out]⟩
 | ok a=>
  rw[hP] at hpost;obtain ⟨v,rfl,cs,hV,hra⟩:=hpost;have HP:=Lh hP;have HX0:=hra;obtain ⟨op,co,nm,nn,dd,ks⟩:=a;rw[aB] at hra;obtain ⟨A0,n0,rfl,-,-,-⟩:=hra
  try unfold aT bB at hV
  subst hV;have HX:=Lh HX0;clear hP HX0;go_wp2_with fail;obtain ⟨V,hV⟩:∃ V,V=(((((w1.setCell ⟨w.heap.size,0,none⟩ (.int .i64 op)).setCell ⟨w.heap.size,1,none⟩ (.int .i64 co)).setCell ⟨w.heap.size,2,none⟩ (.string (Lx.bs nm))).setCell ⟨w.heap.size,3,none⟩ (.int .i64 nn)).setCell ⟨w.heap.size,4,none⟩ (.int .i64 dd)).setCell ⟨w.heap.size,5,none⟩ (.slice A0 ks.length n0):=⟨_,rfl⟩
  have hL:aC V w.heap.size 38 #[.int .i64 op,.int .i64 co,.string (Lx.bs nm),.int .i64 nn,.int .i64 dd,.slice A0 ks.length n0]:=by
   rw[hV];have:=((((((B0.out).set 0 (.int .i64 op)).set 1 (.int .i64 co)).set 2 (.string (Lx.bs nm))).set 3 (.int .i64 nn)).set 4 (.int .i64 dd)).set 5 (.slice A0 ks.length n0);simpa using this
  have KT:Below w.heap.size w V:=by rw [hV];exact ((((((HB.out).setCell (p:=⟨w.heap.size,0,none⟩) (Nat.le_refl _) (.int .i64 op)).setCell (p:=⟨w.heap.size,1,none⟩) (Nat.le_refl _) (.int .i64 co)).setCell (p:=⟨w.heap.size,2,none⟩) (Nat.le_refl _) (.string (Lx.bs nm))).setCell (p:=⟨w.heap.size,3,none⟩) (Nat.le_refl _) (.int .i64 nn)).setCell (p:=⟨w.heap.size,4,none⟩) (Nat.le_refl _) (.int .i64 dd)).setCell (p:=⟨w.heap.size,5,none⟩) (Nat.le_refl _) (.slice A0 ks.length n0)
  have tN:V.heap.size=w1.heap.size:=by rw [hV];simp[World.setCell]
  have vI:∀ b,b≠w.heap.size→V.heap[b]?=w1.heap[b]?:=fun b h1=>by
   rw[hV]
   repeat rw [Below.heap_setCell _ _ _ b h1]
  have d0:=hL.cell 0;have d1:=hL.cell 1;have d2:=hL.cell 2;have d3:=hL.cell 3;have d4:=hL.cell 4;have d5:=hL.cell 5;simp at d0 d1 d2 d3 d4 d5
  try simp only [Exit.inBlock,Exit.then]
  rw[←hV];clear hV;exact bodyPost_ret (v:=.tuple #[.agg #[.int .i64 op,.int .i64 co,.string (Lx.bs nm),.int .i64 nn,.int .i64 dd,.slice A0 ks.length n0],.int .i64 0,.int .i64 0]) (by simp [results,Tryz.results15,go_sem,d0,d1,d2,d3,d4,d5]) rfl ⟨KT,by rw [HP.out];exact ⟨_,rfl,⟨_,rfl,aB.keep (fun b hb=>⟨⟨by have:=hb.1;omega,by rw [tN];exact hb.2⟩,fun i=>World.cell?_of_block (a:=⟨b,i,none⟩) (vI b (by have:=hb.1;omega))⟩) _ _ HX.out⟩⟩⟩
end Go.Proofs.YtjonaidancomgaaGreatDoor
namespace Go.Proofs.YtjonaidancomgaaGreatDoor.Sx
open Lx (Tok)
def ex1:List UInt8:=[99,111,117,114,115,101,32,49,55,32,77,65,84,72,49,32,52,32,123,32,110,101,101,100,32,112,97,115,115,32,80,82,69,32,53,59,32,125]
def ex3:List UInt8:=[102,101,101,32,108,111,119,32,48]
def ex4:List UInt8:=[99,108,97,115,115,32,97,32,48,32,109,101,97,110,32,49,51,47,49,59]
def ex5:List UInt8:=[108,101,97,115,116,32,50,32,123,32,119,105,116,104,32,35,51,59,32,119,105,116,104,32,35,52,59,32,125]
def KU:List UInt8:=[97,108,108,32,123,32,125]
def KV:List UInt8:=[99,111,117,114,115,101,32,49,55,32,77,65,84,72,49,32,52,32,123,32,110,101,101,100,32,112,97,115,115,32,80,82,69,32,53,32,59,32,125]
def iM:dh:={ dh.none with courses:=[⟨[77,65,84,72,49],17,4,0,.mk 5 0 [80,82,69] 5 0 [],.mk 2 0 [] 0 0 []⟩] }
def yT:Rule:=.mk 3 0 [] 2 0 [.mk 9 3 [] 0 0 [],.mk 9 4 [] 0 0 []]
def Rv:Rule:=.mk 1 0 [] 0 0 []
instance {α : Type} [DecidableEq α] : DecidableEq (Out α)
 | .ok a,.ok b=>if h:a=b then isTrue (by rw [h]) else isFalse fun e=>h (by injection e)
 | .bad p e,.bad q f=>if h:p=q∧e=f then isTrue (by rw [h.1,h.2]) else isFalse fun k=>h (by injection k with k1 k2;exact ⟨k1,k2⟩)
 | .ok _,.bad _ _=>isFalse fun e=>by cases e
 | .bad _ _,.ok _=>isFalse fun e=>by cases e
theorem Rw:parse ex1 = .ok iM:=by decide +kernel
theorem Rx:parse [] = .ok dh.none:=by decide +kernel
theorem Ou:parse ex3 = .bad 9 100:=by decide +kernel
theorem Ov:parse ex4 = .bad 18 100:=by decide +kernel
theorem Ry:tY ex5 = .ok yT:=by decide +kernel
theorem KW:aO 16 Rv=true:=by decide +kernel
theorem ER:Lx.text (aF Rv)=some KU:=by decide +kernel
theorem ES:aO 16 Rule.zero=false:=by decide +kernel
theorem KX:eX iM=true:=by decide +kernel
theorem ET:Lx.text (gQ iM)=some KV:=by decide +kernel
end Go.Proofs.YtjonaidancomgaaGreatDoor.Sx
