/- Parts of the proof, joined into one text: q0t. -/
import Derived.Test.YtjonaidancomgaaGreatDoorPSxOk
import Derived.Test.YtjonaidancomgaaGreatDoorPSxEq
import Derived.Deep.RegionHeld3
import Derived.Outline
set_option maxHeartbeats 2000000
set_option maxRecDepth 20000
namespace Go.Proofs.YtjonaidancomgaaGreatDoor
open Go.RowKit
structure jE (g B : Nat) (last : Int) (l : List Lx.Tok) (p : Nat) (cs : Array Value) (w0 w : World) : Prop where
 ps:PS g B last l w
 fr:eP g w0 w
 blk:aC w p 38 cs
 old:w0.heap.size≤p
 lt:g < w0.heap.size
section
variable {g B : Nat} {last : Int} {l l' : List Lx.Tok} {p : Nat} {cs : Array Value} {w0 w w' : World}
theorem jE.step (h:jE g B last l p cs w0 w) (hf:eP g w w') (hs:PS g B last l' w'):jE g B last l' p cs w0 w':=
 ⟨hs,h.fr.trans hf,hf.blk h.blk (by have:=h.old;have:=h.lt;omega),h.old,h.lt⟩
theorem jE.set (h:jE g B last l p cs w0 w) (i:Nat) (u:Value):jE g B last l p (cs.setIfInBounds i u) w0 (w.setCell ⟨p,i,none⟩ u):=
 ⟨h.ps.iI (by have:=h.old;have:=h.lt;omega) i u,h.fr.iI h.lt h.old i u,h.blk.set i u,h.old,h.lt⟩
theorem jE.alloc (h:jE g B last l p cs w0 w) (o:Obj):jE g B last l p cs w0 (w.alloc o):=
 ⟨h.ps.alloc o,h.fr.alloc h.lt o,h.blk.alloc o,h.old,h.lt⟩
end
theorem jE.drew {g B:Nat} {last:Int} {l:List Lx.Tok} {p:Nat} {cs:Array Value} {w0 w:World} (h:jE g B last l p cs w0 w):jE g B last l p cs w0 w.drew:=
 ⟨h.ps.next (Below.refl _ _).drew,h.fr.trans (eP.below (Below.refl _ _).drew (by have:=h.lt;have:=h.fr.aY.size;omega)),h.blk.drew,h.old,h.lt⟩
def iF (lo:Nat) (r:Sx.Rule) (v:Value) (w:World):Prop:=∃ cs:List Value,v = .agg cs.toArray∧aB w (fun b=>lo≤b∧b < w.heap.size) r cs
def qR (N:Nat) (k:Nat):Prop:=∀ (g B:Nat) (l:List Lx.Tok) (last:Int) (beside:Nat) (w:World),PS g B last l w→d9 N w→N≤g→beside≤200→
 Calls Tryz.prog 45 #[.pointer (some ⟨g,0,none⟩),.int .i64 (17 - (k:Int)),.int .i64 beside] w (dH g B last w (iF w.heap.size) (Sx.rule last k beside l))
theorem Sx.vk {last:Int} {l r:List Lx.Tok} {i:Int} (h:Sx.oneOf last Sx.ruleWords l = .ok i r):0≤i∧i≤8:=by
 unfold Sx.oneOf at h
 split at h
 ·rename_i j hj;injection h with h1 h2;unfold Sx.find at hj;have:=(List.findIdx?_eq_some_iff_getElem.1 hj).1;have h9:Sx.ruleWords.length=9:=rfl;omega
 ·unfold Sx.fail at h;cases h
theorem Sx.fU {α β:Type} (a:α) (l:List Lx.Tok) (f:α→List Lx.Tok→Sx.R β):(Sx.R.ok a l).bind f=f a l:=rfl
theorem fF (w:World) (S:Nat→Prop) (op co:Int) (nm:List UInt8) (n d:Int) (h:nm.length≤140737488351232):aB w S (.mk op co nm n d []) [aT op,aT co,bB nm,aT n,aT d,.slice none 0 0]:=by
 rw[aB];exact ⟨none,0,rfl,h,by simp,by rw [dP];trivial⟩
theorem Db (N k:Nat) (g B:Nat) (l:List Lx.Tok) (last:Int) (beside:Nat) (w:World) (h:PS g B last l w) (he:d9 N w) (hN:N≤g) (hO:∃ p x,Sx.oneOf last Sx.ruleWords l = .bad p x) :
  Calls Tryz.prog 45 #[.pointer (some ⟨g,0,none⟩),.int .i64 (17 - (k:Int)),.int .i64 beside] w (dH g B last w (iF w.heap.size) (Sx.rule last k beside l)):=by
 obtain ⟨p0,x0,hO⟩:=hO;have hbad:Sx.rule last k beside l = .bad p0 x0:=by
  cases k <;> (unfold Sx.rule;rw[hO];rfl)
 rw[hbad];clear hbad;have HO:=Lh hO;clear hO;have hlt:=h.lt;obtain ⟨⟨A,c,hb,hT,hcap⟩,hB⟩:=h;have c0:=hb.cell 0;have c1:=hb.cell 1;simp at c0 c1;have hps:PS g B last l w:=⟨⟨A,c,hb,hT,hcap⟩,hB⟩
 obtain ⟨n,hn⟩:∃ n,n=l.length:=⟨_,rfl⟩
 rw[←hn] at c0;have hb1:Below w.heap.size w (w.alloc (.cells #[.int .i64 0,.int .i64 0,.string ⟨#[]⟩,.int .i64 0,.int .i64 0,.slice none 0 0] 38)):=(Below.refl _ _).alloc (Nat.le_refl _) _;have hb2:Below w.heap.size w ((w.alloc (.cells #[.int .i64 0,.int .i64 0,.string ⟨#[]⟩,.int .i64 0,.int .i64 0,.slice none 0 0] 38)).alloc (.cells #[.slice A n c,.int .i64 last] 143)):=hb1.alloc (by simp) _
 have L:Hid (jE g B last l w.heap.size #[.int .i64 0,.int .i64 0,.string ⟨#[]⟩,.int .i64 0,.int .i64 0,.slice none 0 0] w ((w.alloc (.cells #[.int .i64 0,.int .i64 0,.string ⟨#[]⟩,.int .i64 0,.int .i64 0,.slice none 0 0] 38)).alloc (.cells #[.slice A n c,.int .i64 last] 143))):=Lh ⟨hps.next hb2,eP.below hb2 hlt,(aC.new w _ _).alloc _,Nat.le_refl _,hlt⟩
 have Xb:Hid (aC ((w.alloc (.cells #[.int .i64 0,.int .i64 0,.string ⟨#[]⟩,.int .i64 0,.int .i64 0,.slice none 0 0] 38)).alloc (.cells #[.slice A n c,.int .i64 last] 143)) (w.heap.size+1) 143 #[.slice A n c,.int .i64 last]):=Lh (aC.aZ _ _ (by simp));obtain ⟨bw,ow,cw,hg,hgN,hw⟩:=(he.keep (hb2.mono he.size)).rule;have DN:=he.size;have hgw:3 < w.heap.size:=by omega
 have hg0:w.cell? ⟨3,0,none⟩=some (.slice (some ⟨bw,ow,none⟩) 9 cw):=(hb2.cell (p:=⟨3,0,none⟩) hgw).symm.trans hg;have HW:=Lh hw;have HE:=Lh he;have HT:=Lh hT;have Hn:=Lh hn;have fI:=Lh (fun (W:World) (hW:PS g B last l W) (vO:fC W N bw ow Sx.ruleWords)=>iH g B N bw ow cw Sx.ruleWords l last W hW vO hN (by decide));rw[show Sx.ruleWords.length=9 from rfl] at fI;clear hb hT hn hb1 hb2 hps hw he hg;go_enter Tryz.func45,Tryz.ntmps45;go_wp2_with fail;refine (fI.out _ L.out.ps HW.out).mono ?_;intro e w1 he
 rcases he.split with ⟨p,x,hv,rfl,hf⟩ | ⟨i,l1,v,hv,rfl,hV,hs,hf⟩
 ·rw[HO.out] at hv;injection hv with h1 h2;subst h1;subst h2;exact ⟨rfl,dH.aM rfl (L.out.fr.trans hf)⟩
 ·rw[HO.out] at hv;cases hv
theorem zU (N k:Nat) (g B:Nat) (l l1:List Lx.Tok) (last i:Int) (beside:Nat) (w:World) (h:PS g B last l w) (he:d9 N w) (hN:N≤g) (hO:Sx.oneOf last Sx.ruleWords l = .ok i l1) (hi0:0≤i) (KL:i≤8) (hbs:((beside:Int) == 200)=true) :
  Calls Tryz.prog 45 #[.pointer (some ⟨g,0,none⟩),.int .i64 (17 - (k:Int)),.int .i64 beside] w (dH g B last w (iF w.heap.size) (Sx.rule last k beside l)):=by
 have hR0:Sx.rule last k beside l = .bad (Sx.front last l) 2:=by
  cases k with
  | zero=>unfold Sx.rule;rw[hO];rfl
  | succ k=>unfold Sx.rule;rw[hO];simp only[Sx.R.bind];rw[if_pos (.inl (by simp only [beq_iff_eq] at hbs;omega))];rfl
 obtain ⟨R,hR⟩:∃ R,R=Sx.rule last k beside l:=⟨_,rfl⟩
 rw[←hR];rw[hR0] at hR;clear hR0;have hlt:=h.lt;obtain ⟨⟨A,c,hb,hT,hcap⟩,hB⟩:=h;have c0:=hb.cell 0;have c1:=hb.cell 1;simp at c0 c1;have hps:PS g B last l w:=⟨⟨A,c,hb,hT,hcap⟩,hB⟩
 obtain ⟨n,hn⟩:∃ n,n=l.length:=⟨_,rfl⟩
 rw[←hn] at c0;have hb1:Below w.heap.size w (w.alloc (.cells #[.int .i64 0,.int .i64 0,.string ⟨#[]⟩,.int .i64 0,.int .i64 0,.slice none 0 0] 38)):=(Below.refl _ _).alloc (Nat.le_refl _) _;have hb2:Below w.heap.size w ((w.alloc (.cells #[.int .i64 0,.int .i64 0,.string ⟨#[]⟩,.int .i64 0,.int .i64 0,.slice none 0 0] 38)).alloc (.cells #[.slice A n c,.int .i64 last] 143)):=hb1.alloc (by simp) _
 have L:Hid (jE g B last l w.heap.size #[.int .i64 0,.int .i64 0,.string ⟨#[]⟩,.int .i64 0,.int .i64 0,.slice none 0 0] w ((w.alloc (.cells #[.int .i64 0,.int .i64 0,.string ⟨#[]⟩,.int .i64 0,.int .i64 0,.slice none 0 0] 38)).alloc (.cells #[.slice A n c,.int .i64 last] 143))):=Lh ⟨hps.next hb2,eP.below hb2 hlt,(aC.new w _ _).alloc _,Nat.le_refl _,hlt⟩
 have Xb:Hid (aC ((w.alloc (.cells #[.int .i64 0,.int .i64 0,.string ⟨#[]⟩,.int .i64 0,.int .i64 0,.slice none 0 0] 38)).alloc (.cells #[.slice A n c,.int .i64 last] 143)) (w.heap.size+1) 143 #[.slice A n c,.int .i64 last]):=Lh (aC.aZ _ _ (by simp));obtain ⟨bw,ow,cw,hg,hgN,hw⟩:=(he.keep (hb2.mono he.size)).rule;have DN:=he.size;have hgw:3 < w.heap.size:=by omega
 have hg0:w.cell? ⟨3,0,none⟩=some (.slice (some ⟨bw,ow,none⟩) 9 cw):=(hb2.cell (p:=⟨3,0,none⟩) hgw).symm.trans hg;have HO:=Lh hO;have HW:=Lh hw;have HE:=Lh he;have HR:=Lh hR;have HT:=Lh hT;have Hn:=Lh hn;have fI:=Lh (fun (W:World) (hW:PS g B last l W) (vO:fC W N bw ow Sx.ruleWords)=>iH g B N bw ow cw Sx.ruleWords l last W hW vO hN (by decide));rw[show Sx.ruleWords.length=9 from rfl] at fI;clear hO hR hb hT hn hb1 hb2 hps hw he hg;go_enter Tryz.func45,Tryz.ntmps45;go_wp2_with fail;refine (fI.out _ L.out.ps HW.out).mono ?_;intro e w1 he
 rcases he.split with ⟨p,x,hv,rfl,hf⟩ | ⟨i1,l1,v,hv,rfl,hV,hs,hf⟩
 ·rw[HO.out] at hv;cases hv
 rw[HO.out] at hv;injection hv with h1 h2;subst h1;subst h2;unfold gJ at hV;subst hV;clear he;have hs1:=hf.aY.size;have hp0:w.heap.size < w1.heap.size:=by have:=L.out.blk.lt;omega
 have L1:=L.out.step hf hs;have Dq:=hf.blk Xb.out (by omega);have L2:=Lh (L1.set 0 (.int .i64 (1+i)));have XB:=Lh Dq;have y0:=Dq.cell 0;have y1:=Dq.cell 1;have z0:=L1.blk.cell 0;have KI:=L1.blk.free 0;simp at y0 y1 z0;obtain ⟨A1,d1,hg1,hT1,hd1⟩:=hs.st;have g0:=hg1.cell 0;have g1:=hg1.cell 1;have gf0:=hg1.free 0;have gf1:=hg1.free 1;simp at g0 g1;have hne:g≠w.heap.size:=by omega
 have hne1:g≠w.heap.size+1:=by omega
 have hgl:=hg1.lt;have hX1:=Dq.lt;have hfin:PS g B last l (((w1.setCell ⟨w.heap.size,0,none⟩ (.int .i64 (1+i))).setCell ⟨g,0,none⟩ (.slice A n c)).setCell ⟨g,1,none⟩ (.int .i64 last))∧eP g w (((w1.setCell ⟨w.heap.size,0,none⟩ (.int .i64 (1+i))).setCell ⟨g,0,none⟩ (.slice A n c)).setCell ⟨g,1,none⟩ (.int .i64 last)):=by
  have hF2:eP g w (((w1.setCell ⟨w.heap.size,0,none⟩ (.int .i64 (1+i))).setCell ⟨g,0,none⟩ (.slice A n c)).setCell ⟨g,1,none⟩ (.int .i64 last)):=(L2.out.fr.trans (eP.set g 0 _ _)).trans (eP.set g 1 _ _);obtain ⟨A2,d2,hg2,_,_⟩:=L2.out.ps.st;refine ⟨⟨⟨A,c,?_,HT.out.below hF2.aY hB,hcap⟩,hB⟩,hF2⟩;have:=(hg2.set 0 (.slice A n c)).set 1 (.int .i64 last);rw[Hn.out] at this ⊢;simpa using this
 have lu:=Lh (og g B l last 2 _ hfin.1);have HF:=Lh hfin.2;clear hf hs L1 Dq hg1 hT1 hfin;go_wp2_with fail;refine lu.out.mono ?_;rintro e w2 ⟨he,rfl⟩;unfold iL at he;subst he;exact ⟨rfl,by rw [HR.out];exact ⟨rfl,HF.out⟩⟩
theorem Iy (N k:Nat) (g B:Nat) (l l1:List Lx.Tok) (last i:Int) (beside:Nat) (w:World) (h:PS g B last l w) (he:d9 N w) (hN:N≤g) (hO:Sx.oneOf last Sx.ruleWords l = .ok i l1) (hi0:0≤i) (KL:i≤8) (hbs:((beside:Int) == 200)=false) (hk0:k=0) :
  Calls Tryz.prog 45 #[.pointer (some ⟨g,0,none⟩),.int .i64 (17 - (k:Int)),.int .i64 beside] w (dH g B last w (iF w.heap.size) (Sx.rule last k beside l)):=by
 have hR0:Sx.rule last k beside l = .bad (Sx.front last l) 2:=by
  subst hk0;unfold Sx.rule;rw[hO];rfl
 obtain ⟨R,hR⟩:∃ R,R=Sx.rule last k beside l:=⟨_,rfl⟩
 rw[←hR];rw[hR0] at hR;clear hR0;have hlv:16 < 17 - (k:Int):=by omega
 clear hk0;have hlt:=h.lt;obtain ⟨⟨A,c,hb,hT,hcap⟩,hB⟩:=h;have c0:=hb.cell 0;have c1:=hb.cell 1;simp at c0 c1;have hps:PS g B last l w:=⟨⟨A,c,hb,hT,hcap⟩,hB⟩
 obtain ⟨n,hn⟩:∃ n,n=l.length:=⟨_,rfl⟩
 rw[←hn] at c0;have hb1:Below w.heap.size w (w.alloc (.cells #[.int .i64 0,.int .i64 0,.string ⟨#[]⟩,.int .i64 0,.int .i64 0,.slice none 0 0] 38)):=(Below.refl _ _).alloc (Nat.le_refl _) _;have hb2:Below w.heap.size w ((w.alloc (.cells #[.int .i64 0,.int .i64 0,.string ⟨#[]⟩,.int .i64 0,.int .i64 0,.slice none 0 0] 38)).alloc (.cells #[.slice A n c,.int .i64 last] 143)):=hb1.alloc (by simp) _
 have L:Hid (jE g B last l w.heap.size #[.int .i64 0,.int .i64 0,.string ⟨#[]⟩,.int .i64 0,.int .i64 0,.slice none 0 0] w ((w.alloc (.cells #[.int .i64 0,.int .i64 0,.string ⟨#[]⟩,.int .i64 0,.int .i64 0,.slice none 0 0] 38)).alloc (.cells #[.slice A n c,.int .i64 last] 143))):=Lh ⟨hps.next hb2,eP.below hb2 hlt,(aC.new w _ _).alloc _,Nat.le_refl _,hlt⟩
 have Xb:Hid (aC ((w.alloc (.cells #[.int .i64 0,.int .i64 0,.string ⟨#[]⟩,.int .i64 0,.int .i64 0,.slice none 0 0] 38)).alloc (.cells #[.slice A n c,.int .i64 last] 143)) (w.heap.size+1) 143 #[.slice A n c,.int .i64 last]):=Lh (aC.aZ _ _ (by simp));obtain ⟨bw,ow,cw,hg,hgN,hw⟩:=(he.keep (hb2.mono he.size)).rule;have DN:=he.size;have hgw:3 < w.heap.size:=by omega
 have hg0:w.cell? ⟨3,0,none⟩=some (.slice (some ⟨bw,ow,none⟩) 9 cw):=(hb2.cell (p:=⟨3,0,none⟩) hgw).symm.trans hg;have HO:=Lh hO;have HW:=Lh hw;have HE:=Lh he;have HR:=Lh hR;have HT:=Lh hT;have Hn:=Lh hn;have fI:=Lh (fun (W:World) (hW:PS g B last l W) (vO:fC W N bw ow Sx.ruleWords)=>iH g B N bw ow cw Sx.ruleWords l last W hW vO hN (by decide));rw[show Sx.ruleWords.length=9 from rfl] at fI;clear hO hR hb hT hn hb1 hb2 hps hw he hg;go_enter Tryz.func45,Tryz.ntmps45;go_wp2_with fail;refine (fI.out _ L.out.ps HW.out).mono ?_;intro e w1 he
 rcases he.split with ⟨p,x,hv,rfl,hf⟩ | ⟨i1,l1,v,hv,rfl,hV,hs,hf⟩
 ·rw[HO.out] at hv;cases hv
 rw[HO.out] at hv;injection hv with h1 h2;subst h1;subst h2;unfold gJ at hV;subst hV;clear he;have hs1:=hf.aY.size;have hp0:w.heap.size < w1.heap.size:=by have:=L.out.blk.lt;omega
 have L1:=L.out.step hf hs;have Dq:=hf.blk Xb.out (by omega);have L2:=Lh (L1.set 0 (.int .i64 (1+i)));have XB:=Lh Dq;have y0:=Dq.cell 0;have y1:=Dq.cell 1;have z0:=L1.blk.cell 0;have KI:=L1.blk.free 0;simp at y0 y1 z0;obtain ⟨A1,d1,hg1,hT1,hd1⟩:=hs.st;have g0:=hg1.cell 0;have g1:=hg1.cell 1;have gf0:=hg1.free 0;have gf1:=hg1.free 1;simp at g0 g1;have hne:g≠w.heap.size:=by omega
 have hne1:g≠w.heap.size+1:=by omega
 have hgl:=hg1.lt;have hX1:=Dq.lt;have hfin:PS g B last l (((w1.setCell ⟨w.heap.size,0,none⟩ (.int .i64 (1+i))).setCell ⟨g,0,none⟩ (.slice A n c)).setCell ⟨g,1,none⟩ (.int .i64 last))∧eP g w (((w1.setCell ⟨w.heap.size,0,none⟩ (.int .i64 (1+i))).setCell ⟨g,0,none⟩ (.slice A n c)).setCell ⟨g,1,none⟩ (.int .i64 last)):=by
  have hF2:eP g w (((w1.setCell ⟨w.heap.size,0,none⟩ (.int .i64 (1+i))).setCell ⟨g,0,none⟩ (.slice A n c)).setCell ⟨g,1,none⟩ (.int .i64 last)):=(L2.out.fr.trans (eP.set g 0 _ _)).trans (eP.set g 1 _ _);obtain ⟨A2,d2,hg2,_,_⟩:=L2.out.ps.st;refine ⟨⟨⟨A,c,?_,HT.out.below hF2.aY hB,hcap⟩,hB⟩,hF2⟩;have:=(hg2.set 0 (.slice A n c)).set 1 (.int .i64 last);rw[Hn.out] at this ⊢;simpa using this
 have lu:=Lh (og g B l last 2 _ hfin.1);have HF:=Lh hfin.2;clear hf hs L1 Dq hg1 hT1 hfin;go_wp2_with fail;refine lu.out.mono ?_;rintro e w2 ⟨he,rfl⟩;unfold iL at he;subst he;exact ⟨rfl,by rw [HR.out];exact ⟨rfl,HF.out⟩⟩
theorem Iz (N k:Nat) (g B:Nat) (l l1:List Lx.Tok) (last i:Int) (beside:Nat) (w:World) (h:PS g B last l w) (he:d9 N w) (hN:N≤g) (hO:Sx.oneOf last Sx.ruleWords l = .ok i l1) (hi0:0≤i) (KL:i≤8) (hbs:((beside:Int) == 200)=false) (hk1:k=1) (hi:i=3) :
  Calls Tryz.prog 45 #[.pointer (some ⟨g,0,none⟩),.int .i64 (17 - (k:Int)),.int .i64 beside] w (dH g B last w (iF w.heap.size) (Sx.rule last k beside l)):=by
 have hR0:Sx.rule last k beside l = .bad (Sx.front last l) 2:=by
  subst hk1;subst hi;unfold Sx.rule;rw[hO];simp only[Sx.R.bind];rw[if_pos (by simp)];rfl
 obtain ⟨R,hR⟩:∃ R,R=Sx.rule last k beside l:=⟨_,rfl⟩
 rw[←hR];rw[hR0] at hR;clear hR0;have hlv:17 - (k:Int)≤16:=by omega
 have hlv2:((17 - (k:Int)) == 16)=true:=by simp;omega
 have hi3:((1+i:Int) == 4)=true:=by simp;omega
 clear hk1 hi;have hlt:=h.lt;obtain ⟨⟨A,c,hb,hT,hcap⟩,hB⟩:=h;have c0:=hb.cell 0;have c1:=hb.cell 1;simp at c0 c1;have hps:PS g B last l w:=⟨⟨A,c,hb,hT,hcap⟩,hB⟩
 obtain ⟨n,hn⟩:∃ n,n=l.length:=⟨_,rfl⟩
 rw[←hn] at c0;have hb1:Below w.heap.size w (w.alloc (.cells #[.int .i64 0,.int .i64 0,.string ⟨#[]⟩,.int .i64 0,.int .i64 0,.slice none 0 0] 38)):=(Below.refl _ _).alloc (Nat.le_refl _) _;have hb2:Below w.heap.size w ((w.alloc (.cells #[.int .i64 0,.int .i64 0,.string ⟨#[]⟩,.int .i64 0,.int .i64 0,.slice none 0 0] 38)).alloc (.cells #[.slice A n c,.int .i64 last] 143)):=hb1.alloc (by simp) _
 have L:Hid (jE g B last l w.heap.size #[.int .i64 0,.int .i64 0,.string ⟨#[]⟩,.int .i64 0,.int .i64 0,.slice none 0 0] w ((w.alloc (.cells #[.int .i64 0,.int .i64 0,.string ⟨#[]⟩,.int .i64 0,.int .i64 0,.slice none 0 0] 38)).alloc (.cells #[.slice A n c,.int .i64 last] 143))):=Lh ⟨hps.next hb2,eP.below hb2 hlt,(aC.new w _ _).alloc _,Nat.le_refl _,hlt⟩
 have Xb:Hid (aC ((w.alloc (.cells #[.int .i64 0,.int .i64 0,.string ⟨#[]⟩,.int .i64 0,.int .i64 0,.slice none 0 0] 38)).alloc (.cells #[.slice A n c,.int .i64 last] 143)) (w.heap.size+1) 143 #[.slice A n c,.int .i64 last]):=Lh (aC.aZ _ _ (by simp));obtain ⟨bw,ow,cw,hg,hgN,hw⟩:=(he.keep (hb2.mono he.size)).rule;have DN:=he.size;have hgw:3 < w.heap.size:=by omega
 have hg0:w.cell? ⟨3,0,none⟩=some (.slice (some ⟨bw,ow,none⟩) 9 cw):=(hb2.cell (p:=⟨3,0,none⟩) hgw).symm.trans hg;have HO:=Lh hO;have HW:=Lh hw;have HE:=Lh he;have HR:=Lh hR;have HT:=Lh hT;have Hn:=Lh hn;have fI:=Lh (fun (W:World) (hW:PS g B last l W) (vO:fC W N bw ow Sx.ruleWords)=>iH g B N bw ow cw Sx.ruleWords l last W hW vO hN (by decide));rw[show Sx.ruleWords.length=9 from rfl] at fI;clear hO hR hb hT hn hb1 hb2 hps hw he hg;go_enter Tryz.func45,Tryz.ntmps45;go_wp2_with fail;refine (fI.out _ L.out.ps HW.out).mono ?_;intro e w1 he
 rcases he.split with ⟨p,x,hv,rfl,hf⟩ | ⟨i1,l1,v,hv,rfl,hV,hs,hf⟩
 ·rw[HO.out] at hv;cases hv
 rw[HO.out] at hv;injection hv with h1 h2;subst h1;subst h2;unfold gJ at hV;subst hV;clear he;have hs1:=hf.aY.size;have hp0:w.heap.size < w1.heap.size:=by have:=L.out.blk.lt;omega
 have L1:=L.out.step hf hs;have Dq:=hf.blk Xb.out (by omega);have L2:=Lh (L1.set 0 (.int .i64 (1+i)));have XB:=Lh Dq;have y0:=Dq.cell 0;have y1:=Dq.cell 1;have z0:=L1.blk.cell 0;have KI:=L1.blk.free 0;simp at y0 y1 z0;obtain ⟨A1,d1,hg1,hT1,hd1⟩:=hs.st;have g0:=hg1.cell 0;have g1:=hg1.cell 1;have gf0:=hg1.free 0;have gf1:=hg1.free 1;simp at g0 g1;have hne:g≠w.heap.size:=by omega
 have hne1:g≠w.heap.size+1:=by omega
 have hgl:=hg1.lt;have hX1:=Dq.lt;have hfin:PS g B last l (((w1.setCell ⟨w.heap.size,0,none⟩ (.int .i64 (1+i))).setCell ⟨g,0,none⟩ (.slice A n c)).setCell ⟨g,1,none⟩ (.int .i64 last))∧eP g w (((w1.setCell ⟨w.heap.size,0,none⟩ (.int .i64 (1+i))).setCell ⟨g,0,none⟩ (.slice A n c)).setCell ⟨g,1,none⟩ (.int .i64 last)):=by
  have hF2:eP g w (((w1.setCell ⟨w.heap.size,0,none⟩ (.int .i64 (1+i))).setCell ⟨g,0,none⟩ (.slice A n c)).setCell ⟨g,1,none⟩ (.int .i64 last)):=(L2.out.fr.trans (eP.set g 0 _ _)).trans (eP.set g 1 _ _);obtain ⟨A2,d2,hg2,_,_⟩:=L2.out.ps.st;refine ⟨⟨⟨A,c,?_,HT.out.below hF2.aY hB,hcap⟩,hB⟩,hF2⟩;have:=(hg2.set 0 (.slice A n c)).set 1 (.int .i64 last);rw[Hn.out] at this ⊢;simpa using this
 have lu:=Lh (og g B l last 2 _ hfin.1);have HF:=Lh hfin.2;clear hf hs L1 Dq hg1 hT1 hfin;go_wp2_with fail;refine lu.out.mono ?_;rintro e w2 ⟨he,rfl⟩;unfold iL at he;subst he;exact ⟨rfl,by rw [HR.out];exact ⟨rfl,HF.out⟩⟩
theorem Rk (N k kk:Nat) (ih:qR N kk) (hk:k=kk+1) (CW:k≤16) (g B:Nat) (l l1:List Lx.Tok) (last:Int) (beside:Nat) (w:World) (h:PS g B last l w) (he:d9 N w) (hN:N≤g) (hO:Sx.oneOf last Sx.ruleWords l = .ok 6 l1) (hbs:((beside:Int) == 200)=false) :
  Calls Tryz.prog 45 #[.pointer (some ⟨g,0,none⟩),.int .i64 (17 - (k:Int)),.int .i64 beside] w (dH g B last w (iF w.heap.size) (Sx.rule last k beside l)):=by
 have hR0:Sx.rule last k beside l=(Sx.number last 0 10000 l1).bind fun n l=>.ok (.mk 7 0 [] n 0 []) l:=by
  subst hk;rw[Sx.rule,hO,Sx.fU,if_neg (by simp only [beq_eq_false_iff_ne] at hbs;omega)]
  first | rfl | (unfold Sx.cB;rw[if_pos (by omega)])
 obtain ⟨R,hR⟩:∃ R,R=Sx.rule last k beside l:=⟨_,rfl⟩
 rw[←hR];rw[hR0] at hR;have hlv:¬ 16 < 17 - (k:Int):=by omega
 have CX:(k:Int)≤kk+1:=by omega
 have CY:(kk:Int)+1≤k:=by omega
 have BG:=Lh ih;clear hR0 hk ih;have hlt:=h.lt;obtain ⟨⟨A,c,hb,hT,hcap⟩,hB⟩:=h;have c0:=hb.cell 0;have c1:=hb.cell 1;simp at c0 c1;have hps:PS g B last l w:=⟨⟨A,c,hb,hT,hcap⟩,hB⟩
 obtain ⟨n,hn⟩:∃ n,n=l.length:=⟨_,rfl⟩
 rw[←hn] at c0;have hb1:Below w.heap.size w (w.alloc (.cells #[.int .i64 0,.int .i64 0,.string ⟨#[]⟩,.int .i64 0,.int .i64 0,.slice none 0 0] 38)):=(Below.refl _ _).alloc (Nat.le_refl _) _;have hb2:Below w.heap.size w ((w.alloc (.cells #[.int .i64 0,.int .i64 0,.string ⟨#[]⟩,.int .i64 0,.int .i64 0,.slice none 0 0] 38)).alloc (.cells #[.slice A n c,.int .i64 last] 143)):=hb1.alloc (by simp) _
 have L:Hid (jE g B last l w.heap.size #[.int .i64 0,.int .i64 0,.string ⟨#[]⟩,.int .i64 0,.int .i64 0,.slice none 0 0] w ((w.alloc (.cells #[.int .i64 0,.int .i64 0,.string ⟨#[]⟩,.int .i64 0,.int .i64 0,.slice none 0 0] 38)).alloc (.cells #[.slice A n c,.int .i64 last] 143))):=Lh ⟨hps.next hb2,eP.below hb2 hlt,(aC.new w _ _).alloc _,Nat.le_refl _,hlt⟩
 have Xb:Hid (aC ((w.alloc (.cells #[.int .i64 0,.int .i64 0,.string ⟨#[]⟩,.int .i64 0,.int .i64 0,.slice none 0 0] 38)).alloc (.cells #[.slice A n c,.int .i64 last] 143)) (w.heap.size+1) 143 #[.slice A n c,.int .i64 last]):=Lh (aC.aZ _ _ (by simp));obtain ⟨bw,ow,cw,hg,hgN,hw⟩:=(he.keep (hb2.mono he.size)).rule;have DN:=he.size;have hgw:3 < w.heap.size:=by omega
 have hg0:w.cell? ⟨3,0,none⟩=some (.slice (some ⟨bw,ow,none⟩) 9 cw):=(hb2.cell (p:=⟨3,0,none⟩) hgw).symm.trans hg;have HO:=Lh hO;have HW:=Lh hw;have HE:=Lh he;have HR:=Lh hR;have HT:=Lh hT;have Hn:=Lh hn;have fI:=Lh (fun (W:World) (hW:PS g B last l W) (vO:fC W N bw ow Sx.ruleWords)=>iH g B N bw ow cw Sx.ruleWords l last W hW vO hN (by decide));rw[show Sx.ruleWords.length=9 from rfl] at fI;clear hO hR hb hT hn hb1 hb2 hps hw he hg;go_enter Tryz.func45,Tryz.ntmps45;go_wp2_with fail;refine (fI.out _ L.out.ps HW.out).mono ?_;intro e w1 he
 rcases he.split with ⟨p,x,hv,rfl,hf⟩ | ⟨i1,l1,v,hv,rfl,hV,hs,hf⟩
 ·rw[HO.out] at hv;cases hv
 rw[HO.out] at hv;injection hv with h1 h2;subst h1;subst h2;unfold gJ at hV;subst hV;clear he;have hs1:=hf.aY.size;have hp0:w.heap.size < w1.heap.size:=by have:=L.out.blk.lt;omega
 have L1:=L.out.step hf hs;have E1:=Lh ((HE.out).fr L1.fr hN);have z0:=L1.blk.cell 0;have KI:=L1.blk.free 0;simp at z0;have M:Hid (jE g B last l1 w.heap.size #[.int .i64 7,.int .i64 0,.string ⟨#[]⟩,.int .i64 0,.int .i64 0,.slice none 0 0] w (w1.setCell ⟨w.heap.size,0,none⟩ (.int .i64 7))):=Lh (L1.set 0 (.int .i64 7));have EM:=Lh (E1.out.keep (N:=N) (Below.setCell (Below.refl N w1) (show N≤(⟨w.heap.size,0,none⟩:Addr).block from (by show N≤w.heap.size;omega)) (.int .i64 7)));clear hf hs L1 L Xb fI HW HT c0 c1;go_wp2_with fail;refine (fV g B l1 last 0 10000 _ M.out.ps).mono ?_
 intro e w2 he
 rcases he.split with ⟨p,x,hv,rfl,hf⟩ | ⟨m,l2,v,hv,rfl,hV,hs,hf⟩
 ·exact ⟨rfl,dH.aM (Sx.aR HR.out hv) (M.out.fr.trans hf)⟩
 ·unfold gJ at hV;subst hV;replace HR:=Lh (Sx.go_ok HR.out hv);have M2:=M.out.step hf hs;have q0:=M2.blk.cell 0;have BK:=M2.blk.free 0;have q1:=M2.blk.cell 1;have C8:=M2.blk.free 1;have q2:=M2.blk.cell 2;have yA:=M2.blk.free 2;have q3:=M2.blk.cell 3;have sQ:=M2.blk.free 3;have q4:=M2.blk.cell 4;have BI:=M2.blk.free 4;have q5:=M2.blk.cell 5;have BJ:=M2.blk.free 5;simp at q0 q1 q2 q3 q4 q5;have M3:Hid (jE g B last l2 w.heap.size #[.int .i64 7,.int .i64 0,.string ⟨#[]⟩,.int .i64 m,.int .i64 0,.slice none 0 0] w (w2.setCell ⟨w.heap.size,3,none⟩ (.int .i64 m))):=Lh (M2.set 3 (.int .i64 m))
  have hp2:=M2.blk.lt;clear hv hs hf he M M2;go_wp2_with fail;obtain ⟨V,hV⟩:∃ V,V=((((((w2.setCell ⟨w.heap.size,3,none⟩ (.int .i64 m)).setCell ⟨w.heap.size,0,none⟩ (.int .i64 7)).setCell ⟨w.heap.size,1,none⟩ (.int .i64 0)).setCell ⟨w.heap.size,2,none⟩ (.string ⟨#[]⟩)).setCell ⟨w.heap.size,3,none⟩ (.int .i64 m)).setCell ⟨w.heap.size,4,none⟩ (.int .i64 0)).setCell ⟨w.heap.size,5,none⟩ (.slice none 0 0):=⟨_,rfl⟩
  have hL:jE g B last l2 w.heap.size #[.int .i64 7,.int .i64 0,.string ⟨#[]⟩,.int .i64 m,.int .i64 0,.slice none 0 0] w V:=by
   rw[hV];have:=((((((M3.out.set 0 (.int .i64 7)).set 1 (.int .i64 0)).set 2 (.string ⟨#[]⟩)).set 3 (.int .i64 m)).set 4 (.int .i64 0)).set 5 (.slice none 0 0))
   simpa using this
  have d0:=hL.blk.cell 0;have d1:=hL.blk.cell 1;have d2:=hL.blk.cell 2;have d3:=hL.blk.cell 3;have d4:=hL.blk.cell 4;have d5:=hL.blk.cell 5;simp at d0 d1 d2 d3 d4 d5
  try simp only [Exit.inBlock,Exit.then]
  rw[←hV];clear hV;exact bodyPost_ret (v:=.agg #[.int .i64 7,.int .i64 0,.string ⟨#[]⟩,.int .i64 m,.int .i64 0,.slice none 0 0]) (by simp [results,Tryz.results45,go_sem,d0,d1,d2,d3,d4,d5]) rfl (by rw [HR.out];exact ⟨_,rfl,⟨[.int .i64 7,.int .i64 0,.string ⟨#[]⟩,.int .i64 m,.int .i64 0,.slice none 0 0],rfl,fF _ _ _ _ [] _ _ (by simp)⟩,hL.ps,hL.fr⟩)
theorem Rm (N k kk:Nat) (ih:qR N kk) (hk:k=kk+1) (CW:k≤16) (g B:Nat) (l l1:List Lx.Tok) (last:Int) (beside:Nat) (w:World) (h:PS g B last l w) (he:d9 N w) (hN:N≤g) (hO:Sx.oneOf last Sx.ruleWords l = .ok 8 l1) (hbs:((beside:Int) == 200)=false) :
  Calls Tryz.prog 45 #[.pointer (some ⟨g,0,none⟩),.int .i64 (17 - (k:Int)),.int .i64 beside] w (dH g B last w (iF w.heap.size) (Sx.rule last k beside l)):=by
 have hR0:Sx.rule last k beside l=(Sx.ref last l1).bind fun s l=>.ok (.mk 9 s.2 s.1 0 0 []) l:=by
  subst hk;rw[Sx.rule,hO,Sx.fU,if_neg (by simp only [beq_eq_false_iff_ne] at hbs;omega)]
  first | rfl | (unfold Sx.cB;rw[if_pos (by omega)])
 obtain ⟨R,hR⟩:∃ R,R=Sx.rule last k beside l:=⟨_,rfl⟩
 rw[←hR];rw[hR0] at hR;have hlv:¬ 16 < 17 - (k:Int):=by omega
 have CX:(k:Int)≤kk+1:=by omega
 have CY:(kk:Int)+1≤k:=by omega
 have BG:=Lh ih;clear hR0 hk ih;have hlt:=h.lt;obtain ⟨⟨A,c,hb,hT,hcap⟩,hB⟩:=h;have c0:=hb.cell 0;have c1:=hb.cell 1;simp at c0 c1;have hps:PS g B last l w:=⟨⟨A,c,hb,hT,hcap⟩,hB⟩
 obtain ⟨n,hn⟩:∃ n,n=l.length:=⟨_,rfl⟩
 rw[←hn] at c0;have hb1:Below w.heap.size w (w.alloc (.cells #[.int .i64 0,.int .i64 0,.string ⟨#[]⟩,.int .i64 0,.int .i64 0,.slice none 0 0] 38)):=(Below.refl _ _).alloc (Nat.le_refl _) _;have hb2:Below w.heap.size w ((w.alloc (.cells #[.int .i64 0,.int .i64 0,.string ⟨#[]⟩,.int .i64 0,.int .i64 0,.slice none 0 0] 38)).alloc (.cells #[.slice A n c,.int .i64 last] 143)):=hb1.alloc (by simp) _
 have L:Hid (jE g B last l w.heap.size #[.int .i64 0,.int .i64 0,.string ⟨#[]⟩,.int .i64 0,.int .i64 0,.slice none 0 0] w ((w.alloc (.cells #[.int .i64 0,.int .i64 0,.string ⟨#[]⟩,.int .i64 0,.int .i64 0,.slice none 0 0] 38)).alloc (.cells #[.slice A n c,.int .i64 last] 143))):=Lh ⟨hps.next hb2,eP.below hb2 hlt,(aC.new w _ _).alloc _,Nat.le_refl _,hlt⟩
 have Xb:Hid (aC ((w.alloc (.cells #[.int .i64 0,.int .i64 0,.string ⟨#[]⟩,.int .i64 0,.int .i64 0,.slice none 0 0] 38)).alloc (.cells #[.slice A n c,.int .i64 last] 143)) (w.heap.size+1) 143 #[.slice A n c,.int .i64 last]):=Lh (aC.aZ _ _ (by simp));obtain ⟨bw,ow,cw,hg,hgN,hw⟩:=(he.keep (hb2.mono he.size)).rule;have DN:=he.size;have hgw:3 < w.heap.size:=by omega
 have hg0:w.cell? ⟨3,0,none⟩=some (.slice (some ⟨bw,ow,none⟩) 9 cw):=(hb2.cell (p:=⟨3,0,none⟩) hgw).symm.trans hg;have HO:=Lh hO;have HW:=Lh hw;have HE:=Lh he;have HR:=Lh hR;have HT:=Lh hT;have Hn:=Lh hn;have fI:=Lh (fun (W:World) (hW:PS g B last l W) (vO:fC W N bw ow Sx.ruleWords)=>iH g B N bw ow cw Sx.ruleWords l last W hW vO hN (by decide));rw[show Sx.ruleWords.length=9 from rfl] at fI;clear hO hR hb hT hn hb1 hb2 hps hw he hg;go_enter Tryz.func45,Tryz.ntmps45;go_wp2_with fail;refine (fI.out _ L.out.ps HW.out).mono ?_;intro e w1 he
 rcases he.split with ⟨p,x,hv,rfl,hf⟩ | ⟨i1,l1,v,hv,rfl,hV,hs,hf⟩
 ·rw[HO.out] at hv;cases hv
 rw[HO.out] at hv;injection hv with h1 h2;subst h1;subst h2;unfold gJ at hV;subst hV;clear he;have hs1:=hf.aY.size;have hp0:w.heap.size < w1.heap.size:=by have:=L.out.blk.lt;omega
 have L1:=L.out.step hf hs;have E1:=Lh ((HE.out).fr L1.fr hN);have z0:=L1.blk.cell 0;have KI:=L1.blk.free 0;simp at z0;have M:Hid (jE g B last l1 w.heap.size #[.int .i64 9,.int .i64 0,.string ⟨#[]⟩,.int .i64 0,.int .i64 0,.slice none 0 0] w (w1.setCell ⟨w.heap.size,0,none⟩ (.int .i64 9))):=Lh (L1.set 0 (.int .i64 9));have EM:=Lh (E1.out.keep (N:=N) (Below.setCell (Below.refl N w1) (show N≤(⟨w.heap.size,0,none⟩:Addr).block from (by show N≤w.heap.size;omega)) (.int .i64 9)));clear hf hs L1 L Xb fI HW HT c0 c1;go_wp2_with fail;refine (IB g B l1 last _ M.out.ps).mono ?_;intro e w2 he
 rcases he.split with ⟨p,x,hv,rfl,hf⟩ | ⟨s,l2,v,hv,rfl,hV,hs,hf⟩
 ·exact ⟨rfl,dH.aM (Sx.aR HR.out hv) (M.out.fr.trans hf)⟩
 ·obtain ⟨hV,hsl⟩:=hV;unfold bB at hV;subst hV;replace HR:=Lh (Sx.go_ok HR.out hv);have M2:=M.out.step hf hs;have q0:=M2.blk.cell 0;have BK:=M2.blk.free 0;have q1:=M2.blk.cell 1;have C8:=M2.blk.free 1;have q2:=M2.blk.cell 2;have yA:=M2.blk.free 2;have q3:=M2.blk.cell 3;have sQ:=M2.blk.free 3;have q4:=M2.blk.cell 4;have BI:=M2.blk.free 4;have q5:=M2.blk.cell 5;have BJ:=M2.blk.free 5;simp at q0 q1 q2 q3 q4 q5
  have M3:Hid (jE g B last l2 w.heap.size #[.int .i64 9,.int .i64 s.2,.string (Lx.bs s.1),.int .i64 0,.int .i64 0,.slice none 0 0] w ((w2.setCell ⟨w.heap.size,2,none⟩ (.string (Lx.bs s.1))).setCell ⟨w.heap.size,1,none⟩ (.int .i64 s.2))):=Lh (by have:=(M2.set 2 (.string (Lx.bs s.1))).set 1 (.int .i64 s.2);simpa using this);have hp2:=M2.blk.lt;have Eb:=Lh hsl;clear hv hs hf he M M2 hsl;go_wp2_with fail
  obtain ⟨V,hV⟩:∃ V,V=(((((((w2.setCell ⟨w.heap.size,2,none⟩ (.string (Lx.bs s.1))).setCell ⟨w.heap.size,1,none⟩ (.int .i64 s.2)).setCell ⟨w.heap.size,0,none⟩ (.int .i64 9)).setCell ⟨w.heap.size,1,none⟩ (.int .i64 s.2)).setCell ⟨w.heap.size,2,none⟩ (.string (Lx.bs s.1))).setCell ⟨w.heap.size,3,none⟩ (.int .i64 0)).setCell ⟨w.heap.size,4,none⟩ (.int .i64 0)).setCell ⟨w.heap.size,5,none⟩ (.slice none 0 0):=⟨_,rfl⟩
  have hL:jE g B last l2 w.heap.size #[.int .i64 9,.int .i64 s.2,.string (Lx.bs s.1),.int .i64 0,.int .i64 0,.slice none 0 0] w V:=by
   rw[hV];have:=((((((M3.out.set 0 (.int .i64 9)).set 1 (.int .i64 s.2)).set 2 (.string (Lx.bs s.1))).set 3 (.int .i64 0)).set 4 (.int .i64 0)).set 5 (.slice none 0 0))
   simpa using this
  have d0:=hL.blk.cell 0;have d1:=hL.blk.cell 1;have d2:=hL.blk.cell 2;have d3:=hL.blk.cell 3;have d4:=hL.blk.cell 4;have d5:=hL.blk.cell 5;simp at d0 d1 d2 d3 d4 d5
  try simp only [Exit.inBlock,Exit.then]
  rw[←hV];clear hV;exact bodyPost_ret (v:=.agg #[.int .i64 9,.int .i64 s.2,.string (Lx.bs s.1),.int .i64 0,.int .i64 0,.slice none 0 0]) (by simp [results,Tryz.results45,go_sem,d0,d1,d2,d3,d4,d5]) rfl (by rw [HR.out];exact ⟨_,rfl,⟨[.int .i64 9,.int .i64 s.2,.string (Lx.bs s.1),.int .i64 0,.int .i64 0,.slice none 0 0],rfl,fF _ _ _ _ s.1 _ _ Eb.out⟩,hL.ps,hL.fr⟩)
theorem Ri (N k kk:Nat) (ih:qR N kk) (hk:k=kk+1) (CW:k≤16) (g B:Nat) (l l1:List Lx.Tok) (last:Int) (beside:Nat) (w:World) (h:PS g B last l w) (he:d9 N w) (hN:N≤g) (hO:Sx.oneOf last Sx.ruleWords l = .ok 4 l1) (hbs:((beside:Int) == 200)=false) :
  Calls Tryz.prog 45 #[.pointer (some ⟨g,0,none⟩),.int .i64 (17 - (k:Int)),.int .i64 beside] w (dH g B last w (iF w.heap.size) (Sx.rule last k beside l)):=by
 have hR0:Sx.rule last k beside l=(Sx.ref last l1).bind fun s l=>(Sx.number last 0 12 l).bind fun n l=>.ok (.mk 5 s.2 s.1 n 0 []) l:=by
  subst hk;rw[Sx.rule,hO,Sx.fU,if_neg (by simp only [beq_eq_false_iff_ne] at hbs;omega)]
  first | rfl | (unfold Sx.cB;rw[if_pos (by omega)])
 obtain ⟨R,hR⟩:∃ R,R=Sx.rule last k beside l:=⟨_,rfl⟩
 rw[←hR];rw[hR0] at hR;have hlv:¬ 16 < 17 - (k:Int):=by omega
 have CX:(k:Int)≤kk+1:=by omega
 have CY:(kk:Int)+1≤k:=by omega
 have BG:=Lh ih;clear hR0 hk ih;have hlt:=h.lt;obtain ⟨⟨A,c,hb,hT,hcap⟩,hB⟩:=h;have c0:=hb.cell 0;have c1:=hb.cell 1;simp at c0 c1;have hps:PS g B last l w:=⟨⟨A,c,hb,hT,hcap⟩,hB⟩
 obtain ⟨n,hn⟩:∃ n,n=l.length:=⟨_,rfl⟩
 rw[←hn] at c0;have hb1:Below w.heap.size w (w.alloc (.cells #[.int .i64 0,.int .i64 0,.string ⟨#[]⟩,.int .i64 0,.int .i64 0,.slice none 0 0] 38)):=(Below.refl _ _).alloc (Nat.le_refl _) _;have hb2:Below w.heap.size w ((w.alloc (.cells #[.int .i64 0,.int .i64 0,.string ⟨#[]⟩,.int .i64 0,.int .i64 0,.slice none 0 0] 38)).alloc (.cells #[.slice A n c,.int .i64 last] 143)):=hb1.alloc (by simp) _
 have L:Hid (jE g B last l w.heap.size #[.int .i64 0,.int .i64 0,.string ⟨#[]⟩,.int .i64 0,.int .i64 0,.slice none 0 0] w ((w.alloc (.cells #[.int .i64 0,.int .i64 0,.string ⟨#[]⟩,.int .i64 0,.int .i64 0,.slice none 0 0] 38)).alloc (.cells #[.slice A n c,.int .i64 last] 143))):=Lh ⟨hps.next hb2,eP.below hb2 hlt,(aC.new w _ _).alloc _,Nat.le_refl _,hlt⟩
 have Xb:Hid (aC ((w.alloc (.cells #[.int .i64 0,.int .i64 0,.string ⟨#[]⟩,.int .i64 0,.int .i64 0,.slice none 0 0] 38)).alloc (.cells #[.slice A n c,.int .i64 last] 143)) (w.heap.size+1) 143 #[.slice A n c,.int .i64 last]):=Lh (aC.aZ _ _ (by simp));obtain ⟨bw,ow,cw,hg,hgN,hw⟩:=(he.keep (hb2.mono he.size)).rule;have DN:=he.size;have hgw:3 < w.heap.size:=by omega
 have hg0:w.cell? ⟨3,0,none⟩=some (.slice (some ⟨bw,ow,none⟩) 9 cw):=(hb2.cell (p:=⟨3,0,none⟩) hgw).symm.trans hg;have HO:=Lh hO;have HW:=Lh hw;have HE:=Lh he;have HR:=Lh hR;have HT:=Lh hT;have Hn:=Lh hn;have fI:=Lh (fun (W:World) (hW:PS g B last l W) (vO:fC W N bw ow Sx.ruleWords)=>iH g B N bw ow cw Sx.ruleWords l last W hW vO hN (by decide));rw[show Sx.ruleWords.length=9 from rfl] at fI;clear hO hR hb hT hn hb1 hb2 hps hw he hg;go_enter Tryz.func45,Tryz.ntmps45;go_wp2_with fail;refine (fI.out _ L.out.ps HW.out).mono ?_;intro e w1 he
 rcases he.split with ⟨p,x,hv,rfl,hf⟩ | ⟨i1,l1,v,hv,rfl,hV,hs,hf⟩
 ·rw[HO.out] at hv;cases hv
 rw[HO.out] at hv;injection hv with h1 h2;subst h1;subst h2;unfold gJ at hV;subst hV;clear he;have hs1:=hf.aY.size;have hp0:w.heap.size < w1.heap.size:=by have:=L.out.blk.lt;omega
 have L1:=L.out.step hf hs;have E1:=Lh ((HE.out).fr L1.fr hN);have z0:=L1.blk.cell 0;have KI:=L1.blk.free 0;simp at z0;have M:Hid (jE g B last l1 w.heap.size #[.int .i64 5,.int .i64 0,.string ⟨#[]⟩,.int .i64 0,.int .i64 0,.slice none 0 0] w (w1.setCell ⟨w.heap.size,0,none⟩ (.int .i64 5))):=Lh (L1.set 0 (.int .i64 5));have EM:=Lh (E1.out.keep (N:=N) (Below.setCell (Below.refl N w1) (show N≤(⟨w.heap.size,0,none⟩:Addr).block from (by show N≤w.heap.size;omega)) (.int .i64 5)));clear hf hs L1 L Xb fI HW HT c0 c1;go_wp2_with fail;refine (IB g B l1 last _ M.out.ps).mono ?_;intro e w2 he
 rcases he.split with ⟨p,x,hv,rfl,hf⟩ | ⟨s,l2,v,hv,rfl,hV,hs,hf⟩
 ·exact ⟨rfl,dH.aM (Sx.aR HR.out hv) (M.out.fr.trans hf)⟩
 ·obtain ⟨hV,hsl⟩:=hV;unfold bB at hV;subst hV;replace HR:=Lh (Sx.go_ok HR.out hv);have M2:=M.out.step hf hs;have q0:=M2.blk.cell 0;have BK:=M2.blk.free 0;have q1:=M2.blk.cell 1;have C8:=M2.blk.free 1;have q2:=M2.blk.cell 2;have yA:=M2.blk.free 2;have q3:=M2.blk.cell 3;have sQ:=M2.blk.free 3;have q4:=M2.blk.cell 4;have BI:=M2.blk.free 4;have q5:=M2.blk.cell 5;have BJ:=M2.blk.free 5;simp at q0 q1 q2 q3 q4 q5
  have M3:Hid (jE g B last l2 w.heap.size #[.int .i64 5,.int .i64 s.2,.string (Lx.bs s.1),.int .i64 0,.int .i64 0,.slice none 0 0] w ((w2.setCell ⟨w.heap.size,2,none⟩ (.string (Lx.bs s.1))).setCell ⟨w.heap.size,1,none⟩ (.int .i64 s.2))):=Lh (by have:=(M2.set 2 (.string (Lx.bs s.1))).set 1 (.int .i64 s.2);simpa using this);have hp2:=M2.blk.lt;have Eb:=Lh hsl;clear hv hs hf he M M2 hsl;go_wp2_with fail;clear q0 q1 q2 q3 q4 q5 BK C8 yA sQ BI BJ;refine (fV g B l2 last 0 12 _ M3.out.ps).mono ?_;intro e w3 he
  rcases he.split with ⟨p,x,hv,rfl,hf⟩ | ⟨m,l3,v,hv,rfl,hV,hs,hf⟩
  ·exact ⟨rfl,dH.aM (Sx.aR HR.out hv) (M3.out.fr.trans hf)⟩
  ·unfold gJ at hV;subst hV;replace HR:=Lh (Sx.go_ok HR.out hv);have M4:=M3.out.step hf hs;have q0:=M4.blk.cell 0;have BK:=M4.blk.free 0;have q1:=M4.blk.cell 1;have C8:=M4.blk.free 1;have q2:=M4.blk.cell 2;have yA:=M4.blk.free 2;have q3:=M4.blk.cell 3;have sQ:=M4.blk.free 3;have q4:=M4.blk.cell 4;have BI:=M4.blk.free 4;have q5:=M4.blk.cell 5;have BJ:=M4.blk.free 5;simp at q0 q1 q2 q3 q4 q5
   have M5:Hid (jE g B last l3 w.heap.size #[.int .i64 5,.int .i64 s.2,.string (Lx.bs s.1),.int .i64 m,.int .i64 0,.slice none 0 0] w (w3.setCell ⟨w.heap.size,3,none⟩ (.int .i64 m))):=Lh (M4.set 3 (.int .i64 m));have hp3:=M4.blk.lt;clear hv hs hf he M3 M4;go_wp2_with fail
   obtain ⟨V,hV⟩:∃ V,V=((((((w3.setCell ⟨w.heap.size,3,none⟩ (.int .i64 m)).setCell ⟨w.heap.size,0,none⟩ (.int .i64 5)).setCell ⟨w.heap.size,1,none⟩ (.int .i64 s.2)).setCell ⟨w.heap.size,2,none⟩ (.string (Lx.bs s.1))).setCell ⟨w.heap.size,3,none⟩ (.int .i64 m)).setCell ⟨w.heap.size,4,none⟩ (.int .i64 0)).setCell ⟨w.heap.size,5,none⟩ (.slice none 0 0):=⟨_,rfl⟩
   have hL:jE g B last l3 w.heap.size #[.int .i64 5,.int .i64 s.2,.string (Lx.bs s.1),.int .i64 m,.int .i64 0,.slice none 0 0] w V:=by
    rw[hV];have:=((((((M5.out.set 0 (.int .i64 5)).set 1 (.int .i64 s.2)).set 2 (.string (Lx.bs s.1))).set 3 (.int .i64 m)).set 4 (.int .i64 0)).set 5 (.slice none 0 0))
    simpa using this
   have d0:=hL.blk.cell 0;have d1:=hL.blk.cell 1;have d2:=hL.blk.cell 2;have d3:=hL.blk.cell 3;have d4:=hL.blk.cell 4;have d5:=hL.blk.cell 5;simp at d0 d1 d2 d3 d4 d5
   try simp only [Exit.inBlock,Exit.then]
   rw[←hV];clear hV;exact bodyPost_ret (v:=.agg #[.int .i64 5,.int .i64 s.2,.string (Lx.bs s.1),.int .i64 m,.int .i64 0,.slice none 0 0]) (by simp [results,Tryz.results45,go_sem,d0,d1,d2,d3,d4,d5]) rfl (by rw [HR.out];exact ⟨_,rfl,⟨[.int .i64 5,.int .i64 s.2,.string (Lx.bs s.1),.int .i64 m,.int .i64 0,.slice none 0 0],rfl,fF _ _ _ _ s.1 _ _ Eb.out⟩,hL.ps,hL.fr⟩)
theorem Rj (N k kk:Nat) (ih:qR N kk) (hk:k=kk+1) (CW:k≤16) (g B:Nat) (l l1:List Lx.Tok) (last:Int) (beside:Nat) (w:World) (h:PS g B last l w) (he:d9 N w) (hN:N≤g) (hO:Sx.oneOf last Sx.ruleWords l = .ok 5 l1) (hbs:((beside:Int) == 200)=false) :
  Calls Tryz.prog 45 #[.pointer (some ⟨g,0,none⟩),.int .i64 (17 - (k:Int)),.int .i64 beside] w (dH g B last w (iF w.heap.size) (Sx.rule last k beside l)):=by
 have hR0:Sx.rule last k beside l=(Sx.ref last l1).bind fun s l=>(Sx.number last 1 100 l).bind fun n l=>.ok (.mk 6 s.2 s.1 n 0 []) l:=by
  subst hk;rw[Sx.rule,hO,Sx.fU,if_neg (by simp only [beq_eq_false_iff_ne] at hbs;omega)]
  first | rfl | (unfold Sx.cB;rw[if_pos (by omega)])
 obtain ⟨R,hR⟩:∃ R,R=Sx.rule last k beside l:=⟨_,rfl⟩
 rw[←hR];rw[hR0] at hR;have hlv:¬ 16 < 17 - (k:Int):=by omega
 have CX:(k:Int)≤kk+1:=by omega
 have CY:(kk:Int)+1≤k:=by omega
 have BG:=Lh ih;clear hR0 hk ih;have hlt:=h.lt;obtain ⟨⟨A,c,hb,hT,hcap⟩,hB⟩:=h;have c0:=hb.cell 0;have c1:=hb.cell 1;simp at c0 c1;have hps:PS g B last l w:=⟨⟨A,c,hb,hT,hcap⟩,hB⟩
 obtain ⟨n,hn⟩:∃ n,n=l.length:=⟨_,rfl⟩
 rw[←hn] at c0;have hb1:Below w.heap.size w (w.alloc (.cells #[.int .i64 0,.int .i64 0,.string ⟨#[]⟩,.int .i64 0,.int .i64 0,.slice none 0 0] 38)):=(Below.refl _ _).alloc (Nat.le_refl _) _;have hb2:Below w.heap.size w ((w.alloc (.cells #[.int .i64 0,.int .i64 0,.string ⟨#[]⟩,.int .i64 0,.int .i64 0,.slice none 0 0] 38)).alloc (.cells #[.slice A n c,.int .i64 last] 143)):=hb1.alloc (by simp) _
 have L:Hid (jE g B last l w.heap.size #[.int .i64 0,.int .i64 0,.string ⟨#[]⟩,.int .i64 0,.int .i64 0,.slice none 0 0] w ((w.alloc (.cells #[.int .i64 0,.int .i64 0,.string ⟨#[]⟩,.int .i64 0,.int .i64 0,.slice none 0 0] 38)).alloc (.cells #[.slice A n c,.int .i64 last] 143))):=Lh ⟨hps.next hb2,eP.below hb2 hlt,(aC.new w _ _).alloc _,Nat.le_refl _,hlt⟩
 have Xb:Hid (aC ((w.alloc (.cells #[.int .i64 0,.int .i64 0,.string ⟨#[]⟩,.int .i64 0,.int .i64 0,.slice none 0 0] 38)).alloc (.cells #[.slice A n c,.int .i64 last] 143)) (w.heap.size+1) 143 #[.slice A n c,.int .i64 last]):=Lh (aC.aZ _ _ (by simp));obtain ⟨bw,ow,cw,hg,hgN,hw⟩:=(he.keep (hb2.mono he.size)).rule;have DN:=he.size;have hgw:3 < w.heap.size:=by omega
 have hg0:w.cell? ⟨3,0,none⟩=some (.slice (some ⟨bw,ow,none⟩) 9 cw):=(hb2.cell (p:=⟨3,0,none⟩) hgw).symm.trans hg;have HO:=Lh hO;have HW:=Lh hw;have HE:=Lh he;have HR:=Lh hR;have HT:=Lh hT;have Hn:=Lh hn;have fI:=Lh (fun (W:World) (hW:PS g B last l W) (vO:fC W N bw ow Sx.ruleWords)=>iH g B N bw ow cw Sx.ruleWords l last W hW vO hN (by decide));rw[show Sx.ruleWords.length=9 from rfl] at fI;clear hO hR hb hT hn hb1 hb2 hps hw he hg;go_enter Tryz.func45,Tryz.ntmps45;go_wp2_with fail;refine (fI.out _ L.out.ps HW.out).mono ?_;intro e w1 he
 rcases he.split with ⟨p,x,hv,rfl,hf⟩ | ⟨i1,l1,v,hv,rfl,hV,hs,hf⟩
 ·rw[HO.out] at hv;cases hv
 rw[HO.out] at hv;injection hv with h1 h2;subst h1;subst h2;unfold gJ at hV;subst hV;clear he;have hs1:=hf.aY.size;have hp0:w.heap.size < w1.heap.size:=by have:=L.out.blk.lt;omega
 have L1:=L.out.step hf hs;have E1:=Lh ((HE.out).fr L1.fr hN);have z0:=L1.blk.cell 0;have KI:=L1.blk.free 0;simp at z0;have M:Hid (jE g B last l1 w.heap.size #[.int .i64 6,.int .i64 0,.string ⟨#[]⟩,.int .i64 0,.int .i64 0,.slice none 0 0] w (w1.setCell ⟨w.heap.size,0,none⟩ (.int .i64 6))):=Lh (L1.set 0 (.int .i64 6));have EM:=Lh (E1.out.keep (N:=N) (Below.setCell (Below.refl N w1) (show N≤(⟨w.heap.size,0,none⟩:Addr).block from (by show N≤w.heap.size;omega)) (.int .i64 6)));clear hf hs L1 L Xb fI HW HT c0 c1;go_wp2_with fail;refine (IB g B l1 last _ M.out.ps).mono ?_;intro e w2 he
 rcases he.split with ⟨p,x,hv,rfl,hf⟩ | ⟨s,l2,v,hv,rfl,hV,hs,hf⟩
 ·exact ⟨rfl,dH.aM (Sx.aR HR.out hv) (M.out.fr.trans hf)⟩
 ·obtain ⟨hV,hsl⟩:=hV;unfold bB at hV;subst hV;replace HR:=Lh (Sx.go_ok HR.out hv);have M2:=M.out.step hf hs;have q0:=M2.blk.cell 0;have BK:=M2.blk.free 0;have q1:=M2.blk.cell 1;have C8:=M2.blk.free 1;have q2:=M2.blk.cell 2;have yA:=M2.blk.free 2;have q3:=M2.blk.cell 3;have sQ:=M2.blk.free 3;have q4:=M2.blk.cell 4;have BI:=M2.blk.free 4;have q5:=M2.blk.cell 5;have BJ:=M2.blk.free 5;simp at q0 q1 q2 q3 q4 q5
  have M3:Hid (jE g B last l2 w.heap.size #[.int .i64 6,.int .i64 s.2,.string (Lx.bs s.1),.int .i64 0,.int .i64 0,.slice none 0 0] w ((w2.setCell ⟨w.heap.size,2,none⟩ (.string (Lx.bs s.1))).setCell ⟨w.heap.size,1,none⟩ (.int .i64 s.2))):=Lh (by have:=(M2.set 2 (.string (Lx.bs s.1))).set 1 (.int .i64 s.2);simpa using this);have hp2:=M2.blk.lt;have Eb:=Lh hsl;clear hv hs hf he M M2 hsl;go_wp2_with fail;clear q0 q1 q2 q3 q4 q5 BK C8 yA sQ BI BJ;refine (fV g B l2 last 1 100 _ M3.out.ps).mono ?_;intro e w3 he
  rcases he.split with ⟨p,x,hv,rfl,hf⟩ | ⟨m,l3,v,hv,rfl,hV,hs,hf⟩
  ·exact ⟨rfl,dH.aM (Sx.aR HR.out hv) (M3.out.fr.trans hf)⟩
  ·unfold gJ at hV;subst hV;replace HR:=Lh (Sx.go_ok HR.out hv);have M4:=M3.out.step hf hs;have q0:=M4.blk.cell 0;have BK:=M4.blk.free 0;have q1:=M4.blk.cell 1;have C8:=M4.blk.free 1;have q2:=M4.blk.cell 2;have yA:=M4.blk.free 2;have q3:=M4.blk.cell 3;have sQ:=M4.blk.free 3;have q4:=M4.blk.cell 4;have BI:=M4.blk.free 4;have q5:=M4.blk.cell 5;have BJ:=M4.blk.free 5;simp at q0 q1 q2 q3 q4 q5
   have M5:Hid (jE g B last l3 w.heap.size #[.int .i64 6,.int .i64 s.2,.string (Lx.bs s.1),.int .i64 m,.int .i64 0,.slice none 0 0] w (w3.setCell ⟨w.heap.size,3,none⟩ (.int .i64 m))):=Lh (M4.set 3 (.int .i64 m));have hp3:=M4.blk.lt;clear hv hs hf he M3 M4;go_wp2_with fail
   obtain ⟨V,hV⟩:∃ V,V=((((((w3.setCell ⟨w.heap.size,3,none⟩ (.int .i64 m)).setCell ⟨w.heap.size,0,none⟩ (.int .i64 6)).setCell ⟨w.heap.size,1,none⟩ (.int .i64 s.2)).setCell ⟨w.heap.size,2,none⟩ (.string (Lx.bs s.1))).setCell ⟨w.heap.size,3,none⟩ (.int .i64 m)).setCell ⟨w.heap.size,4,none⟩ (.int .i64 0)).setCell ⟨w.heap.size,5,none⟩ (.slice none 0 0):=⟨_,rfl⟩
   have hL:jE g B last l3 w.heap.size #[.int .i64 6,.int .i64 s.2,.string (Lx.bs s.1),.int .i64 m,.int .i64 0,.slice none 0 0] w V:=by
    rw[hV];have:=((((((M5.out.set 0 (.int .i64 6)).set 1 (.int .i64 s.2)).set 2 (.string (Lx.bs s.1))).set 3 (.int .i64 m)).set 4 (.int .i64 0)).set 5 (.slice none 0 0))
    simpa using this
   have d0:=hL.blk.cell 0;have d1:=hL.blk.cell 1;have d2:=hL.blk.cell 2;have d3:=hL.blk.cell 3;have d4:=hL.blk.cell 4;have d5:=hL.blk.cell 5;simp at d0 d1 d2 d3 d4 d5
   try simp only [Exit.inBlock,Exit.then]
   rw[←hV];clear hV;exact bodyPost_ret (v:=.agg #[.int .i64 6,.int .i64 s.2,.string (Lx.bs s.1),.int .i64 m,.int .i64 0,.slice none 0 0]) (by simp [results,Tryz.results45,go_sem,d0,d1,d2,d3,d4,d5]) rfl (by rw [HR.out];exact ⟨_,rfl,⟨[.int .i64 6,.int .i64 s.2,.string (Lx.bs s.1),.int .i64 m,.int .i64 0,.slice none 0 0],rfl,fF _ _ _ _ s.1 _ _ Eb.out⟩,hL.ps,hL.fr⟩)
theorem Rl (N k kk:Nat) (ih:qR N kk) (hk:k=kk+1) (CW:k≤16) (g B:Nat) (l l1:List Lx.Tok) (last:Int) (beside:Nat) (w:World) (h:PS g B last l w) (he:d9 N w) (hN:N≤g) (hO:Sx.oneOf last Sx.ruleWords l = .ok 7 l1) (hbs:((beside:Int) == 200)=false) :
  Calls Tryz.prog 45 #[.pointer (some ⟨g,0,none⟩),.int .i64 (17 - (k:Int)),.int .i64 beside] w (dH g B last w (iF w.heap.size) (Sx.rule last k beside l)):=by
 have hR0:Sx.rule last k beside l=(Sx.ratio last l1).bind fun x l=>.ok (.mk 8 0 [] x.num x.den []) l:=by
  subst hk;rw[Sx.rule,hO,Sx.fU,if_neg (by simp only [beq_eq_false_iff_ne] at hbs;omega)]
  first | rfl | (unfold Sx.cB;rw[if_pos (by omega)])
 obtain ⟨R,hR⟩:∃ R,R=Sx.rule last k beside l:=⟨_,rfl⟩
 rw[←hR];rw[hR0] at hR;have hlv:¬ 16 < 17 - (k:Int):=by omega
 have CX:(k:Int)≤kk+1:=by omega
 have CY:(kk:Int)+1≤k:=by omega
 have BG:=Lh ih;clear hR0 hk ih;have hlt:=h.lt;obtain ⟨⟨A,c,hb,hT,hcap⟩,hB⟩:=h;have c0:=hb.cell 0;have c1:=hb.cell 1;simp at c0 c1;have hps:PS g B last l w:=⟨⟨A,c,hb,hT,hcap⟩,hB⟩
 obtain ⟨n,hn⟩:∃ n,n=l.length:=⟨_,rfl⟩
 rw[←hn] at c0;have hb1:Below w.heap.size w (w.alloc (.cells #[.int .i64 0,.int .i64 0,.string ⟨#[]⟩,.int .i64 0,.int .i64 0,.slice none 0 0] 38)):=(Below.refl _ _).alloc (Nat.le_refl _) _;have hb2:Below w.heap.size w ((w.alloc (.cells #[.int .i64 0,.int .i64 0,.string ⟨#[]⟩,.int .i64 0,.int .i64 0,.slice none 0 0] 38)).alloc (.cells #[.slice A n c,.int .i64 last] 143)):=hb1.alloc (by simp) _
 have L:Hid (jE g B last l w.heap.size #[.int .i64 0,.int .i64 0,.string ⟨#[]⟩,.int .i64 0,.int .i64 0,.slice none 0 0] w ((w.alloc (.cells #[.int .i64 0,.int .i64 0,.string ⟨#[]⟩,.int .i64 0,.int .i64 0,.slice none 0 0] 38)).alloc (.cells #[.slice A n c,.int .i64 last] 143))):=Lh ⟨hps.next hb2,eP.below hb2 hlt,(aC.new w _ _).alloc _,Nat.le_refl _,hlt⟩
 have Xb:Hid (aC ((w.alloc (.cells #[.int .i64 0,.int .i64 0,.string ⟨#[]⟩,.int .i64 0,.int .i64 0,.slice none 0 0] 38)).alloc (.cells #[.slice A n c,.int .i64 last] 143)) (w.heap.size+1) 143 #[.slice A n c,.int .i64 last]):=Lh (aC.aZ _ _ (by simp));obtain ⟨bw,ow,cw,hg,hgN,hw⟩:=(he.keep (hb2.mono he.size)).rule;have DN:=he.size;have hgw:3 < w.heap.size:=by omega
 have hg0:w.cell? ⟨3,0,none⟩=some (.slice (some ⟨bw,ow,none⟩) 9 cw):=(hb2.cell (p:=⟨3,0,none⟩) hgw).symm.trans hg;have HO:=Lh hO;have HW:=Lh hw;have HE:=Lh he;have HR:=Lh hR;have HT:=Lh hT;have Hn:=Lh hn;have fI:=Lh (fun (W:World) (hW:PS g B last l W) (vO:fC W N bw ow Sx.ruleWords)=>iH g B N bw ow cw Sx.ruleWords l last W hW vO hN (by decide));rw[show Sx.ruleWords.length=9 from rfl] at fI;clear hO hR hb hT hn hb1 hb2 hps hw he hg;go_enter Tryz.func45,Tryz.ntmps45;go_wp2_with fail;refine (fI.out _ L.out.ps HW.out).mono ?_;intro e w1 he
 rcases he.split with ⟨p,x,hv,rfl,hf⟩ | ⟨i1,l1,v,hv,rfl,hV,hs,hf⟩
 ·rw[HO.out] at hv;cases hv
 rw[HO.out] at hv;injection hv with h1 h2;subst h1;subst h2;unfold gJ at hV;subst hV;clear he;have hs1:=hf.aY.size;have hp0:w.heap.size < w1.heap.size:=by have:=L.out.blk.lt;omega
 have L1:=L.out.step hf hs;have E1:=Lh ((HE.out).fr L1.fr hN);have z0:=L1.blk.cell 0;have KI:=L1.blk.free 0;simp at z0;have M:Hid (jE g B last l1 w.heap.size #[.int .i64 8,.int .i64 0,.string ⟨#[]⟩,.int .i64 0,.int .i64 0,.slice none 0 0] w (w1.setCell ⟨w.heap.size,0,none⟩ (.int .i64 8))):=Lh (L1.set 0 (.int .i64 8));have EM:=Lh (E1.out.keep (N:=N) (Below.setCell (Below.refl N w1) (show N≤(⟨w.heap.size,0,none⟩:Addr).block from (by show N≤w.heap.size;omega)) (.int .i64 8)));clear hf hs L1 L Xb fI HW HT c0 c1;go_wp2_with fail;refine (Ey g B l1 last _ M.out.ps).mono ?_;intro e w2 he
 rcases he.split with ⟨p,x,hv,rfl,hf⟩ | ⟨m,l2,v,hv,rfl,hV,hs,hf⟩
 ·exact ⟨rfl,dH.aM (Sx.aR HR.out hv) (M.out.fr.trans hf)⟩
 ·unfold Nt at hV;subst hV;replace HR:=Lh (Sx.go_ok HR.out hv);have M2:=M.out.step hf hs;have q0:=M2.blk.cell 0;have BK:=M2.blk.free 0;have q1:=M2.blk.cell 1;have C8:=M2.blk.free 1;have q2:=M2.blk.cell 2;have yA:=M2.blk.free 2;have q3:=M2.blk.cell 3;have sQ:=M2.blk.free 3;have q4:=M2.blk.cell 4;have BI:=M2.blk.free 4;have q5:=M2.blk.cell 5;have BJ:=M2.blk.free 5;simp at q0 q1 q2 q3 q4 q5;have hp2:=M2.blk.lt;have H2:=Lh M2;clear hv hs hf he M M2;go_wp2_with fail;obtain ⟨W,hW⟩:∃ W,W=w2.alloc (.cells #[.int .i64 m.num,.int .i64 m.den] 75):=⟨_,rfl⟩
  have hL:=H2.out.alloc (.cells #[.int .i64 m.num,.int .i64 m.den] 75);have hX:aC W w2.heap.size 75 #[.int .i64 m.num,.int .i64 m.den]:=by rw [hW];exact aC.new _ _ _
  rw[←hW] at hL ⊢;clear hW q0 q1 q2 q3 q4 q5 BK C8 yA sQ BI BJ;have q0:=hL.blk.cell 0;have BK:=hL.blk.free 0;have q1:=hL.blk.cell 1;have C8:=hL.blk.free 1;have q2:=hL.blk.cell 2;have yA:=hL.blk.free 2;have q3:=hL.blk.cell 3;have sQ:=hL.blk.free 3;have q4:=hL.blk.cell 4;have BI:=hL.blk.free 4;have q5:=hL.blk.cell 5;have BJ:=hL.blk.free 5;have x0:=hX.cell 0;have x1:=hX.cell 1;simp at q0 q1 q2 q3 q4 q5 x0 x1;have H3:=Lh hL;clear hL hX
  go_region
  go_wp2_with fail;have H5:Hid (jE g B last l2 w.heap.size #[.int .i64 8,.int .i64 0,.string ⟨#[]⟩,.int .i64 m.num,.int .i64 m.den,.slice none 0 0] w ((W.setCell ⟨w.heap.size,3,none⟩ (.int .i64 m.num)).setCell ⟨w.heap.size,4,none⟩ (.int .i64 m.den))):=Lh (by have:=(H3.out.set 3 (.int .i64 m.num)).set 4 (.int .i64 m.den);simpa using this)
  obtain ⟨V,hV⟩:∃ V,V=((((((((W.setCell ⟨w.heap.size,3,none⟩ (.int .i64 m.num)).setCell ⟨w.heap.size,4,none⟩ (.int .i64 m.den)).setCell ⟨w.heap.size,0,none⟩ (.int .i64 8)).setCell ⟨w.heap.size,1,none⟩ (.int .i64 0)).setCell ⟨w.heap.size,2,none⟩ (.string ⟨#[]⟩)).setCell ⟨w.heap.size,3,none⟩ (.int .i64 m.num)).setCell ⟨w.heap.size,4,none⟩ (.int .i64 m.den)).setCell ⟨w.heap.size,5,none⟩ (.slice none 0 0)).drew:=⟨_,rfl⟩
  have hL:jE g B last l2 w.heap.size #[.int .i64 8,.int .i64 0,.string ⟨#[]⟩,.int .i64 m.num,.int .i64 m.den,.slice none 0 0] w V:=by
   rw[hV];have:=((((((H5.out.set 0 (.int .i64 8)).set 1 (.int .i64 0)).set 2 (.string ⟨#[]⟩)).set 3 (.int .i64 m.num)).set 4 (.int .i64 m.den)).set 5 (.slice none 0 0)).drew;simpa using this
  have d0:=hL.blk.cell 0;have d1:=hL.blk.cell 1;have d2:=hL.blk.cell 2;have d3:=hL.blk.cell 3;have d4:=hL.blk.cell 4;have d5:=hL.blk.cell 5;simp at d0 d1 d2 d3 d4 d5
  try simp only [Exit.inBlock,Exit.then]
  rw[←hV];clear hV;exact bodyPost_ret (v:=.agg #[.int .i64 8,.int .i64 0,.string ⟨#[]⟩,.int .i64 m.num,.int .i64 m.den,.slice none 0 0]) (by simp [results,Tryz.results45,go_sem,d0,d1,d2,d3,d4,d5]) rfl (by rw [HR.out];exact ⟨_,rfl,⟨[.int .i64 8,.int .i64 0,.string ⟨#[]⟩,.int .i64 m.num,.int .i64 m.den,.slice none 0 0],rfl,fF _ _ _ _ [] _ _ (by simp)⟩,hL.ps,hL.fr⟩)
theorem Rh (N k kk:Nat) (ih:qR N kk) (hk:k=kk+1) (CW:k≤16) (g B:Nat) (l l1:List Lx.Tok) (last:Int) (beside:Nat) (w:World) (h:PS g B last l w) (he:d9 N w) (hN:N≤g) (hO:Sx.oneOf last Sx.ruleWords l = .ok 3 l1) (hbs:((beside:Int) == 200)=false) (hk1:1≤kk) :
  Calls Tryz.prog 45 #[.pointer (some ⟨g,0,none⟩),.int .i64 (17 - (k:Int)),.int .i64 beside] w (dH g B last w (iF w.heap.size) (Sx.rule last k beside l)):=by
 have hR0:Sx.rule last k beside l=(Sx.rule last kk 0 l1).bind fun k l=>.ok (.mk 4 0 [] 0 0 [k]) l:=by
  subst hk;rw[Sx.rule,hO,Sx.fU,if_neg (by simp only [beq_eq_false_iff_ne] at hbs;omega)]
  first | rfl | (unfold Sx.cB;rw[if_pos (by omega)])
 obtain ⟨R,hR⟩:∃ R,R=Sx.rule last k beside l:=⟨_,rfl⟩
 rw[←hR];rw[hR0] at hR;have hlv:¬ 16 < 17 - (k:Int):=by omega
 have CX:(k:Int)≤kk+1:=by omega
 have CY:(kk:Int)+1≤k:=by omega
 have BG:=Lh ih;have hlv3:((17 - (k:Int)) == 16)=false:=by simp;omega
 clear hR0 hk ih;have hlt:=h.lt;obtain ⟨⟨A,c,hb,hT,hcap⟩,hB⟩:=h;have c0:=hb.cell 0;have c1:=hb.cell 1;simp at c0 c1;have hps:PS g B last l w:=⟨⟨A,c,hb,hT,hcap⟩,hB⟩
 obtain ⟨n,hn⟩:∃ n,n=l.length:=⟨_,rfl⟩
 rw[←hn] at c0;have hb1:Below w.heap.size w (w.alloc (.cells #[.int .i64 0,.int .i64 0,.string ⟨#[]⟩,.int .i64 0,.int .i64 0,.slice none 0 0] 38)):=(Below.refl _ _).alloc (Nat.le_refl _) _;have hb2:Below w.heap.size w ((w.alloc (.cells #[.int .i64 0,.int .i64 0,.string ⟨#[]⟩,.int .i64 0,.int .i64 0,.slice none 0 0] 38)).alloc (.cells #[.slice A n c,.int .i64 last] 143)):=hb1.alloc (by simp) _
 have L:Hid (jE g B last l w.heap.size #[.int .i64 0,.int .i64 0,.string ⟨#[]⟩,.int .i64 0,.int .i64 0,.slice none 0 0] w ((w.alloc (.cells #[.int .i64 0,.int .i64 0,.string ⟨#[]⟩,.int .i64 0,.int .i64 0,.slice none 0 0] 38)).alloc (.cells #[.slice A n c,.int .i64 last] 143))):=Lh ⟨hps.next hb2,eP.below hb2 hlt,(aC.new w _ _).alloc _,Nat.le_refl _,hlt⟩
 have Xb:Hid (aC ((w.alloc (.cells #[.int .i64 0,.int .i64 0,.string ⟨#[]⟩,.int .i64 0,.int .i64 0,.slice none 0 0] 38)).alloc (.cells #[.slice A n c,.int .i64 last] 143)) (w.heap.size+1) 143 #[.slice A n c,.int .i64 last]):=Lh (aC.aZ _ _ (by simp));obtain ⟨bw,ow,cw,hg,hgN,hw⟩:=(he.keep (hb2.mono he.size)).rule;have DN:=he.size;have hgw:3 < w.heap.size:=by omega
 have hg0:w.cell? ⟨3,0,none⟩=some (.slice (some ⟨bw,ow,none⟩) 9 cw):=(hb2.cell (p:=⟨3,0,none⟩) hgw).symm.trans hg;have HO:=Lh hO;have HW:=Lh hw;have HE:=Lh he;have HR:=Lh hR;have HT:=Lh hT;have Hn:=Lh hn;have fI:=Lh (fun (W:World) (hW:PS g B last l W) (vO:fC W N bw ow Sx.ruleWords)=>iH g B N bw ow cw Sx.ruleWords l last W hW vO hN (by decide));rw[show Sx.ruleWords.length=9 from rfl] at fI;clear hO hR hb hT hn hb1 hb2 hps hw he hg;go_enter Tryz.func45,Tryz.ntmps45;go_wp2_with fail;refine (fI.out _ L.out.ps HW.out).mono ?_;intro e w1 he
 rcases he.split with ⟨p,x,hv,rfl,hf⟩ | ⟨i1,l1,v,hv,rfl,hV,hs,hf⟩
 ·rw[HO.out] at hv;cases hv
 rw[HO.out] at hv;injection hv with h1 h2;subst h1;subst h2;unfold gJ at hV;subst hV;clear he;have hs1:=hf.aY.size;have hp0:w.heap.size < w1.heap.size:=by have:=L.out.blk.lt;omega
 have L1:=L.out.step hf hs;have E1:=Lh ((HE.out).fr L1.fr hN);have z0:=L1.blk.cell 0;have KI:=L1.blk.free 0;simp at z0;have M:Hid (jE g B last l1 w.heap.size #[.int .i64 4,.int .i64 0,.string ⟨#[]⟩,.int .i64 0,.int .i64 0,.slice none 0 0] w (w1.setCell ⟨w.heap.size,0,none⟩ (.int .i64 4))):=Lh (L1.set 0 (.int .i64 4));have EM:=Lh (E1.out.keep (N:=N) (Below.setCell (Below.refl N w1) (show N≤(⟨w.heap.size,0,none⟩:Addr).block from (by show N≤w.heap.size;omega)) (.int .i64 4)));clear hf hs L1 L Xb fI HW HT c0 c1;go_wp2_with fail;have e0:17 - (k:Int)+1=17 - (kk:Int):=by omega
 rw[e0];clear e0;refine (BG.out g B l1 last 0 _ M.out.ps EM.out hN (by omega)).mono ?_;intro e w2 he
 rcases he.split with ⟨p,x,hv,rfl,hf⟩ | ⟨m,l2,v,hv,rfl,hV,hs,hf⟩
 ·exact ⟨rfl,dH.aM (Sx.aR HR.out hv) (M.out.fr.trans hf)⟩
 ·obtain ⟨cs,hV,hra⟩:=hV;obtain ⟨zQ,zR,zS,nk,dk,zT⟩:=m;have iG:=hra;rw[aB] at hra;obtain ⟨Ak,ck,rfl,-,-,-⟩:=hra;unfold aT bB at hV;subst hV;replace HR:=Lh (Sx.go_ok HR.out hv);have M2:=M.out.step hf hs;have q0:=M2.blk.cell 0;have BK:=M2.blk.free 0;have q1:=M2.blk.cell 1;have C8:=M2.blk.free 1;have q2:=M2.blk.cell 2;have yA:=M2.blk.free 2;have q3:=M2.blk.cell 3;have sQ:=M2.blk.free 3;have q4:=M2.blk.cell 4;have BI:=M2.blk.free 4;have q5:=M2.blk.cell 5;have BJ:=M2.blk.free 5;simp at q0 q1 q2 q3 q4 q5;have hp2:=M2.blk.lt;have hsz2:=hf.aY.size;simp[World.setCell] at hsz2
  have H2:=Lh M2;have HA:=Lh iG;clear hv hs hf he M M2 iG;go_wp2_with fail;have H3:Hid (jE g B last l2 w.heap.size #[.int .i64 4,.int .i64 0,.string ⟨#[]⟩,.int .i64 0,.int .i64 0,.slice (some ⟨w2.heap.size,0,none⟩) 1 1] w (w2.setCell ⟨w.heap.size,5,none⟩ (.slice (some ⟨w2.heap.size,0,none⟩) 1 1))):=Lh (by have:=H2.out.set 5 (.slice (some ⟨w2.heap.size,0,none⟩) 1 1);simpa using this)
  obtain ⟨V,hV⟩:∃ V,V=(((((((w2.setCell ⟨w.heap.size,5,none⟩ (.slice (some ⟨w2.heap.size,0,none⟩) 1 1)).setCell ⟨w.heap.size,0,none⟩ (.int .i64 4)).setCell ⟨w.heap.size,1,none⟩ (.int .i64 0)).setCell ⟨w.heap.size,2,none⟩ (.string ⟨#[]⟩)).setCell ⟨w.heap.size,3,none⟩ (.int .i64 0)).setCell ⟨w.heap.size,4,none⟩ (.int .i64 0)).setCell ⟨w.heap.size,5,none⟩ (.slice (some ⟨w2.heap.size,0,none⟩) 1 1)).alloc (.cells #[.int .i64 zQ,.int .i64 zR,.string (Lx.bs zS),.int .i64 nk,.int .i64 dk,.slice Ak zT.length ck] 38):=⟨_,rfl⟩
  have hL:jE g B last l2 w.heap.size #[.int .i64 4,.int .i64 0,.string ⟨#[]⟩,.int .i64 0,.int .i64 0,.slice (some ⟨w2.heap.size,0,none⟩) 1 1] w V:=by
   rw[hV];have:=((((((H3.out.set 0 (.int .i64 4)).set 1 (.int .i64 0)).set 2 (.string ⟨#[]⟩)).set 3 (.int .i64 0)).set 4 (.int .i64 0)).set 5 (.slice (some ⟨w2.heap.size,0,none⟩) 1 1)).alloc (.cells #[.int .i64 zQ,.int .i64 zR,.string (Lx.bs zS),.int .i64 nk,.int .i64 dk,.slice Ak zT.length ck] 38);simpa using this
  have d0:=hL.blk.cell 0;have d1:=hL.blk.cell 1;have d2:=hL.blk.cell 2;have d3:=hL.blk.cell 3;have d4:=hL.blk.cell 4;have d5:=hL.blk.cell 5;simp at d0 d1 d2 d3 d4 d5
  try simp only [Exit.inBlock,Exit.then]
  have tN:V.heap.size=w2.heap.size+1:=by rw [hV];simp[World.setCell]
  have vI:∀ b,b≠w.heap.size→b < w2.heap.size→V.heap[b]?=w2.heap[b]?:=fun b h1 h2=>by
   rw[hV,Below.heap_alloc _ _ b (by simp [World.setCell];omega)];rw[Below.heap_setCell _ _ _ b h1,Below.heap_setCell _ _ _ b h1,Below.heap_setCell _ _ _ b h1,Below.heap_setCell _ _ _ b h1,Below.heap_setCell _ _ _ b h1,Below.heap_setCell _ _ _ b h1,Below.heap_setCell _ _ _ b h1]
  have hBk:aC V w2.heap.size 38 #[.int .i64 zQ,.int .i64 zR,.string (Lx.bs zS),.int .i64 nk,.int .i64 dk,.slice Ak zT.length ck]:=by rw [hV];exact aC.aZ _ _ (by simp [World.setCell])
  have hk:aB V (fun b=>w.heap.size≤b∧b < V.heap.size) (.mk 4 0 [] 0 0 [.mk zQ zR zS nk dk zT]) [aT 4,aT 0,bB [],aT 0,aT 0,.slice (some ⟨w2.heap.size,0,none⟩) 1 1]:=by
   rw[aB];refine ⟨some ⟨w2.heap.size,0,none⟩,1,rfl,by simp,by simp,?_⟩;rw[kZ];intro i x hi
   match i,hi with
   | 0,hi=>
    obtain rfl:Sx.Rule.mk zQ zR zS nk dk zT=x:=by simpa using hi
    refine ⟨w2.heap.size,0,_,rfl,⟨by omega,by omega⟩,aB.keep (fun b hb=>?_) _ _ HA.out,fun j v hj=>?_⟩
    ·simp[World.setCell] at hb;exact ⟨⟨by omega,by omega⟩,fun i=>World.cell?_of_block (a:=⟨b,i,none⟩) (vI b (by omega) hb.2)⟩
    ·rw[Nat.zero_mul,Nat.add_zero,Nat.zero_add,hBk.cell j];simpa[aT,bB] using hj
   | i+1,hi=>simp at hi
  rw[←hV];clear hV;exact bodyPost_ret (v:=.agg #[.int .i64 4,.int .i64 0,.string ⟨#[]⟩,.int .i64 0,.int .i64 0,.slice (some ⟨w2.heap.size,0,none⟩) 1 1]) (by simp [results,Tryz.results45,go_sem,d0,d1,d2,d3,d4,d5]) rfl (by rw [HR.out];exact ⟨_,rfl,⟨[.int .i64 4,.int .i64 0,.string ⟨#[]⟩,.int .i64 0,.int .i64 0,.slice (some ⟨w2.heap.size,0,none⟩) 1 1],rfl,hk⟩,hL.ps,hL.fr⟩)
end Go.Proofs.YtjonaidancomgaaGreatDoor
