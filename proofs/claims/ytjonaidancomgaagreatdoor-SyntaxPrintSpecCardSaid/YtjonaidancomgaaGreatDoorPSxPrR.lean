/- Parts of the proof, joined into one text: q1G. -/
import Derived.Test.YtjonaidancomgaaGreatDoorPSxRd
set_option maxHeartbeats 4000000
set_option maxRecDepth 20000
namespace Go.Proofs.YtjonaidancomgaaGreatDoor
open Go.RowKit
theorem Sx.nW (k:Sx.Rule):∀ ks:List Sx.Rule,Sx.bC (ks++[k])=Sx.bC ks++(Sx.aF k++[Sx.bI 59])
 | []=>by simp [Sx.bC]
 | x::ks=>by rw [List.cons_append,Sx.bC,Sx.bC,Sx.nW k ks];simp
theorem Sx.xU {ks:List Sx.Rule} : ∀ {i:Nat} {k:Sx.Rule},ks[i]?=some k→(Sx.bC (ks.take i)).length+(Sx.aF k).length+1≤(Sx.bC ks).length:=by
 induction ks with
 | nil=>intro i k h;simp at h
 | cons x ks ih=>
  intro i k h;cases i with
  | zero=>simp at h;subst h;simp[Sx.bC]
  | succ i=>have:=ih (by simpa using h);simp[Sx.bC] at *;omega
theorem gN {w:World} {N gi i:Nat} {ws:List (List UInt8)} {x:List UInt8} (h:kX w N gi ws) (hx:ws[i]?=some x) (hN:N≤w.heap.size):∃ b o c,w.cell? ⟨gi,0,none⟩=some (.slice (some ⟨b,o,none⟩) ws.length c)∧w.cell? ⟨b,o+i,none⟩=some (.string (Lx.bs x))∧gi < w.heap.size∧b < w.heap.size:=by
 obtain ⟨b,o,c,h1,h2,h3⟩:=h;exact ⟨b,o,c,h1,h3.at_ i x hx,by omega,by have:=h3.lt;omega⟩
def qG (g N:Nat) (r:Sx.Rule):Prop:=∀ (cs:List Value) (w:World),d9 N w→aB w (fun b=>b < g) r cs→eD g w r cs
theorem iO {w:World} {S:Nat→Prop} {x:Sx.Rule} {cs:List Value} (h:aB w S x cs):∃ v0 v1 v2 v3 v4 A n c,cs = [.int .i64 v0,.int .i64 v1,.string v2,.int .i64 v3,.int .i64 v4,.slice A n c]:=by
 cases x;rw[aB] at h;obtain ⟨A,c,rfl,_⟩:=h;exact ⟨_,_,_,_,_,_,_,_,rfl⟩
theorem ji {g:Nat} {w w':World} (hb:Below g w w'):∀ b,b < g→b < g∧∀ i,w'.cell? ⟨b,i,none⟩=w.cell? ⟨b,i,none⟩:=fun b h=>⟨h,fun i=>hb.cell (p:=⟨b,i,none⟩) h⟩
theorem RI (g N:Nat) (_hN:N≤g) (co n:Int) (nm:List UInt8) (A:Option Addr) (c:Nat) (w:World) (he:d9 N w) (l:List Lx.Tok) (h:iq g l w)
  (hlen:l.length+(Sx.aF (.mk 5 co nm n 0 [])).length≤60000) :
  Calls Tryz.prog 58 #[.pointer (some ⟨g,0,none⟩),.agg #[.int .i64 5,.int .i64 co,.string (Lx.bs nm),.int .i64 n,.int .i64 0,.slice A 0 c]] w (jh g l (Sx.aF (.mk 5 co nm n 0 [])) w):=by
 have hT:Sx.aF (.mk 5 co nm n 0 [])=Sx.av Sx.Ca::(Sx.fO nm co++[Sx.aW n]):=by rw [Sx.aF];simp[Sx.ruleWords]
 rw[hT] at hlen ⊢;have vQ:=h.lt;obtain ⟨W,hW⟩:∃ W,W=w.alloc (.cells #[.int .i64 5,.int .i64 co,.string (Lx.bs nm),.int .i64 n,.int .i64 0,.slice A 0 c] 38):=⟨_,rfl⟩
 have hbw:Below w.heap.size w W:=by rw [hW];exact (Below.refl _ _).alloc (Nat.le_refl _) _
 have hbx:aC W w.heap.size 38 #[.int .i64 5,.int .i64 co,.string (Lx.bs nm),.int .i64 n,.int .i64 0,.slice A 0 c]:=by rw [hW];exact aC.new _ _ _
 have hpi:PI g l W W:=PI.start (h.next hbw);have mQ:=he.next hbw;obtain ⟨wb,wo,wc,gl,wl,Mj,Mk⟩:=gN (i:=4) (x:=Sx.Ca) he.rule rfl he.size;have vw:Sx.ruleWords.length=9:=rfl;rw[vw] at gl
 try rw [Nat.add_zero] at wl
 have H:=Lh hpi;have gy:=Lh hbw;have kJ:=Lh hbx;have hWs:W.heap.size=w.heap.size+1:=by rw [hW];simp
 clear h he hpi hbw hbx mQ vw hT;go_enter Tryz.func58,Tryz.ntmps58;go_wp2_with fail;rw[←hW];refine (H.out.put [.name Sx.Ca] (ts:=[Sx.av Sx.Ca]) hWs.symm rfl rfl rfl (by simp) (by simp at hlen ⊢;omega) (by simp)).mono ?_;rintro e w1 ⟨rfl,h1⟩;have H1:=Lh h1;obtain ⟨x0,x1,x2,x3,x4,x5,z1⟩:=aQ (h1.blk kJ.out (by decide) (by decide));clear h1;go_wp2_with fail;refine (H1.out.ref nm co (by simp at hlen ⊢;omega)).mono ?_;rintro e w2 ⟨rfl,h2⟩;have H2:=Lh h2;obtain ⟨x0,x1,x2,x3,x4,x5,z2⟩:=aQ (h2.blk kJ.out (by decide) (by decide));clear h2;go_wp2_with fail
 refine (H2.out.put [.num n] (ts:=[Sx.aW n]) rfl rfl rfl rfl (by simp) (by simp at hlen ⊢;omega) (by simp)).mono ?_;rintro e w3 ⟨rfl,h3⟩;have H3:=Lh h3;obtain ⟨x0,x1,x2,x3,x4,x5,z3⟩:=aQ (h3.blk kJ.out (by decide) (by decide));clear h3;go_wp2_with fail
 go_end0
 exact ⟨rfl,by have:=H3.out.st;simpa [Sx.av,Sx.aW,Sx.bI,Sx.bO] using this,(gy.out.mono (by omega)).trans H3.out.aY,(KP.below gy.out).trans H3.out.kp⟩
theorem RJ (g N:Nat) (_hN:N≤g) (co n:Int) (nm:List UInt8) (A:Option Addr) (c:Nat) (w:World) (he:d9 N w) (l:List Lx.Tok) (h:iq g l w)
  (hlen:l.length+(Sx.aF (.mk 6 co nm n 0 [])).length≤60000) :
  Calls Tryz.prog 58 #[.pointer (some ⟨g,0,none⟩),.agg #[.int .i64 6,.int .i64 co,.string (Lx.bs nm),.int .i64 n,.int .i64 0,.slice A 0 c]] w (jh g l (Sx.aF (.mk 6 co nm n 0 [])) w):=by
 have hT:Sx.aF (.mk 6 co nm n 0 [])=Sx.av Sx.wY::(Sx.fO nm co++[Sx.aW n]):=by rw [Sx.aF];simp[Sx.ruleWords]
 rw[hT] at hlen ⊢;have vQ:=h.lt;obtain ⟨W,hW⟩:∃ W,W=w.alloc (.cells #[.int .i64 6,.int .i64 co,.string (Lx.bs nm),.int .i64 n,.int .i64 0,.slice A 0 c] 38):=⟨_,rfl⟩
 have hbw:Below w.heap.size w W:=by rw [hW];exact (Below.refl _ _).alloc (Nat.le_refl _) _
 have hbx:aC W w.heap.size 38 #[.int .i64 6,.int .i64 co,.string (Lx.bs nm),.int .i64 n,.int .i64 0,.slice A 0 c]:=by rw [hW];exact aC.new _ _ _
 have hpi:PI g l W W:=PI.start (h.next hbw);have mQ:=he.next hbw;obtain ⟨wb,wo,wc,gl,wl,Mj,Mk⟩:=gN (i:=5) (x:=Sx.wY) he.rule rfl he.size;have vw:Sx.ruleWords.length=9:=rfl;rw[vw] at gl
 try rw [Nat.add_zero] at wl
 have H:=Lh hpi;have gy:=Lh hbw;have kJ:=Lh hbx;have hWs:W.heap.size=w.heap.size+1:=by rw [hW];simp
 clear h he hpi hbw hbx mQ vw hT;go_enter Tryz.func58,Tryz.ntmps58;go_wp2_with fail;rw[←hW];refine (H.out.put [.name Sx.wY] (ts:=[Sx.av Sx.wY]) hWs.symm rfl rfl rfl (by simp) (by simp at hlen ⊢;omega) (by simp)).mono ?_;rintro e w1 ⟨rfl,h1⟩;have H1:=Lh h1;obtain ⟨x0,x1,x2,x3,x4,x5,z1⟩:=aQ (h1.blk kJ.out (by decide) (by decide));clear h1;go_wp2_with fail;refine (H1.out.ref nm co (by simp at hlen ⊢;omega)).mono ?_;rintro e w2 ⟨rfl,h2⟩;have H2:=Lh h2;obtain ⟨x0,x1,x2,x3,x4,x5,z2⟩:=aQ (h2.blk kJ.out (by decide) (by decide));clear h2;go_wp2_with fail
 refine (H2.out.put [.num n] (ts:=[Sx.aW n]) rfl rfl rfl rfl (by simp) (by simp at hlen ⊢;omega) (by simp)).mono ?_;rintro e w3 ⟨rfl,h3⟩;have H3:=Lh h3;obtain ⟨x0,x1,x2,x3,x4,x5,z3⟩:=aQ (h3.blk kJ.out (by decide) (by decide));clear h3;go_wp2_with fail
 go_end0
 exact ⟨rfl,by have:=H3.out.st;simpa [Sx.av,Sx.aW,Sx.bI,Sx.bO] using this,(gy.out.mono (by omega)).trans H3.out.aY,(KP.below gy.out).trans H3.out.kp⟩
theorem RL (g N:Nat) (_hN:N≤g) (n:Int) (A:Option Addr) (c:Nat) (w:World) (he:d9 N w) (l:List Lx.Tok) (h:iq g l w)
  (hlen:l.length+(Sx.aF (.mk 7 0 [] n 0 [])).length≤60000) :
  Calls Tryz.prog 58 #[.pointer (some ⟨g,0,none⟩),.agg #[.int .i64 7,.int .i64 0,.string (Lx.bs []),.int .i64 n,.int .i64 0,.slice A 0 c]] w (jh g l (Sx.aF (.mk 7 0 [] n 0 [])) w):=by
 have hT:Sx.aF (.mk 7 0 [] n 0 [])=Sx.av Sx.gY::([Sx.aW n]):=by rw [Sx.aF];simp[Sx.ruleWords]
 rw[hT] at hlen ⊢;have vQ:=h.lt;obtain ⟨W,hW⟩:∃ W,W=w.alloc (.cells #[.int .i64 7,.int .i64 0,.string (Lx.bs []),.int .i64 n,.int .i64 0,.slice A 0 c] 38):=⟨_,rfl⟩
 have hbw:Below w.heap.size w W:=by rw [hW];exact (Below.refl _ _).alloc (Nat.le_refl _) _
 have hbx:aC W w.heap.size 38 #[.int .i64 7,.int .i64 0,.string (Lx.bs []),.int .i64 n,.int .i64 0,.slice A 0 c]:=by rw [hW];exact aC.new _ _ _
 have hpi:PI g l W W:=PI.start (h.next hbw);have mQ:=he.next hbw;obtain ⟨wb,wo,wc,gl,wl,Mj,Mk⟩:=gN (i:=6) (x:=Sx.gY) he.rule rfl he.size;have vw:Sx.ruleWords.length=9:=rfl;rw[vw] at gl
 try rw [Nat.add_zero] at wl
 have H:=Lh hpi;have gy:=Lh hbw;have kJ:=Lh hbx;have hWs:W.heap.size=w.heap.size+1:=by rw [hW];simp
 clear h he hpi hbw hbx mQ vw hT;go_enter Tryz.func58,Tryz.ntmps58;go_wp2_with fail;rw[←hW];refine (H.out.put [.name Sx.gY] (ts:=[Sx.av Sx.gY]) hWs.symm rfl rfl rfl (by simp) (by simp at hlen ⊢;omega) (by simp)).mono ?_;rintro e w1 ⟨rfl,h1⟩;have H1:=Lh h1;obtain ⟨x0,x1,x2,x3,x4,x5,z1⟩:=aQ (h1.blk kJ.out (by decide) (by decide));clear h1;go_wp2_with fail;refine (H1.out.put [.num n] (ts:=[Sx.aW n]) rfl rfl rfl rfl (by simp) (by simp at hlen ⊢;omega) (by simp)).mono ?_;rintro e w2 ⟨rfl,h2⟩;have H2:=Lh h2
 obtain ⟨x0,x1,x2,x3,x4,x5,z2⟩:=aQ (h2.blk kJ.out (by decide) (by decide));clear h2;go_wp2_with fail
 go_end0
 exact ⟨rfl,by have:=H2.out.st;simpa [Sx.av,Sx.aW,Sx.bI,Sx.bO] using this,(gy.out.mono (by omega)).trans H2.out.aY,(KP.below gy.out).trans H2.out.kp⟩
theorem RN (g N:Nat) (_hN:N≤g) (n d:Int) (A:Option Addr) (c:Nat) (w:World) (he:d9 N w) (l:List Lx.Tok) (h:iq g l w)
  (hlen:l.length+(Sx.aF (.mk 8 0 [] n d [])).length≤60000) :
  Calls Tryz.prog 58 #[.pointer (some ⟨g,0,none⟩),.agg #[.int .i64 8,.int .i64 0,.string (Lx.bs []),.int .i64 n,.int .i64 d,.slice A 0 c]] w (jh g l (Sx.aF (.mk 8 0 [] n d [])) w):=by
 have hT:Sx.aF (.mk 8 0 [] n d [])=Sx.av Sx.fD::(Sx.bO ⟨n,d⟩):=by rw [Sx.aF];simp[Sx.ruleWords]
 rw[hT] at hlen ⊢;have vQ:=h.lt;obtain ⟨W,hW⟩:∃ W,W=w.alloc (.cells #[.int .i64 8,.int .i64 0,.string (Lx.bs []),.int .i64 n,.int .i64 d,.slice A 0 c] 38):=⟨_,rfl⟩
 have hbw:Below w.heap.size w W:=by rw [hW];exact (Below.refl _ _).alloc (Nat.le_refl _) _
 have hbx:aC W w.heap.size 38 #[.int .i64 8,.int .i64 0,.string (Lx.bs []),.int .i64 n,.int .i64 d,.slice A 0 c]:=by rw [hW];exact aC.new _ _ _
 have hpi:PI g l W W:=PI.start (h.next hbw);have mQ:=he.next hbw;obtain ⟨wb,wo,wc,gl,wl,Mj,Mk⟩:=gN (i:=7) (x:=Sx.fD) he.rule rfl he.size;have vw:Sx.ruleWords.length=9:=rfl;rw[vw] at gl
 try rw [Nat.add_zero] at wl
 have H:=Lh hpi;have gy:=Lh hbw;have kJ:=Lh hbx;have hWs:W.heap.size=w.heap.size+1:=by rw [hW];simp
 clear h he hpi hbw hbx mQ vw hT;go_enter Tryz.func58,Tryz.ntmps58;go_wp2_with fail;rw[←hW];refine (H.out.put [.name Sx.fD] (ts:=[Sx.av Sx.fD]) hWs.symm rfl rfl rfl (by simp) (by simp at hlen ⊢;omega) (by simp)).mono ?_;rintro e w1 ⟨rfl,h1⟩;have H1:=Lh h1;obtain ⟨x0,x1,x2,x3,x4,x5,z1⟩:=aQ (h1.blk kJ.out (by decide) (by decide));clear h1;go_wp2_with fail;refine (H1.out.put [.ratio ⟨n,d⟩] (ts:=Sx.bO ⟨n,d⟩) rfl rfl rfl rfl (by simp) (by simp [Sx.bO] at hlen ⊢;omega) (by simp)).mono ?_;rintro e w2 ⟨rfl,h2⟩;have H2:=Lh h2
 obtain ⟨x0,x1,x2,x3,x4,x5,z2⟩:=aQ (h2.blk kJ.out (by decide) (by decide));clear h2;go_wp2_with fail
 go_end0
 exact ⟨rfl,by have:=H2.out.st;simpa [Sx.av,Sx.aW,Sx.bI,Sx.bO] using this,(gy.out.mono (by omega)).trans H2.out.aY,(KP.below gy.out).trans H2.out.kp⟩
theorem RO (g N:Nat) (_hN:N≤g) (co:Int) (nm:List UInt8) (A:Option Addr) (c:Nat) (w:World) (he:d9 N w) (l:List Lx.Tok) (h:iq g l w)
  (hlen:l.length+(Sx.aF (.mk 9 co nm 0 0 [])).length≤60000) :
  Calls Tryz.prog 58 #[.pointer (some ⟨g,0,none⟩),.agg #[.int .i64 9,.int .i64 co,.string (Lx.bs nm),.int .i64 0,.int .i64 0,.slice A 0 c]] w (jh g l (Sx.aF (.mk 9 co nm 0 0 [])) w):=by
 have hT:Sx.aF (.mk 9 co nm 0 0 [])=Sx.av Sx.Cb::(Sx.fO nm co):=by rw [Sx.aF];simp[Sx.ruleWords]
 rw[hT] at hlen ⊢;have vQ:=h.lt;obtain ⟨W,hW⟩:∃ W,W=w.alloc (.cells #[.int .i64 9,.int .i64 co,.string (Lx.bs nm),.int .i64 0,.int .i64 0,.slice A 0 c] 38):=⟨_,rfl⟩
 have hbw:Below w.heap.size w W:=by rw [hW];exact (Below.refl _ _).alloc (Nat.le_refl _) _
 have hbx:aC W w.heap.size 38 #[.int .i64 9,.int .i64 co,.string (Lx.bs nm),.int .i64 0,.int .i64 0,.slice A 0 c]:=by rw [hW];exact aC.new _ _ _
 have hpi:PI g l W W:=PI.start (h.next hbw);have mQ:=he.next hbw;obtain ⟨wb,wo,wc,gl,wl,Mj,Mk⟩:=gN (i:=8) (x:=Sx.Cb) he.rule rfl he.size;have vw:Sx.ruleWords.length=9:=rfl;rw[vw] at gl
 try rw [Nat.add_zero] at wl
 have H:=Lh hpi;have gy:=Lh hbw;have kJ:=Lh hbx;have hWs:W.heap.size=w.heap.size+1:=by rw [hW];simp
 clear h he hpi hbw hbx mQ vw hT;go_enter Tryz.func58,Tryz.ntmps58;go_wp2_with fail;rw[←hW];refine (H.out.put [.name Sx.Cb] (ts:=[Sx.av Sx.Cb]) hWs.symm rfl rfl rfl (by simp) (by simp at hlen ⊢;omega) (by simp)).mono ?_;rintro e w1 ⟨rfl,h1⟩;have H1:=Lh h1;obtain ⟨x0,x1,x2,x3,x4,x5,z1⟩:=aQ (h1.blk kJ.out (by decide) (by decide));clear h1;go_wp2_with fail;refine (H1.out.ref nm co (by simp at hlen ⊢;omega)).mono ?_;rintro e w2 ⟨rfl,h2⟩;have H2:=Lh h2;obtain ⟨x0,x1,x2,x3,x4,x5,z2⟩:=aQ (h2.blk kJ.out (by decide) (by decide));clear h2;go_wp2_with fail
 go_end0
 exact ⟨rfl,by have:=H2.out.st;simpa [Sx.av,Sx.aW,Sx.bI,Sx.bO] using this,(gy.out.mono (by omega)).trans H2.out.aY,(KP.below gy.out).trans H2.out.kp⟩
theorem RP (g N:Nat) (_hN:N≤g) (q:Sx.Rule) (hq:qG g N q) (A:Option Addr) (c:Nat) (w:World) (he:d9 N w) (hA:dP w (fun b=>b < g) A 0 [q]) (l:List Lx.Tok) (h:iq g l w)
  (hlen:l.length+(Sx.aF (.mk 4 0 [] 0 0 [q])).length≤60000) :
  Calls Tryz.prog 58 #[.pointer (some ⟨g,0,none⟩),.agg #[.int .i64 4,.int .i64 0,.string (Lx.bs []),.int .i64 0,.int .i64 0,.slice A 1 c]] w (jh g l (Sx.aF (.mk 4 0 [] 0 0 [q])) w):=by
 have hT:Sx.aF (.mk 4 0 [] 0 0 [q])=Sx.av Sx.JM::(Sx.aF q):=by rw [Sx.aF];simp[Sx.ruleWords,Sx.tZ]
 rw[hT] at hlen ⊢;have vQ:=h.lt;obtain ⟨W,hW⟩:∃ W,W=w.alloc (.cells #[.int .i64 4,.int .i64 0,.string (Lx.bs []),.int .i64 0,.int .i64 0,.slice A 1 c] 38):=⟨_,rfl⟩
 have hbw:Below w.heap.size w W:=by rw [hW];exact (Below.refl _ _).alloc (Nat.le_refl _) _
 have hbx:aC W w.heap.size 38 #[.int .i64 4,.int .i64 0,.string (Lx.bs []),.int .i64 0,.int .i64 0,.slice A 1 c]:=by rw [hW];exact aC.new _ _ _
 have hpi:PI g l W W:=PI.start (h.next hbw);have mQ:=he.next hbw;obtain ⟨wb,wo,wc,gl,wl,Mj,Mk⟩:=gN (i:=3) (x:=Sx.JM) he.rule rfl he.size;have vw:Sx.ruleWords.length=9:=rfl;rw[vw] at gl
 try rw [Nat.add_zero] at wl
 have H:=Lh hpi;have gy:=Lh hbw;have kJ:=Lh hbx;have hWs:W.heap.size=w.heap.size+1:=by rw [hW];simp
 obtain ⟨bk,mY,Fw,rfl,gV,oL,hck⟩:=hA.get 0 q rfl;have lI:=hq Fw W mQ (aB.keep (ji (hbw.mono (by omega))) _ _ oL);obtain ⟨v0,v1,v2,v3,v4,kA,kn,kc,rfl⟩:=iO oL;have EU:=Lh lI;have k0:=(hbw.cell (p:=⟨bk,_,none⟩) (show bk < w.heap.size by omega)).trans (hck 0 _ rfl);have k1:=(hbw.cell (p:=⟨bk,_,none⟩) (show bk < w.heap.size by omega)).trans (hck 1 _ rfl);have k2:=(hbw.cell (p:=⟨bk,_,none⟩) (show bk < w.heap.size by omega)).trans (hck 2 _ rfl);have k3:=(hbw.cell (p:=⟨bk,_,none⟩) (show bk < w.heap.size by omega)).trans (hck 3 _ rfl)
 have k4:=(hbw.cell (p:=⟨bk,_,none⟩) (show bk < w.heap.size by omega)).trans (hck 4 _ rfl);have k5:=(hbw.cell (p:=⟨bk,_,none⟩) (show bk < w.heap.size by omega)).trans (hck 5 _ rfl);simp only[Nat.add_zero,Nat.zero_mul] at k0 k1 k2 k3 k4 k5
 have Hck:Hid (∀ W',Below g W W'→W'.cell? ⟨bk,mY,none⟩=some (.int .i64 v0)∧W'.cell? ⟨bk,mY+1,none⟩=some (.int .i64 v1)∧W'.cell? ⟨bk,mY+2,none⟩=some (.string v2)∧W'.cell? ⟨bk,mY+3,none⟩=some (.int .i64 v3)∧W'.cell? ⟨bk,mY+4,none⟩=some (.int .i64 v4)∧W'.cell? ⟨bk,mY+5,none⟩=some (.slice kA kn kc)):=Lh (fun W' hb=>⟨(hb.cell (p:=⟨bk,_,none⟩) gV).trans k0,(hb.cell (p:=⟨bk,_,none⟩) gV).trans k1,(hb.cell (p:=⟨bk,_,none⟩) gV).trans k2,(hb.cell (p:=⟨bk,_,none⟩) gV).trans k3,(hb.cell (p:=⟨bk,_,none⟩) gV).trans k4,(hb.cell (p:=⟨bk,_,none⟩) gV).trans k5⟩);clear k0 k1 k2 k3 k4 k5
 clear h he hpi hbw hbx mQ vw hT hq hA lI oL hck;go_enter Tryz.func58,Tryz.ntmps58;go_wp2_with fail;rw[←hW];refine (H.out.put [.name Sx.JM] (ts:=[Sx.av Sx.JM]) hWs.symm rfl rfl rfl (by simp) (by simp at hlen ⊢;omega) (by simp)).mono ?_;rintro e w1 ⟨rfl,h1⟩;have H1:=Lh h1;obtain ⟨x0,x1,x2,x3,x4,x5,z1⟩:=aQ (h1.blk kJ.out (by decide) (by decide));obtain ⟨k0,k1,k2,k3,k4,k5⟩:=Hck.out w1 h1.aY;clear h1;go_wp2_with fail;refine (H1.out.rule EU.out (by simp at hlen ⊢;omega)).mono ?_;rintro e w2 ⟨rfl,h2⟩;have H2:=Lh h2
 obtain ⟨x0,x1,x2,x3,x4,x5,z2⟩:=aQ (h2.blk kJ.out (by decide) (by decide));clear h2;go_wp2_with fail
 go_end0
 exact ⟨rfl,by have:=H2.out.st;simpa [Sx.av,Sx.aW,Sx.bI,Sx.bO] using this,(gy.out.mono (by omega)).trans H2.out.aY,(KP.below gy.out).trans H2.out.kp⟩
theorem RQ (g N:Nat) (_hN:N≤g) (ks:List Sx.Rule) (hks:∀ k∈ks,qG g N k) (m:Nat) (hm:m=ks.length) (hm2:m≤200) (A:Option Addr) (c:Nat) (w:World) (he:d9 N w) (hA:dP w (fun b=>b < g) A 0 ks) (l:List Lx.Tok) (h:iq g l w)
  (hlen:l.length+(Sx.aF (.mk 1 0 [] 0 0 ks)).length≤60000) :
  Calls Tryz.prog 58 #[.pointer (some ⟨g,0,none⟩),.agg #[.int .i64 1,.int .i64 0,.string (Lx.bs []),.int .i64 0,.int .i64 0,.slice A m c]] w (jh g l (Sx.aF (.mk 1 0 [] 0 0 ks)) w):=by
 have hT:Sx.aF (.mk 1 0 [] 0 0 ks)=Sx.av Sx.Ed::(Sx.bI 123::(Sx.bC ks++[Sx.bI 125])):=by rw [Sx.aF];simp[Sx.ruleWords]
 rw[hT] at hlen ⊢;have vQ:=h.lt;obtain ⟨W,hW⟩:∃ W,W=w.alloc (.cells #[.int .i64 1,.int .i64 0,.string (Lx.bs []),.int .i64 0,.int .i64 0,.slice A m c] 38):=⟨_,rfl⟩
 have hbw:Below w.heap.size w W:=by rw [hW];exact (Below.refl _ _).alloc (Nat.le_refl _) _
 have hbx:aC W w.heap.size 38 #[.int .i64 1,.int .i64 0,.string (Lx.bs []),.int .i64 0,.int .i64 0,.slice A m c]:=by rw [hW];exact aC.new _ _ _
 have hpi:PI g l W W:=PI.start (h.next hbw);have mQ:=he.next hbw;obtain ⟨wb,wo,wc,gl,wl,Mj,Mk⟩:=gN (i:=0) (x:=Sx.Ed) he.rule rfl he.size;have vw:Sx.ruleWords.length=9:=rfl;rw[vw] at gl
 try rw [Nat.add_zero] at wl
 have H:=Lh hpi;have gy:=Lh hbw;have kJ:=Lh hbx;have hWs:W.heap.size=w.heap.size+1:=by rw [hW];simp
 have EU:Hid (∀ i k,ks[i]?=some k→∃ bk mY v0 v1 v2 v3 v4 kA kn kc,A=some ⟨bk,mY,none⟩∧eD g W k [.int .i64 v0,.int .i64 v1,.string v2,.int .i64 v3,.int .i64 v4,.slice kA kn kc]∧
   ∀ W',Below g W W'→W'.cell? ⟨bk,mY+i*6,none⟩=some (.int .i64 v0)∧W'.cell? ⟨bk,mY+i*6+1,none⟩=some (.int .i64 v1)∧W'.cell? ⟨bk,mY+i*6+2,none⟩=some (.string v2)∧W'.cell? ⟨bk,mY+i*6+3,none⟩=some (.int .i64 v3)∧W'.cell? ⟨bk,mY+i*6+4,none⟩=some (.int .i64 v4)∧W'.cell? ⟨bk,mY+i*6+5,none⟩=some (.slice kA kn kc)):=Lh (fun i k hi=>by
  obtain ⟨bk,mY,Fw,e,gV,oL,hck⟩:=hA.get i k hi;have lI:=hks k (List.mem_of_getElem? hi) Fw W mQ (aB.keep (ji (hbw.mono (by omega))) _ _ oL);obtain ⟨v0,v1,v2,v3,v4,kA,kn,kc,rfl⟩:=iO oL;have key:∀ j v,[Value.int .i64 v0,.int .i64 v1,.string v2,.int .i64 v3,.int .i64 v4,.slice kA kn kc][j]?=some v→∀ W',Below g W W'→W'.cell? ⟨bk,mY+i*6+j,none⟩=some v:=fun j v hj W' hb=>by
   have e1:=hck j v hj;rw[Nat.zero_add] at e1;exact ((hb.cell (p:=⟨bk,_,none⟩) gV).trans (hbw.cell (p:=⟨bk,_,none⟩) (show bk < w.heap.size by omega))).trans e1
  exact ⟨bk,mY,v0,v1,v2,v3,v4,kA,kn,kc,e,lI,fun W' hb=>⟨key 0 _ rfl W' hb,key 1 _ rfl W' hb,key 2 _ rfl W' hb,key 3 _ rfl W' hb,key 4 _ rfl W' hb,key 5 _ rfl W' hb⟩⟩)
 have Hm:=Lh hm;clear h he hpi hbw hbx mQ vw hT hks hA hm;go_enter Tryz.func58,Tryz.ntmps58;go_wp2_with fail;rw[←hW];refine (H.out.put [.name Sx.Ed] (ts:=[Sx.av Sx.Ed]) hWs.symm rfl rfl rfl (by simp) (by simp at hlen ⊢;omega) (by simp)).mono ?_;rintro e w1 ⟨rfl,h1⟩;have H1:=Lh h1;obtain ⟨x0,x1,x2,x3,x4,x5,z1⟩:=aQ (h1.blk kJ.out (by decide) (by decide));clear h1;go_wp2_with fail;refine (H1.out.put [.sign [123]] (ts:=[Sx.bI 123]) rfl rfl rfl rfl (by simp) (by simp at hlen ⊢;omega) (by simp)).mono ?_;rintro e w2 ⟨rfl,h2⟩;have H2:=Lh h2
 obtain ⟨x0,x1,x2,x3,x4,x5,z2⟩:=aQ (h2.blk kJ.out (by decide) (by decide));clear h2;go_wp2_with fail;have Gb:Hid (PI g (l++([Sx.av Sx.Ed,Sx.bI 123]++Sx.bC (ks.take 0))) W w2):=Lh (by have:=H2.out;simpa [Sx.bC,Sx.av,Sx.bI,Sx.aW] using this)
 go_loopg [83] m (fun gk v83 wr=>∃ i:Nat,v83 = .int .i64 i∧i+gk=m∧Hid (PI g (l++([Sx.av Sx.Ed,Sx.bI 123]++Sx.bC (ks.take i))) W wr))
 case atStart=>exact ⟨0,rfl,by omega,Gb⟩
 case round=>
  obtain ⟨i,rfl,hi,HP⟩:=hrel;have hgr:=HP.out.st.lt
  by_cases hlt:i < m
  ·obtain ⟨k,hk⟩:∃ k,ks[i]?=some k:=⟨_,List.getElem?_eq_getElem (by have:=Hm.out;omega)⟩
   obtain ⟨bk,mY,v0,v1,v2,v3,v4,kA,kn,kc,rfl,lI,hck⟩:=EU.out i k hk;obtain ⟨k0,k1,k2,k3,k4,k5⟩:=hck wr HP.out.aY;have Hs:=Lh lI;have Hk:=Lh hk;have hkl:l.length+(Sx.bC (ks.take i)).length+(Sx.aF k).length+4≤60000:=by have:=Sx.xU hk;simp at hlen;omega
   clear lI hck hk;go_wp2_with fail;have oC:=HP.out.next ((Below.refl _ _).alloc (Nat.le_refl _) (.cells #[.int .i64 v0,.int .i64 v1,.string v2,.int .i64 v3,.int .i64 v4,.slice kA kn kc] 38));refine (oC.put [.rule k [.int .i64 v0,.int .i64 v1,.string v2,.int .i64 v3,.int .i64 v4,.slice kA kn kc],.sign [59]] (ts:=Sx.aF k++[Sx.bI 59]) (by simp) rfl rfl rfl (by simp) (by simp;omega) (fun r c hr=>by
    simp only[List.mem_cons,dN.rule.injEq,List.not_mem_nil,or_false,reduceCtorEq] at hr;rw[hr.1,hr.2];exact Hs.out)).mono ?_
   rintro e w9 ⟨rfl,h9⟩;have H9:=Lh h9;clear h9 oC;go_wp2_with fail
   go_roundg (gk - 1)
   all_goals first
    | omega
    | exact ⟨i+1,by go_num,by omega,Lh (by
      have:=H9.out;rw[List.take_add_one,Hk.out];simp only[Option.toList_some,Sx.nW];simpa using this)⟩
  ·obtain rfl:i=m:=by omega
   go_wp2_with fail;refine (HP.out.put [.sign [125]] (ts:=[Sx.bI 125]) rfl rfl rfl rfl (by simp) (by rw [Hm.out,List.take_length];simp at hlen ⊢;omega) (by simp)).mono ?_;rintro e w9 ⟨rfl,h9⟩;have H9:=Lh h9;clear h9;go_wp2_with fail
   go_end0
   exact ⟨rfl,by have:=H9.out.st;rw[Hm.out,List.take_length] at this;simpa [Sx.av,Sx.aW,Sx.bI] using this,(gy.out.mono (by omega)).trans H9.out.aY,(KP.below gy.out).trans H9.out.kp⟩
theorem RS (g N:Nat) (_hN:N≤g) (ks:List Sx.Rule) (hks:∀ k∈ks,qG g N k) (m:Nat) (hm:m=ks.length) (hm2:m≤200) (A:Option Addr) (c:Nat) (w:World) (he:d9 N w) (hA:dP w (fun b=>b < g) A 0 ks) (l:List Lx.Tok) (h:iq g l w)
  (hlen:l.length+(Sx.aF (.mk 2 0 [] 0 0 ks)).length≤60000) :
  Calls Tryz.prog 58 #[.pointer (some ⟨g,0,none⟩),.agg #[.int .i64 2,.int .i64 0,.string (Lx.bs []),.int .i64 0,.int .i64 0,.slice A m c]] w (jh g l (Sx.aF (.mk 2 0 [] 0 0 ks)) w):=by
 have hT:Sx.aF (.mk 2 0 [] 0 0 ks)=Sx.av Sx.BZ::(Sx.bI 123::(Sx.bC ks++[Sx.bI 125])):=by rw [Sx.aF];simp[Sx.ruleWords]
 rw[hT] at hlen ⊢;have vQ:=h.lt;obtain ⟨W,hW⟩:∃ W,W=w.alloc (.cells #[.int .i64 2,.int .i64 0,.string (Lx.bs []),.int .i64 0,.int .i64 0,.slice A m c] 38):=⟨_,rfl⟩
 have hbw:Below w.heap.size w W:=by rw [hW];exact (Below.refl _ _).alloc (Nat.le_refl _) _
 have hbx:aC W w.heap.size 38 #[.int .i64 2,.int .i64 0,.string (Lx.bs []),.int .i64 0,.int .i64 0,.slice A m c]:=by rw [hW];exact aC.new _ _ _
 have hpi:PI g l W W:=PI.start (h.next hbw);have mQ:=he.next hbw;obtain ⟨wb,wo,wc,gl,wl,Mj,Mk⟩:=gN (i:=1) (x:=Sx.BZ) he.rule rfl he.size;have vw:Sx.ruleWords.length=9:=rfl;rw[vw] at gl
 try rw [Nat.add_zero] at wl
 have H:=Lh hpi;have gy:=Lh hbw;have kJ:=Lh hbx;have hWs:W.heap.size=w.heap.size+1:=by rw [hW];simp
 have EU:Hid (∀ i k,ks[i]?=some k→∃ bk mY v0 v1 v2 v3 v4 kA kn kc,A=some ⟨bk,mY,none⟩∧eD g W k [.int .i64 v0,.int .i64 v1,.string v2,.int .i64 v3,.int .i64 v4,.slice kA kn kc]∧
   ∀ W',Below g W W'→W'.cell? ⟨bk,mY+i*6,none⟩=some (.int .i64 v0)∧W'.cell? ⟨bk,mY+i*6+1,none⟩=some (.int .i64 v1)∧W'.cell? ⟨bk,mY+i*6+2,none⟩=some (.string v2)∧W'.cell? ⟨bk,mY+i*6+3,none⟩=some (.int .i64 v3)∧W'.cell? ⟨bk,mY+i*6+4,none⟩=some (.int .i64 v4)∧W'.cell? ⟨bk,mY+i*6+5,none⟩=some (.slice kA kn kc)):=Lh (fun i k hi=>by
  obtain ⟨bk,mY,Fw,e,gV,oL,hck⟩:=hA.get i k hi;have lI:=hks k (List.mem_of_getElem? hi) Fw W mQ (aB.keep (ji (hbw.mono (by omega))) _ _ oL);obtain ⟨v0,v1,v2,v3,v4,kA,kn,kc,rfl⟩:=iO oL;have key:∀ j v,[Value.int .i64 v0,.int .i64 v1,.string v2,.int .i64 v3,.int .i64 v4,.slice kA kn kc][j]?=some v→∀ W',Below g W W'→W'.cell? ⟨bk,mY+i*6+j,none⟩=some v:=fun j v hj W' hb=>by
   have e1:=hck j v hj;rw[Nat.zero_add] at e1;exact ((hb.cell (p:=⟨bk,_,none⟩) gV).trans (hbw.cell (p:=⟨bk,_,none⟩) (show bk < w.heap.size by omega))).trans e1
  exact ⟨bk,mY,v0,v1,v2,v3,v4,kA,kn,kc,e,lI,fun W' hb=>⟨key 0 _ rfl W' hb,key 1 _ rfl W' hb,key 2 _ rfl W' hb,key 3 _ rfl W' hb,key 4 _ rfl W' hb,key 5 _ rfl W' hb⟩⟩)
 have Hm:=Lh hm;clear h he hpi hbw hbx mQ vw hT hks hA hm;go_enter Tryz.func58,Tryz.ntmps58;go_wp2_with fail;rw[←hW];refine (H.out.put [.name Sx.BZ] (ts:=[Sx.av Sx.BZ]) hWs.symm rfl rfl rfl (by simp) (by simp at hlen ⊢;omega) (by simp)).mono ?_;rintro e w1 ⟨rfl,h1⟩;have H1:=Lh h1;obtain ⟨x0,x1,x2,x3,x4,x5,z1⟩:=aQ (h1.blk kJ.out (by decide) (by decide));clear h1;go_wp2_with fail;refine (H1.out.put [.sign [123]] (ts:=[Sx.bI 123]) rfl rfl rfl rfl (by simp) (by simp at hlen ⊢;omega) (by simp)).mono ?_;rintro e w2 ⟨rfl,h2⟩;have H2:=Lh h2
 obtain ⟨x0,x1,x2,x3,x4,x5,z2⟩:=aQ (h2.blk kJ.out (by decide) (by decide));clear h2;go_wp2_with fail;have Gb:Hid (PI g (l++([Sx.av Sx.BZ,Sx.bI 123]++Sx.bC (ks.take 0))) W w2):=Lh (by have:=H2.out;simpa [Sx.bC,Sx.av,Sx.bI,Sx.aW] using this)
 go_loopg [83] m (fun gk v83 wr=>∃ i:Nat,v83 = .int .i64 i∧i+gk=m∧Hid (PI g (l++([Sx.av Sx.BZ,Sx.bI 123]++Sx.bC (ks.take i))) W wr))
 case atStart=>exact ⟨0,rfl,by omega,Gb⟩
 case round=>
  obtain ⟨i,rfl,hi,HP⟩:=hrel;have hgr:=HP.out.st.lt
  by_cases hlt:i < m
  ·obtain ⟨k,hk⟩:∃ k,ks[i]?=some k:=⟨_,List.getElem?_eq_getElem (by have:=Hm.out;omega)⟩
   obtain ⟨bk,mY,v0,v1,v2,v3,v4,kA,kn,kc,rfl,lI,hck⟩:=EU.out i k hk;obtain ⟨k0,k1,k2,k3,k4,k5⟩:=hck wr HP.out.aY;have Hs:=Lh lI;have Hk:=Lh hk;have hkl:l.length+(Sx.bC (ks.take i)).length+(Sx.aF k).length+4≤60000:=by have:=Sx.xU hk;simp at hlen;omega
   clear lI hck hk;go_wp2_with fail;have oC:=HP.out.next ((Below.refl _ _).alloc (Nat.le_refl _) (.cells #[.int .i64 v0,.int .i64 v1,.string v2,.int .i64 v3,.int .i64 v4,.slice kA kn kc] 38));refine (oC.put [.rule k [.int .i64 v0,.int .i64 v1,.string v2,.int .i64 v3,.int .i64 v4,.slice kA kn kc],.sign [59]] (ts:=Sx.aF k++[Sx.bI 59]) (by simp) rfl rfl rfl (by simp) (by simp;omega) (fun r c hr=>by
    simp only[List.mem_cons,dN.rule.injEq,List.not_mem_nil,or_false,reduceCtorEq] at hr;rw[hr.1,hr.2];exact Hs.out)).mono ?_
   rintro e w9 ⟨rfl,h9⟩;have H9:=Lh h9;clear h9 oC;go_wp2_with fail
   go_roundg (gk - 1)
   all_goals first
    | omega
    | exact ⟨i+1,by go_num,by omega,Lh (by
      have:=H9.out;rw[List.take_add_one,Hk.out];simp only[Option.toList_some,Sx.nW];simpa using this)⟩
  ·obtain rfl:i=m:=by omega
   go_wp2_with fail;refine (HP.out.put [.sign [125]] (ts:=[Sx.bI 125]) rfl rfl rfl rfl (by simp) (by rw [Hm.out,List.take_length];simp at hlen ⊢;omega) (by simp)).mono ?_;rintro e w9 ⟨rfl,h9⟩;have H9:=Lh h9;clear h9;go_wp2_with fail
   go_end0
   exact ⟨rfl,by have:=H9.out.st;rw[Hm.out,List.take_length] at this;simpa [Sx.av,Sx.aW,Sx.bI] using this,(gy.out.mono (by omega)).trans H9.out.aY,(KP.below gy.out).trans H9.out.kp⟩
theorem RU (g N:Nat) (_hN:N≤g) (n:Int) (ks:List Sx.Rule) (hks:∀ k∈ks,qG g N k) (m:Nat) (hm:m=ks.length) (hm2:m≤200) (A:Option Addr) (c:Nat) (w:World) (he:d9 N w) (hA:dP w (fun b=>b < g) A 0 ks) (l:List Lx.Tok) (h:iq g l w)
  (hlen:l.length+(Sx.aF (.mk 3 0 [] n 0 ks)).length≤60000) :
  Calls Tryz.prog 58 #[.pointer (some ⟨g,0,none⟩),.agg #[.int .i64 3,.int .i64 0,.string (Lx.bs []),.int .i64 n,.int .i64 0,.slice A m c]] w (jh g l (Sx.aF (.mk 3 0 [] n 0 ks)) w):=by
 have hT:Sx.aF (.mk 3 0 [] n 0 ks)=Sx.av Sx.rz::(Sx.aW n::Sx.bI 123::(Sx.bC ks++[Sx.bI 125])):=by rw [Sx.aF];simp[Sx.ruleWords]
 rw[hT] at hlen ⊢;have vQ:=h.lt;obtain ⟨W,hW⟩:∃ W,W=w.alloc (.cells #[.int .i64 3,.int .i64 0,.string (Lx.bs []),.int .i64 n,.int .i64 0,.slice A m c] 38):=⟨_,rfl⟩
 have hbw:Below w.heap.size w W:=by rw [hW];exact (Below.refl _ _).alloc (Nat.le_refl _) _
 have hbx:aC W w.heap.size 38 #[.int .i64 3,.int .i64 0,.string (Lx.bs []),.int .i64 n,.int .i64 0,.slice A m c]:=by rw [hW];exact aC.new _ _ _
 have hpi:PI g l W W:=PI.start (h.next hbw);have mQ:=he.next hbw;obtain ⟨wb,wo,wc,gl,wl,Mj,Mk⟩:=gN (i:=2) (x:=Sx.rz) he.rule rfl he.size;have vw:Sx.ruleWords.length=9:=rfl;rw[vw] at gl
 try rw [Nat.add_zero] at wl
 have H:=Lh hpi;have gy:=Lh hbw;have kJ:=Lh hbx;have hWs:W.heap.size=w.heap.size+1:=by rw [hW];simp
 have EU:Hid (∀ i k,ks[i]?=some k→∃ bk mY v0 v1 v2 v3 v4 kA kn kc,A=some ⟨bk,mY,none⟩∧eD g W k [.int .i64 v0,.int .i64 v1,.string v2,.int .i64 v3,.int .i64 v4,.slice kA kn kc]∧
   ∀ W',Below g W W'→W'.cell? ⟨bk,mY+i*6,none⟩=some (.int .i64 v0)∧W'.cell? ⟨bk,mY+i*6+1,none⟩=some (.int .i64 v1)∧W'.cell? ⟨bk,mY+i*6+2,none⟩=some (.string v2)∧W'.cell? ⟨bk,mY+i*6+3,none⟩=some (.int .i64 v3)∧W'.cell? ⟨bk,mY+i*6+4,none⟩=some (.int .i64 v4)∧W'.cell? ⟨bk,mY+i*6+5,none⟩=some (.slice kA kn kc)):=Lh (fun i k hi=>by
  obtain ⟨bk,mY,Fw,e,gV,oL,hck⟩:=hA.get i k hi;have lI:=hks k (List.mem_of_getElem? hi) Fw W mQ (aB.keep (ji (hbw.mono (by omega))) _ _ oL);obtain ⟨v0,v1,v2,v3,v4,kA,kn,kc,rfl⟩:=iO oL;have key:∀ j v,[Value.int .i64 v0,.int .i64 v1,.string v2,.int .i64 v3,.int .i64 v4,.slice kA kn kc][j]?=some v→∀ W',Below g W W'→W'.cell? ⟨bk,mY+i*6+j,none⟩=some v:=fun j v hj W' hb=>by
   have e1:=hck j v hj;rw[Nat.zero_add] at e1;exact ((hb.cell (p:=⟨bk,_,none⟩) gV).trans (hbw.cell (p:=⟨bk,_,none⟩) (show bk < w.heap.size by omega))).trans e1
  exact ⟨bk,mY,v0,v1,v2,v3,v4,kA,kn,kc,e,lI,fun W' hb=>⟨key 0 _ rfl W' hb,key 1 _ rfl W' hb,key 2 _ rfl W' hb,key 3 _ rfl W' hb,key 4 _ rfl W' hb,key 5 _ rfl W' hb⟩⟩)
 have Hm:=Lh hm;clear h he hpi hbw hbx mQ vw hT hks hA hm;go_enter Tryz.func58,Tryz.ntmps58;go_wp2_with fail;rw[←hW];refine (H.out.put [.name Sx.rz] (ts:=[Sx.av Sx.rz]) hWs.symm rfl rfl rfl (by simp) (by simp at hlen ⊢;omega) (by simp)).mono ?_;rintro e w1 ⟨rfl,h1⟩;have H1:=Lh h1;obtain ⟨x0,x1,x2,x3,x4,x5,z1⟩:=aQ (h1.blk kJ.out (by decide) (by decide));clear h1;go_wp2_with fail;refine (H1.out.put [.num n] (ts:=[Sx.aW n]) rfl rfl rfl rfl (by simp) (by simp at hlen ⊢;omega) (by simp)).mono ?_;rintro e w2 ⟨rfl,h2⟩;have H2:=Lh h2
 obtain ⟨x0,x1,x2,x3,x4,x5,z2⟩:=aQ (h2.blk kJ.out (by decide) (by decide));clear h2;go_wp2_with fail;refine (H2.out.put [.sign [123]] (ts:=[Sx.bI 123]) rfl rfl rfl rfl (by simp) (by simp at hlen ⊢;omega) (by simp)).mono ?_;rintro e w3 ⟨rfl,h3⟩;have H3:=Lh h3;obtain ⟨x0,x1,x2,x3,x4,x5,z3⟩:=aQ (h3.blk kJ.out (by decide) (by decide));clear h3;go_wp2_with fail;have Gb:Hid (PI g (l++([Sx.av Sx.rz,Sx.aW n,Sx.bI 123]++Sx.bC (ks.take 0))) W w3):=Lh (by have:=H3.out;simpa [Sx.bC,Sx.av,Sx.bI,Sx.aW] using this)
 go_loopg [83] m (fun gk v83 wr=>∃ i:Nat,v83 = .int .i64 i∧i+gk=m∧Hid (PI g (l++([Sx.av Sx.rz,Sx.aW n,Sx.bI 123]++Sx.bC (ks.take i))) W wr))
 case atStart=>exact ⟨0,rfl,by omega,Gb⟩
 case round=>
  obtain ⟨i,rfl,hi,HP⟩:=hrel;have hgr:=HP.out.st.lt
  by_cases hlt:i < m
  ·obtain ⟨k,hk⟩:∃ k,ks[i]?=some k:=⟨_,List.getElem?_eq_getElem (by have:=Hm.out;omega)⟩
   obtain ⟨bk,mY,v0,v1,v2,v3,v4,kA,kn,kc,rfl,lI,hck⟩:=EU.out i k hk;obtain ⟨k0,k1,k2,k3,k4,k5⟩:=hck wr HP.out.aY;have Hs:=Lh lI;have Hk:=Lh hk;have hkl:l.length+(Sx.bC (ks.take i)).length+(Sx.aF k).length+4≤60000:=by have:=Sx.xU hk;simp at hlen;omega
   clear lI hck hk;go_wp2_with fail;have oC:=HP.out.next ((Below.refl _ _).alloc (Nat.le_refl _) (.cells #[.int .i64 v0,.int .i64 v1,.string v2,.int .i64 v3,.int .i64 v4,.slice kA kn kc] 38));refine (oC.put [.rule k [.int .i64 v0,.int .i64 v1,.string v2,.int .i64 v3,.int .i64 v4,.slice kA kn kc],.sign [59]] (ts:=Sx.aF k++[Sx.bI 59]) (by simp) rfl rfl rfl (by simp) (by simp;omega) (fun r c hr=>by
    simp only[List.mem_cons,dN.rule.injEq,List.not_mem_nil,or_false,reduceCtorEq] at hr;rw[hr.1,hr.2];exact Hs.out)).mono ?_
   rintro e w9 ⟨rfl,h9⟩;have H9:=Lh h9;clear h9 oC;go_wp2_with fail
   go_roundg (gk - 1)
   all_goals first
    | omega
    | exact ⟨i+1,by go_num,by omega,Lh (by
      have:=H9.out;rw[List.take_add_one,Hk.out];simp only[Option.toList_some,Sx.nW];simpa using this)⟩
  ·obtain rfl:i=m:=by omega
   go_wp2_with fail;refine (HP.out.put [.sign [125]] (ts:=[Sx.bI 125]) rfl rfl rfl rfl (by simp) (by rw [Hm.out,List.take_length];simp at hlen ⊢;omega) (by simp)).mono ?_;rintro e w9 ⟨rfl,h9⟩;have H9:=Lh h9;clear h9;go_wp2_with fail
   go_end0
   exact ⟨rfl,by have:=H9.out.st;rw[Hm.out,List.take_length] at this;simpa [Sx.av,Sx.aW,Sx.bI] using this,(gy.out.mono (by omega)).trans H9.out.aY,(KP.below gy.out).trans H9.out.kp⟩
theorem wz (g N:Nat) (hN:N≤g):∀ (k:Nat) (r:Sx.Rule),Sx.aO k r=true→qG g N r
 | 0,r,h=>by cases r;simp[Sx.aO] at h
 | k+1,.mk op co nm n d ks,h=>by
  obtain ⟨hlen,hks,hop⟩:=Sx.qH h;have ih:∀ q∈ks,qG g N q:=fun q hq=>wz g N hN k q (Sx.jR hks q hq);intro cs w he hr;refine ⟨iO hr,fun l W hst hb hl=>?_⟩;have mQ:=he.keep (hb.mono hN);replace hr:=aB.keep (ji hb) _ _ hr;rw[aB] at hr;obtain ⟨A,c,rfl,hnm,hkl,hA⟩:=hr;unfold aT bB
  rcases hop with ⟨h0 | h0,rfl,rfl,rfl,rfl⟩ | ⟨rfl,rfl,rfl,hn,rfl⟩ | ⟨rfl,rfl,rfl,rfl,rfl,h1⟩ | ⟨rfl,hrf,hn,rfl,rfl⟩ | ⟨rfl,hrf,hn,rfl,rfl⟩ | ⟨rfl,rfl,rfl,hn,rfl,rfl⟩ | ⟨rfl,rfl,rfl,hf,rfl⟩ | ⟨rfl,hrf,rfl,rfl,rfl⟩
  ·subst h0;exact RQ g N hN ks ih _ rfl hlen A c W mQ hA l hst hl
  ·subst h0;exact RS g N hN ks ih _ rfl hlen A c W mQ hA l hst hl
  ·exact RU g N hN n ks ih _ rfl hlen A c W mQ hA l hst hl
  ·obtain ⟨q,rfl⟩:=Sx.mD h1;exact RP g N hN q (ih q (by simp)) A c W mQ hA l hst hl
  ·exact RI g N hN co n nm A c W mQ l hst hl
  ·exact RJ g N hN co n nm A c W mQ l hst hl
  ·exact RL g N hN n A c W mQ l hst hl
  ·exact RN g N hN n d A c W mQ l hst hl
  ·exact RO g N hN co nm A c W mQ l hst hl
end Go.Proofs.YtjonaidancomgaaGreatDoor
