/- Parts of the proof, joined into one text: q1H. -/
import Derived.Test.YtjonaidancomgaaGreatDoorPSxRdB
import Derived.Test.YtjonaidancomgaaGreatDoorPSxPrQ
import Derived.Test.YtjonaidancomgaaGreatDoorPSxRok
import Derived.Deep.RegionHeldLaw
namespace Go.Proofs.YtjonaidancomgaaGreatDoor
open Go.RowKit
theorem PI.trans {g:Nat} {l l':List Lx.Tok} {a b c:World} (h:PI g l a b) (k:PI g l' b c):PI g l' a c:=⟨k.st,h.aY.trans k.aY,h.kp.trans k.kp⟩
theorem rT {w:World} {N gi i:Nat} {ws:List (List UInt8)} {x:List UInt8} (h:kX w N gi ws) (hx:ws[i]?=some x):∃ b o c,w.cell? ⟨gi,0,none⟩=some (.slice (some ⟨b,o,none⟩) ws.length c)∧w.cell? ⟨b,o+i,none⟩=some (.string (Lx.bs x))∧gi < N∧b < N:=by
 obtain ⟨b,o,c,h1,h2,h3⟩:=h;exact ⟨b,o,c,h1,h3.at_ i x hx,by omega,by have:=h3.lt;omega⟩
theorem PI.Oy {g:Nat} {l:List Lx.Tok} {w0 w:World} (h:PI g l w0 w) (its:List dN) {cs:Array Value} {n b:Nat} {ts:List Lx.Tok} (hb0:b=w.heap.size) (hcs:cs=(its.map dN.val).toArray) (hn:n=its.length) (hts:its.flatMap dN.toks=ts) (hn1:n≤100) (hlen:l.length+ts.length≤60000)
  (Dk:∀ r c,dN.rule r c∈its→eD g w0 r c) :
  Calls Tryz.prog 50 #[.pointer (some ⟨g,0,none⟩),.slice (some ⟨b,0,none⟩) n n] (w.alloc (.cells cs 20)).drew (uD g (l++ts) w0):=
 (h.next (Below.refl _ _).drew).put its (w:=w.drew) hb0 hcs hn hts hn1 hlen Dk
set_option maxRecDepth 20000 in
set_option maxHeartbeats 16000000 in
theorem KZ (N:Nat) (x:Sx.dh) (cs:List Value) (s:List UInt8) (w:World) (he:d9 N w) (hat:bE w (Old w) x cs) (hk:Sx.eX x=true) (hl:(Sx.gQ x).length≤60000) (ht:Lx.text (Sx.gQ x)=some s) (hx:∀ t∈Sx.gQ x,t.text.length≤65536) :
  Calls Tryz.prog 20 #[.agg cs.toArray] w (kF s 0 w):=by
 obtain ⟨W,hW⟩:∃ W,W=w.alloc (.cells cs.toArray 30):=⟨_,rfl⟩
 have hbw:Below w.heap.size w W:=by rw [hW];exact (Below.refl _ _).alloc (Nat.le_refl _) _
 have hbx:aC W w.heap.size 30 cs.toArray:=by rw [hW];exact aC.new _ _ _
 have K:=Lh (Px x cs W (bE.keep (aG hbw) hat));rw[hk] at K;obtain ⟨l0,l1,l2,l3,l4,l5,l6⟩:=x;obtain ⟨A0,c0,A1,c1,A2,c2,A3,c3,A4,c4,A5,c5,A6,c6,rfl,r0,r1,r2,r3,r4,r5,r6⟩:=hat;obtain ⟨n0,hn0⟩:∃ n,n=l0.length:=⟨_,rfl⟩
 have hz0:n0≤140737488351232:=by rw [hn0];exact r0.len
 obtain ⟨T0,hT0⟩:∃ T,T=l0.flatMap Sx.bP:=⟨_,rfl⟩
 obtain ⟨n1,hn1⟩:∃ n,n=l1.length:=⟨_,rfl⟩
 have hz1:n1≤140737488351232:=by rw [hn1];exact r1.len
 obtain ⟨T1,hT1⟩:∃ T,T=l1.flatMap Sx.pairT:=⟨_,rfl⟩
 obtain ⟨n2,hn2⟩:∃ n,n=l2.length:=⟨_,rfl⟩
 have hz2:n2≤140737488351232:=by rw [hn2];exact r2.len
 obtain ⟨T2,Oq⟩:∃ T,T=l2.flatMap Sx.eB:=⟨_,rfl⟩
 obtain ⟨n3,rH⟩:∃ n,n=l3.length:=⟨_,rfl⟩
 have hz3:n3≤140737488351232:=by rw [rH];exact r3.len
 obtain ⟨T3,hT3⟩:∃ T,T=l3.flatMap (Sx.fu Sx.dM):=⟨_,rfl⟩
 obtain ⟨n4,uS⟩:∃ n,n=l4.length:=⟨_,rfl⟩
 have hz4:n4≤140737488351232:=by rw [uS];exact r4.len
 obtain ⟨T4,IL⟩:∃ T,T=l4.flatMap Sx.jy:=⟨_,rfl⟩
 obtain ⟨n5,uT⟩:∃ n,n=l5.length:=⟨_,rfl⟩
 have hz5:n5≤140737488351232:=by rw [uT];exact r5.len
 obtain ⟨T5,hT5⟩:∃ T,T=l5.flatMap (Sx.fu Sx.cK):=⟨_,rfl⟩
 obtain ⟨n6,uU⟩:∃ n,n=l6.length:=⟨_,rfl⟩
 have hz6:n6≤140737488351232:=by rw [uU];exact r6.len
 obtain ⟨T6,hT6⟩:∃ T,T=l6.flatMap Sx.dI:=⟨_,rfl⟩
 rw[show Sx.gQ ⟨l0,l1,l2,l3,l4,l5,l6⟩=T0++T1++T2++T3++T4++T5++T6 by simp only [Sx.gQ,hT0,hT1,Oq,hT3,IL,hT5,hT6]] at hl ht hx;dsimp only at K hW hbx ⊢;rw[←hn0,←hn1,←hn2,←rH,←uS,←uT,←uU] at K hW hbx ⊢;unfold Sx.eX at hk;simp only[Bool.and_eq_true,List.all_eq_true] at hk;obtain ⟨⟨⟨⟨⟨⟨q0,q1⟩,q2⟩,q3⟩,q4⟩,q5⟩,q6⟩:=hk;have HB:=Lh hbw;have VN:=Lh hbx;have HE:=Lh he;have Hl:=Lh hl;have Ht:=Lh ht;have Hx:=Lh hx
 have Hr0:=Lh r0;have Hq0:=Lh q0;have AZ:=Lh hn0;have HT0:=Lh hT0;have Hr1:=Lh r1;have Hq1:=Lh q1;have tO:=Lh hn1;have HT1:=Lh hT1;have Hr2:=Lh r2;have Hq2:=Lh q2;have nE:=Lh hn2;have HT2:=Lh Oq;have Hr3:=Lh r3;have Hq3:=Lh q3;have yS:=Lh rH;have HT3:=Lh hT3;have Hr4:=Lh r4;have Hq4:=Lh q4;have Mf:=Lh uS;have HT4:=Lh IL;have Hr5:=Lh r5;have Hq5:=Lh q5;have Mg:=Lh uT;have HT5:=Lh hT5;have Hr6:=Lh r6;have Hq6:=Lh q6;have Mh:=Lh uU;have HT6:=Lh hT6;have hN:=he.size
 clear hbw hbx he hl ht hx r0 q0 hn0 hT0 r1 q1 hn1 hT1 r2 q2 hn2 Oq r3 q3 rH hT3 r4 q4 uS IL r5 q5 uT hT5 r6 q6 uU hT6;go_enter Tryz.func20,Tryz.ntmps20;go_wp2_with fail;rw[←hW];refine K.out.mono ?_;rintro e w1 ⟨rfl,hb⟩;have HB1:=Lh (HB.out.trans (hb.mono HB.out.size));have y:=VN.out.below hb VN.out.lt;have Hy:=Lh y;obtain ⟨x0,x1,x2,x3,x4,x5,x6,z1⟩:=bJ y;clear hb y;go_wp2_with fail;obtain ⟨V,hV⟩:∃ V,V=w1.alloc (.cells #[.slice none 0 0] 110):=⟨_,rfl⟩
 have hb2:Below w1.heap.size w1 V:=by rw [hV];exact (Below.refl _ _).alloc (Nat.le_refl _) _
 have hb3:=HB1.out.trans (hb2.mono HB1.out.size);have hst:iq w1.heap.size [] V:=by rw [hV];exact iq.new w1
 have Py:=Lh (Hy.out.below hb2 z1);have hN1:N≤w1.heap.size:=Nat.le_trans hN HB1.out.size;have HEV:=Lh (HE.out.next hb3);rw[←hV];have hS:∀ b,Old w b→(b < w1.heap.size)∧∀ i,V.cell? ⟨b,i,none⟩=w.cell? ⟨b,i,none⟩:=fun b hb=>⟨Nat.lt_of_lt_of_le hb HB1.out.size,fun i=>hb3.cell (p:=⟨b,i,none⟩) hb⟩
 have R0:=Lh (Hr0.out.keep (S':=fun b=>b < w1.heap.size) (P':=aV V (fun b=>b < w1.heap.size)) hS (fun _ _ _ h=>aV.keep hS h));have R1:=Lh (Hr1.out.keep (S':=fun b=>b < w1.heap.size) (P':=fq) hS (fun _ _ _ h=>h));have R2:=Lh (Hr2.out.keep (S':=fun b=>b < w1.heap.size) (P':=bS V (fun b=>b < w1.heap.size)) hS (fun _ _ _ h=>bS.keep hS h));have R3:=Lh (Hr3.out.keep (S':=fun b=>b < w1.heap.size) (P':=eu) hS (fun _ _ _ h=>h));have R4:=Lh (Hr4.out.keep (S':=fun b=>b < w1.heap.size) (P':=gG) hS (fun _ _ _ h=>h))
 have R5:=Lh (Hr5.out.keep (S':=fun b=>b < w1.heap.size) (P':=eu) hS (fun _ _ _ h=>h));have R6:=Lh (Hr6.out.keep (S':=fun b=>b < w1.heap.size) (P':=bH) hS (fun _ _ _ h=>h));obtain ⟨g,hg⟩:∃ g,g=w1.heap.size:=⟨_,rfl⟩
 rw[←hg] at hst hN1 R0 R1 R2 R3 R4 R5 R6 ⊢;have HQ0:Hid (PI g [] V V):=Lh (PI.start hst);have HV3:=Lh hb3;have hgw:w.heap.size≤g:=by rw [hg];exact HB1.out.size
 have hyb:w.heap.size < g:=by rw [hg];exact z1
 clear hb3 hb2 hst hS hg hV x0 x1 x2 x3 x4 x5 x6;obtain ⟨x0,x1,x2,x3,x4,x5,x6,zz⟩:=bJ Py.out;go_wp2_with fail
 go_loopg [25] n0 (fun gk v wr=>∃ i:Nat,v = .int .i64 i∧i+gk=n0∧Hid (PI g ([]++(l0.take i).flatMap Sx.bP) V wr))
 case atStart=>exact ⟨0,rfl,by omega,Lh (by simpa using HQ0.out)⟩
 case round=>
  clear x0 x1 x2 x3 x4 x5 x6;obtain ⟨i,rfl,hi,HP⟩:=hrel;have hgr:=HP.out.st.lt;obtain ⟨x0,x1,x2,x3,x4,x5,x6,zz⟩:=bJ (HP.out.blk Py.out (by decide) (by decide))
  by_cases hlt:i < n0
  ·obtain ⟨x,hxi⟩:∃ x,l0[i]?=some x:=⟨_,List.getElem?_eq_getElem (by have:=AZ.out;omega)⟩
   obtain ⟨bk,ok,cs,rfl,hS,hP,hck⟩:=R0.out.at_ i x hxi;have hq:=Hq0.out x (List.mem_of_getElem? hxi);have hbk2:bk < g:=hS;have hbk:bk < wr.heap.size:=by omega
   have hle:=Sx.nV Sx.bP hxi;have hln:([]++(l0.take i).flatMap Sx.bP).length+(Sx.bP x).length≤60000:=by have:=Hl.out;rw[HT0.out] at this;simp only[List.length_append,List.length_nil] at this hle ⊢;omega
   have hcall:=fun W' hW'=>IV g N hN1 x hq cs V HEV.out hP ([]++(l0.take i).flatMap Sx.bP) W' (PI.st hW') (PI.aY hW') hln;obtain ⟨i0,i1,i2,i3,i4,i5,s6,i7,i8,A9,n9,c9,j0,j1,t2,j3,j4,B5,m5,d5,rfl⟩:∃ i0 i1 i2 i3 i4 i5 s6 i7 i8 A9 n9 c9 j0 j1 t2 j3 j4 B5 m5 d5,cs = [.string i0,.int .i64 i1,.int .i64 i2,.int .i64 i3,.int .i64 i4,.int .i64 i5,.string s6,.int .i64 i7,.int .i64 i8,.slice A9 n9 c9,.int .i64 j0,.int .i64 j1,.string t2,.int .i64 j3,.int .i64 j4,.slice B5 m5 d5]:=jP hP;have k0:=(HP.out.aY.cell (p:=⟨bk,_,none⟩) hbk2).trans (hck 0 _ rfl)
   have k1:=(HP.out.aY.cell (p:=⟨bk,_,none⟩) hbk2).trans (hck 1 _ rfl);have k2:=(HP.out.aY.cell (p:=⟨bk,_,none⟩) hbk2).trans (hck 2 _ rfl);have k3:=(HP.out.aY.cell (p:=⟨bk,_,none⟩) hbk2).trans (hck 3 _ rfl);have k4:=(HP.out.aY.cell (p:=⟨bk,_,none⟩) hbk2).trans (hck 4 _ rfl);have k5:=(HP.out.aY.cell (p:=⟨bk,_,none⟩) hbk2).trans (hck 5 _ rfl);have k6:=(HP.out.aY.cell (p:=⟨bk,_,none⟩) hbk2).trans (hck 6 _ rfl);have k7:=(HP.out.aY.cell (p:=⟨bk,_,none⟩) hbk2).trans (hck 7 _ rfl);have k8:=(HP.out.aY.cell (p:=⟨bk,_,none⟩) hbk2).trans (hck 8 _ rfl)
   have k9:=(HP.out.aY.cell (p:=⟨bk,_,none⟩) hbk2).trans (hck 9 _ rfl);have k10:=(HP.out.aY.cell (p:=⟨bk,_,none⟩) hbk2).trans (hck 10 _ rfl);have k11:=(HP.out.aY.cell (p:=⟨bk,_,none⟩) hbk2).trans (hck 11 _ rfl);have k12:=(HP.out.aY.cell (p:=⟨bk,_,none⟩) hbk2).trans (hck 12 _ rfl);have k13:=(HP.out.aY.cell (p:=⟨bk,_,none⟩) hbk2).trans (hck 13 _ rfl);have k14:=(HP.out.aY.cell (p:=⟨bk,_,none⟩) hbk2).trans (hck 14 _ rfl);have k15:=(HP.out.aY.cell (p:=⟨bk,_,none⟩) hbk2).trans (hck 15 _ rfl);simp only[Nat.add_zero] at k0 k1 k2 k3 k4 k5 k6 k7 k8 k9 k10 k11 k12 k13 k14 k15
   obtain ⟨W3,hW3⟩:∃ W3,W3=wr.alloc (.cells #[.string i0,.int .i64 i1,.int .i64 i2,.int .i64 i3,.int .i64 i4,.int .i64 i5,.string s6,.int .i64 i7,.int .i64 i8,.slice A9 n9 c9,.int .i64 j0,.int .i64 j1,.string t2,.int .i64 j3,.int .i64 j4,.slice B5 m5 d5] 58):=⟨_,rfl⟩
   have oC:PI g ([]++(l0.take i).flatMap Sx.bP) V W3:=by rw [hW3];exact HP.out.next ((Below.refl _ _).alloc (Nat.le_refl _) _)
   have IW:=Lh hxi;have aH:=Lh ((hcall W3 oC).mono fun e w' he=>oC.post he);clear hcall hP hck hxi hle hln oC hq;go_wp2_with fail;rw[←hW3];refine aH.out.mono ?_;rintro e w5 ⟨rfl,h5⟩;have H5:=Lh h5;clear h5 hW3 k0 k1 k2 k3 k4 k5 k6 k7 k8 k9 k10 k11 k12 k13 k14 k15;go_wp2_with fail
   go_roundg (gk - 1)
   all_goals first
    | omega
    | exact ⟨i+1,by go_num,by omega,Lh (by
      have:=H5.out;rw[List.take_add_one,IW.out];simpa using this)⟩
  ·obtain rfl:i=n0:=by omega
   have OY:Hid (PI g (T0) V wr):=Lh (by have:=HP.out;rw[AZ.out,List.take_length,←HT0.out] at this;simpa using this);clear HQ0;go_wp2_with fail
   go_loopg [35] n1 (fun gk v wr=>∃ i:Nat,v = .int .i64 i∧i+gk=n1∧Hid (PI g (T0++(l1.take i).flatMap Sx.pairT) V wr))
   case atStart=>exact ⟨0,rfl,by omega,Lh (by simpa using OY.out)⟩
   case round=>
    clear x0 x1 x2 x3 x4 x5 x6;obtain ⟨i,rfl,hi,HP⟩:=hrel;have hgr:=HP.out.st.lt;obtain ⟨x0,x1,x2,x3,x4,x5,x6,zz⟩:=bJ (HP.out.blk Py.out (by decide) (by decide))
    by_cases hlt:i < n1
    ·obtain ⟨x,hxi⟩:∃ x,l1[i]?=some x:=⟨_,List.getElem?_eq_getElem (by have:=tO.out;omega)⟩
     obtain ⟨bk,ok,cs,rfl,hS,hP,hck⟩:=R1.out.at_ i x hxi;have hq:=Hq1.out x (List.mem_of_getElem? hxi);have hbk2:bk < g:=hS;have hbk:bk < wr.heap.size:=by omega
     have hle:=Sx.nV Sx.pairT hxi;have hln:(T0++(l1.take i).flatMap Sx.pairT).length+(Sx.pairT x).length≤60000:=by have:=Hl.out;rw[HT1.out] at this;simp only[List.length_append] at this hle ⊢;omega
     obtain ⟨pa,pb,px,py⟩:=x;obtain ⟨rfl,-,-⟩:=hP;have k0:=(HP.out.aY.cell (p:=⟨bk,_,none⟩) hbk2).trans (hck 0 _ rfl);have k1:=(HP.out.aY.cell (p:=⟨bk,_,none⟩) hbk2).trans (hck 1 _ rfl);have k2:=(HP.out.aY.cell (p:=⟨bk,_,none⟩) hbk2).trans (hck 2 _ rfl);have k3:=(HP.out.aY.cell (p:=⟨bk,_,none⟩) hbk2).trans (hck 3 _ rfl);simp only[Nat.add_zero,bB,aT] at k0 k1 k2 k3;obtain ⟨W3,hW3⟩:∃ W3,W3=wr.alloc (.cells #[.string (Lx.bs pa),.string (Lx.bs pb),.int .i64 px,.int .i64 py] 71):=⟨_,rfl⟩
     have oC:PI g (T0++(l1.take i).flatMap Sx.pairT) V W3:=by rw [hW3];exact HP.out.next ((Below.refl _ _).alloc (Nat.le_refl _) _)
     have IW:=Lh hxi;have Oz:=Lh oC;have HS:=Lh (PI.start oC.st);have Xp:Hid (aC W3 wr.heap.size 71 #[.string (Lx.bs pa),.string (Lx.bs pb),.int .i64 px,.int .i64 py]):=Lh (by rw [hW3];exact aC.new _ _ _);have OA:W3.heap.size=wr.heap.size+1:=by rw [hW3];simp
     have IX:=Lh hln;clear hck hxi hle hln oC hq;go_wp2_with fail;rw[←hW3];clear hW3 k0 k1 k2 k3;refine (HS.out.put [.name Sx.oh] (ts:=[Sx.av Sx.oh]) (by omega) rfl rfl rfl (by simp) (by have:=IX.out;simp[Sx.pairT] at this ⊢;omega) (by simp)).mono ?_;rintro e w5 ⟨rfl,h⟩;have H5:=Lh h;obtain ⟨y0,y1,y2,y3,zy⟩:=fB (h.blk Xp.out (by decide) (by decide));clear h;go_wp2_with fail;refine (H5.out.ref pa px (by have:=IX.out;simp[Sx.pairT] at this ⊢;omega)).mono ?_;rintro e w6 ⟨rfl,h⟩;have H6:=Lh h;obtain ⟨y0,y1,y2,y3,zy⟩:=fB (h.blk Xp.out (by decide) (by decide));clear h
     go_wp2_with fail;refine (H6.out.put [.sign [61]] (ts:=[Sx.bI 61]) rfl rfl rfl rfl (by simp) (by have:=IX.out;simp[Sx.pairT] at this ⊢;omega) (by simp)).mono ?_;rintro e w7 ⟨rfl,h⟩;have H7:=Lh h;obtain ⟨y0,y1,y2,y3,zy⟩:=fB (h.blk Xp.out (by decide) (by decide));clear h;go_wp2_with fail;refine (H7.out.ref pb py (by have:=IX.out;simp[Sx.pairT] at this ⊢;omega)).mono ?_;rintro e w8 ⟨rfl,h⟩;have H8:=Lh h;obtain ⟨y0,y1,y2,y3,zy⟩:=fB (h.blk Xp.out (by decide) (by decide));clear h;go_wp2_with fail
     refine (H8.out.put [.sign [59]] (ts:=[Sx.bI 59]) rfl rfl rfl rfl (by simp) (by have:=IX.out;simp[Sx.pairT] at this ⊢;omega) (by simp)).mono ?_;rintro e w9 ⟨rfl,h⟩;have H9:=Lh (Oz.out.trans h);clear h;go_wp2_with fail
     go_roundg (gk - 1)
     all_goals first
      | omega
      | exact ⟨i+1,by go_num,by omega,Lh (by
        have:=H9.out;rw[List.take_add_one,IW.out];simpa[Sx.pairT] using this)⟩
    ·obtain rfl:i=n1:=by omega
     have OX:Hid (PI g (T0++T1) V wr):=Lh (by have:=HP.out;rw[tO.out,List.take_length,←HT1.out] at this;simpa using this);clear OY;go_wp2_with fail
     go_loopg [62] n2 (fun gk v wr=>∃ i:Nat,v = .int .i64 i∧i+gk=n2∧Hid (PI g (T0++T1++(l2.take i).flatMap Sx.eB) V wr))
     case atStart=>exact ⟨0,rfl,by omega,Lh (by simpa using OX.out)⟩
     case round=>
      clear x0 x1 x2 x3 x4 x5 x6;obtain ⟨i,rfl,hi,HP⟩:=hrel;have hgr:=HP.out.st.lt;obtain ⟨x0,x1,x2,x3,x4,x5,x6,zz⟩:=bJ (HP.out.blk Py.out (by decide) (by decide))
      by_cases hlt:i < n2
      ·obtain ⟨x,hxi⟩:∃ x,l2[i]?=some x:=⟨_,List.getElem?_eq_getElem (by have:=nE.out;omega)⟩
       obtain ⟨bk,ok,cs,rfl,hS,hP,hck⟩:=R2.out.at_ i x hxi;have hq:=Hq2.out x (List.mem_of_getElem? hxi);have hbk2:bk < g:=hS;have hbk:bk < wr.heap.size:=by omega
       have hle:=Sx.nV Sx.eB hxi;have hln:(T0++T1++(l2.take i).flatMap Sx.eB).length+(Sx.eB x).length≤60000:=by have:=Hl.out;rw[HT2.out] at this;simp only[List.length_append] at this hle ⊢;omega
       have hqr:∀ r∈x.reqs,r.names.length=r.froms.length:=fun r hr=>by
        unfold Sx.dW at hq;simp only[Bool.and_eq_true,List.all_eq_true] at hq;have:=hq.2 r hr;unfold Sx.fG at this;simp only[Bool.and_eq_true,beq_iff_eq] at this;exact this.1.2
       have hcall:=fun W' hW'=>VL g x hqr cs V hP (T0++T1++(l2.take i).flatMap Sx.eB) W' (PI.st hW') (PI.aY hW') hln;obtain ⟨i0,i1,i2,i3,i4,i5,A9,n9,c9,rfl⟩:∃ i0 i1 i2 i3 i4 i5 A9 n9 c9,cs = [.string i0,.int .i64 i1,.int .i64 i2,.int .i64 i3,.int .i64 i4,.int .i64 i5,.slice A9 n9 c9]:=kS hP;have k0:=(HP.out.aY.cell (p:=⟨bk,_,none⟩) hbk2).trans (hck 0 _ rfl);have k1:=(HP.out.aY.cell (p:=⟨bk,_,none⟩) hbk2).trans (hck 1 _ rfl);have k2:=(HP.out.aY.cell (p:=⟨bk,_,none⟩) hbk2).trans (hck 2 _ rfl);have k3:=(HP.out.aY.cell (p:=⟨bk,_,none⟩) hbk2).trans (hck 3 _ rfl)
       have k4:=(HP.out.aY.cell (p:=⟨bk,_,none⟩) hbk2).trans (hck 4 _ rfl);have k5:=(HP.out.aY.cell (p:=⟨bk,_,none⟩) hbk2).trans (hck 5 _ rfl);have k6:=(HP.out.aY.cell (p:=⟨bk,_,none⟩) hbk2).trans (hck 6 _ rfl);simp only[Nat.add_zero] at k0 k1 k2 k3 k4 k5 k6;obtain ⟨W3,hW3⟩:∃ W3,W3=wr.alloc (.cells #[.string i0,.int .i64 i1,.int .i64 i2,.int .i64 i3,.int .i64 i4,.int .i64 i5,.slice A9 n9 c9] 78):=⟨_,rfl⟩
       have oC:PI g (T0++T1++(l2.take i).flatMap Sx.eB) V W3:=by rw [hW3];exact HP.out.next ((Below.refl _ _).alloc (Nat.le_refl _) _)
       have IW:=Lh hxi;have aH:=Lh ((hcall W3 oC).mono fun e w' he=>oC.post he);clear hcall hP hck hxi hle hln oC hq hqr;go_wp2_with fail;rw[←hW3];refine aH.out.mono ?_;rintro e w5 ⟨rfl,h5⟩;have H5:=Lh h5;clear h5 hW3 k0 k1 k2 k3 k4 k5 k6;go_wp2_with fail
       go_roundg (gk - 1)
       all_goals first
        | omega
        | exact ⟨i+1,by go_num,by omega,Lh (by
          have:=H5.out;rw[List.take_add_one,IW.out];simpa using this)⟩
      ·obtain rfl:i=n2:=by omega
       have Uv:Hid (PI g (T0++T1++T2) V wr):=Lh (by have:=HP.out;rw[nE.out,List.take_length,←HT2.out] at this;simpa using this);clear OX;go_wp2_with fail
       go_loopg [72] n3 (fun gk v wr=>∃ i:Nat,v = .int .i64 i∧i+gk=n3∧Hid (PI g (T0++T1++T2++(l3.take i).flatMap (Sx.fu Sx.dM)) V wr))
       case atStart=>exact ⟨0,rfl,by omega,Lh (by simpa using Uv.out)⟩
       case round=>
        clear x0 x1 x2 x3 x4 x5 x6;obtain ⟨i,rfl,hi,HP⟩:=hrel;have hgr:=HP.out.st.lt;obtain ⟨x0,x1,x2,x3,x4,x5,x6,zz⟩:=bJ (HP.out.blk Py.out (by decide) (by decide))
        by_cases hlt:i < n3
        ·obtain ⟨x,hxi⟩:∃ x,l3[i]?=some x:=⟨_,List.getElem?_eq_getElem (by have:=yS.out;omega)⟩
         obtain ⟨bk,ok,cs,rfl,hS,hP,hck⟩:=R3.out.at_ i x hxi;have hq:=Hq3.out x (List.mem_of_getElem? hxi);have hbk2:bk < g:=hS;have hbk:bk < wr.heap.size:=by omega
         have hle:=Sx.nV (Sx.fu Sx.dM) hxi;have hln:(T0++T1++T2++(l3.take i).flatMap (Sx.fu Sx.dM)).length+((Sx.fu Sx.dM) x).length≤60000:=by have:=Hl.out;rw[HT3.out] at this;simp only[List.length_append] at this hle ⊢;omega
         obtain ⟨nm,en,⟨mn,md⟩⟩:=x;obtain ⟨rfl,-⟩:=hP;have k0:=(HP.out.aY.cell (p:=⟨bk,_,none⟩) hbk2).trans (hck 0 _ rfl);have k1:=(HP.out.aY.cell (p:=⟨bk,_,none⟩) hbk2).trans (hck 1 _ rfl);have k2:=(HP.out.aY.cell (p:=⟨bk,_,none⟩) hbk2).trans (hck 2 _ rfl);have k3:=(HP.out.aY.cell (p:=⟨bk,_,none⟩) hbk2).trans (hck 3 _ rfl);simp only[Nat.add_zero,bB,aT] at k0 k1 k2 k3;obtain ⟨W3,hW3⟩:∃ W3,W3=wr.alloc (.cells #[.string (Lx.bs nm),.int .i64 en,.int .i64 mn,.int .i64 md] 82):=⟨_,rfl⟩
         have oC:PI g (T0++T1++T2++(l3.take i).flatMap (Sx.fu Sx.dM)) V W3:=by rw [hW3];exact HP.out.next ((Below.refl _ _).alloc (Nat.le_refl _) _)
         have IW:=Lh hxi;have IX:=Lh hln;have Oz:=Lh oC;have OA:W3.heap.size=wr.heap.size+1:=by rw [hW3];simp
         clear hck hxi hle hln oC hq;go_wp2_with fail;rw[←hW3];clear hW3 k0 k1 k2 k3;refine (Oz.out.put [.name Sx.dM,.name nm,.num en,.name Sx.fD,.ratio ⟨mn,md⟩,.sign [59]] (ts:=Sx.fu Sx.dM ⟨nm,en,⟨mn,md⟩⟩) (by omega) rfl rfl (by simp [dN.toks,Sx.av,Sx.bI,Sx.aW,Sx.fu,Sx.bO]) (by simp) IX.out (by simp)).mono ?_;rintro e w5 ⟨rfl,h5⟩;have H5:=Lh h5;clear h5;go_wp2_with fail
         go_roundg (gk - 1)
         all_goals first
          | omega
          | exact ⟨i+1,by go_num,by omega,Lh (by
            have:=H5.out;rw[List.take_add_one,IW.out];simpa using this)⟩
        ·obtain rfl:i=n3:=by omega
         have HQ4:Hid (PI g (T0++T1++T2++T3) V wr):=Lh (by have:=HP.out;rw[yS.out,List.take_length,←HT3.out] at this;simpa using this);clear Uv;go_wp2_with fail
         go_loopg [94] n4 (fun gk v wr=>∃ i:Nat,v = .int .i64 i∧i+gk=n4∧Hid (PI g (T0++T1++T2++T3++(l4.take i).flatMap Sx.jy) V wr))
         case atStart=>exact ⟨0,rfl,by omega,Lh (by simpa using HQ4.out)⟩
         case round=>
          clear x0 x1 x2 x3 x4 x5 x6;obtain ⟨i,rfl,hi,HP⟩:=hrel;have hgr:=HP.out.st.lt;obtain ⟨x0,x1,x2,x3,x4,x5,x6,zz⟩:=bJ (HP.out.blk Py.out (by decide) (by decide))
          by_cases hlt:i < n4
          ·obtain ⟨x,hxi⟩:∃ x,l4[i]?=some x:=⟨_,List.getElem?_eq_getElem (by have:=Mf.out;omega)⟩
           obtain ⟨bk,ok,cs,rfl,hS,hP,hck⟩:=R4.out.at_ i x hxi;have hq:=Hq4.out x (List.mem_of_getElem? hxi);have hbk2:bk < g:=hS;have hbk:bk < wr.heap.size:=by omega
           have hle:=Sx.nV Sx.jy hxi;have hln:(T0++T1++T2++T3++(l4.take i).flatMap Sx.jy).length+(Sx.jy x).length≤60000:=by have:=Hl.out;rw[HT4.out] at this;simp only[List.length_append] at this hle ⊢;omega
           obtain ⟨nm,en⟩:=x;obtain ⟨rfl,-⟩:=hP;have k0:=(HP.out.aY.cell (p:=⟨bk,_,none⟩) hbk2).trans (hck 0 _ rfl);have k1:=(HP.out.aY.cell (p:=⟨bk,_,none⟩) hbk2).trans (hck 1 _ rfl);simp only[Nat.add_zero,bB,aT] at k0 k1;obtain ⟨W3,hW3⟩:∃ W3,W3=wr.alloc (.cells #[.string (Lx.bs nm),.int .i64 en] 86):=⟨_,rfl⟩
           have oC:PI g (T0++T1++T2++T3++(l4.take i).flatMap Sx.jy) V W3:=by rw [hW3];exact HP.out.next ((Below.refl _ _).alloc (Nat.le_refl _) _)
           have IW:=Lh hxi;have IX:=Lh hln;have Oz:=Lh oC;have OA:W3.heap.size=wr.heap.size+1:=by rw [hW3];simp
           clear hck hxi hle hln oC hq;go_wp2_with fail;rw[←hW3];clear hW3 k0 k1;refine (Oz.out.put [.name Sx.vG,.name nm,.num en,.sign [59]] (ts:=Sx.jy ⟨nm,en⟩) (by omega) rfl rfl (by simp [dN.toks,Sx.av,Sx.bI,Sx.aW,Sx.jy]) (by simp) IX.out (by simp)).mono ?_;rintro e w5 ⟨rfl,h5⟩;have H5:=Lh h5;clear h5;go_wp2_with fail
           go_roundg (gk - 1)
           all_goals first
            | omega
            | exact ⟨i+1,by go_num,by omega,Lh (by
              have:=H5.out;rw[List.take_add_one,IW.out];simpa using this)⟩
          ·obtain rfl:i=n4:=by omega
           have HQ5:Hid (PI g (T0++T1++T2++T3++T4) V wr):=Lh (by have:=HP.out;rw[Mf.out,List.take_length,←HT4.out] at this;simpa using this);clear HQ4;go_wp2_with fail
           go_loopg [112] n5 (fun gk v wr=>∃ i:Nat,v = .int .i64 i∧i+gk=n5∧Hid (PI g (T0++T1++T2++T3++T4++(l5.take i).flatMap (Sx.fu Sx.cK)) V wr))
           case atStart=>exact ⟨0,rfl,by omega,Lh (by simpa using HQ5.out)⟩
           case round=>
            clear x0 x1 x2 x3 x4 x5 x6;obtain ⟨i,rfl,hi,HP⟩:=hrel;have hgr:=HP.out.st.lt;obtain ⟨x0,x1,x2,x3,x4,x5,x6,zz⟩:=bJ (HP.out.blk Py.out (by decide) (by decide))
            by_cases hlt:i < n5
            ·obtain ⟨x,hxi⟩:∃ x,l5[i]?=some x:=⟨_,List.getElem?_eq_getElem (by have:=Mg.out;omega)⟩
             obtain ⟨bk,ok,cs,rfl,hS,hP,hck⟩:=R5.out.at_ i x hxi;have hq:=Hq5.out x (List.mem_of_getElem? hxi);have hbk2:bk < g:=hS;have hbk:bk < wr.heap.size:=by omega
             have hle:=Sx.nV (Sx.fu Sx.cK) hxi;have hln:(T0++T1++T2++T3++T4++(l5.take i).flatMap (Sx.fu Sx.cK)).length+((Sx.fu Sx.cK) x).length≤60000:=by have:=Hl.out;rw[HT5.out] at this;simp only[List.length_append] at this hle ⊢;omega
             obtain ⟨nm,en,⟨mn,md⟩⟩:=x;obtain ⟨rfl,-⟩:=hP;have k0:=(HP.out.aY.cell (p:=⟨bk,_,none⟩) hbk2).trans (hck 0 _ rfl);have k1:=(HP.out.aY.cell (p:=⟨bk,_,none⟩) hbk2).trans (hck 1 _ rfl);have k2:=(HP.out.aY.cell (p:=⟨bk,_,none⟩) hbk2).trans (hck 2 _ rfl);have k3:=(HP.out.aY.cell (p:=⟨bk,_,none⟩) hbk2).trans (hck 3 _ rfl);simp only[Nat.add_zero,bB,aT] at k0 k1 k2 k3;obtain ⟨W3,hW3⟩:∃ W3,W3=wr.alloc (.cells #[.string (Lx.bs nm),.int .i64 en,.int .i64 mn,.int .i64 md] 82):=⟨_,rfl⟩
             have oC:PI g (T0++T1++T2++T3++T4++(l5.take i).flatMap (Sx.fu Sx.cK)) V W3:=by rw [hW3];exact HP.out.next ((Below.refl _ _).alloc (Nat.le_refl _) _)
             have IW:=Lh hxi;have IX:=Lh hln;have Oz:=Lh oC;have OA:W3.heap.size=wr.heap.size+1:=by rw [hW3];simp
             clear hck hxi hle hln oC hq;go_wp2_with fail;rw[←hW3];clear hW3 k0 k1 k2 k3;refine (Oz.out.put [.name Sx.cK,.name nm,.num en,.name Sx.fD,.ratio ⟨mn,md⟩,.sign [59]] (ts:=Sx.fu Sx.cK ⟨nm,en,⟨mn,md⟩⟩) (by omega) rfl rfl (by simp [dN.toks,Sx.av,Sx.bI,Sx.aW,Sx.fu,Sx.bO]) (by simp) IX.out (by simp)).mono ?_;rintro e w5 ⟨rfl,h5⟩;have H5:=Lh h5;clear h5;go_wp2_with fail
             go_roundg (gk - 1)
             all_goals first
              | omega
              | exact ⟨i+1,by go_num,by omega,Lh (by
                have:=H5.out;rw[List.take_add_one,IW.out];simpa using this)⟩
            ·obtain rfl:i=n5:=by omega
             have HQ6:Hid (PI g (T0++T1++T2++T3++T4++T5) V wr):=Lh (by have:=HP.out;rw[Mg.out,List.take_length,←HT5.out] at this;simpa using this);clear HQ5;go_wp2_with fail
             go_loopg [134] n6 (fun gk v wr=>∃ i:Nat,v = .int .i64 i∧i+gk=n6∧Hid (PI g (T0++T1++T2++T3++T4++T5++(l6.take i).flatMap Sx.dI) V wr))
             case atStart=>exact ⟨0,rfl,by omega,Lh (by simpa using HQ6.out)⟩
             case round=>
              clear x0 x1 x2 x3 x4 x5 x6;obtain ⟨i,rfl,hi,HP⟩:=hrel;have hgr:=HP.out.st.lt;obtain ⟨x0,x1,x2,x3,x4,x5,x6,zz⟩:=bJ (HP.out.blk Py.out (by decide) (by decide))
              by_cases hlt:i < n6
              ·obtain ⟨x,hxi⟩:∃ x,l6[i]?=some x:=⟨_,List.getElem?_eq_getElem (by have:=Mh.out;omega)⟩
               obtain ⟨bk,ok,cs,rfl,hS,hP,hck⟩:=R6.out.at_ i x hxi;have hq:=Hq6.out x (List.mem_of_getElem? hxi);have hbk2:bk < g:=hS;have hbk:bk < wr.heap.size:=by omega
               have hle:=Sx.nV Sx.dI hxi;have hln:(T0++T1++T2++T3++T4++T5++(l6.take i).flatMap Sx.dI).length+(Sx.dI x).length≤60000:=by have:=Hl.out;rw[HT6.out] at this;simp only[List.length_append] at this hle ⊢;omega
               obtain ⟨kd,wn,ac,ut⟩:=x;unfold Sx.dL at hq;simp only[Bool.and_eq_true,Sx.bM] at hq;obtain ⟨k1,rfl⟩:∃ k:Nat,kd=(k:Int)+1:=⟨(kd - 1).toNat,by omega⟩
               obtain ⟨k2,rfl⟩:∃ k:Nat,wn=(k:Int):=⟨wn.toNat,by omega⟩
               obtain ⟨k3,rfl⟩:∃ k:Nat,ac=(k:Int)+1:=⟨(ac - 1).toNat,by omega⟩
               unfold bH at hP;subst hP;have f0:=(HP.out.aY.cell (p:=⟨bk,_,none⟩) hbk2).trans (hck 0 _ rfl);have f1:=(HP.out.aY.cell (p:=⟨bk,_,none⟩) hbk2).trans (hck 1 _ rfl);have f2:=(HP.out.aY.cell (p:=⟨bk,_,none⟩) hbk2).trans (hck 2 _ rfl);have f3:=(HP.out.aY.cell (p:=⟨bk,_,none⟩) hbk2).trans (hck 3 _ rfl);simp only[Nat.add_zero,aT] at f0 f1 f2 f3;obtain ⟨W3,hW3⟩:∃ W3,W3=wr.alloc (.cells #[.int .i64 ((k1:Int)+1),.int .i64 (k2:Int),.int .i64 ((k3:Int)+1),.int .i64 ut] 90):=⟨_,rfl⟩
               have oC:PI g (T0++T1++T2++T3++T4++T5++(l6.take i).flatMap Sx.dI) V W3:=by rw [hW3];exact HP.out.next ((Below.refl _ _).alloc (Nat.le_refl _) _)
               have IW:=Lh hxi;have IX:=Lh hln;have Oz:=Lh oC;have OA:W3.heap.size=wr.heap.size+1:=by rw [hW3];simp
               have RV:aC W3 wr.heap.size 90 #[.int .i64 ((k1:Int)+1),.int .i64 (k2:Int),.int .i64 ((k3:Int)+1),.int .i64 ut]:=by rw [hW3];exact aC.new _ _ _
               have mQ:=HEV.out.keep (oC.aY.mono hN1);have kl1:k1 < 5:=by omega
               have kl2:k2 < 3:=by omega
               have kl3:k3 < 3:=by omega
               obtain ⟨Pz,hw1⟩:∃ y,Sx.kindWords[k1]?=some y:=⟨_,List.getElem?_eq_getElem (by rw [show Sx.kindWords.length=5 from rfl];exact kl1)⟩
               obtain ⟨PD,hw2⟩:∃ y,Sx.whenWords[k2]?=some y:=⟨_,List.getElem?_eq_getElem (by rw [show Sx.whenWords.length=3 from rfl];exact kl2)⟩
               obtain ⟨PE,hw3⟩:∃ y,Sx.actionWords[k3]?=some y:=⟨_,List.getElem?_eq_getElem (by rw [show Sx.actionWords.length=3 from rfl];exact kl3)⟩
               obtain ⟨b1,o1,e1,g1,v1,u1,t1⟩:=rT mQ.kind hw1;obtain ⟨b2,o2,e2,g2,v2,u2,t2⟩:=rT mQ.gH hw2;obtain ⟨b3,o3,e3,g3,v3,u3,t3⟩:=rT mQ.action hw3;rw[show Sx.kindWords.length=5 from rfl] at g1;rw[show Sx.whenWords.length=3 from rfl] at g2;rw[show Sx.actionWords.length=3 from rfl] at g3;obtain ⟨y0,y1,y2,y3,zy⟩:=fB RV;have tk1:IntKind.i64.wrap ((k1:Int)+1 - 1)=(k1:Int):=by rw [show (k1:Int)+1 - 1=k1 by omega];exact IntWalk.i64_in _ (by omega)
               have tk2:IntKind.i64.wrap ((k2:Int) - 0)=(k2:Int):=by rw [show (k2:Int) - 0=k2 by omega];exact IntWalk.i64_in _ (by omega)
               have tk3:IntKind.i64.wrap ((k3:Int)+1 - 1)=(k3:Int):=by rw [show (k3:Int)+1 - 1=k3 by omega];exact IntWalk.i64_in _ (by omega)
               have tw1:IntKind.i64.wrap (k1:Int)=(k1:Int):=IntWalk.i64_in _ (by omega);have tw2:IntKind.i64.wrap (k2:Int)=(k2:Int):=IntWalk.i64_in _ (by omega);have tw3:IntKind.i64.wrap (k3:Int)=(k3:Int):=IntWalk.i64_in _ (by omega);have htk:Sx.dI ⟨(k1:Int)+1,k2,(k3:Int)+1,ut⟩ = [Sx.av Sx.om,Sx.av Pz,Sx.av PD,Sx.av PE,Sx.av Sx.nL,Sx.aW ut,Sx.bI 59]:=by
                unfold Sx.dI;rw[show ((k1:Int)+1 - 1).toNat=k1 by omega,show ((k2:Int)).toNat=k2 by omega,show ((k3:Int)+1 - 1).toNat=k3 by omega];simp only[List.getD_eq_getElem?_getD,hw1,hw2,hw3,Option.getD_some]
               have Htk:=Lh htk;have HS:=Lh (PI.start oC.st)
               have aX:Hid (∀ (w':World) (l':List Lx.Tok),PI g l' W3 w'→w'.cell? ⟨0,0,none⟩=some (.slice (some ⟨b1,o1,none⟩) 5 e1)∧w'.cell? ⟨b1,o1+k1,none⟩=some (.string (Lx.bs Pz))∧w'.cell? ⟨1,0,none⟩=some (.slice (some ⟨b2,o2,none⟩) 3 e2)∧w'.cell? ⟨b2,o2+k2,none⟩=some (.string (Lx.bs PD))∧w'.cell? ⟨2,0,none⟩=some (.slice (some ⟨b3,o3,none⟩) 3 e3)∧w'.cell? ⟨b3,o3+k3,none⟩=some (.string (Lx.bs PE))∧w'.cell? ⟨wr.heap.size,0,none⟩=some (.int .i64 ((k1:Int)+1))∧w'.cell? ⟨wr.heap.size,1,none⟩=some (.int .i64 (k2:Int))∧w'.cell? ⟨wr.heap.size,2,none⟩=some (.int .i64 ((k3:Int)+1))∧w'.cell? ⟨wr.heap.size,3,none⟩=some (.int .i64 ut)∧w'.heap.size≥W3.heap.size):=Lh (fun w' l' h=>by
                have bx:=h.blk RV (by decide) (by decide);exact ⟨(h.aY.cell (p:=⟨0,0,none⟩) (show 0 < g by omega)).trans g1,(h.aY.cell (p:=⟨b1,_,none⟩) (show b1 < g by omega)).trans v1,(h.aY.cell (p:=⟨1,0,none⟩) (show 1 < g by omega)).trans g2,(h.aY.cell (p:=⟨b2,_,none⟩) (show b2 < g by omega)).trans v2,(h.aY.cell (p:=⟨2,0,none⟩) (show 2 < g by omega)).trans g3,(h.aY.cell (p:=⟨b3,_,none⟩) (show b3 < g by omega)).trans v3,(bx.cell 0).trans rfl,(bx.cell 1).trans rfl,(bx.cell 2).trans rfl,(bx.cell 3).trans rfl,h.aY.size⟩)
               have z1W:b1 < W3.heap.size:=by omega
               have z2W:b2 < W3.heap.size:=by omega
               have z3W:b3 < W3.heap.size:=by omega
               have z4W:0 < W3.heap.size:=by omega
               have z5W:1 < W3.heap.size:=by omega
               have z6W:2 < W3.heap.size:=by omega
               clear hck hxi hle hln oC hq RV mQ hw1 hw2 hw3 htk;go_wp2_with fail;rw[←hW3];clear hW3 f0 f1 f2 f3
               go_region_held_law (fun w':World=>w'.cell? ⟨0,0,none⟩=some (.slice (some ⟨b1,o1,none⟩) 5 e1)∧w'.cell? ⟨b1,o1+k1,none⟩=some (.string (Lx.bs Pz))∧w'.cell? ⟨1,0,none⟩=some (.slice (some ⟨b2,o2,none⟩) 3 e2)∧w'.cell? ⟨b2,o2+k2,none⟩=some (.string (Lx.bs PD))∧w'.cell? ⟨2,0,none⟩=some (.slice (some ⟨b3,o3,none⟩) 3 e3)∧w'.cell? ⟨b3,o3+k3,none⟩=some (.string (Lx.bs PE))∧w'.cell? ⟨wr.heap.size,0,none⟩=some (.int .i64 ((k1:Int)+1))∧w'.cell? ⟨wr.heap.size,1,none⟩=some (.int .i64 (k2:Int))∧w'.cell? ⟨wr.heap.size,2,none⟩=some (.int .i64 ((k3:Int)+1))∧w'.cell? ⟨wr.heap.size,3,none⟩=some (.int .i64 ut)) (first | go_keep) (first
                | (go_at_call 50;refine (HS.out.Oy [.name Sx.om,.name Pz,.name PD,.name PE,.name Sx.nL,.num ut,.sign [59]] (ts:=Sx.dI ⟨(k1:Int)+1,k2,(k3:Int)+1,ut⟩) (by first | rfl | omega) rfl rfl (by rw [Htk.out];simp[dN.toks,Sx.av,Sx.bI,Sx.aW]) (by simp) IX.out (by simp)).mono ?_;rintro e w5 ⟨rfl,h5⟩;obtain ⟨s1,s2,s3,s4,s5,s6,s7,s8,s9,s10,s11⟩:=aX.out _ _ h5;have H5:=Lh (Oz.out.trans h5);clear h5))
               all_goals (try go_wp2_with fail)
               all_goals (go_roundg (gk - 1))
               all_goals first
                | omega
                | exact ⟨i+1,by go_num,by omega,Lh (by
                  have:=H5.out;rw[List.take_add_one,IW.out];simpa using this)⟩
              ·obtain rfl:i=n6:=by omega
               have HQ7:Hid (PI g (T0++T1++T2++T3++T4++T5++T6) V wr):=Lh (by have:=HP.out;rw[Mh.out,List.take_length,←HT6.out] at this;simpa using this);clear HQ6;obtain ⟨At,ct,g0,hT⟩:=HQ7.out.st.toks (by have:=Hl.out;omega) Hx.out;have hb4:Below w.heap.size w wr:=HV3.out.trans (HQ7.out.aY.mono hgw);have OB:=Lh (Gf At ct _ s wr (HE.out.next hb4).env hT (by have:=Hl.out;omega) Ht.out);have oP:=Lh hb4;clear hT hb4 hi hlt;obtain ⟨lt,hlt⟩:∃ lt,lt=(T0++T1++T2++T3++T4++T5++T6).length:=⟨_,rfl⟩
               rw[←hlt] at g0 OB;clear hlt;go_wp2_with fail;refine OB.out.mono ?_;rintro e w6 ⟨rfl,hb6,-⟩;have yQ:=Lh (oP.out.trans (hb6.mono oP.out.size));clear hb6;go_wp2_with fail;go_ret2;exact ⟨rfl,yQ.out⟩
end Go.Proofs.YtjonaidancomgaaGreatDoor
