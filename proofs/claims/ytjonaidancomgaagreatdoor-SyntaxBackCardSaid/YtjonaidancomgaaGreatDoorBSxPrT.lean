/- Parts of the proof, joined into one text: SxPrT. -/
import Derived.Test.YtjonaidancomgaaGreatDoorBSxRdB
import Derived.Test.YtjonaidancomgaaGreatDoorBSxPrQ
import Derived.Test.YtjonaidancomgaaGreatDoorBSxRok
import Derived.Deep.RegionHeldLaw

namespace Go.Proofs.YtjonaidancomgaaGreatDoor
open Go.RowKit

theorem PI.trans {g:Nat} {l l':List Lx.Tok} {a b c:World} (h:PI g l a b) (k:PI g l' b c):PI g l' a c:=⟨k.st,h.bel.trans k.bel,h.kp.trans k.kp⟩
theorem word_cell2 {w:World} {N gi i:Nat} {ws:List (List UInt8)} {x:List UInt8} (h:GlobAt w N gi ws) (hx:ws[i]?=some x):∃ b o c,w.cell? ⟨gi,0,none⟩=some (.slice (some ⟨b,o,none⟩) ws.length c)∧w.cell? ⟨b,o+i,none⟩=some (.string (Lx.bs x))∧gi < N∧b < N:=by
 obtain ⟨b,o,c,h1,h2,h3⟩:=h
 exact ⟨b,o,c,h1,h3.at_ i x hx,by omega,by have:=h3.lt;omega⟩
theorem PI.putDrew {g:Nat} {l:List Lx.Tok} {w0 w:World} (h:PI g l w0 w) (its:List PrIt) {cs:Array Value} {n b:Nat} {ts:List Lx.Tok} (hb0:b=w.heap.size) (hcs:cs=(its.map PrIt.val).toArray) (hn:n=its.length) (hts:its.flatMap PrIt.toks=ts) (hn1:n≤100) (hlen:l.length+ts.length≤60000)
  (hrul:∀ r c,PrIt.rule r c∈its→RuleSays g w0 r c) :
  Calls Tryz.prog 50 #[.pointer (some ⟨g,0,none⟩),.slice (some ⟨b,0,none⟩) n n] (w.alloc (.cells cs 20)).drew (PIPost g (l++ts) w0):=
 (h.next (Below.refl _ _).drew).put its (w:=w.drew) hb0 hcs hn hts hn1 hlen hrul
set_option maxRecDepth 20000 in
set_option maxHeartbeats 16000000 in
theorem sPrint (N:Nat) (x:Sx.Cat) (cs:List Value) (s:List UInt8) (w:World) (he:EnvS N w) (hat:CatAt w (Old w) x cs) (hk:Sx.catOk x=true) (hl:(Sx.catT x).length≤60000) (ht:Lx.text (Sx.catT x)=some s) (hx:∀ t∈Sx.catT x,t.text.length≤65536) :
  Calls Tryz.prog 20 #[.agg cs.toArray] w (SrcPost s 0 w):=by
 obtain ⟨W,hW⟩:∃ W,W=w.alloc (.cells cs.toArray 30):=⟨_,rfl⟩
 have hbw:Below w.heap.size w W:=by rw [hW];exact (Below.refl _ _).alloc (Nat.le_refl _) _
 have hbx:Blk W w.heap.size 30 cs.toArray:=by rw [hW];exact Blk.new _ _ _
 have K:=Lh (okCat x cs W (CatAt.keep (old_keep hbw) hat))
 rw[hk] at K
 obtain ⟨l0,l1,l2,l3,l4,l5,l6⟩:=x
 obtain ⟨A0,c0,A1,c1,A2,c2,A3,c3,A4,c4,A5,c5,A6,c6,rfl,r0,r1,r2,r3,r4,r5,r6⟩:=hat
 obtain ⟨n0,hn0⟩:∃ n,n=l0.length:=⟨_,rfl⟩
 have hz0:n0≤140737488351232:=by rw [hn0];exact r0.len
 obtain ⟨T0,hT0⟩:∃ T,T=l0.flatMap Sx.courseT:=⟨_,rfl⟩
 obtain ⟨n1,hn1⟩:∃ n,n=l1.length:=⟨_,rfl⟩
 have hz1:n1≤140737488351232:=by rw [hn1];exact r1.len
 obtain ⟨T1,hT1⟩:∃ T,T=l1.flatMap Sx.pairT:=⟨_,rfl⟩
 obtain ⟨n2,hn2⟩:∃ n,n=l2.length:=⟨_,rfl⟩
 have hz2:n2≤140737488351232:=by rw [hn2];exact r2.len
 obtain ⟨T2,hT2⟩:∃ T,T=l2.flatMap Sx.progT:=⟨_,rfl⟩
 obtain ⟨n3,hn3⟩:∃ n,n=l3.length:=⟨_,rfl⟩
 have hz3:n3≤140737488351232:=by rw [hn3];exact r3.len
 obtain ⟨T3,hT3⟩:∃ T,T=l3.flatMap (Sx.clsT Sx.wClass):=⟨_,rfl⟩
 obtain ⟨n4,hn4⟩:∃ n,n=l4.length:=⟨_,rfl⟩
 have hz4:n4≤140737488351232:=by rw [hn4];exact r4.len
 obtain ⟨T4,hT4⟩:∃ T,T=l4.flatMap Sx.feeT:=⟨_,rfl⟩
 obtain ⟨n5,hn5⟩:∃ n,n=l5.length:=⟨_,rfl⟩
 have hz5:n5≤140737488351232:=by rw [hn5];exact r5.len
 obtain ⟨T5,hT5⟩:∃ T,T=l5.flatMap (Sx.clsT Sx.wHonour):=⟨_,rfl⟩
 obtain ⟨n6,hn6⟩:∃ n,n=l6.length:=⟨_,rfl⟩
 have hz6:n6≤140737488351232:=by rw [hn6];exact r6.len
 obtain ⟨T6,hT6⟩:∃ T,T=l6.flatMap Sx.clauseT:=⟨_,rfl⟩
 rw[show Sx.catT ⟨l0,l1,l2,l3,l4,l5,l6⟩=T0++T1++T2++T3++T4++T5++T6 by simp only [Sx.catT,hT0,hT1,hT2,hT3,hT4,hT5,hT6]] at hl ht hx
 dsimp only at K hW hbx ⊢
 rw[←hn0,←hn1,←hn2,←hn3,←hn4,←hn5,←hn6] at K hW hbx ⊢
 unfold Sx.catOk at hk
 simp only[Bool.and_eq_true,List.all_eq_true] at hk
 obtain ⟨⟨⟨⟨⟨⟨q0,q1⟩,q2⟩,q3⟩,q4⟩,q5⟩,q6⟩:=hk
 have HB:=Lh hbw;have HBx:=Lh hbx;have HE:=Lh he;have Hl:=Lh hl;have Ht:=Lh ht;have Hx:=Lh hx
 have Hr0:=Lh r0;have Hq0:=Lh q0;have Hn0:=Lh hn0;have HT0:=Lh hT0;have Hr1:=Lh r1;have Hq1:=Lh q1;have Hn1:=Lh hn1;have HT1:=Lh hT1;have Hr2:=Lh r2;have Hq2:=Lh q2;have Hn2:=Lh hn2;have HT2:=Lh hT2;have Hr3:=Lh r3;have Hq3:=Lh q3;have Hn3:=Lh hn3;have HT3:=Lh hT3;have Hr4:=Lh r4;have Hq4:=Lh q4;have Hn4:=Lh hn4;have HT4:=Lh hT4;have Hr5:=Lh r5;have Hq5:=Lh q5;have Hn5:=Lh hn5;have HT5:=Lh hT5;have Hr6:=Lh r6;have Hq6:=Lh q6;have Hn6:=Lh hn6;have HT6:=Lh hT6
 have hN:=he.size
 clear hbw hbx he hl ht hx r0 q0 hn0 hT0 r1 q1 hn1 hT1 r2 q2 hn2 hT2 r3 q3 hn3 hT3 r4 q4 hn4 hT4 r5 q5 hn5 hT5 r6 q6 hn6 hT6
 go_enter Tryz.func20,Tryz.ntmps20
 go_wp2_with fail
 rw[←hW]
 refine K.out.mono ?_
 rintro e w1 ⟨rfl,hb⟩
 have HB1:=Lh (HB.out.trans (hb.mono HB.out.size))
 have y:=HBx.out.below hb HBx.out.lt
 have Hy:=Lh y
 obtain ⟨x0,x1,x2,x3,x4,x5,x6,z1⟩:=cells7 y
 clear hb y
 go_wp2_with fail
 obtain ⟨V,hV⟩:∃ V,V=w1.alloc (.cells #[.slice none 0 0] 110):=⟨_,rfl⟩
 have hb2:Below w1.heap.size w1 V:=by rw [hV];exact (Below.refl _ _).alloc (Nat.le_refl _) _
 have hb3:=HB1.out.trans (hb2.mono HB1.out.size)
 have hst:PrSt w1.heap.size [] V:=by rw [hV];exact PrSt.new w1
 have Hy2:=Lh (Hy.out.below hb2 z1)
 have hN1:N≤w1.heap.size:=Nat.le_trans hN HB1.out.size
 have HEV:=Lh (HE.out.next hb3)
 rw[←hV]
 have hS:∀ b,Old w b→(b < w1.heap.size)∧∀ i,V.cell? ⟨b,i,none⟩=w.cell? ⟨b,i,none⟩:=fun b hb=>⟨Nat.lt_of_lt_of_le hb HB1.out.size,fun i=>hb3.cell (p:=⟨b,i,none⟩) hb⟩
 have R0:=Lh (Hr0.out.keep (S':=fun b=>b < w1.heap.size) (P':=CourseAt V (fun b=>b < w1.heap.size)) hS (fun _ _ _ h=>CourseAt.keep hS h))
 have R1:=Lh (Hr1.out.keep (S':=fun b=>b < w1.heap.size) (P':=PairAt) hS (fun _ _ _ h=>h))
 have R2:=Lh (Hr2.out.keep (S':=fun b=>b < w1.heap.size) (P':=ProgAt V (fun b=>b < w1.heap.size)) hS (fun _ _ _ h=>ProgAt.keep hS h))
 have R3:=Lh (Hr3.out.keep (S':=fun b=>b < w1.heap.size) (P':=ClsAt) hS (fun _ _ _ h=>h))
 have R4:=Lh (Hr4.out.keep (S':=fun b=>b < w1.heap.size) (P':=FeeAt) hS (fun _ _ _ h=>h))
 have R5:=Lh (Hr5.out.keep (S':=fun b=>b < w1.heap.size) (P':=ClsAt) hS (fun _ _ _ h=>h))
 have R6:=Lh (Hr6.out.keep (S':=fun b=>b < w1.heap.size) (P':=ClauseAt) hS (fun _ _ _ h=>h))
 obtain ⟨g,hg⟩:∃ g,g=w1.heap.size:=⟨_,rfl⟩
 rw[←hg] at hst hN1 R0 R1 R2 R3 R4 R5 R6 ⊢
 have HQ0:Hid (PI g [] V V):=Lh (PI.start hst)
 have HV3:=Lh hb3
 have hgw:w.heap.size≤g:=by rw [hg];exact HB1.out.size
 have hyb:w.heap.size < g:=by rw [hg];exact z1
 clear hb3 hb2 hst hS hg hV x0 x1 x2 x3 x4 x5 x6
 obtain ⟨x0,x1,x2,x3,x4,x5,x6,zz⟩:=cells7 Hy2.out
 go_wp2_with fail
 go_loopg [25] n0 (fun gk v wr=>∃ i:Nat,v = .int .i64 i∧i+gk=n0∧Hid (PI g ([]++(l0.take i).flatMap Sx.courseT) V wr))
 case atStart=>exact ⟨0,rfl,by omega,Lh (by simpa using HQ0.out)⟩
 case round=>
  clear x0 x1 x2 x3 x4 x5 x6
  obtain ⟨i,rfl,hi,HP⟩:=hrel
  have hgr:=HP.out.st.lt
  obtain ⟨x0,x1,x2,x3,x4,x5,x6,zz⟩:=cells7 (HP.out.blk Hy2.out (by decide) (by decide))
  by_cases hlt:i < n0
  ·obtain ⟨x,hxi⟩:∃ x,l0[i]?=some x:=⟨_,List.getElem?_eq_getElem (by have:=Hn0.out;omega)⟩
   obtain ⟨bk,ok,cs,rfl,hS,hP,hck⟩:=R0.out.at_ i x hxi
   have hq:=Hq0.out x (List.mem_of_getElem? hxi)
   have hbk2:bk < g:=hS
   have hbk:bk < wr.heap.size:=by omega
   have hle:=Sx.flatLe Sx.courseT hxi
   have hln:([]++(l0.take i).flatMap Sx.courseT).length+(Sx.courseT x).length≤60000:=by have:=Hl.out;rw[HT0.out] at this;simp only[List.length_append,List.length_nil] at this hle ⊢;omega
   have hcall:=fun W' hW'=>lCoursePr g N hN1 x hq cs V HEV.out hP ([]++(l0.take i).flatMap Sx.courseT) W' (PI.st hW') (PI.bel hW') hln
   obtain ⟨i0,i1,i2,i3,i4,i5,s6,i7,i8,A9,n9,c9,j0,j1,t2,j3,j4,B5,m5,d5,rfl⟩:∃ i0 i1 i2 i3 i4 i5 s6 i7 i8 A9 n9 c9 j0 j1 t2 j3 j4 B5 m5 d5,cs = [.string i0,.int .i64 i1,.int .i64 i2,.int .i64 i3,.int .i64 i4,.int .i64 i5,.string s6,.int .i64 i7,.int .i64 i8,.slice A9 n9 c9,.int .i64 j0,.int .i64 j1,.string t2,.int .i64 j3,.int .i64 j4,.slice B5 m5 d5]:=form_course hP
   have k0:=(HP.out.bel.cell (p:=⟨bk,_,none⟩) hbk2).trans (hck 0 _ rfl)
   have k1:=(HP.out.bel.cell (p:=⟨bk,_,none⟩) hbk2).trans (hck 1 _ rfl)
   have k2:=(HP.out.bel.cell (p:=⟨bk,_,none⟩) hbk2).trans (hck 2 _ rfl)
   have k3:=(HP.out.bel.cell (p:=⟨bk,_,none⟩) hbk2).trans (hck 3 _ rfl)
   have k4:=(HP.out.bel.cell (p:=⟨bk,_,none⟩) hbk2).trans (hck 4 _ rfl)
   have k5:=(HP.out.bel.cell (p:=⟨bk,_,none⟩) hbk2).trans (hck 5 _ rfl)
   have k6:=(HP.out.bel.cell (p:=⟨bk,_,none⟩) hbk2).trans (hck 6 _ rfl)
   have k7:=(HP.out.bel.cell (p:=⟨bk,_,none⟩) hbk2).trans (hck 7 _ rfl)
   have k8:=(HP.out.bel.cell (p:=⟨bk,_,none⟩) hbk2).trans (hck 8 _ rfl)
   have k9:=(HP.out.bel.cell (p:=⟨bk,_,none⟩) hbk2).trans (hck 9 _ rfl)
   have k10:=(HP.out.bel.cell (p:=⟨bk,_,none⟩) hbk2).trans (hck 10 _ rfl)
   have k11:=(HP.out.bel.cell (p:=⟨bk,_,none⟩) hbk2).trans (hck 11 _ rfl)
   have k12:=(HP.out.bel.cell (p:=⟨bk,_,none⟩) hbk2).trans (hck 12 _ rfl)
   have k13:=(HP.out.bel.cell (p:=⟨bk,_,none⟩) hbk2).trans (hck 13 _ rfl)
   have k14:=(HP.out.bel.cell (p:=⟨bk,_,none⟩) hbk2).trans (hck 14 _ rfl)
   have k15:=(HP.out.bel.cell (p:=⟨bk,_,none⟩) hbk2).trans (hck 15 _ rfl)
   simp only[Nat.add_zero] at k0 k1 k2 k3 k4 k5 k6 k7 k8 k9 k10 k11 k12 k13 k14 k15
   obtain ⟨W3,hW3⟩:∃ W3,W3=wr.alloc (.cells #[.string i0,.int .i64 i1,.int .i64 i2,.int .i64 i3,.int .i64 i4,.int .i64 i5,.string s6,.int .i64 i7,.int .i64 i8,.slice A9 n9 c9,.int .i64 j0,.int .i64 j1,.string t2,.int .i64 j3,.int .i64 j4,.slice B5 m5 d5] 58):=⟨_,rfl⟩
   have hPn:PI g ([]++(l0.take i).flatMap Sx.courseT) V W3:=by rw [hW3];exact HP.out.next ((Below.refl _ _).alloc (Nat.le_refl _) _)
   have Hxi:=Lh hxi
   have Hcall:=Lh ((hcall W3 hPn).mono fun e w' he=>hPn.post he)
   clear hcall hP hck hxi hle hln hPn hq
   go_wp2_with fail
   rw[←hW3]
   refine Hcall.out.mono ?_
   rintro e w5 ⟨rfl,h5⟩
   have H5:=Lh h5
   clear h5 hW3 k0 k1 k2 k3 k4 k5 k6 k7 k8 k9 k10 k11 k12 k13 k14 k15
   go_wp2_with fail
   go_roundg (gk - 1)
   all_goals first
    | omega
    | exact ⟨i+1,by go_num,by omega,Lh (by
      have:=H5.out
      rw[List.take_add_one,Hxi.out]
      simpa using this)⟩
  ·obtain rfl:i=n0:=by omega
   have HQ1:Hid (PI g (T0) V wr):=Lh (by have:=HP.out;rw[Hn0.out,List.take_length,←HT0.out] at this;simpa using this)
   clear HQ0
   go_wp2_with fail
   go_loopg [35] n1 (fun gk v wr=>∃ i:Nat,v = .int .i64 i∧i+gk=n1∧Hid (PI g (T0++(l1.take i).flatMap Sx.pairT) V wr))
   case atStart=>exact ⟨0,rfl,by omega,Lh (by simpa using HQ1.out)⟩
   case round=>
    clear x0 x1 x2 x3 x4 x5 x6
    obtain ⟨i,rfl,hi,HP⟩:=hrel
    have hgr:=HP.out.st.lt
    obtain ⟨x0,x1,x2,x3,x4,x5,x6,zz⟩:=cells7 (HP.out.blk Hy2.out (by decide) (by decide))
    by_cases hlt:i < n1
    ·obtain ⟨x,hxi⟩:∃ x,l1[i]?=some x:=⟨_,List.getElem?_eq_getElem (by have:=Hn1.out;omega)⟩
     obtain ⟨bk,ok,cs,rfl,hS,hP,hck⟩:=R1.out.at_ i x hxi
     have hq:=Hq1.out x (List.mem_of_getElem? hxi)
     have hbk2:bk < g:=hS
     have hbk:bk < wr.heap.size:=by omega
     have hle:=Sx.flatLe Sx.pairT hxi
     have hln:(T0++(l1.take i).flatMap Sx.pairT).length+(Sx.pairT x).length≤60000:=by have:=Hl.out;rw[HT1.out] at this;simp only[List.length_append] at this hle ⊢;omega
     obtain ⟨pa,pb,px,py⟩:=x
     obtain ⟨rfl,-,-⟩:=hP
     have k0:=(HP.out.bel.cell (p:=⟨bk,_,none⟩) hbk2).trans (hck 0 _ rfl)
     have k1:=(HP.out.bel.cell (p:=⟨bk,_,none⟩) hbk2).trans (hck 1 _ rfl)
     have k2:=(HP.out.bel.cell (p:=⟨bk,_,none⟩) hbk2).trans (hck 2 _ rfl)
     have k3:=(HP.out.bel.cell (p:=⟨bk,_,none⟩) hbk2).trans (hck 3 _ rfl)
     simp only[Nat.add_zero,strV,intV] at k0 k1 k2 k3
     obtain ⟨W3,hW3⟩:∃ W3,W3=wr.alloc (.cells #[.string (Lx.bs pa),.string (Lx.bs pb),.int .i64 px,.int .i64 py] 71):=⟨_,rfl⟩
     have hPn:PI g (T0++(l1.take i).flatMap Sx.pairT) V W3:=by rw [hW3];exact HP.out.next ((Below.refl _ _).alloc (Nat.le_refl _) _)
     have Hxi:=Lh hxi
     have HPn:=Lh hPn
     have HS:=Lh (PI.start hPn.st)
     have HBX:Hid (Blk W3 wr.heap.size 71 #[.string (Lx.bs pa),.string (Lx.bs pb),.int .i64 px,.int .i64 py]):=Lh (by rw [hW3];exact Blk.new _ _ _)
     have hW3s:W3.heap.size=wr.heap.size+1:=by rw [hW3];simp
     have Hln:=Lh hln
     clear hck hxi hle hln hPn hq
     go_wp2_with fail
     rw[←hW3]
     clear hW3 k0 k1 k2 k3
     refine (HS.out.put [.name Sx.wSame] (ts:=[Sx.nameT Sx.wSame]) (by omega) rfl rfl rfl (by simp) (by have:=Hln.out;simp[Sx.pairT] at this ⊢;omega) (by simp)).mono ?_
     rintro e w5 ⟨rfl,h⟩
     have H5:=Lh h
     obtain ⟨y0,y1,y2,y3,zy⟩:=cells4 (h.blk HBX.out (by decide) (by decide))
     clear h
     go_wp2_with fail
     refine (H5.out.ref pa px (by have:=Hln.out;simp[Sx.pairT] at this ⊢;omega)).mono ?_
     rintro e w6 ⟨rfl,h⟩
     have H6:=Lh h
     obtain ⟨y0,y1,y2,y3,zy⟩:=cells4 (h.blk HBX.out (by decide) (by decide))
     clear h
     go_wp2_with fail
     refine (H6.out.put [.sign [61]] (ts:=[Sx.sgT 61]) rfl rfl rfl rfl (by simp) (by have:=Hln.out;simp[Sx.pairT] at this ⊢;omega) (by simp)).mono ?_
     rintro e w7 ⟨rfl,h⟩
     have H7:=Lh h
     obtain ⟨y0,y1,y2,y3,zy⟩:=cells4 (h.blk HBX.out (by decide) (by decide))
     clear h
     go_wp2_with fail
     refine (H7.out.ref pb py (by have:=Hln.out;simp[Sx.pairT] at this ⊢;omega)).mono ?_
     rintro e w8 ⟨rfl,h⟩
     have H8:=Lh h
     obtain ⟨y0,y1,y2,y3,zy⟩:=cells4 (h.blk HBX.out (by decide) (by decide))
     clear h
     go_wp2_with fail
     refine (H8.out.put [.sign [59]] (ts:=[Sx.sgT 59]) rfl rfl rfl rfl (by simp) (by have:=Hln.out;simp[Sx.pairT] at this ⊢;omega) (by simp)).mono ?_
     rintro e w9 ⟨rfl,h⟩
     have H9:=Lh (HPn.out.trans h)
     clear h
     go_wp2_with fail
     go_roundg (gk - 1)
     all_goals first
      | omega
      | exact ⟨i+1,by go_num,by omega,Lh (by
        have:=H9.out
        rw[List.take_add_one,Hxi.out]
        simpa[Sx.pairT] using this)⟩
    ·obtain rfl:i=n1:=by omega
     have HQ2:Hid (PI g (T0++T1) V wr):=Lh (by have:=HP.out;rw[Hn1.out,List.take_length,←HT1.out] at this;simpa using this)
     clear HQ1
     go_wp2_with fail
     go_loopg [62] n2 (fun gk v wr=>∃ i:Nat,v = .int .i64 i∧i+gk=n2∧Hid (PI g (T0++T1++(l2.take i).flatMap Sx.progT) V wr))
     case atStart=>exact ⟨0,rfl,by omega,Lh (by simpa using HQ2.out)⟩
     case round=>
      clear x0 x1 x2 x3 x4 x5 x6
      obtain ⟨i,rfl,hi,HP⟩:=hrel
      have hgr:=HP.out.st.lt
      obtain ⟨x0,x1,x2,x3,x4,x5,x6,zz⟩:=cells7 (HP.out.blk Hy2.out (by decide) (by decide))
      by_cases hlt:i < n2
      ·obtain ⟨x,hxi⟩:∃ x,l2[i]?=some x:=⟨_,List.getElem?_eq_getElem (by have:=Hn2.out;omega)⟩
       obtain ⟨bk,ok,cs,rfl,hS,hP,hck⟩:=R2.out.at_ i x hxi
       have hq:=Hq2.out x (List.mem_of_getElem? hxi)
       have hbk2:bk < g:=hS
       have hbk:bk < wr.heap.size:=by omega
       have hle:=Sx.flatLe Sx.progT hxi
       have hln:(T0++T1++(l2.take i).flatMap Sx.progT).length+(Sx.progT x).length≤60000:=by have:=Hl.out;rw[HT2.out] at this;simp only[List.length_append] at this hle ⊢;omega
       have hqr:∀ r∈x.reqs,r.names.length=r.froms.length:=fun r hr=>by
        unfold Sx.progOk at hq
        simp only[Bool.and_eq_true,List.all_eq_true] at hq
        have:=hq.2 r hr
        unfold Sx.reqOk at this
        simp only[Bool.and_eq_true,beq_iff_eq] at this
        exact this.1.2
       have hcall:=fun W' hW'=>lProg g x hqr cs V hP (T0++T1++(l2.take i).flatMap Sx.progT) W' (PI.st hW') (PI.bel hW') hln
       obtain ⟨i0,i1,i2,i3,i4,i5,A9,n9,c9,rfl⟩:∃ i0 i1 i2 i3 i4 i5 A9 n9 c9,cs = [.string i0,.int .i64 i1,.int .i64 i2,.int .i64 i3,.int .i64 i4,.int .i64 i5,.slice A9 n9 c9]:=form_prog hP
       have k0:=(HP.out.bel.cell (p:=⟨bk,_,none⟩) hbk2).trans (hck 0 _ rfl)
       have k1:=(HP.out.bel.cell (p:=⟨bk,_,none⟩) hbk2).trans (hck 1 _ rfl)
       have k2:=(HP.out.bel.cell (p:=⟨bk,_,none⟩) hbk2).trans (hck 2 _ rfl)
       have k3:=(HP.out.bel.cell (p:=⟨bk,_,none⟩) hbk2).trans (hck 3 _ rfl)
       have k4:=(HP.out.bel.cell (p:=⟨bk,_,none⟩) hbk2).trans (hck 4 _ rfl)
       have k5:=(HP.out.bel.cell (p:=⟨bk,_,none⟩) hbk2).trans (hck 5 _ rfl)
       have k6:=(HP.out.bel.cell (p:=⟨bk,_,none⟩) hbk2).trans (hck 6 _ rfl)
       simp only[Nat.add_zero] at k0 k1 k2 k3 k4 k5 k6
       obtain ⟨W3,hW3⟩:∃ W3,W3=wr.alloc (.cells #[.string i0,.int .i64 i1,.int .i64 i2,.int .i64 i3,.int .i64 i4,.int .i64 i5,.slice A9 n9 c9] 78):=⟨_,rfl⟩
       have hPn:PI g (T0++T1++(l2.take i).flatMap Sx.progT) V W3:=by rw [hW3];exact HP.out.next ((Below.refl _ _).alloc (Nat.le_refl _) _)
       have Hxi:=Lh hxi
       have Hcall:=Lh ((hcall W3 hPn).mono fun e w' he=>hPn.post he)
       clear hcall hP hck hxi hle hln hPn hq hqr
       go_wp2_with fail
       rw[←hW3]
       refine Hcall.out.mono ?_
       rintro e w5 ⟨rfl,h5⟩
       have H5:=Lh h5
       clear h5 hW3 k0 k1 k2 k3 k4 k5 k6
       go_wp2_with fail
       go_roundg (gk - 1)
       all_goals first
        | omega
        | exact ⟨i+1,by go_num,by omega,Lh (by
          have:=H5.out
          rw[List.take_add_one,Hxi.out]
          simpa using this)⟩
      ·obtain rfl:i=n2:=by omega
       have HQ3:Hid (PI g (T0++T1++T2) V wr):=Lh (by have:=HP.out;rw[Hn2.out,List.take_length,←HT2.out] at this;simpa using this)
       clear HQ2
       go_wp2_with fail
       go_loopg [72] n3 (fun gk v wr=>∃ i:Nat,v = .int .i64 i∧i+gk=n3∧Hid (PI g (T0++T1++T2++(l3.take i).flatMap (Sx.clsT Sx.wClass)) V wr))
       case atStart=>exact ⟨0,rfl,by omega,Lh (by simpa using HQ3.out)⟩
       case round=>
        clear x0 x1 x2 x3 x4 x5 x6
        obtain ⟨i,rfl,hi,HP⟩:=hrel
        have hgr:=HP.out.st.lt
        obtain ⟨x0,x1,x2,x3,x4,x5,x6,zz⟩:=cells7 (HP.out.blk Hy2.out (by decide) (by decide))
        by_cases hlt:i < n3
        ·obtain ⟨x,hxi⟩:∃ x,l3[i]?=some x:=⟨_,List.getElem?_eq_getElem (by have:=Hn3.out;omega)⟩
         obtain ⟨bk,ok,cs,rfl,hS,hP,hck⟩:=R3.out.at_ i x hxi
         have hq:=Hq3.out x (List.mem_of_getElem? hxi)
         have hbk2:bk < g:=hS
         have hbk:bk < wr.heap.size:=by omega
         have hle:=Sx.flatLe (Sx.clsT Sx.wClass) hxi
         have hln:(T0++T1++T2++(l3.take i).flatMap (Sx.clsT Sx.wClass)).length+((Sx.clsT Sx.wClass) x).length≤60000:=by have:=Hl.out;rw[HT3.out] at this;simp only[List.length_append] at this hle ⊢;omega
         obtain ⟨nm,en,⟨mn,md⟩⟩:=x
         obtain ⟨rfl,-⟩:=hP
         have k0:=(HP.out.bel.cell (p:=⟨bk,_,none⟩) hbk2).trans (hck 0 _ rfl)
         have k1:=(HP.out.bel.cell (p:=⟨bk,_,none⟩) hbk2).trans (hck 1 _ rfl)
         have k2:=(HP.out.bel.cell (p:=⟨bk,_,none⟩) hbk2).trans (hck 2 _ rfl)
         have k3:=(HP.out.bel.cell (p:=⟨bk,_,none⟩) hbk2).trans (hck 3 _ rfl)
         simp only[Nat.add_zero,strV,intV] at k0 k1 k2 k3
         obtain ⟨W3,hW3⟩:∃ W3,W3=wr.alloc (.cells #[.string (Lx.bs nm),.int .i64 en,.int .i64 mn,.int .i64 md] 82):=⟨_,rfl⟩
         have hPn:PI g (T0++T1++T2++(l3.take i).flatMap (Sx.clsT Sx.wClass)) V W3:=by rw [hW3];exact HP.out.next ((Below.refl _ _).alloc (Nat.le_refl _) _)
         have Hxi:=Lh hxi
         have Hln:=Lh hln
         have HPn:=Lh hPn
         have hW3s:W3.heap.size=wr.heap.size+1:=by rw [hW3];simp
         clear hck hxi hle hln hPn hq
         go_wp2_with fail
         rw[←hW3]
         clear hW3 k0 k1 k2 k3
         refine (HPn.out.put [.name Sx.wClass,.name nm,.num en,.name Sx.wMean,.ratio ⟨mn,md⟩,.sign [59]] (ts:=Sx.clsT Sx.wClass ⟨nm,en,⟨mn,md⟩⟩) (by omega) rfl rfl (by simp [PrIt.toks,Sx.nameT,Sx.sgT,Sx.numT,Sx.clsT,Sx.ratioT]) (by simp) Hln.out (by simp)).mono ?_
         rintro e w5 ⟨rfl,h5⟩
         have H5:=Lh h5
         clear h5
         go_wp2_with fail
         go_roundg (gk - 1)
         all_goals first
          | omega
          | exact ⟨i+1,by go_num,by omega,Lh (by
            have:=H5.out
            rw[List.take_add_one,Hxi.out]
            simpa using this)⟩
        ·obtain rfl:i=n3:=by omega
         have HQ4:Hid (PI g (T0++T1++T2++T3) V wr):=Lh (by have:=HP.out;rw[Hn3.out,List.take_length,←HT3.out] at this;simpa using this)
         clear HQ3
         go_wp2_with fail
         go_loopg [94] n4 (fun gk v wr=>∃ i:Nat,v = .int .i64 i∧i+gk=n4∧Hid (PI g (T0++T1++T2++T3++(l4.take i).flatMap Sx.feeT) V wr))
         case atStart=>exact ⟨0,rfl,by omega,Lh (by simpa using HQ4.out)⟩
         case round=>
          clear x0 x1 x2 x3 x4 x5 x6
          obtain ⟨i,rfl,hi,HP⟩:=hrel
          have hgr:=HP.out.st.lt
          obtain ⟨x0,x1,x2,x3,x4,x5,x6,zz⟩:=cells7 (HP.out.blk Hy2.out (by decide) (by decide))
          by_cases hlt:i < n4
          ·obtain ⟨x,hxi⟩:∃ x,l4[i]?=some x:=⟨_,List.getElem?_eq_getElem (by have:=Hn4.out;omega)⟩
           obtain ⟨bk,ok,cs,rfl,hS,hP,hck⟩:=R4.out.at_ i x hxi
           have hq:=Hq4.out x (List.mem_of_getElem? hxi)
           have hbk2:bk < g:=hS
           have hbk:bk < wr.heap.size:=by omega
           have hle:=Sx.flatLe Sx.feeT hxi
           have hln:(T0++T1++T2++T3++(l4.take i).flatMap Sx.feeT).length+(Sx.feeT x).length≤60000:=by have:=Hl.out;rw[HT4.out] at this;simp only[List.length_append] at this hle ⊢;omega
           obtain ⟨nm,en⟩:=x
           obtain ⟨rfl,-⟩:=hP
           have k0:=(HP.out.bel.cell (p:=⟨bk,_,none⟩) hbk2).trans (hck 0 _ rfl)
           have k1:=(HP.out.bel.cell (p:=⟨bk,_,none⟩) hbk2).trans (hck 1 _ rfl)
           simp only[Nat.add_zero,strV,intV] at k0 k1
           obtain ⟨W3,hW3⟩:∃ W3,W3=wr.alloc (.cells #[.string (Lx.bs nm),.int .i64 en] 86):=⟨_,rfl⟩
           have hPn:PI g (T0++T1++T2++T3++(l4.take i).flatMap Sx.feeT) V W3:=by rw [hW3];exact HP.out.next ((Below.refl _ _).alloc (Nat.le_refl _) _)
           have Hxi:=Lh hxi
           have Hln:=Lh hln
           have HPn:=Lh hPn
           have hW3s:W3.heap.size=wr.heap.size+1:=by rw [hW3];simp
           clear hck hxi hle hln hPn hq
           go_wp2_with fail
           rw[←hW3]
           clear hW3 k0 k1
           refine (HPn.out.put [.name Sx.wFee,.name nm,.num en,.sign [59]] (ts:=Sx.feeT ⟨nm,en⟩) (by omega) rfl rfl (by simp [PrIt.toks,Sx.nameT,Sx.sgT,Sx.numT,Sx.feeT]) (by simp) Hln.out (by simp)).mono ?_
           rintro e w5 ⟨rfl,h5⟩
           have H5:=Lh h5
           clear h5
           go_wp2_with fail
           go_roundg (gk - 1)
           all_goals first
            | omega
            | exact ⟨i+1,by go_num,by omega,Lh (by
              have:=H5.out
              rw[List.take_add_one,Hxi.out]
              simpa using this)⟩
          ·obtain rfl:i=n4:=by omega
           have HQ5:Hid (PI g (T0++T1++T2++T3++T4) V wr):=Lh (by have:=HP.out;rw[Hn4.out,List.take_length,←HT4.out] at this;simpa using this)
           clear HQ4
           go_wp2_with fail
           go_loopg [112] n5 (fun gk v wr=>∃ i:Nat,v = .int .i64 i∧i+gk=n5∧Hid (PI g (T0++T1++T2++T3++T4++(l5.take i).flatMap (Sx.clsT Sx.wHonour)) V wr))
           case atStart=>exact ⟨0,rfl,by omega,Lh (by simpa using HQ5.out)⟩
           case round=>
            clear x0 x1 x2 x3 x4 x5 x6
            obtain ⟨i,rfl,hi,HP⟩:=hrel
            have hgr:=HP.out.st.lt
            obtain ⟨x0,x1,x2,x3,x4,x5,x6,zz⟩:=cells7 (HP.out.blk Hy2.out (by decide) (by decide))
            by_cases hlt:i < n5
            ·obtain ⟨x,hxi⟩:∃ x,l5[i]?=some x:=⟨_,List.getElem?_eq_getElem (by have:=Hn5.out;omega)⟩
             obtain ⟨bk,ok,cs,rfl,hS,hP,hck⟩:=R5.out.at_ i x hxi
             have hq:=Hq5.out x (List.mem_of_getElem? hxi)
             have hbk2:bk < g:=hS
             have hbk:bk < wr.heap.size:=by omega
             have hle:=Sx.flatLe (Sx.clsT Sx.wHonour) hxi
             have hln:(T0++T1++T2++T3++T4++(l5.take i).flatMap (Sx.clsT Sx.wHonour)).length+((Sx.clsT Sx.wHonour) x).length≤60000:=by have:=Hl.out;rw[HT5.out] at this;simp only[List.length_append] at this hle ⊢;omega
             obtain ⟨nm,en,⟨mn,md⟩⟩:=x
             obtain ⟨rfl,-⟩:=hP
             have k0:=(HP.out.bel.cell (p:=⟨bk,_,none⟩) hbk2).trans (hck 0 _ rfl)
             have k1:=(HP.out.bel.cell (p:=⟨bk,_,none⟩) hbk2).trans (hck 1 _ rfl)
             have k2:=(HP.out.bel.cell (p:=⟨bk,_,none⟩) hbk2).trans (hck 2 _ rfl)
             have k3:=(HP.out.bel.cell (p:=⟨bk,_,none⟩) hbk2).trans (hck 3 _ rfl)
             simp only[Nat.add_zero,strV,intV] at k0 k1 k2 k3
             obtain ⟨W3,hW3⟩:∃ W3,W3=wr.alloc (.cells #[.string (Lx.bs nm),.int .i64 en,.int .i64 mn,.int .i64 md] 82):=⟨_,rfl⟩
             have hPn:PI g (T0++T1++T2++T3++T4++(l5.take i).flatMap (Sx.clsT Sx.wHonour)) V W3:=by rw [hW3];exact HP.out.next ((Below.refl _ _).alloc (Nat.le_refl _) _)
             have Hxi:=Lh hxi
             have Hln:=Lh hln
             have HPn:=Lh hPn
             have hW3s:W3.heap.size=wr.heap.size+1:=by rw [hW3];simp
             clear hck hxi hle hln hPn hq
             go_wp2_with fail
             rw[←hW3]
             clear hW3 k0 k1 k2 k3
             refine (HPn.out.put [.name Sx.wHonour,.name nm,.num en,.name Sx.wMean,.ratio ⟨mn,md⟩,.sign [59]] (ts:=Sx.clsT Sx.wHonour ⟨nm,en,⟨mn,md⟩⟩) (by omega) rfl rfl (by simp [PrIt.toks,Sx.nameT,Sx.sgT,Sx.numT,Sx.clsT,Sx.ratioT]) (by simp) Hln.out (by simp)).mono ?_
             rintro e w5 ⟨rfl,h5⟩
             have H5:=Lh h5
             clear h5
             go_wp2_with fail
             go_roundg (gk - 1)
             all_goals first
              | omega
              | exact ⟨i+1,by go_num,by omega,Lh (by
                have:=H5.out
                rw[List.take_add_one,Hxi.out]
                simpa using this)⟩
            ·obtain rfl:i=n5:=by omega
             have HQ6:Hid (PI g (T0++T1++T2++T3++T4++T5) V wr):=Lh (by have:=HP.out;rw[Hn5.out,List.take_length,←HT5.out] at this;simpa using this)
             clear HQ5
             go_wp2_with fail
             go_loopg [134] n6 (fun gk v wr=>∃ i:Nat,v = .int .i64 i∧i+gk=n6∧Hid (PI g (T0++T1++T2++T3++T4++T5++(l6.take i).flatMap Sx.clauseT) V wr))
             case atStart=>exact ⟨0,rfl,by omega,Lh (by simpa using HQ6.out)⟩
             case round=>
              clear x0 x1 x2 x3 x4 x5 x6
              obtain ⟨i,rfl,hi,HP⟩:=hrel
              have hgr:=HP.out.st.lt
              obtain ⟨x0,x1,x2,x3,x4,x5,x6,zz⟩:=cells7 (HP.out.blk Hy2.out (by decide) (by decide))
              by_cases hlt:i < n6
              ·obtain ⟨x,hxi⟩:∃ x,l6[i]?=some x:=⟨_,List.getElem?_eq_getElem (by have:=Hn6.out;omega)⟩
               obtain ⟨bk,ok,cs,rfl,hS,hP,hck⟩:=R6.out.at_ i x hxi
               have hq:=Hq6.out x (List.mem_of_getElem? hxi)
               have hbk2:bk < g:=hS
               have hbk:bk < wr.heap.size:=by omega
               have hle:=Sx.flatLe Sx.clauseT hxi
               have hln:(T0++T1++T2++T3++T4++T5++(l6.take i).flatMap Sx.clauseT).length+(Sx.clauseT x).length≤60000:=by have:=Hl.out;rw[HT6.out] at this;simp only[List.length_append] at this hle ⊢;omega
               obtain ⟨kd,wn,ac,ut⟩:=x
               unfold Sx.clauseOk at hq
               simp only[Bool.and_eq_true,Sx.inB_iff] at hq
               obtain ⟨k1,rfl⟩:∃ k:Nat,kd=(k:Int)+1:=⟨(kd - 1).toNat,by omega⟩
               obtain ⟨k2,rfl⟩:∃ k:Nat,wn=(k:Int):=⟨wn.toNat,by omega⟩
               obtain ⟨k3,rfl⟩:∃ k:Nat,ac=(k:Int)+1:=⟨(ac - 1).toNat,by omega⟩
               unfold ClauseAt at hP
               subst hP
               have f0:=(HP.out.bel.cell (p:=⟨bk,_,none⟩) hbk2).trans (hck 0 _ rfl)
               have f1:=(HP.out.bel.cell (p:=⟨bk,_,none⟩) hbk2).trans (hck 1 _ rfl)
               have f2:=(HP.out.bel.cell (p:=⟨bk,_,none⟩) hbk2).trans (hck 2 _ rfl)
               have f3:=(HP.out.bel.cell (p:=⟨bk,_,none⟩) hbk2).trans (hck 3 _ rfl)
               simp only[Nat.add_zero,intV] at f0 f1 f2 f3
               obtain ⟨W3,hW3⟩:∃ W3,W3=wr.alloc (.cells #[.int .i64 ((k1:Int)+1),.int .i64 (k2:Int),.int .i64 ((k3:Int)+1),.int .i64 ut] 90):=⟨_,rfl⟩
               have hPn:PI g (T0++T1++T2++T3++T4++T5++(l6.take i).flatMap Sx.clauseT) V W3:=by rw [hW3];exact HP.out.next ((Below.refl _ _).alloc (Nat.le_refl _) _)
               have Hxi:=Lh hxi
               have Hln:=Lh hln
               have HPn:=Lh hPn
               have hW3s:W3.heap.size=wr.heap.size+1:=by rw [hW3];simp
               have hbx3:Blk W3 wr.heap.size 90 #[.int .i64 ((k1:Int)+1),.int .i64 (k2:Int),.int .i64 ((k3:Int)+1),.int .i64 ut]:=by rw [hW3];exact Blk.new _ _ _
               have heW:=HEV.out.keep (hPn.bel.mono hN1)
               have kl1:k1 < 5:=by omega
               have kl2:k2 < 3:=by omega
               have kl3:k3 < 3:=by omega
               obtain ⟨w_1,hw1⟩:∃ y,Sx.kindWords[k1]?=some y:=⟨_,List.getElem?_eq_getElem (by rw [show Sx.kindWords.length=5 from rfl];exact kl1)⟩
               obtain ⟨w_2,hw2⟩:∃ y,Sx.whenWords[k2]?=some y:=⟨_,List.getElem?_eq_getElem (by rw [show Sx.whenWords.length=3 from rfl];exact kl2)⟩
               obtain ⟨w_3,hw3⟩:∃ y,Sx.actionWords[k3]?=some y:=⟨_,List.getElem?_eq_getElem (by rw [show Sx.actionWords.length=3 from rfl];exact kl3)⟩
               obtain ⟨b1,o1,e1,g1,v1,u1,t1⟩:=word_cell2 heW.kind hw1
               obtain ⟨b2,o2,e2,g2,v2,u2,t2⟩:=word_cell2 heW.when_ hw2
               obtain ⟨b3,o3,e3,g3,v3,u3,t3⟩:=word_cell2 heW.action hw3
               rw[show Sx.kindWords.length=5 from rfl] at g1
               rw[show Sx.whenWords.length=3 from rfl] at g2
               rw[show Sx.actionWords.length=3 from rfl] at g3
               obtain ⟨y0,y1,y2,y3,zy⟩:=cells4 hbx3
               have tk1:IntKind.i64.wrap ((k1:Int)+1 - 1)=(k1:Int):=by rw [show (k1:Int)+1 - 1=k1 by omega];exact IntWalk.i64_in _ (by omega)
               have tk2:IntKind.i64.wrap ((k2:Int) - 0)=(k2:Int):=by rw [show (k2:Int) - 0=k2 by omega];exact IntWalk.i64_in _ (by omega)
               have tk3:IntKind.i64.wrap ((k3:Int)+1 - 1)=(k3:Int):=by rw [show (k3:Int)+1 - 1=k3 by omega];exact IntWalk.i64_in _ (by omega)
               have tw1:IntKind.i64.wrap (k1:Int)=(k1:Int):=IntWalk.i64_in _ (by omega)
               have tw2:IntKind.i64.wrap (k2:Int)=(k2:Int):=IntWalk.i64_in _ (by omega)
               have tw3:IntKind.i64.wrap (k3:Int)=(k3:Int):=IntWalk.i64_in _ (by omega)
               have htk:Sx.clauseT ⟨(k1:Int)+1,k2,(k3:Int)+1,ut⟩ = [Sx.nameT Sx.wWhen,Sx.nameT w_1,Sx.nameT w_2,Sx.nameT w_3,Sx.nameT Sx.wUntil,Sx.numT ut,Sx.sgT 59]:=by
                unfold Sx.clauseT
                rw[show ((k1:Int)+1 - 1).toNat=k1 by omega,show ((k2:Int)).toNat=k2 by omega,show ((k3:Int)+1 - 1).toNat=k3 by omega]
                simp only[List.getD_eq_getElem?_getD,hw1,hw2,hw3,Option.getD_some]
               have Htk:=Lh htk
               have HS:=Lh (PI.start hPn.st)
               have Hall:Hid (∀ (w':World) (l':List Lx.Tok),PI g l' W3 w'→w'.cell? ⟨0,0,none⟩=some (.slice (some ⟨b1,o1,none⟩) 5 e1)∧w'.cell? ⟨b1,o1+k1,none⟩=some (.string (Lx.bs w_1))∧w'.cell? ⟨1,0,none⟩=some (.slice (some ⟨b2,o2,none⟩) 3 e2)∧w'.cell? ⟨b2,o2+k2,none⟩=some (.string (Lx.bs w_2))∧w'.cell? ⟨2,0,none⟩=some (.slice (some ⟨b3,o3,none⟩) 3 e3)∧w'.cell? ⟨b3,o3+k3,none⟩=some (.string (Lx.bs w_3))∧w'.cell? ⟨wr.heap.size,0,none⟩=some (.int .i64 ((k1:Int)+1))∧w'.cell? ⟨wr.heap.size,1,none⟩=some (.int .i64 (k2:Int))∧w'.cell? ⟨wr.heap.size,2,none⟩=some (.int .i64 ((k3:Int)+1))∧w'.cell? ⟨wr.heap.size,3,none⟩=some (.int .i64 ut)∧w'.heap.size≥W3.heap.size):=Lh (fun w' l' h=>by
                have bx:=h.blk hbx3 (by decide) (by decide)
                exact ⟨(h.bel.cell (p:=⟨0,0,none⟩) (show 0 < g by omega)).trans g1,(h.bel.cell (p:=⟨b1,_,none⟩) (show b1 < g by omega)).trans v1,(h.bel.cell (p:=⟨1,0,none⟩) (show 1 < g by omega)).trans g2,(h.bel.cell (p:=⟨b2,_,none⟩) (show b2 < g by omega)).trans v2,(h.bel.cell (p:=⟨2,0,none⟩) (show 2 < g by omega)).trans g3,(h.bel.cell (p:=⟨b3,_,none⟩) (show b3 < g by omega)).trans v3,(bx.cell 0).trans rfl,(bx.cell 1).trans rfl,(bx.cell 2).trans rfl,(bx.cell 3).trans rfl,h.bel.size⟩)
               have z1W:b1 < W3.heap.size:=by omega
               have z2W:b2 < W3.heap.size:=by omega
               have z3W:b3 < W3.heap.size:=by omega
               have z4W:0 < W3.heap.size:=by omega
               have z5W:1 < W3.heap.size:=by omega
               have z6W:2 < W3.heap.size:=by omega
               clear hck hxi hle hln hPn hq hbx3 heW hw1 hw2 hw3 htk
               go_wp2_with fail
               rw[←hW3]
               clear hW3 f0 f1 f2 f3
               go_region_held_law (fun w':World=>w'.cell? ⟨0,0,none⟩=some (.slice (some ⟨b1,o1,none⟩) 5 e1)∧w'.cell? ⟨b1,o1+k1,none⟩=some (.string (Lx.bs w_1))∧w'.cell? ⟨1,0,none⟩=some (.slice (some ⟨b2,o2,none⟩) 3 e2)∧w'.cell? ⟨b2,o2+k2,none⟩=some (.string (Lx.bs w_2))∧w'.cell? ⟨2,0,none⟩=some (.slice (some ⟨b3,o3,none⟩) 3 e3)∧w'.cell? ⟨b3,o3+k3,none⟩=some (.string (Lx.bs w_3))∧w'.cell? ⟨wr.heap.size,0,none⟩=some (.int .i64 ((k1:Int)+1))∧w'.cell? ⟨wr.heap.size,1,none⟩=some (.int .i64 (k2:Int))∧w'.cell? ⟨wr.heap.size,2,none⟩=some (.int .i64 ((k3:Int)+1))∧w'.cell? ⟨wr.heap.size,3,none⟩=some (.int .i64 ut)) (first | go_keep) (first
                | (go_at_call 50;refine (HS.out.putDrew [.name Sx.wWhen,.name w_1,.name w_2,.name w_3,.name Sx.wUntil,.num ut,.sign [59]] (ts:=Sx.clauseT ⟨(k1:Int)+1,k2,(k3:Int)+1,ut⟩) (by first | rfl | omega) rfl rfl (by rw [Htk.out];simp[PrIt.toks,Sx.nameT,Sx.sgT,Sx.numT]) (by simp) Hln.out (by simp)).mono ?_;rintro e w5 ⟨rfl,h5⟩;obtain ⟨s1,s2,s3,s4,s5,s6,s7,s8,s9,s10,s11⟩:=Hall.out _ _ h5;have H5:=Lh (HPn.out.trans h5);clear h5))
               all_goals (try go_wp2_with fail)
               all_goals (go_roundg (gk - 1))
               all_goals first
                | omega
                | exact ⟨i+1,by go_num,by omega,Lh (by
                  have:=H5.out
                  rw[List.take_add_one,Hxi.out]
                  simpa using this)⟩
              ·obtain rfl:i=n6:=by omega
               have HQ7:Hid (PI g (T0++T1++T2++T3++T4++T5++T6) V wr):=Lh (by have:=HP.out;rw[Hn6.out,List.take_length,←HT6.out] at this;simpa using this)
               clear HQ6
               obtain ⟨At,ct,g0,hT⟩:=HQ7.out.st.toks (by have:=Hl.out;omega) Hx.out
               have hb4:Below w.heap.size w wr:=HV3.out.trans (HQ7.out.bel.mono hgw)
               have Hfin:=Lh (lTextOk At ct _ s wr (HE.out.next hb4).env hT (by have:=Hl.out;omega) Ht.out)
               have HB4:=Lh hb4
               clear hT hb4 hi hlt
               obtain ⟨lt,hlt⟩:∃ lt,lt=(T0++T1++T2++T3++T4++T5++T6).length:=⟨_,rfl⟩
               rw[←hlt] at g0 Hfin
               clear hlt
               go_wp2_with fail
               refine Hfin.out.mono ?_
               rintro e w6 ⟨rfl,hb6,-⟩
               have HB6:=Lh (HB4.out.trans (hb6.mono HB4.out.size))
               clear hb6
               go_wp2_with fail
               go_ret2
               exact ⟨rfl,HB6.out⟩
end Go.Proofs.YtjonaidancomgaaGreatDoor
