/- Parts of the proof, joined into one text: ZE, ZF, ZG, q1A. -/
import Derived.Test.YtjonaidancomgaaGreatDoorPSxKids
import Derived.Outline
set_option maxHeartbeats 2000000
set_option maxRecDepth 20000
namespace Go.Proofs.YtjonaidancomgaaGreatDoor
open Go.RowKit
theorem Tryz.infoRule:(Tryz.prog.info? 38).map (fun i=>(i.zero,i.size,i.bytes))=some (some (.agg #[.int .i64 0,.int .i64 0,.string ⟨#[]⟩,.int .i64 0,.int .i64 0,.slice none 0 0]),6,72):=by kernel_rfl
theorem Sx.R.assoc {α β γ:Type} (r:Sx.R α) (f:α→List Lx.Tok→Sx.R β) (h:β→List Lx.Tok→Sx.R γ):(r.bind f).bind h=r.bind fun a s=>(f a s).bind h:=by cases r <;> rfl
theorem Sx.pG {last:Int} {k b:Nat} {l l':List Lx.Tok} {r:Sx.Rule} (h:Sx.rule last k b l = .ok r l'):b≠200:=by
  rintro rfl;cases k with
  | zero=>
    unfold Sx.rule at h;cases ho:Sx.oneOf last Sx.ruleWords l with
    | ok a x=>rw [ho] at h;simp[Sx.R.bind,Sx.fail] at h
    | bad p e=>rw [ho] at h;cases h
  | succ k=>
    unfold Sx.rule at h;cases ho:Sx.oneOf last Sx.ruleWords l with
    | ok a x=>rw [ho] at h;simp[Sx.R.bind,Sx.fail] at h
    | bad p e=>rw [ho] at h;cases h
section
variable {g B : Nat} {last : Int} {p : Nat} {op n : Int} {w0 : World} {ks : List Sx.Rule} {css : List (List Value)} {v : Value} {l : List Lx.Tok}
theorem mP.next {gg cap lo:Nat} {r:Sx.Rule} {cs:List Value} {w5 w3:World} (h:mP g B last p op n w0 ks css v l w5) (hr:(∀ z,v.ownBlock=some z→z < lo)∧p < lo∧aB w5 (fun b=>lo≤b∧b < w5.heap.size) r cs) (ob:Obj)
    (hgrow:(w5.alloc ob).grownBy w3 v.ownBlock) (hat:v.ownBlock=some gg∨gg=w5.heap.size+1) (hown:w3.ownsRow p 38 6 (.slice (some ⟨gg,0,none⟩) (ks.length+1) cap) (ks.length+1) (css.flatten++cs)) :
    (w3.cell? ⟨p,5,none⟩=some v∧w3.frozen? ⟨p,5,none⟩=false)∧mP g B last p op n w0 (ks++[r]) (css++[cs]) (.slice (some ⟨gg,0,none⟩) (ks.length+1) cap) l (w3.setCell ⟨p,5,none⟩ (.slice (some ⟨gg,0,none⟩) (ks.length+1) cap)):=
  h.grow hr.2.2 hr.2.1 hr.1 ((Below.refl _ _).alloc (Nat.le_refl _) ob) hgrow (hat.imp id (fun h=>by omega)) hown
end
theorem Rb (N k kk:Nat) (ih:qR N kk) (hk:k=kk+1) (CW:k≤16) (g B:Nat) (l l1:List Lx.Tok) (last:Int) (beside:Nat) (w:World) (h:PS g B last l w) (he:d9 N w) (hN:N≤g) (hO:Sx.oneOf last Sx.ruleWords l = .ok 0 l1) (hbs:((beside:Int) == 200)=false) :
    Calls Tryz.prog 45 #[.pointer (some ⟨g,0,none⟩),.int .i64 (17 - (k:Int)),.int .i64 beside] w (dH g B last w (iF w.heap.size) (Sx.rule last k beside l)):=by
  have hR0:Sx.rule last k beside l=(Sx.sign last 123 l1).bind fun _ l=>(Sx.kids last (Sx.rule last kk) l.length.succ [] l).bind fun ks l=>.ok (.mk 1 0 [] 0 0 ks) l:=by
    subst hk;rw[Sx.rule,hO,Sx.fU,if_neg (by simp only [beq_eq_false_iff_ne] at hbs;omega)]
    first | rfl | (unfold Sx.cB;rw[if_pos (by omega)])
  obtain ⟨R,hR⟩:∃ R,R=Sx.rule last k beside l:=⟨_,rfl⟩
  rw[←hR];rw[hR0] at hR;have hlv:¬ 16 < 17 - (k:Int):=by omega
  have CX:(k:Int)≤kk+1:=by omega
  have CY:(kk:Int)+1≤k:=by omega
  have BG:=Lh ih;have hlv3:(((1:Int) == 4)=false):=by decide
  clear hR0 hk ih;have hlt:=h.lt;obtain ⟨⟨A,c,hb,hT,hcap⟩,hB⟩:=h;have c0:=hb.cell 0;have c1:=hb.cell 1;simp at c0 c1;have hps:PS g B last l w:=⟨⟨A,c,hb,hT,hcap⟩,hB⟩
  obtain ⟨n,hn⟩:∃ n,n=l.length:=⟨_,rfl⟩
  rw[←hn] at c0;have hb1:Below w.heap.size w (w.alloc (.cells #[.int .i64 0,.int .i64 0,.string ⟨#[]⟩,.int .i64 0,.int .i64 0,.slice none 0 0] 38)):=(Below.refl _ _).alloc (Nat.le_refl _) _;have hb2:Below w.heap.size w ((w.alloc (.cells #[.int .i64 0,.int .i64 0,.string ⟨#[]⟩,.int .i64 0,.int .i64 0,.slice none 0 0] 38)).alloc (.cells #[.slice A n c,.int .i64 last] 143)):=hb1.alloc (by simp) _
  have L:Hid (jE g B last l w.heap.size #[.int .i64 0,.int .i64 0,.string ⟨#[]⟩,.int .i64 0,.int .i64 0,.slice none 0 0] w ((w.alloc (.cells #[.int .i64 0,.int .i64 0,.string ⟨#[]⟩,.int .i64 0,.int .i64 0,.slice none 0 0] 38)).alloc (.cells #[.slice A n c,.int .i64 last] 143))):=Lh ⟨hps.next hb2,eP.below hb2 hlt,(aC.new w _ _).alloc _,Nat.le_refl _,hlt⟩
  have Xb:Hid (aC ((w.alloc (.cells #[.int .i64 0,.int .i64 0,.string ⟨#[]⟩,.int .i64 0,.int .i64 0,.slice none 0 0] 38)).alloc (.cells #[.slice A n c,.int .i64 last] 143)) (w.heap.size+1) 143 #[.slice A n c,.int .i64 last]):=Lh (aC.aZ _ _ (by simp));obtain ⟨bw,ow,cw,hg,hgN,hw⟩:=(he.keep (hb2.mono he.size)).rule;have DN:=he.size;have hgw:3 < w.heap.size:=by omega
  have hg0:w.cell? ⟨3,0,none⟩=some (.slice (some ⟨bw,ow,none⟩) 9 cw):=(hb2.cell (p:=⟨3,0,none⟩) hgw).symm.trans hg;have HO:=Lh hO;have HW:=Lh hw;have HE:=Lh he;have HR:=Lh hR;have HT:=Lh hT;have Hn:=Lh hn;have fI:=Lh (fun (W:World) (hW:PS g B last l W) (vO:fC W N bw ow Sx.ruleWords)=>iH g B N bw ow cw Sx.ruleWords l last W hW vO hN (by decide));rw[show Sx.ruleWords.length=9 from rfl] at fI;clear hO hR hb hT hn hb1 hb2 hps hw he hg;obtain ⟨i0,hi0,hz0,hz1,hz2⟩:=info_parts Tryz.infoRule;go_enter Tryz.func45,Tryz.ntmps45;go_wp2_with fail;refine (fI.out _ L.out.ps HW.out).mono ?_
  intro e w1 he
  rcases he.split with ⟨p,x,hv,rfl,hf⟩ | ⟨i1,l1,v,hv,rfl,hV,hs,hf⟩
  · rw[HO.out] at hv;cases hv
  rw[HO.out] at hv;injection hv with h1 h2;subst h1;subst h2;unfold gJ at hV;subst hV;clear he;have hs1:=hf.aY.size;have hp0:w.heap.size < w1.heap.size:=by have:=L.out.blk.lt;omega
  have L1:=L.out.step hf hs;have E1:=Lh ((HE.out).fr L1.fr hN);have z0:=L1.blk.cell 0;have KI:=L1.blk.free 0;simp at z0;have M:Hid (jE g B last l1 w.heap.size #[.int .i64 1,.int .i64 0,.string ⟨#[]⟩,.int .i64 0,.int .i64 0,.slice none 0 0] w (w1.setCell ⟨w.heap.size,0,none⟩ (.int .i64 1))):=Lh (L1.set 0 (.int .i64 1));have EM:=Lh (E1.out.keep (N:=N) (Below.setCell (Below.refl N w1) (show N≤(⟨w.heap.size,0,none⟩:Addr).block from (by show N≤w.heap.size;omega)) (.int .i64 1)));clear hf hs L1 L Xb fI HW HT c0 c1;go_wp2_with fail
  replace HR:Hid (R=(Sx.sign last 123 l1).bind fun _ l=>(Sx.kids last (Sx.rule last kk) l.length.succ [] l).bind fun ks l=>.ok (.mk 1 0 [] 0 0 ks) l):=HR;refine (iA g B l1 last 123 _ M.out.ps).mono ?_;intro e w2 he
  rcases he.split with ⟨p,x,hv,rfl,hf⟩ | ⟨u,l2,v,hv,rfl,hV,hs,hf⟩
  · exact ⟨rfl,dH.aM (Sx.aR HR.out hv) (M.out.fr.trans hf)⟩
  unfold fQ at hV;subst hV;replace HR:=Lh (Sx.go_ok HR.out hv);have M2:=M.out.step hf hs;have K0:=Lh (mP.start M2);clear hv hs hf he M2 M;go_wp2_with fail
  go_loopg [] l2.length (fun gk wr=>∃ ks css v l3,Hid (R=(Sx.kids last (Sx.rule last kk) (gk+1) ks l3).bind fun ks l=>.ok (.mk 1 0 [] 0 0 ks) l)∧Hid (mP g B last w.heap.size 1 0 w ks css v l3 wr)∧Hid (l3.length≤gk)∧Hid (ks.length≤200))
  case atStart=>exact ⟨[],[],.slice none 0 0,l2,HR,K0,Lh (Nat.le_refl _),Lh (by simp)⟩
  case round=>
    clear HR K0;obtain ⟨ks,css,v,l3,HR,HK,Hk,pI⟩:=hrel;go_wp2_with fail;refine (qD g B l3 last _ _ HK.out.st.ps).mono ?_;rw[show (⟨#[125]⟩:ByteArray).data.toList = [125] from rfl];rintro e w4 ⟨he,hs4,CZ⟩;cases hh:Sx.hit 3 [125] l3 with
    | true=>
      rw[hh] at he hs4;replace HR:Hid (R = .ok (.mk 1 0 [] 0 0 ks) l3.tail):=Lh (by rw [HR.out,Sx.kids,hh];rfl);have hK4:=HK.out.step CZ hs4;subst he;have hL:=hK4.st;have hout:=Lh (hK4.out pI.out);have q0:=hL.blk.cell 0;have BK:=hL.blk.free 0;have q1:=hL.blk.cell 1;have C8:=hL.blk.free 1;have q2:=hL.blk.cell 2;have yA:=hL.blk.free 2;have q3:=hL.blk.cell 3;have sQ:=hL.blk.free 3;have q4:=hL.blk.cell 4;have BI:=hL.blk.free 4;have q5:=hL.blk.cell 5;have BJ:=hL.blk.free 5;simp at q0 q1 q2 q3 q4 q5;obtain ⟨Av,nv,cv,hv⟩:∃ Av nv cv,v = .slice Av nv cv:=by
        rcases hK4.own.2 with ⟨e,-⟩ | ⟨z,cap,cur,e,-⟩
        · exact ⟨_,_,_,e⟩
        · exact ⟨_,_,_,e⟩
      have HL:=Lh hL;subst hv;have hwl:=hL.blk.lt;clear hh hs4 CZ HK hK4 hL;go_wp2_with fail;obtain ⟨V,hV⟩:∃ V,V=((((((w4.setCell ⟨w.heap.size,0,none⟩ (.int .i64 1)).setCell ⟨w.heap.size,1,none⟩ (.int .i64 0)).setCell ⟨w.heap.size,2,none⟩ (.string ⟨#[]⟩)).setCell ⟨w.heap.size,3,none⟩ (.int .i64 0)).setCell ⟨w.heap.size,4,none⟩ (.int .i64 0)).setCell ⟨w.heap.size,5,none⟩ (.slice Av nv cv)):=⟨_,rfl⟩
      have uZ:jE g B last l3.tail w.heap.size #[.int .i64 1,.int .i64 0,.string ⟨#[]⟩,.int .i64 0,.int .i64 0,.slice Av nv cv] w V:=by
        rw[hV];have:=(((((HL.out.set 0 (.int .i64 1)).set 1 (.int .i64 0)).set 2 (.string ⟨#[]⟩)).set 3 (.int .i64 0)).set 4 (.int .i64 0)).set 5 (.slice Av nv cv);simpa using this
      have d0:=uZ.blk.cell 0;have d1:=uZ.blk.cell 1;have d2:=uZ.blk.cell 2;have d3:=uZ.blk.cell 3;have d4:=uZ.blk.cell 4;have d5:=uZ.blk.cell 5;simp at d0 d1 d2 d3 d4 d5;have tN:V.heap.size=w4.heap.size:=by rw [hV];simp[World.setCell]
      have vI:∀ b,b≠w.heap.size→V.heap[b]?=w4.heap[b]?:=fun b h1=>by
        rw[hV,Below.heap_setCell _ _ _ b h1,Below.heap_setCell _ _ _ b h1,Below.heap_setCell _ _ _ b h1,Below.heap_setCell _ _ _ b h1,Below.heap_setCell _ _ _ b h1,Below.heap_setCell _ _ _ b h1]
      rw[←hV];clear hV;exact bodyPost_ret (v:=.agg #[.int .i64 1,.int .i64 0,.string ⟨#[]⟩,.int .i64 0,.int .i64 0,.slice Av nv cv]) (by simp [results,Tryz.results45,go_sem,d0,d1,d2,d3,d4,d5]) rfl (by rw [HR.out];exact ⟨_,rfl,⟨_,rfl,aB.keep (fun b hb=>⟨⟨by have:=hb.1;omega,by rw [tN];exact hb.2⟩,fun i=>World.cell?_of_block (a:=⟨b,i,none⟩) (vI b (by have:=hb.1;omega))⟩) _ _ hout.out⟩,uZ.ps,uZ.fr⟩)
    | false=>
      rw[hh] at he hs4;replace HR:Hid (R=(Sx.rule last kk ks.length l3).bind fun r l=>(Sx.sign last 59 l).bind fun _ l=>(Sx.kids last (Sx.rule last kk) gk (ks++[r]) l).bind fun ks l=>.ok (.mk 1 0 [] 0 0 ks) l):=Lh (by rw [HR.out,Sx.kids,hh,if_neg (by simp),Sx.R.assoc];congr 1;funext r l;rw[Sx.R.assoc]);have hK4:=HK.out.step CZ (show PS g B last l3 w4 from hs4);obtain ⟨Av,cv,hv⟩:∃ Av cv,v = .slice Av ks.length cv:=by
        rcases hK4.own.2 with ⟨e,e0⟩ | ⟨z,cap,cur,e,-⟩
        · exact ⟨_,_,by rw [e,e0]⟩
        · exact ⟨_,_,e⟩
      subst hv;subst he;have KJ:=hK4.step (eP.below (ay (Below.refl _ _) 1) (by have:=hK4.st.fr.aY.size;omega)) (hK4.st.ps.next (ay (Below.refl _ _) 1));have c5:=hK4.st.blk.cell 5;have cf5:=hK4.st.blk.free 5;simp at c5;have SN:=hK4.st.blk.lt;have xA:=Lh KJ;have VD:=Lh (HE.out.fr KJ.st.fr hN);have e0:IntKind.i64.wrap (17 - (k:Int)+1)=17 - (kk:Int):=by rw [show 17 - (k:Int)+1=17 - (kk:Int) by omega];exact IntWalk.i64_in _ (by omega)
      have vg:=Lh (fun (W:World) (hW:PS g B last l3 W) (hE:d9 N W)=>BG.out g B l3 last ks.length W hW hE hN pI.out);rw[←e0] at vg;clear hh hs4 CZ HK hK4 KJ e0;go_wp2_with fail
      go_region_law (first
        | (refine step_append_lies _ rfl _ _ _ rfl w.heap.size 38 i0 _ 6 72 Tryz.underlying36 hi0 hz0 hz1 hz2 rfl (by omega) (.slice Av ks.length cv) ks.length _ rfl (Mi.out.own.alloc _) ⟨w5.heap.size,0,none⟩ 1 1 [.int .i64 zQ,.int .i64 zR,.string (Lx.bs zS),.int .i64 nk,.int .i64 dk,.slice Ak zT.length ck] rfl rfl (World.news_of_block (cs:=#[.int .i64 zQ,.int .i64 zR,.string (Lx.bs zS),.int .i64 nk,.int .i64 dk,.slice Ak zT.length ck]) (t:=38) (fr:=(0,0)) (heap_alloc_new w5 _)) (by simp [Value.oneCell']) (by omega) (by unfold maxLen;have:=pI.out;omega) (by have:=pI.out;omega) (by simp;omega) (w5.heap.size+1) (by simp) ?_;intro gg cap w3 hown3 hgrow3 qX hlt3;have hQ:=Mi.out.next VE.out _ hgrow3 qX hown3;have d5:=hQ.1.1;have Iw:=hQ.1.2;have HP:=Lh hQ.2;clear hQ hown3 hgrow3 qX)
        | (go_simp;go_at_call 45;refine (vg.out _ xA.out.st.ps VD.out).mono ?_;intro e w5 he;rcases he.split with ⟨p,x,hv,rfl,hf⟩ | ⟨m,l5,v5,hv,rfl,hV,hs,hf⟩;(exact ⟨rfl,dH.aM (Sx.aR HR.out hv) (xA.out.st.fr.trans hf)⟩);obtain ⟨ZH,hV,hra⟩:=hV;obtain ⟨zQ,zR,zS,nk,dk,zT⟩:=m;have iG:=hra;rw[aB] at hra;obtain ⟨Ak,ck,rfl,-,-,-⟩:=hra;unfold aT bB at hV;subst hV;have Po:=Sx.pG hv;have VF:=Sx.kT last kk ks.length l3 _ _ hv;have rZ:=Lh (Sx.go_ok HR.out hv);have C9:=xA.out.step hf hs;have e5:=C9.st.blk.cell 5;have ef5:=C9.st.blk.free 5;simp at e5;have hp5:=C9.st.blk.lt;have Mi:=Lh C9;have VE:Hid ((∀ z,(Value.slice Av ks.length cv).ownBlock=some z→z < w4.drew.heap.size)∧w.heap.size < w4.drew.heap.size∧aB w5 (fun b=>w4.drew.heap.size≤b∧b < w5.heap.size) (.mk zQ zR zS nk dk zT) [.int .i64 zQ,.int .i64 zR,.string (Lx.bs zS),.int .i64 nk,.int .i64 dk,.slice Ak zT.length ck]):=Lh ⟨fun z hz=>kY xA.out.own hz,xA.out.st.blk.lt,iG⟩;clear hv hs hf he iG C9))
      all_goals (try go_wp2_with fail)
      all_goals refine (iA g B l5 last 59 _ HP.out.st.ps).mono ?_
      all_goals intro e w6 he
      all_goals rcases he.split with ⟨p,x,hv,rfl,hf⟩ | ⟨u,l6,v6,hv,rfl,hV,hs,hf⟩
      all_goals first
        | exact ⟨rfl,dH.aM (Sx.aR rZ.out hv) (HP.out.st.fr.trans hf)⟩
        | (unfold fQ at hV
           subst hV;have Pp:=Sx.bK last _ _ _ _ _ hv;have xJ:=Lh (Sx.go_ok rZ.out hv);have VG:=Lh (HP.out.step hf hs);clear hv hs hf he HP rZ;go_wp2_with fail
           go_roundg (gk - 1)
           all_goals first
             | (have hk1:=Hk.out;omega)
             | (have hk1:=Hk.out
                have Pq:=pI.out;exact ⟨_,_,_,l6,Lh (by rw [show gk - 1+1=gk by omega];exact xJ.out),Lh VG.out,Lh (by omega),Lh (by simp;omega)⟩))
theorem Rc (N k kk:Nat) (ih:qR N kk) (hk:k=kk+1) (CW:k≤16) (g B:Nat) (l l1:List Lx.Tok) (last:Int) (beside:Nat) (w:World) (h:PS g B last l w) (he:d9 N w) (hN:N≤g) (hO:Sx.oneOf last Sx.ruleWords l = .ok 1 l1) (hbs:((beside:Int) == 200)=false) :
    Calls Tryz.prog 45 #[.pointer (some ⟨g,0,none⟩),.int .i64 (17 - (k:Int)),.int .i64 beside] w (dH g B last w (iF w.heap.size) (Sx.rule last k beside l)):=by
  have hR0:Sx.rule last k beside l=(Sx.sign last 123 l1).bind fun _ l=>(Sx.kids last (Sx.rule last kk) l.length.succ [] l).bind fun ks l=>.ok (.mk 2 0 [] 0 0 ks) l:=by
    subst hk;rw[Sx.rule,hO,Sx.fU,if_neg (by simp only [beq_eq_false_iff_ne] at hbs;omega)]
    first | rfl | (unfold Sx.cB;rw[if_pos (by omega)])
  obtain ⟨R,hR⟩:∃ R,R=Sx.rule last k beside l:=⟨_,rfl⟩
  rw[←hR];rw[hR0] at hR;have hlv:¬ 16 < 17 - (k:Int):=by omega
  have CX:(k:Int)≤kk+1:=by omega
  have CY:(kk:Int)+1≤k:=by omega
  have BG:=Lh ih;have hlv3:(((2:Int) == 4)=false):=by decide
  clear hR0 hk ih;have hlt:=h.lt;obtain ⟨⟨A,c,hb,hT,hcap⟩,hB⟩:=h;have c0:=hb.cell 0;have c1:=hb.cell 1;simp at c0 c1;have hps:PS g B last l w:=⟨⟨A,c,hb,hT,hcap⟩,hB⟩
  obtain ⟨n,hn⟩:∃ n,n=l.length:=⟨_,rfl⟩
  rw[←hn] at c0;have hb1:Below w.heap.size w (w.alloc (.cells #[.int .i64 0,.int .i64 0,.string ⟨#[]⟩,.int .i64 0,.int .i64 0,.slice none 0 0] 38)):=(Below.refl _ _).alloc (Nat.le_refl _) _;have hb2:Below w.heap.size w ((w.alloc (.cells #[.int .i64 0,.int .i64 0,.string ⟨#[]⟩,.int .i64 0,.int .i64 0,.slice none 0 0] 38)).alloc (.cells #[.slice A n c,.int .i64 last] 143)):=hb1.alloc (by simp) _
  have L:Hid (jE g B last l w.heap.size #[.int .i64 0,.int .i64 0,.string ⟨#[]⟩,.int .i64 0,.int .i64 0,.slice none 0 0] w ((w.alloc (.cells #[.int .i64 0,.int .i64 0,.string ⟨#[]⟩,.int .i64 0,.int .i64 0,.slice none 0 0] 38)).alloc (.cells #[.slice A n c,.int .i64 last] 143))):=Lh ⟨hps.next hb2,eP.below hb2 hlt,(aC.new w _ _).alloc _,Nat.le_refl _,hlt⟩
  have Xb:Hid (aC ((w.alloc (.cells #[.int .i64 0,.int .i64 0,.string ⟨#[]⟩,.int .i64 0,.int .i64 0,.slice none 0 0] 38)).alloc (.cells #[.slice A n c,.int .i64 last] 143)) (w.heap.size+1) 143 #[.slice A n c,.int .i64 last]):=Lh (aC.aZ _ _ (by simp));obtain ⟨bw,ow,cw,hg,hgN,hw⟩:=(he.keep (hb2.mono he.size)).rule;have DN:=he.size;have hgw:3 < w.heap.size:=by omega
  have hg0:w.cell? ⟨3,0,none⟩=some (.slice (some ⟨bw,ow,none⟩) 9 cw):=(hb2.cell (p:=⟨3,0,none⟩) hgw).symm.trans hg;have HO:=Lh hO;have HW:=Lh hw;have HE:=Lh he;have HR:=Lh hR;have HT:=Lh hT;have Hn:=Lh hn;have fI:=Lh (fun (W:World) (hW:PS g B last l W) (vO:fC W N bw ow Sx.ruleWords)=>iH g B N bw ow cw Sx.ruleWords l last W hW vO hN (by decide));rw[show Sx.ruleWords.length=9 from rfl] at fI;clear hO hR hb hT hn hb1 hb2 hps hw he hg;obtain ⟨i0,hi0,hz0,hz1,hz2⟩:=info_parts Tryz.infoRule;go_enter Tryz.func45,Tryz.ntmps45;go_wp2_with fail;refine (fI.out _ L.out.ps HW.out).mono ?_
  intro e w1 he
  rcases he.split with ⟨p,x,hv,rfl,hf⟩ | ⟨i1,l1,v,hv,rfl,hV,hs,hf⟩
  · rw[HO.out] at hv;cases hv
  rw[HO.out] at hv;injection hv with h1 h2;subst h1;subst h2;unfold gJ at hV;subst hV;clear he;have hs1:=hf.aY.size;have hp0:w.heap.size < w1.heap.size:=by have:=L.out.blk.lt;omega
  have L1:=L.out.step hf hs;have E1:=Lh ((HE.out).fr L1.fr hN);have z0:=L1.blk.cell 0;have KI:=L1.blk.free 0;simp at z0;have M:Hid (jE g B last l1 w.heap.size #[.int .i64 2,.int .i64 0,.string ⟨#[]⟩,.int .i64 0,.int .i64 0,.slice none 0 0] w (w1.setCell ⟨w.heap.size,0,none⟩ (.int .i64 2))):=Lh (L1.set 0 (.int .i64 2));have EM:=Lh (E1.out.keep (N:=N) (Below.setCell (Below.refl N w1) (show N≤(⟨w.heap.size,0,none⟩:Addr).block from (by show N≤w.heap.size;omega)) (.int .i64 2)));clear hf hs L1 L Xb fI HW HT c0 c1;go_wp2_with fail
  replace HR:Hid (R=(Sx.sign last 123 l1).bind fun _ l=>(Sx.kids last (Sx.rule last kk) l.length.succ [] l).bind fun ks l=>.ok (.mk 2 0 [] 0 0 ks) l):=HR;refine (iA g B l1 last 123 _ M.out.ps).mono ?_;intro e w2 he
  rcases he.split with ⟨p,x,hv,rfl,hf⟩ | ⟨u,l2,v,hv,rfl,hV,hs,hf⟩
  · exact ⟨rfl,dH.aM (Sx.aR HR.out hv) (M.out.fr.trans hf)⟩
  unfold fQ at hV;subst hV;replace HR:=Lh (Sx.go_ok HR.out hv);have M2:=M.out.step hf hs;have K0:=Lh (mP.start M2);clear hv hs hf he M2 M;go_wp2_with fail
  go_loopg [] l2.length (fun gk wr=>∃ ks css v l3,Hid (R=(Sx.kids last (Sx.rule last kk) (gk+1) ks l3).bind fun ks l=>.ok (.mk 2 0 [] 0 0 ks) l)∧Hid (mP g B last w.heap.size 2 0 w ks css v l3 wr)∧Hid (l3.length≤gk)∧Hid (ks.length≤200))
  case atStart=>exact ⟨[],[],.slice none 0 0,l2,HR,K0,Lh (Nat.le_refl _),Lh (by simp)⟩
  case round=>
    clear HR K0;obtain ⟨ks,css,v,l3,HR,HK,Hk,pI⟩:=hrel;go_wp2_with fail;refine (qD g B l3 last _ _ HK.out.st.ps).mono ?_;rw[show (⟨#[125]⟩:ByteArray).data.toList = [125] from rfl];rintro e w4 ⟨he,hs4,CZ⟩;cases hh:Sx.hit 3 [125] l3 with
    | true=>
      rw[hh] at he hs4;replace HR:Hid (R = .ok (.mk 2 0 [] 0 0 ks) l3.tail):=Lh (by rw [HR.out,Sx.kids,hh];rfl);have hK4:=HK.out.step CZ hs4;subst he;have hL:=hK4.st;have hout:=Lh (hK4.out pI.out);have q0:=hL.blk.cell 0;have BK:=hL.blk.free 0;have q1:=hL.blk.cell 1;have C8:=hL.blk.free 1;have q2:=hL.blk.cell 2;have yA:=hL.blk.free 2;have q3:=hL.blk.cell 3;have sQ:=hL.blk.free 3;have q4:=hL.blk.cell 4;have BI:=hL.blk.free 4;have q5:=hL.blk.cell 5;have BJ:=hL.blk.free 5;simp at q0 q1 q2 q3 q4 q5;obtain ⟨Av,nv,cv,hv⟩:∃ Av nv cv,v = .slice Av nv cv:=by
        rcases hK4.own.2 with ⟨e,-⟩ | ⟨z,cap,cur,e,-⟩
        · exact ⟨_,_,_,e⟩
        · exact ⟨_,_,_,e⟩
      have HL:=Lh hL;subst hv;have hwl:=hL.blk.lt;clear hh hs4 CZ HK hK4 hL;go_wp2_with fail;obtain ⟨V,hV⟩:∃ V,V=((((((w4.setCell ⟨w.heap.size,0,none⟩ (.int .i64 2)).setCell ⟨w.heap.size,1,none⟩ (.int .i64 0)).setCell ⟨w.heap.size,2,none⟩ (.string ⟨#[]⟩)).setCell ⟨w.heap.size,3,none⟩ (.int .i64 0)).setCell ⟨w.heap.size,4,none⟩ (.int .i64 0)).setCell ⟨w.heap.size,5,none⟩ (.slice Av nv cv)):=⟨_,rfl⟩
      have uZ:jE g B last l3.tail w.heap.size #[.int .i64 2,.int .i64 0,.string ⟨#[]⟩,.int .i64 0,.int .i64 0,.slice Av nv cv] w V:=by
        rw[hV];have:=(((((HL.out.set 0 (.int .i64 2)).set 1 (.int .i64 0)).set 2 (.string ⟨#[]⟩)).set 3 (.int .i64 0)).set 4 (.int .i64 0)).set 5 (.slice Av nv cv);simpa using this
      have d0:=uZ.blk.cell 0;have d1:=uZ.blk.cell 1;have d2:=uZ.blk.cell 2;have d3:=uZ.blk.cell 3;have d4:=uZ.blk.cell 4;have d5:=uZ.blk.cell 5;simp at d0 d1 d2 d3 d4 d5;have tN:V.heap.size=w4.heap.size:=by rw [hV];simp[World.setCell]
      have vI:∀ b,b≠w.heap.size→V.heap[b]?=w4.heap[b]?:=fun b h1=>by
        rw[hV,Below.heap_setCell _ _ _ b h1,Below.heap_setCell _ _ _ b h1,Below.heap_setCell _ _ _ b h1,Below.heap_setCell _ _ _ b h1,Below.heap_setCell _ _ _ b h1,Below.heap_setCell _ _ _ b h1]
      rw[←hV];clear hV;exact bodyPost_ret (v:=.agg #[.int .i64 2,.int .i64 0,.string ⟨#[]⟩,.int .i64 0,.int .i64 0,.slice Av nv cv]) (by simp [results,Tryz.results45,go_sem,d0,d1,d2,d3,d4,d5]) rfl (by rw [HR.out];exact ⟨_,rfl,⟨_,rfl,aB.keep (fun b hb=>⟨⟨by have:=hb.1;omega,by rw [tN];exact hb.2⟩,fun i=>World.cell?_of_block (a:=⟨b,i,none⟩) (vI b (by have:=hb.1;omega))⟩) _ _ hout.out⟩,uZ.ps,uZ.fr⟩)
    | false=>
      rw[hh] at he hs4;replace HR:Hid (R=(Sx.rule last kk ks.length l3).bind fun r l=>(Sx.sign last 59 l).bind fun _ l=>(Sx.kids last (Sx.rule last kk) gk (ks++[r]) l).bind fun ks l=>.ok (.mk 2 0 [] 0 0 ks) l):=Lh (by rw [HR.out,Sx.kids,hh,if_neg (by simp),Sx.R.assoc];congr 1;funext r l;rw[Sx.R.assoc]);have hK4:=HK.out.step CZ (show PS g B last l3 w4 from hs4);obtain ⟨Av,cv,hv⟩:∃ Av cv,v = .slice Av ks.length cv:=by
        rcases hK4.own.2 with ⟨e,e0⟩ | ⟨z,cap,cur,e,-⟩
        · exact ⟨_,_,by rw [e,e0]⟩
        · exact ⟨_,_,e⟩
      subst hv;subst he;have KJ:=hK4.step (eP.below (ay (Below.refl _ _) 1) (by have:=hK4.st.fr.aY.size;omega)) (hK4.st.ps.next (ay (Below.refl _ _) 1));have c5:=hK4.st.blk.cell 5;have cf5:=hK4.st.blk.free 5;simp at c5;have SN:=hK4.st.blk.lt;have xA:=Lh KJ;have VD:=Lh (HE.out.fr KJ.st.fr hN);have e0:IntKind.i64.wrap (17 - (k:Int)+1)=17 - (kk:Int):=by rw [show 17 - (k:Int)+1=17 - (kk:Int) by omega];exact IntWalk.i64_in _ (by omega)
      have vg:=Lh (fun (W:World) (hW:PS g B last l3 W) (hE:d9 N W)=>BG.out g B l3 last ks.length W hW hE hN pI.out);rw[←e0] at vg;clear hh hs4 CZ HK hK4 KJ e0;go_wp2_with fail
      go_region_law (first
        | (refine step_append_lies _ rfl _ _ _ rfl w.heap.size 38 i0 _ 6 72 Tryz.underlying36 hi0 hz0 hz1 hz2 rfl (by omega) (.slice Av ks.length cv) ks.length _ rfl (Mi.out.own.alloc _) ⟨w5.heap.size,0,none⟩ 1 1 [.int .i64 zQ,.int .i64 zR,.string (Lx.bs zS),.int .i64 nk,.int .i64 dk,.slice Ak zT.length ck] rfl rfl (World.news_of_block (cs:=#[.int .i64 zQ,.int .i64 zR,.string (Lx.bs zS),.int .i64 nk,.int .i64 dk,.slice Ak zT.length ck]) (t:=38) (fr:=(0,0)) (heap_alloc_new w5 _)) (by simp [Value.oneCell']) (by omega) (by unfold maxLen;have:=pI.out;omega) (by have:=pI.out;omega) (by simp;omega) (w5.heap.size+1) (by simp) ?_;intro gg cap w3 hown3 hgrow3 qX hlt3;have hQ:=Mi.out.next VE.out _ hgrow3 qX hown3;have d5:=hQ.1.1;have Iw:=hQ.1.2;have HP:=Lh hQ.2;clear hQ hown3 hgrow3 qX)
        | (go_simp;go_at_call 45;refine (vg.out _ xA.out.st.ps VD.out).mono ?_;intro e w5 he;rcases he.split with ⟨p,x,hv,rfl,hf⟩ | ⟨m,l5,v5,hv,rfl,hV,hs,hf⟩;(exact ⟨rfl,dH.aM (Sx.aR HR.out hv) (xA.out.st.fr.trans hf)⟩);obtain ⟨ZH,hV,hra⟩:=hV;obtain ⟨zQ,zR,zS,nk,dk,zT⟩:=m;have iG:=hra;rw[aB] at hra;obtain ⟨Ak,ck,rfl,-,-,-⟩:=hra;unfold aT bB at hV;subst hV;have Po:=Sx.pG hv;have VF:=Sx.kT last kk ks.length l3 _ _ hv;have rZ:=Lh (Sx.go_ok HR.out hv);have C9:=xA.out.step hf hs;have e5:=C9.st.blk.cell 5;have ef5:=C9.st.blk.free 5;simp at e5;have hp5:=C9.st.blk.lt;have Mi:=Lh C9;have VE:Hid ((∀ z,(Value.slice Av ks.length cv).ownBlock=some z→z < w4.drew.heap.size)∧w.heap.size < w4.drew.heap.size∧aB w5 (fun b=>w4.drew.heap.size≤b∧b < w5.heap.size) (.mk zQ zR zS nk dk zT) [.int .i64 zQ,.int .i64 zR,.string (Lx.bs zS),.int .i64 nk,.int .i64 dk,.slice Ak zT.length ck]):=Lh ⟨fun z hz=>kY xA.out.own hz,xA.out.st.blk.lt,iG⟩;clear hv hs hf he iG C9))
      all_goals (try go_wp2_with fail)
      all_goals refine (iA g B l5 last 59 _ HP.out.st.ps).mono ?_
      all_goals intro e w6 he
      all_goals rcases he.split with ⟨p,x,hv,rfl,hf⟩ | ⟨u,l6,v6,hv,rfl,hV,hs,hf⟩
      all_goals first
        | exact ⟨rfl,dH.aM (Sx.aR rZ.out hv) (HP.out.st.fr.trans hf)⟩
        | (unfold fQ at hV
           subst hV;have Pp:=Sx.bK last _ _ _ _ _ hv;have xJ:=Lh (Sx.go_ok rZ.out hv);have VG:=Lh (HP.out.step hf hs);clear hv hs hf he HP rZ;go_wp2_with fail
           go_roundg (gk - 1)
           all_goals first
             | (have hk1:=Hk.out;omega)
             | (have hk1:=Hk.out
                have Pq:=pI.out;exact ⟨_,_,_,l6,Lh (by rw [show gk - 1+1=gk by omega];exact xJ.out),Lh VG.out,Lh (by omega),Lh (by simp;omega)⟩))
theorem Rf (N k kk:Nat) (ih:qR N kk) (hk:k=kk+1) (CW:k≤16) (g B:Nat) (l l1:List Lx.Tok) (last:Int) (beside:Nat) (w:World) (h:PS g B last l w) (he:d9 N w) (hN:N≤g) (hO:Sx.oneOf last Sx.ruleWords l = .ok 2 l1) (hbs:((beside:Int) == 200)=false) :
    Calls Tryz.prog 45 #[.pointer (some ⟨g,0,none⟩),.int .i64 (17 - (k:Int)),.int .i64 beside] w (dH g B last w (iF w.heap.size) (Sx.rule last k beside l)):=by
  have hR0:Sx.rule last k beside l=(Sx.number last 0 200 l1).bind fun n l=>(Sx.sign last 123 l).bind fun _ l=>(Sx.kids last (Sx.rule last kk) l.length.succ [] l).bind fun ks l=>.ok (.mk 3 0 [] n 0 ks) l:=by
    subst hk;rw[Sx.rule,hO,Sx.fU,if_neg (by simp only [beq_eq_false_iff_ne] at hbs;omega)]
    first | rfl | (unfold Sx.cB;rw[if_pos (by omega)])
  obtain ⟨R,hR⟩:∃ R,R=Sx.rule last k beside l:=⟨_,rfl⟩
  rw[←hR];rw[hR0] at hR;have hlv:¬ 16 < 17 - (k:Int):=by omega
  have CX:(k:Int)≤kk+1:=by omega
  have CY:(kk:Int)+1≤k:=by omega
  have BG:=Lh ih;have hlv3:(((3:Int) == 4)=false):=by decide
  clear hR0 hk ih;have hlt:=h.lt;obtain ⟨⟨A,c,hb,hT,hcap⟩,hB⟩:=h;have c0:=hb.cell 0;have c1:=hb.cell 1;simp at c0 c1;have hps:PS g B last l w:=⟨⟨A,c,hb,hT,hcap⟩,hB⟩
  obtain ⟨n,hn⟩:∃ n,n=l.length:=⟨_,rfl⟩
  rw[←hn] at c0;have hb1:Below w.heap.size w (w.alloc (.cells #[.int .i64 0,.int .i64 0,.string ⟨#[]⟩,.int .i64 0,.int .i64 0,.slice none 0 0] 38)):=(Below.refl _ _).alloc (Nat.le_refl _) _;have hb2:Below w.heap.size w ((w.alloc (.cells #[.int .i64 0,.int .i64 0,.string ⟨#[]⟩,.int .i64 0,.int .i64 0,.slice none 0 0] 38)).alloc (.cells #[.slice A n c,.int .i64 last] 143)):=hb1.alloc (by simp) _
  have L:Hid (jE g B last l w.heap.size #[.int .i64 0,.int .i64 0,.string ⟨#[]⟩,.int .i64 0,.int .i64 0,.slice none 0 0] w ((w.alloc (.cells #[.int .i64 0,.int .i64 0,.string ⟨#[]⟩,.int .i64 0,.int .i64 0,.slice none 0 0] 38)).alloc (.cells #[.slice A n c,.int .i64 last] 143))):=Lh ⟨hps.next hb2,eP.below hb2 hlt,(aC.new w _ _).alloc _,Nat.le_refl _,hlt⟩
  have Xb:Hid (aC ((w.alloc (.cells #[.int .i64 0,.int .i64 0,.string ⟨#[]⟩,.int .i64 0,.int .i64 0,.slice none 0 0] 38)).alloc (.cells #[.slice A n c,.int .i64 last] 143)) (w.heap.size+1) 143 #[.slice A n c,.int .i64 last]):=Lh (aC.aZ _ _ (by simp));obtain ⟨bw,ow,cw,hg,hgN,hw⟩:=(he.keep (hb2.mono he.size)).rule;have DN:=he.size;have hgw:3 < w.heap.size:=by omega
  have hg0:w.cell? ⟨3,0,none⟩=some (.slice (some ⟨bw,ow,none⟩) 9 cw):=(hb2.cell (p:=⟨3,0,none⟩) hgw).symm.trans hg;have HO:=Lh hO;have HW:=Lh hw;have HE:=Lh he;have HR:=Lh hR;have HT:=Lh hT;have Hn:=Lh hn;have fI:=Lh (fun (W:World) (hW:PS g B last l W) (vO:fC W N bw ow Sx.ruleWords)=>iH g B N bw ow cw Sx.ruleWords l last W hW vO hN (by decide));rw[show Sx.ruleWords.length=9 from rfl] at fI;clear hO hR hb hT hn hb1 hb2 hps hw he hg;obtain ⟨i0,hi0,hz0,hz1,hz2⟩:=info_parts Tryz.infoRule;go_enter Tryz.func45,Tryz.ntmps45;go_wp2_with fail;refine (fI.out _ L.out.ps HW.out).mono ?_
  intro e w1 he
  rcases he.split with ⟨p,x,hv,rfl,hf⟩ | ⟨i1,l1,v,hv,rfl,hV,hs,hf⟩
  · rw[HO.out] at hv;cases hv
  rw[HO.out] at hv;injection hv with h1 h2;subst h1;subst h2;unfold gJ at hV;subst hV;clear he;have hs1:=hf.aY.size;have hp0:w.heap.size < w1.heap.size:=by have:=L.out.blk.lt;omega
  have L1:=L.out.step hf hs;have E1:=Lh ((HE.out).fr L1.fr hN);have z0:=L1.blk.cell 0;have KI:=L1.blk.free 0;simp at z0;have M:Hid (jE g B last l1 w.heap.size #[.int .i64 3,.int .i64 0,.string ⟨#[]⟩,.int .i64 0,.int .i64 0,.slice none 0 0] w (w1.setCell ⟨w.heap.size,0,none⟩ (.int .i64 3))):=Lh (L1.set 0 (.int .i64 3));have EM:=Lh (E1.out.keep (N:=N) (Below.setCell (Below.refl N w1) (show N≤(⟨w.heap.size,0,none⟩:Addr).block from (by show N≤w.heap.size;omega)) (.int .i64 3)));clear hf hs L1 L Xb fI HW HT c0 c1;go_wp2_with fail;refine (fV g B l1 last 0 200 _ M.out.ps).mono ?_
  intro e w2 he
  rcases he.split with ⟨p,x,hv,rfl,hf⟩ | ⟨m,l2,v,hv,rfl,hV,hs,hf⟩
  · exact ⟨rfl,dH.aM (Sx.aR HR.out hv) (M.out.fr.trans hf)⟩
  unfold gJ at hV;subst hV;replace HR:=Lh (Sx.go_ok HR.out hv);have M2:=M.out.step hf hs;have q3:=M2.blk.cell 3;have sQ:=M2.blk.free 3;simp at q3;have hp2:=M2.blk.lt;have M3:Hid (jE g B last l2 w.heap.size #[.int .i64 3,.int .i64 0,.string ⟨#[]⟩,.int .i64 m,.int .i64 0,.slice none 0 0] w (w2.setCell ⟨w.heap.size,3,none⟩ (.int .i64 m))):=Lh (by have:=M2.set 3 (.int .i64 m);simpa using this);clear hv hs hf he M M2;go_wp2_with fail;replace HR:Hid (R=(Sx.sign last 123 l2).bind fun _ l=>(Sx.kids last (Sx.rule last kk) l.length.succ [] l).bind fun ks l=>.ok (.mk 3 0 [] m 0 ks) l):=HR
  refine (iA g B l2 last 123 _ M3.out.ps).mono ?_;intro e w3 he
  rcases he.split with ⟨p,x,hv,rfl,hf⟩ | ⟨u,l3,v,hv,rfl,hV,hs,hf⟩
  · exact ⟨rfl,dH.aM (Sx.aR HR.out hv) (M3.out.fr.trans hf)⟩
  unfold fQ at hV;subst hV;replace HR:=Lh (Sx.go_ok HR.out hv);have M4:=M3.out.step hf hs;have K0:=Lh (mP.start M4);clear hv hs hf he M4 M3 q3 sQ hp2;go_wp2_with fail
  go_loopg [] l3.length (fun gk wr=>∃ ks css v l4,Hid (R=(Sx.kids last (Sx.rule last kk) (gk+1) ks l4).bind fun ks l=>.ok (.mk 3 0 [] m 0 ks) l)∧Hid (mP g B last w.heap.size 3 m w ks css v l4 wr)∧Hid (l4.length≤gk)∧Hid (ks.length≤200))
  case atStart=>exact ⟨[],[],.slice none 0 0,l3,HR,K0,Lh (Nat.le_refl _),Lh (by simp)⟩
  case round=>
    clear HR K0;obtain ⟨ks,css,v,l3,HR,HK,Hk,pI⟩:=hrel;go_wp2_with fail;refine (qD g B l3 last _ _ HK.out.st.ps).mono ?_;rw[show (⟨#[125]⟩:ByteArray).data.toList = [125] from rfl];rintro e w4 ⟨he,hs4,CZ⟩;cases hh:Sx.hit 3 [125] l3 with
    | true=>
      rw[hh] at he hs4;replace HR:Hid (R = .ok (.mk 3 0 [] m 0 ks) l3.tail):=Lh (by rw [HR.out,Sx.kids,hh];rfl);have hK4:=HK.out.step CZ hs4;subst he;have hL:=hK4.st;have hout:=Lh (hK4.out pI.out);have q0:=hL.blk.cell 0;have BK:=hL.blk.free 0;have q1:=hL.blk.cell 1;have C8:=hL.blk.free 1;have q2:=hL.blk.cell 2;have yA:=hL.blk.free 2;have q3:=hL.blk.cell 3;have sQ:=hL.blk.free 3;have q4:=hL.blk.cell 4;have BI:=hL.blk.free 4;have q5:=hL.blk.cell 5;have BJ:=hL.blk.free 5;simp at q0 q1 q2 q3 q4 q5;obtain ⟨Av,nv,cv,hv⟩:∃ Av nv cv,v = .slice Av nv cv:=by
        rcases hK4.own.2 with ⟨e,-⟩ | ⟨z,cap,cur,e,-⟩
        · exact ⟨_,_,_,e⟩
        · exact ⟨_,_,_,e⟩
      have HL:=Lh hL;subst hv;have hwl:=hL.blk.lt;clear hh hs4 CZ HK hK4 hL;go_wp2_with fail;obtain ⟨V,hV⟩:∃ V,V=((((((w4.setCell ⟨w.heap.size,0,none⟩ (.int .i64 3)).setCell ⟨w.heap.size,1,none⟩ (.int .i64 0)).setCell ⟨w.heap.size,2,none⟩ (.string ⟨#[]⟩)).setCell ⟨w.heap.size,3,none⟩ (.int .i64 m)).setCell ⟨w.heap.size,4,none⟩ (.int .i64 0)).setCell ⟨w.heap.size,5,none⟩ (.slice Av nv cv)):=⟨_,rfl⟩
      have uZ:jE g B last l3.tail w.heap.size #[.int .i64 3,.int .i64 0,.string ⟨#[]⟩,.int .i64 m,.int .i64 0,.slice Av nv cv] w V:=by
        rw[hV];have:=(((((HL.out.set 0 (.int .i64 3)).set 1 (.int .i64 0)).set 2 (.string ⟨#[]⟩)).set 3 (.int .i64 m)).set 4 (.int .i64 0)).set 5 (.slice Av nv cv);simpa using this
      have d0:=uZ.blk.cell 0;have d1:=uZ.blk.cell 1;have d2:=uZ.blk.cell 2;have d3:=uZ.blk.cell 3;have d4:=uZ.blk.cell 4;have d5:=uZ.blk.cell 5;simp at d0 d1 d2 d3 d4 d5;have tN:V.heap.size=w4.heap.size:=by rw [hV];simp[World.setCell]
      have vI:∀ b,b≠w.heap.size→V.heap[b]?=w4.heap[b]?:=fun b h1=>by
        rw[hV,Below.heap_setCell _ _ _ b h1,Below.heap_setCell _ _ _ b h1,Below.heap_setCell _ _ _ b h1,Below.heap_setCell _ _ _ b h1,Below.heap_setCell _ _ _ b h1,Below.heap_setCell _ _ _ b h1]
      rw[←hV];clear hV;exact bodyPost_ret (v:=.agg #[.int .i64 3,.int .i64 0,.string ⟨#[]⟩,.int .i64 m,.int .i64 0,.slice Av nv cv]) (by simp [results,Tryz.results45,go_sem,d0,d1,d2,d3,d4,d5]) rfl (by rw [HR.out];exact ⟨_,rfl,⟨_,rfl,aB.keep (fun b hb=>⟨⟨by have:=hb.1;omega,by rw [tN];exact hb.2⟩,fun i=>World.cell?_of_block (a:=⟨b,i,none⟩) (vI b (by have:=hb.1;omega))⟩) _ _ hout.out⟩,uZ.ps,uZ.fr⟩)
    | false=>
      rw[hh] at he hs4;replace HR:Hid (R=(Sx.rule last kk ks.length l3).bind fun r l=>(Sx.sign last 59 l).bind fun _ l=>(Sx.kids last (Sx.rule last kk) gk (ks++[r]) l).bind fun ks l=>.ok (.mk 3 0 [] m 0 ks) l):=Lh (by rw [HR.out,Sx.kids,hh,if_neg (by simp),Sx.R.assoc];congr 1;funext r l;rw[Sx.R.assoc]);have hK4:=HK.out.step CZ (show PS g B last l3 w4 from hs4);obtain ⟨Av,cv,hv⟩:∃ Av cv,v = .slice Av ks.length cv:=by
        rcases hK4.own.2 with ⟨e,e0⟩ | ⟨z,cap,cur,e,-⟩
        · exact ⟨_,_,by rw [e,e0]⟩
        · exact ⟨_,_,e⟩
      subst hv;subst he;have KJ:=hK4.step (eP.below (ay (Below.refl _ _) 1) (by have:=hK4.st.fr.aY.size;omega)) (hK4.st.ps.next (ay (Below.refl _ _) 1));have c5:=hK4.st.blk.cell 5;have cf5:=hK4.st.blk.free 5;simp at c5;have SN:=hK4.st.blk.lt;have xA:=Lh KJ;have VD:=Lh (HE.out.fr KJ.st.fr hN);have e0:IntKind.i64.wrap (17 - (k:Int)+1)=17 - (kk:Int):=by rw [show 17 - (k:Int)+1=17 - (kk:Int) by omega];exact IntWalk.i64_in _ (by omega)
      have vg:=Lh (fun (W:World) (hW:PS g B last l3 W) (hE:d9 N W)=>BG.out g B l3 last ks.length W hW hE hN pI.out);rw[←e0] at vg;clear hh hs4 CZ HK hK4 KJ e0;go_wp2_with fail
      go_region_law (first
        | (refine step_append_lies _ rfl _ _ _ rfl w.heap.size 38 i0 _ 6 72 Tryz.underlying36 hi0 hz0 hz1 hz2 rfl (by omega) (.slice Av ks.length cv) ks.length _ rfl (Mi.out.own.alloc _) ⟨w5.heap.size,0,none⟩ 1 1 [.int .i64 zQ,.int .i64 zR,.string (Lx.bs zS),.int .i64 nk,.int .i64 dk,.slice Ak zT.length ck] rfl rfl (World.news_of_block (cs:=#[.int .i64 zQ,.int .i64 zR,.string (Lx.bs zS),.int .i64 nk,.int .i64 dk,.slice Ak zT.length ck]) (t:=38) (fr:=(0,0)) (heap_alloc_new w5 _)) (by simp [Value.oneCell']) (by omega) (by unfold maxLen;have:=pI.out;omega) (by have:=pI.out;omega) (by simp;omega) (w5.heap.size+1) (by simp) ?_;intro gg cap w3 hown3 hgrow3 qX hlt3;have hQ:=Mi.out.next VE.out _ hgrow3 qX hown3;have d5:=hQ.1.1;have Iw:=hQ.1.2;have HP:=Lh hQ.2;clear hQ hown3 hgrow3 qX)
        | (go_simp;go_at_call 45;refine (vg.out _ xA.out.st.ps VD.out).mono ?_;intro e w5 he;rcases he.split with ⟨p,x,hv,rfl,hf⟩ | ⟨mk,l5,v5,hv,rfl,hV,hs,hf⟩;(exact ⟨rfl,dH.aM (Sx.aR HR.out hv) (xA.out.st.fr.trans hf)⟩);obtain ⟨ZH,hV,hra⟩:=hV;obtain ⟨zQ,zR,zS,nk,dk,zT⟩:=mk;have iG:=hra;rw[aB] at hra;obtain ⟨Ak,ck,rfl,-,-,-⟩:=hra;unfold aT bB at hV;subst hV;have Po:=Sx.pG hv;have VF:=Sx.kT last kk ks.length l3 _ _ hv;have rZ:=Lh (Sx.go_ok HR.out hv);have C9:=xA.out.step hf hs;have e5:=C9.st.blk.cell 5;have ef5:=C9.st.blk.free 5;simp at e5;have hp5:=C9.st.blk.lt;have Mi:=Lh C9;have VE:Hid ((∀ z,(Value.slice Av ks.length cv).ownBlock=some z→z < w4.drew.heap.size)∧w.heap.size < w4.drew.heap.size∧aB w5 (fun b=>w4.drew.heap.size≤b∧b < w5.heap.size) (.mk zQ zR zS nk dk zT) [.int .i64 zQ,.int .i64 zR,.string (Lx.bs zS),.int .i64 nk,.int .i64 dk,.slice Ak zT.length ck]):=Lh ⟨fun z hz=>kY xA.out.own hz,xA.out.st.blk.lt,iG⟩;clear hv hs hf he iG C9))
      all_goals (try go_wp2_with fail)
      all_goals refine (iA g B l5 last 59 _ HP.out.st.ps).mono ?_
      all_goals intro e w6 he
      all_goals rcases he.split with ⟨p,x,hv,rfl,hf⟩ | ⟨u,l6,v6,hv,rfl,hV,hs,hf⟩
      all_goals first
        | exact ⟨rfl,dH.aM (Sx.aR rZ.out hv) (HP.out.st.fr.trans hf)⟩
        | (unfold fQ at hV
           subst hV;have Pp:=Sx.bK last _ _ _ _ _ hv;have xJ:=Lh (Sx.go_ok rZ.out hv);have VG:=Lh (HP.out.step hf hs);clear hv hs hf he HP rZ;go_wp2_with fail
           go_roundg (gk - 1)
           all_goals first
             | (have hk1:=Hk.out;omega)
             | (have hk1:=Hk.out
                have Pq:=pI.out;exact ⟨_,_,_,l6,Lh (by rw [show gk - 1+1=gk by omega];exact xJ.out),Lh VG.out,Lh (by omega),Lh (by simp;omega)⟩))
theorem Da (N:Nat):∀ k,k≤16→qR N k
 | 0,_=>by
  intro g B l last beside w h he hN hb;cases hO:Sx.oneOf last Sx.ruleWords l with
  | bad p x=>exact Db N 0 g B l last beside w h he hN ⟨p,x,hO⟩
  | ok i l1=>
   obtain ⟨hi0,KL⟩:=Sx.vk hO;cases hbs:((beside:Int) == 200) with
   | true=>exact zU N 0 g B l l1 last i beside w h he hN hO hi0 KL hbs
   | false=>exact Iy N 0 g B l l1 last i beside w h he hN hO hi0 KL hbs rfl
 | kk+1,hk=>by
  have ih:=Da N kk (by omega);intro g B l last beside w h he hN hb;cases hO:Sx.oneOf last Sx.ruleWords l with
  | bad p x=>exact Db N (kk+1) g B l last beside w h he hN ⟨p,x,hO⟩
  | ok i l1=>
   obtain ⟨hi0,KL⟩:=Sx.vk hO;cases hbs:((beside:Int) == 200) with
   | true=>exact zU N (kk+1) g B l l1 last i beside w h he hN hO hi0 KL hbs
   | false=>
    by_cases h3:i=3∧kk=0
    ·exact Iz N (kk+1) g B l l1 last i beside w h he hN hO hi0 KL hbs (by omega) h3.1
    ·obtain ⟨j,rfl⟩:=Int.eq_ofNat_of_zero_le hi0
     match j,hO,KL,h3 with
     | 0,hO,_,_=>exact Rb N (kk+1) kk ih rfl hk g B l l1 last beside w h he hN hO hbs
     | 1,hO,_,_=>exact Rc N (kk+1) kk ih rfl hk g B l l1 last beside w h he hN hO hbs
     | 2,hO,_,_=>exact Rf N (kk+1) kk ih rfl hk g B l l1 last beside w h he hN hO hbs
     | 3,hO,_,h3=>exact Rh N (kk+1) kk ih rfl hk g B l l1 last beside w h he hN hO hbs (by have:kk≠0:=fun e=>h3 ⟨rfl,e⟩;omega)
     | 4,hO,_,_=>exact Ri N (kk+1) kk ih rfl hk g B l l1 last beside w h he hN hO hbs
     | 5,hO,_,_=>exact Rj N (kk+1) kk ih rfl hk g B l l1 last beside w h he hN hO hbs
     | 6,hO,_,_=>exact Rk N (kk+1) kk ih rfl hk g B l l1 last beside w h he hN hO hbs
     | 7,hO,_,_=>exact Rl N (kk+1) kk ih rfl hk g B l l1 last beside w h he hN hO hbs
     | 8,hO,_,_=>exact Rm N (kk+1) kk ih rfl hk g B l l1 last beside w h he hN hO hbs
     | n+9,_,KL,_=>exact absurd KL (by omega)
theorem Ke (N g B:Nat) (l:List Lx.Tok) (last:Int) (w:World) (h:PS g B last l w) (he:d9 N w) (hN:N≤g) :
  Calls Tryz.prog 45 #[.pointer (some ⟨g,0,none⟩),.int .i64 1,.int .i64 0] w (dH g B last w (iF w.heap.size) (Sx.rule last 16 0 l)):=
 Da N 16 (Nat.le_refl _) g B l last 0 w h he hN (by omega)
end Go.Proofs.YtjonaidancomgaaGreatDoor
