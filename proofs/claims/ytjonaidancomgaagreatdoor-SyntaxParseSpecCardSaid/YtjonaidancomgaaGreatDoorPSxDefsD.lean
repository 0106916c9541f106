/- Parts of the proof, joined into one text: SxDefsD, SxProg. -/
import Derived.Test.YtjonaidancomgaaGreatDoorPSxKids
import Derived.Test.YtjonaidancomgaaGreatDoorPSxKidW
import Derived.Deep.CutRange
import Derived.Test.YtjonaidancomgaaGreatDoorPSxTakeM
import Derived.Test.YtjonaidancomgaaGreatDoorPSxLen

namespace Go.Proofs.YtjonaidancomgaaGreatDoor
open Go.RowKit

theorem Sx.opt_yes {α β:Type} {last:Int} {w:List UInt8} {f:List Lx.Tok→Sx.R α} {d:α} {l:List Lx.Tok} {G:α→List Lx.Tok→Sx.R β} (hh:Sx.hit 1 w l=true):(Sx.opt last w f d l).bind G=(f l.tail).bind fun a l=>(Sx.sign last 59 l).bind fun _ l=>G a l:=by
 unfold Sx.opt
 rw[hh,if_pos rfl]
 simp only[Sx.R.assoc2,Sx.ok_bind]
theorem Sx.opt_no {α β:Type} {last:Int} {w:List UInt8} {f:List Lx.Tok→Sx.R α} {d:α} {l:List Lx.Tok} {G:α→List Lx.Tok→Sx.R β} (hh:Sx.hit 1 w l=false):(Sx.opt last w f d l).bind G=G d l:=by
 unfold Sx.opt
 rw[hh,if_neg (by simp)]
 rfl
def RuleIn (p:Nat) (w:World) (r:Sx.Rule) (cs:List Value):Prop:=RuleAt w (fun b=>p < b∧b < w.heap.size) r cs
theorem RuleIn.step {p g:Nat} {w w':World} {r:Sx.Rule} {cs:List Value} (h:RuleIn p w r cs) (hf:FrG g w w') (hg:g < p):RuleIn p w' r cs:=
 RuleAt.keep (fun b hb=>⟨⟨hb.1,Nat.lt_of_lt_of_le hb.2 hf.bel.size⟩,fun j=>hf.cell hb.2 (by have:=hb.1;omega) j⟩) r cs h
theorem RuleIn.set {p:Nat} {w:World} {r:Sx.Rule} {cs:List Value} (h:RuleIn p w r cs) (i:Nat) (u:Value):RuleIn p (w.setCell ⟨p,i,none⟩ u) r cs:=
 RuleAt.keep (fun b hb=>⟨⟨hb.1,by simpa [World.setCell] using hb.2⟩,fun j=>World.cell?_of_block (a:=⟨b,j,none⟩) (Below.heap_setCell w ⟨p,i,none⟩ u b (show b≠p by have:=hb.1;omega))⟩) r cs h
theorem RuleIn.of {p lo:Nat} {w:World} {r:Sx.Rule} {cs:List Value} (h:RuleAt w (fun b=>lo≤b∧b < w.heap.size) r cs) (hp:p < lo):RuleIn p w r cs:=
 RuleAt.keep (fun b hb=>⟨⟨by have:=hb.1;omega,hb.2⟩,fun _=>rfl⟩) r cs h
theorem RuleIn.at {p:Nat} {w:World} {r:Sx.Rule} {cs:List Value} (h:RuleIn p w r cs):RuleAt w.drew (fun b=>p≤b∧b < w.drew.heap.size) r cs:=
 RuleAt.keep (w:=w) (w':=w.drew) (S':=fun b=>p≤b∧b < w.drew.heap.size) (fun b hb=>⟨⟨by have:=hb.1;omega,hb.2⟩,fun _=>rfl⟩) r cs h
theorem ChoicePost.pack {g B:Nat} {last:Int} {ws:List (List UInt8)} {l:List Lx.Tok} {w w':World} {e:Ending} (h:ChoicePost g B last ws l w e w') :
  ∃ (z m:Int) (l':List Lx.Tok),e = .returned (.int .i64 z)∧PS g B last l' w'∧FrG g w w'∧-1≤z∧z < ws.length∧m=max 0 z∧(match Sx.find ws l with | some i=>((i:Int),l.tail) | none=>(0,l))=(m,l'):=by
 unfold ChoicePost at h
 cases hf:Sx.find ws l with
 | none=>
  rw[hf] at h
  exact ⟨-1,0,l,h.1,h.2.1,h.2.2,by omega,by omega,rfl,rfl⟩
 | some i=>
  rw[hf] at h
  have hi:i < ws.length:=by
   unfold Sx.find at hf
   exact (List.findIdx?_eq_some_iff_getElem.1 hf).1
  exact ⟨i,i,l.tail,h.1,h.2.1,h.2.2,by omega,by omega,by omega,rfl⟩
theorem Tryz.infoCourseD:(Tryz.prog.info? 58).map (fun i=>(i.zero,i.size,i.bytes))=some (some (.agg #[.string ⟨#[]⟩,.int .i64 0,.int .i64 0,.int .i64 0,.int .i64 0,.int .i64 0,.string ⟨#[]⟩,.int .i64 0,.int .i64 0,.slice none 0 0,.int .i64 0,.int .i64 0,.string ⟨#[]⟩,.int .i64 0,.int .i64 0,.slice none 0 0]),16,184):=by kernel_rfl

set_option maxRecDepth 20000 in
set_option maxHeartbeats 4000000 in
theorem sCourse (N:Nat):DefC N 84 fun last c l=>(Sx.course last l).bind fun x l=>.ok { c with courses:=c.courses++[x] } l:=by
 intro g B h l last w0 w c vs css H he hN hfew hl
 obtain ⟨R,hR⟩:∃ R,R=(Sx.course last l).bind fun x l=>(.ok { c with courses:=c.courses++[x] } l:Sx.R Sx.Cat):=⟨_,rfl⟩
 show Calls _ _ _ _ (DefPost g B last h w0 ((Sx.course last l).bind fun x l=>(.ok { c with courses:=c.courses++[x] } l:Sx.R Sx.Cat)))
 rw[←hR]
 replace hR:R=(Sx.number last 0 4095 l).bind fun no l=>(Sx.name last l).bind fun nm l=>(Sx.number last 1 60 l).bind fun cr l=>
   (Sx.sign last 123 (match Sx.find Sx.repeatWords l with | some i=>((i:Int),l.tail) | none=>(0,l)).2).bind fun _ l'=>(Sx.opt last Sx.wNeed (Sx.rule last 16 0) (.mk 1 0 [] 0 0 []) l').bind fun nd l'=>(Sx.opt last Sx.wBar (Sx.rule last 16 0) (.mk 2 0 [] 0 0 []) l').bind fun br l'=>(Sx.sign last 125 l').bind fun _ l'=>
    .ok { c with courses:=c.courses++[⟨nm,no,cr,(match Sx.find Sx.repeatWords l with | some i=>((i:Int),l.tail) | none=>(0,l)).1,nd,br⟩] } l':=by rw [hR];simp only[Sx.course,Sx.R.assoc2,Sx.ok_bind];rfl
 have HR:=Lh hR
 have HC:=Lh H
 have HE:=Lh he
 have hlt:=H.ps.lt
 have hgl:h < w.heap.size:=H.blk.lt
 have hgh:=H.gh
 obtain ⟨i0,hi0,hz0,hz1,hz2⟩:=info_parts Tryz.infoCourseD
 obtain ⟨v,rs,is,hv1,hrs1,his1,hrl⟩:=H.get (i:=0) (by omega)
 have hrf:rs.length≤1000000:=by rw [hrl];exact hfew is (List.mem_of_getElem? his1)
 have his2:is=c.courses.map .course:=by simpa [itemsOf] using his1.symm
 have HI:=Lh (And.intro hv1 (And.intro hrs1 his1));have HIS:=Lh his2
 clear H hR hv1 hrs1 his1 hrl hfew his2 he
 go_enter Tryz.func84,Tryz.ntmps84
 go_wp2_with fail
 refine (sNumber g B l last 0 4095 _ HC.out.ps).mono ?_
 intro e w1 he
 rcases he.split with ⟨p,x,hv,rfl,hf⟩ | ⟨no,l1,u,hv,rfl,hV,hs,hf⟩
 ·exact ⟨rfl,DefPost.of_bad (Sx.go_bad HR.out hv) (HC.out.fr.trans hf)⟩
 unfold vInt at hV
 subst hV
 replace HR:=Lh (Sx.go_ok HR.out hv)
 have HC1:=Lh (HC.out.step hf hs)
 have HF1:=Lh hf
 clear hv hs hf he HC
 go_wp2_with fail
 refine (sName g B l1 last _ HC1.out.ps).mono ?_
 intro e w2 he
 rcases he.split with ⟨p,x,hv,rfl,hf⟩ | ⟨nm,l2,u,hv,rfl,hV,hs,hf⟩
 ·exact ⟨rfl,DefPost.of_bad (Sx.go_bad HR.out hv) (HC1.out.fr.trans hf)⟩
 obtain ⟨hV,hnl⟩:=hV
 unfold strV at hV
 subst hV
 replace HR:=Lh (Sx.go_ok HR.out hv)
 have HC2:=Lh (HC1.out.step hf hs)
 have HF2:=Lh (HF1.out.trans hf)
 have Hnl:=Lh hnl
 clear hv hs hf he HC1 HF1 hnl
 go_wp2_with fail
 refine (sNumber g B l2 last 1 60 _ HC2.out.ps).mono ?_
 intro e w3 he
 rcases he.split with ⟨p,x,hv,rfl,hf⟩ | ⟨cr,l3,u,hv,rfl,hV,hs,hf⟩
 ·exact ⟨rfl,DefPost.of_bad (Sx.go_bad HR.out hv) (HC2.out.fr.trans hf)⟩
 unfold vInt at hV
 subst hV
 replace HR:=Lh (Sx.go_ok HR.out hv)
 have C3:=HC2.out.step hf hs
 have hE3:=HE.out.fr (HF2.out.trans hf) hN
 have hg3:=C3.ps.lt
 have hh3:=C3.blk.lt
 have L:=Lh (LSt.start C3.ps 58 #[.string (Lx.bs nm),.int .i64 no,.int .i64 cr,.int .i64 0,.int .i64 1,.int .i64 0,.string ⟨#[]⟩,.int .i64 0,.int .i64 0,.slice none 0 0,.int .i64 2,.int .i64 0,.string ⟨#[]⟩,.int .i64 0,.int .i64 0,.slice none 0 0])
 obtain ⟨bq,oq,cq,rc,rN,rwq⟩:=hE3.rep
 have hNw:=hE3.size
 rw[show Sx.repeatWords.length=3 from rfl] at rc
 have HE3:=Lh hE3
 have HC3:=Lh C3
 have Hch:=Lh (sChoice g B N bq oq cq Sx.repeatWords l3 last _ L.out.ps (rwq.keep (L.out.fr.bel.mono hN)) hN (by decide))
 rw[show Sx.repeatWords.length=3 from rfl] at Hch
 have hgr:4 < w3.heap.size:=by omega
 clear hv hs hf he HC2 HF2 HE C3 hE3 rwq
 go_wp2_with fail
 refine Hch.out.mono ?_
 intro e w4 he
 obtain ⟨z,m,l4,rfl,hs,hf,hz1',hz2',hm,hrp⟩:=he.pack
 have hR4:=HR.out
 simp only[hrp] at hR4
 replace HR:=Lh hR4
 have L4:=L.out.step hf hs
 have q3:=L4.blk.cell 3;have qf3:=L4.blk.free 3
 simp at q3
 have hp4:=L4.blk.lt
 have hm0:IntKind.i64.wrap (max 0 z)=m:=by rw [hm];exact IntWalk.i64_in _ (by rw [show Sx.repeatWords.length=3 from rfl] at hz2';omega)
 have L5:Hid (LSt g B last l4 w3.heap.size 58 #[.string (Lx.bs nm),.int .i64 no,.int .i64 cr,.int .i64 m,.int .i64 1,.int .i64 0,.string ⟨#[]⟩,.int .i64 0,.int .i64 0,.slice none 0 0,.int .i64 2,.int .i64 0,.string ⟨#[]⟩,.int .i64 0,.int .i64 0,.slice none 0 0] w3 (w4.setCell ⟨w3.heap.size,3,none⟩ (.int .i64 m))):=Lh (by have:=L4.set 3 (.int .i64 m);simpa using this)
 clear hs hf he hrp hR4 L L4 Hch hz1' hz2'
 go_wp2_with fail
 rw[←hm]
 clear hm hm0
 refine (sSign g B l4 last 123 _ L5.out.ps).mono ?_
 intro e w5 he
 rcases he.split with ⟨p,x,hv,rfl,hf⟩ | ⟨_,l5,u,hv,rfl,hV,hs,hf⟩
 ·exact ⟨rfl,DefPost.of_bad (Sx.go_bad HR.out hv) (HC3.out.fr.trans (L5.out.fr.trans hf))⟩
 unfold vUnit at hV
 subst hV
 obtain ⟨G,hG⟩:∃ G:Sx.Rule→List Lx.Tok→Sx.R Sx.Cat,G=fun nd l'=>(Sx.opt last Sx.wBar (Sx.rule last 16 0) (.mk 2 0 [] 0 0 []) l').bind fun br l'=>(Sx.sign last 125 l').bind fun _ l'=>.ok { c with courses:=c.courses++[⟨nm,no,cr,m,nd,br⟩] } l':=⟨_,rfl⟩
 have hR5:=Sx.go_ok HR.out hv
 rw[←hG] at hR5
 replace HR:=Lh hR5
 have HG:=Lh hG
 have L6:=Lh (L5.out.step hf hs)
 clear hv hs hf he hR5 hG L5
 go_wp2_with fail
 refine (sIsWord g B l5 last _ _ L6.out.ps).mono ?_
 rw[show (⟨#[110,101,101,100]⟩:ByteArray).data.toList=Sx.wNeed from rfl]
 rintro e w6 ⟨rfl,hs,hf⟩
 have L7:=L6.out.step hf hs
 go_upto_if 23 with fail
 go_cut [0,1,4] from 5 to 47 (fun v0 v1 v4 wx=>v0 = .pointer (some ⟨g,0,none⟩)∧v1 = .pointer (some ⟨h,0,none⟩)∧v4 = .pointer (some ⟨w3.heap.size,0,none⟩)∧∃ opn con nmn nn dn ksn An cn l8,Hid (R=G (.mk opn con nmn nn dn ksn) l8)∧Hid (LSt g B last l8 w3.heap.size 58 #[.string (Lx.bs nm),.int .i64 no,.int .i64 cr,.int .i64 m,.int .i64 opn,.int .i64 con,.string (Lx.bs nmn),.int .i64 nn,.int .i64 dn,.slice An ksn.length cn,.int .i64 2,.int .i64 0,.string ⟨#[]⟩,.int .i64 0,.int .i64 0,.slice none 0 0] w3 wx)∧Hid (RuleIn w3.heap.size wx (.mk opn con nmn nn dn ksn) [.int .i64 opn,.int .i64 con,.string (Lx.bs nmn),.int .i64 nn,.int .i64 dn,.slice An ksn.length cn]))
 case first=>
  cases hh:Sx.hit 1 Sx.wNeed l5 with
  | true=>
   rw[hh,if_pos rfl] at L7
   have L8:=Lh L7
   have hRy:=HR.out
   rw[Sx.opt_yes hh] at hRy
   replace HR:=Lh hRy
   have HE7:=Lh (HE3.out.fr L7.fr hN)
   clear L7 hRy hs hf hh
   go_wp2_with fail
   refine (sRule N g B _ last _ L8.out.ps HE7.out hN).mono ?_
   intro e w7 he
   rcases he.split with ⟨p,x,hv,rfl,hf⟩ | ⟨nd,l7,u,hv,rfl,hV,hs,hf⟩
   ·exact ⟨rfl,DefPost.of_bad (Sx.go_bad HR.out hv) (HC3.out.fr.trans (L8.out.fr.trans hf))⟩
   obtain ⟨cs7,hV,hra⟩:=hV
   obtain ⟨opn,con,nmn,nn,dn,ksn⟩:=nd
   have hra0:=hra
   rw[RuleAt] at hra
   obtain ⟨An,cn,rfl,-,-,-⟩:=hra
   unfold intV strV at hV
   subst hV
   replace HR:=Lh (Sx.go_ok HR.out hv)
   have hRI:RuleIn w3.heap.size w7 (.mk opn con nmn nn dn ksn) [.int .i64 opn,.int .i64 con,.string (Lx.bs nmn),.int .i64 nn,.int .i64 dn,.slice An ksn.length cn]:=RuleIn.of hra0 L8.out.blk.lt
   have L9:=L8.out.step hf hs
   have q4:=L9.blk.cell 4;have qf4:=L9.blk.free 4
   have q5:=L9.blk.cell 5;have qf5:=L9.blk.free 5
   have q6:=L9.blk.cell 6;have qf6:=L9.blk.free 6
   have q7:=L9.blk.cell 7;have qf7:=L9.blk.free 7
   have q8:=L9.blk.cell 8;have qf8:=L9.blk.free 8
   have q9:=L9.blk.cell 9;have qf9:=L9.blk.free 9
   simp at q4 q5 q6 q7 q8 q9
   have hp7:=L9.blk.lt
   have L10:Hid (LSt g B last l7 w3.heap.size 58 #[.string (Lx.bs nm),.int .i64 no,.int .i64 cr,.int .i64 m,.int .i64 opn,.int .i64 con,.string (Lx.bs nmn),.int .i64 nn,.int .i64 dn,.slice An ksn.length cn,.int .i64 2,.int .i64 0,.string ⟨#[]⟩,.int .i64 0,.int .i64 0,.slice none 0 0] w3 ((((((w7.setCell ⟨w3.heap.size,4,none⟩ (.int .i64 opn)).setCell ⟨w3.heap.size,5,none⟩ (.int .i64 con)).setCell ⟨w3.heap.size,6,none⟩ (.string (Lx.bs nmn))).setCell ⟨w3.heap.size,7,none⟩ (.int .i64 nn)).setCell ⟨w3.heap.size,8,none⟩ (.int .i64 dn)).setCell ⟨w3.heap.size,9,none⟩ (.slice An ksn.length cn))):=Lh (by have:=(((((L9.set 4 (.int .i64 opn)).set 5 (.int .i64 con)).set 6 (.string (Lx.bs nmn))).set 7 (.int .i64 nn)).set 8 (.int .i64 dn)).set 9 (.slice An ksn.length cn);simpa using this)
   have HRI:Hid (RuleIn w3.heap.size ((((((w7.setCell ⟨w3.heap.size,4,none⟩ (.int .i64 opn)).setCell ⟨w3.heap.size,5,none⟩ (.int .i64 con)).setCell ⟨w3.heap.size,6,none⟩ (.string (Lx.bs nmn))).setCell ⟨w3.heap.size,7,none⟩ (.int .i64 nn)).setCell ⟨w3.heap.size,8,none⟩ (.int .i64 dn)).setCell ⟨w3.heap.size,9,none⟩ (.slice An ksn.length cn)) (.mk opn con nmn nn dn ksn) [.int .i64 opn,.int .i64 con,.string (Lx.bs nmn),.int .i64 nn,.int .i64 dn,.slice An ksn.length cn]):=Lh (((((((hRI).set 4 _).set 5 _).set 6 _).set 7 _).set 8 _).set 9 _)
   clear hv hs hf he hra0 hRI L8 L9
   go_wp2_with fail
   refine (sSign g B l7 last 59 _ L10.out.ps).mono ?_
   intro e w8 he
   rcases he.split with ⟨p,x,hv,rfl,hf⟩ | ⟨_,l8,u,hv,rfl,hV,hs,hf⟩
   ·exact ⟨rfl,DefPost.of_bad (Sx.go_bad HR.out hv) (HC3.out.fr.trans (L10.out.fr.trans hf))⟩
   unfold vUnit at hV
   subst hV
   have HR8:=Lh (Sx.go_ok HR.out hv)
   have HL8:=Lh (L10.out.step hf hs)
   have HI8:=Lh (HRI.out.step hf hg3)
   clear hv hs hf he
   go_wp2_with fail
   go_meet
   exact ⟨rfl,rfl,rfl,opn,con,nmn,nn,dn,ksn,An,cn,l8,HR8,HL8,HI8⟩
  | false=>
   rw[hh,if_neg (by simp)] at L7
   have hRy:=HR.out
   rw[Sx.opt_no hh] at hRy
   have HRn:=Lh hRy
   have HLn:=Lh L7
   clear L7 hRy hs hf hh
   go_wp2_with fail
   go_meet
   exact ⟨rfl,rfl,rfl,1,0,[],0,0,[],none,0,l5,HRn,HLn,Lh (rule_leaf _ _ 1 0 [] 0 0 (by simp))⟩
 case rest=>
 obtain ⟨rfl,rfl,rfl,opn,con,nmn,nn,dn,ksn,An,cn,l8,HRc,HLc,HN⟩:=hcut
 have hRg:=HRc.out
 rw[HG.out] at hRg
 replace HR:=Lh hRg
 clear L7 L6 hs hf hRg HRc HG
 go_wp2_with fail
 refine (sIsWord g B l8 last _ _ HLc.out.ps).mono ?_
 rw[show (⟨#[98,97,114]⟩:ByteArray).data.toList=Sx.wBar from rfl]
 rintro e w9 ⟨rfl,hs,hf⟩
 have L7:=HLc.out.step hf hs
 go_upto_if 30 with fail
 go_cut [0,1,4] from 5 to 47 (fun v0 v1 v4 wx=>v0 = .pointer (some ⟨g,0,none⟩)∧v1 = .pointer (some ⟨h,0,none⟩)∧v4 = .pointer (some ⟨w3.heap.size,0,none⟩)∧∃ opb cob nmb nb db ksb Ab cb l9,Hid (R=(Sx.sign last 125 l9).bind fun _ l'=>.ok { c with courses:=c.courses++[⟨nm,no,cr,m,.mk opn con nmn nn dn ksn,.mk opb cob nmb nb db ksb⟩] } l')∧Hid (LSt g B last l9 w3.heap.size 58 #[.string (Lx.bs nm),.int .i64 no,.int .i64 cr,.int .i64 m,.int .i64 opn,.int .i64 con,.string (Lx.bs nmn),.int .i64 nn,.int .i64 dn,.slice An ksn.length cn,.int .i64 opb,.int .i64 cob,.string (Lx.bs nmb),.int .i64 nb,.int .i64 db,.slice Ab ksb.length cb] w3 wx)∧Hid (RuleIn w3.heap.size wx (.mk opb cob nmb nb db ksb) [.int .i64 opb,.int .i64 cob,.string (Lx.bs nmb),.int .i64 nb,.int .i64 db,.slice Ab ksb.length cb])∧Hid (RuleIn w3.heap.size wx (.mk opn con nmn nn dn ksn) [.int .i64 opn,.int .i64 con,.string (Lx.bs nmn),.int .i64 nn,.int .i64 dn,.slice An ksn.length cn]))
 case first=>
  cases hh:Sx.hit 1 Sx.wBar l8 with
  | true=>
   rw[hh,if_pos rfl] at L7
   have L8:=Lh L7
   have hRy:=HR.out
   rw[Sx.opt_yes hh] at hRy
   replace HR:=Lh hRy
   have HE7:=Lh (HE3.out.fr L7.fr hN)
   have HN7:=Lh (HN.out.step hf hg3)
   clear L7 hRy hs hf hh
   go_wp2_with fail
   refine (sRule N g B _ last _ L8.out.ps HE7.out hN).mono ?_
   intro e w7 he
   rcases he.split with ⟨p,x,hv,rfl,hf⟩ | ⟨nd,l7,u,hv,rfl,hV,hs,hf⟩
   ·exact ⟨rfl,DefPost.of_bad (Sx.go_bad HR.out hv) (HC3.out.fr.trans (L8.out.fr.trans hf))⟩
   obtain ⟨cs7,hV,hra⟩:=hV
   obtain ⟨opb,cob,nmb,nb,db,ksb⟩:=nd
   have hra0:=hra
   rw[RuleAt] at hra
   obtain ⟨Ab,cb,rfl,-,-,-⟩:=hra
   unfold intV strV at hV
   subst hV
   replace HR:=Lh (Sx.go_ok HR.out hv)
   have hRI:RuleIn w3.heap.size w7 (.mk opb cob nmb nb db ksb) [.int .i64 opb,.int .i64 cob,.string (Lx.bs nmb),.int .i64 nb,.int .i64 db,.slice Ab ksb.length cb]:=RuleIn.of hra0 L8.out.blk.lt
   have L9:=L8.out.step hf hs
   have q10:=L9.blk.cell 10;have qf10:=L9.blk.free 10
   have q11:=L9.blk.cell 11;have qf11:=L9.blk.free 11
   have q12:=L9.blk.cell 12;have qf12:=L9.blk.free 12
   have q13:=L9.blk.cell 13;have qf13:=L9.blk.free 13
   have q14:=L9.blk.cell 14;have qf14:=L9.blk.free 14
   have q15:=L9.blk.cell 15;have qf15:=L9.blk.free 15
   have HN9:=Lh ((((((((HN7.out.step hf hg3)).set 10 (.int .i64 opb)).set 11 (.int .i64 cob)).set 12 (.string (Lx.bs nmb))).set 13 (.int .i64 nb)).set 14 (.int .i64 db)).set 15 (.slice Ab ksb.length cb))
   simp at q10 q11 q12 q13 q14 q15
   have hp7:=L9.blk.lt
   have L10:Hid (LSt g B last l7 w3.heap.size 58 #[.string (Lx.bs nm),.int .i64 no,.int .i64 cr,.int .i64 m,.int .i64 opn,.int .i64 con,.string (Lx.bs nmn),.int .i64 nn,.int .i64 dn,.slice An ksn.length cn,.int .i64 opb,.int .i64 cob,.string (Lx.bs nmb),.int .i64 nb,.int .i64 db,.slice Ab ksb.length cb] w3 ((((((w7.setCell ⟨w3.heap.size,10,none⟩ (.int .i64 opb)).setCell ⟨w3.heap.size,11,none⟩ (.int .i64 cob)).setCell ⟨w3.heap.size,12,none⟩ (.string (Lx.bs nmb))).setCell ⟨w3.heap.size,13,none⟩ (.int .i64 nb)).setCell ⟨w3.heap.size,14,none⟩ (.int .i64 db)).setCell ⟨w3.heap.size,15,none⟩ (.slice Ab ksb.length cb))):=Lh (by have:=(((((L9.set 10 (.int .i64 opb)).set 11 (.int .i64 cob)).set 12 (.string (Lx.bs nmb))).set 13 (.int .i64 nb)).set 14 (.int .i64 db)).set 15 (.slice Ab ksb.length cb);simpa using this)
   have HRI:Hid (RuleIn w3.heap.size ((((((w7.setCell ⟨w3.heap.size,10,none⟩ (.int .i64 opb)).setCell ⟨w3.heap.size,11,none⟩ (.int .i64 cob)).setCell ⟨w3.heap.size,12,none⟩ (.string (Lx.bs nmb))).setCell ⟨w3.heap.size,13,none⟩ (.int .i64 nb)).setCell ⟨w3.heap.size,14,none⟩ (.int .i64 db)).setCell ⟨w3.heap.size,15,none⟩ (.slice Ab ksb.length cb)) (.mk opb cob nmb nb db ksb) [.int .i64 opb,.int .i64 cob,.string (Lx.bs nmb),.int .i64 nb,.int .i64 db,.slice Ab ksb.length cb]):=Lh (((((((hRI).set 10 _).set 11 _).set 12 _).set 13 _).set 14 _).set 15 _)
   clear hv hs hf he hra0 hRI L8 L9
   go_wp2_with fail
   refine (sSign g B l7 last 59 _ L10.out.ps).mono ?_
   intro e w8 he
   rcases he.split with ⟨p,x,hv,rfl,hf⟩ | ⟨_,l8,u,hv,rfl,hV,hs,hf⟩
   ·exact ⟨rfl,DefPost.of_bad (Sx.go_bad HR.out hv) (HC3.out.fr.trans (L10.out.fr.trans hf))⟩
   unfold vUnit at hV
   subst hV
   have HR8:=Lh (Sx.go_ok HR.out hv)
   have HL8:=Lh (L10.out.step hf hs)
   have HI8:=Lh (HRI.out.step hf hg3)
   have HN8:=Lh (HN9.out.step hf hg3)
   clear hv hs hf he
   go_wp2_with fail
   go_meet
   exact ⟨rfl,rfl,rfl,opb,cob,nmb,nb,db,ksb,Ab,cb,l8,HR8,HL8,HI8,HN8⟩
  | false=>
   rw[hh,if_neg (by simp)] at L7
   have hRy:=HR.out
   rw[Sx.opt_no hh] at hRy
   have HRn:=Lh hRy
   have HLn:=Lh L7
   have HN7:=Lh (HN.out.step hf hg3)
   clear L7 hRy hs hf hh
   go_wp2_with fail
   go_meet
   exact ⟨rfl,rfl,rfl,2,0,[],0,0,[],none,0,l8,HRn,HLn,Lh (rule_leaf _ _ 2 0 [] 0 0 (by simp)),HN7⟩
 case rest=>
 obtain ⟨rfl,rfl,rfl,opb,cob,nmb,nb,db,ksb,Ab,cb,l9,HRd,HLd,HB,HN2⟩:=hcut
 clear L7 hs hf HR HLc HN
 go_wp2_with fail
 refine (sSign g B l9 last 125 _ HLd.out.ps).mono ?_
 intro e w10 he
 rcases he.split with ⟨p,x,hv,rfl,hf⟩ | ⟨_,l10,u,hv,rfl,hV,hs,hf⟩
 ·exact ⟨rfl,DefPost.of_bad (Sx.go_bad HRd.out hv) (HC3.out.fr.trans (HLd.out.fr.trans hf))⟩
 unfold vUnit at hV
 subst hV
 have HR:=Lh (Sx.go_ok HRd.out hv)
 have L11:=HLd.out.step hf hs
 have q0:=L11.blk.cell 0
 have q1:=L11.blk.cell 1
 have q2:=L11.blk.cell 2
 have q3:=L11.blk.cell 3
 have q4:=L11.blk.cell 4
 have q5:=L11.blk.cell 5
 have q6:=L11.blk.cell 6
 have q7:=L11.blk.cell 7
 have q8:=L11.blk.cell 8
 have q9:=L11.blk.cell 9
 have q10:=L11.blk.cell 10
 have q11:=L11.blk.cell 11
 have q12:=L11.blk.cell 12
 have q13:=L11.blk.cell 13
 have q14:=L11.blk.cell 14
 have q15:=L11.blk.cell 15
 simp at q0 q1 q2 q3 q4 q5 q6 q7 q8 q9 q10 q11 q12 q13 q14 q15
 have hp10:=L11.blk.lt
 have C11:=HC3.out.step L11.fr L11.ps
 have c11:w10.cell? ⟨h,0,none⟩=some v:=by rw [C11.blk.cell 0];simpa using HI.out.1
 have hh11:=C11.blk.lt
 have HX:Hid (ItemAt w10.drew (fun b=>w3.heap.size≤b∧b < w10.drew.heap.size) (.course ⟨nm,no,cr,m,.mk opn con nmn nn dn ksn,.mk opb cob nmb nb db ksb⟩) [.string (Lx.bs nm),.int .i64 no,.int .i64 cr,.int .i64 m,.int .i64 opn,.int .i64 con,.string (Lx.bs nmn),.int .i64 nn,.int .i64 dn,.slice An ksn.length cn,.int .i64 opb,.int .i64 cob,.string (Lx.bs nmb),.int .i64 nb,.int .i64 db,.slice Ab ksb.length cb]):=Lh ⟨[.int .i64 opn,.int .i64 con,.string (Lx.bs nmn),.int .i64 nn,.int .i64 dn,.slice An ksn.length cn],[.int .i64 opb,.int .i64 cob,.string (Lx.bs nmb),.int .i64 nb,.int .i64 db,.slice Ab ksb.length cb],rfl,Hnl.out,(HN2.out.step hf hg3).at,(HB.out.step hf hg3).at⟩
 have HC11:=Lh C11.drew
 have HROW:=Lh (fun u (hu:u∈vs) z (hz:u.ownBlock=some z)=>(HC3.out.ownOf hu hz).2)
 clear hv hs hf he L11 C11 HRd HLd HB HN2
 go_wp2_with fail
 go_region_law (refine HC11.out.step_append (i:=0) (lo:=w3.heap.size) (x:=.course ⟨nm,no,cr,m,.mk opn con nmn nn dn ksn,.mk opb cob nmb nb db ksb⟩) (cs:=[.string (Lx.bs nm),.int .i64 no,.int .i64 cr,.int .i64 m,.int .i64 opn,.int .i64 con,.string (Lx.bs nmn),.int .i64 nn,.int .i64 dn,.slice An ksn.length cn,.int .i64 opb,.int .i64 cob,.string (Lx.bs nmb),.int .i64 nb,.int .i64 db,.slice Ab ksb.length cb]) HI.out.1 HI.out.2.1 HI.out.2.2 HX.out rfl hh3 HROW.out hrf rfl _ _ _ rfl i0 _ 184 Tryz.underlying23 hi0 hz0 hz1 hz2 rfl (by omega) rfl rfl (by simp [Value.oneCell']) ?_;intro gg cap w12 d1 df1 HP)
 all_goals go_end0
 all_goals exact DefPost.of_ok HR.out (by rw [HIS.out];simp[itemsOf]) HP
end Go.Proofs.YtjonaidancomgaaGreatDoor

namespace Go.Proofs.YtjonaidancomgaaGreatDoor
open Go.RowKit

theorem Tryz.infoProgrammeD:(Tryz.prog.info? 78).map (fun i=>(i.zero,i.size,i.bytes))=some (some (.agg #[.string ⟨#[]⟩,.int .i64 0,.int .i64 0,.int .i64 0,.int .i64 0,.int .i64 0,.slice none 0 0]),7,80):=by kernel_rfl
theorem Tryz.infoReqD:(Tryz.prog.info? 108).map (fun i=>(i.zero,i.size,i.bytes))=some (some (.agg #[.string ⟨#[]⟩,.int .i64 0,.int .i64 0,.bool false,.slice none 0 0,.slice none 0 0]),6,88):=by kernel_rfl
set_option maxRecDepth 20000 in
set_option maxHeartbeats 4000000 in
theorem sProgramme (N:Nat):DefC N 86 fun last c l=>(Sx.programme last l).bind fun x l=>.ok { c with progs:=c.progs++[x] } l:=by
  intro g B h l last w0 w c vs css H he hN hfew hl
  obtain ⟨R,hR⟩:∃ R,R=(Sx.programme last l).bind fun x l=>(.ok { c with progs:=c.progs++[x] } l:Sx.R Sx.Cat):=⟨_,rfl⟩
  show Calls _ _ _ _ (DefPost g B last h w0 ((Sx.programme last l).bind fun x l=>(.ok { c with progs:=c.progs++[x] } l:Sx.R Sx.Cat)))
  rw[←hR]
  obtain ⟨G3,hG3⟩:∃ G:List UInt8→Int→Int→Int→Sx.Ratio→List Lx.Tok→Sx.R Sx.Cat,G=fun nm no us ea me l=>(Sx.takes last l.length.succ [] l).bind fun qs l=>(Sx.sign last 125 l).bind fun _ l=>.ok { c with progs:=c.progs++[⟨nm,no,us,ea,me,qs⟩] } l:=⟨_,rfl⟩
  obtain ⟨G2,hG2⟩:∃ G:List UInt8→Int→Int→Int→List Lx.Tok→Sx.R Sx.Cat,G=fun nm no us ea l=>(Sx.opt last Sx.wMean (Sx.ratio last) ⟨0,1⟩ l).bind (G3 nm no us ea):=⟨_,rfl⟩
  obtain ⟨G1,hG1⟩:∃ G:List UInt8→Int→Int→List Lx.Tok→Sx.R Sx.Cat,G=fun nm no us l=>(Sx.opt last Sx.wEarn (Sx.number last 0 10000) 0 l).bind (G2 nm no us):=⟨_,rfl⟩
  replace hR:R=(Sx.number last 0 255 l).bind fun no l=>(Sx.name last l).bind fun nm l=>(Sx.sign last 123 l).bind fun _ l=>(Sx.opt last Sx.wUses (Sx.number last 1 4) 1 l).bind (G1 nm no):=by rw [hR,hG1,hG2,hG3];simp only[Sx.programme,Sx.R.assoc2,Sx.ok_bind]
  have HR:=Lh hR
  have HG1:=Lh hG1;have HG2:=Lh hG2;have HG3:=Lh hG3
  have HC:=Lh H
  have hlt:=H.ps.lt
  have hgl:h < w.heap.size:=H.blk.lt
  have hgh:=H.gh
  obtain ⟨i0,hi0,hz0,hz1,hz2⟩:=info_parts Tryz.infoProgrammeD
  obtain ⟨j0,hj0,jz0,jz1,jz2⟩:=info_parts Tryz.infoReqD
  obtain ⟨v,rs,is,hv1,hrs1,his1,hrl⟩:=H.get (i:=2) (by omega)
  have hrf:rs.length≤1000000:=by rw [hrl];exact hfew is (List.mem_of_getElem? his1)
  have his2:is=c.progs.map .prog:=by simpa [itemsOf] using his1.symm
  have HI:=Lh (And.intro hv1 (And.intro hrs1 his1));have HIS:=Lh his2
  have Hl:=Lh hl
  clear H hR hv1 hrs1 his1 hrl hfew his2 he hl hG1 hG2 hG3
  go_enter Tryz.func86,Tryz.ntmps86
  go_wp2_with fail
  refine (sNumber g B l last 0 255 _ HC.out.ps).mono ?_
  intro e w1 he
  rcases he.split with ⟨p,x,hv,rfl,hf⟩ | ⟨no,l1,u,hv,rfl,hV,hs,hf⟩
  · exact ⟨rfl,DefPost.of_bad (Sx.go_bad HR.out hv) (HC.out.fr.trans hf)⟩
  unfold vInt at hV
  subst hV
  replace HR:=Lh (Sx.go_ok HR.out hv)
  have HC1:=Lh (HC.out.step hf hs)
  have t1:=Lh (Sx.eats_number last _ _ l _ _ hv)
  clear hv hs hf he HC
  go_wp2_with fail
  refine (sName g B l1 last _ HC1.out.ps).mono ?_
  intro e w2 he
  rcases he.split with ⟨p,x,hv,rfl,hf⟩ | ⟨nm,l2,u,hv,rfl,hV,hs,hf⟩
  · exact ⟨rfl,DefPost.of_bad (Sx.go_bad HR.out hv) (HC1.out.fr.trans hf)⟩
  obtain ⟨hV,hnl⟩:=hV
  unfold strV at hV
  subst hV
  replace HR:=Lh (Sx.go_ok HR.out hv)
  have C2:=HC1.out.step hf hs
  have t2:=Lh (Sx.eats_name last l1 _ _ hv)
  have hg2:=C2.ps.lt
  have hh2:=C2.blk.lt
  have L:=Lh (LSt.start C2.ps 78 #[.string (Lx.bs nm),.int .i64 no,.int .i64 1,.int .i64 0,.int .i64 0,.int .i64 1,.slice none 0 0])
  have HC2:=Lh C2
  have Hnl:=Lh hnl
  clear hv hs hf he HC1 C2 hnl
  go_wp2_with fail
  refine (sSign g B l2 last 123 _ L.out.ps).mono ?_
  intro e w3 he
  rcases he.split with ⟨p,x,hv,rfl,hf⟩ | ⟨_,l3,u,hv,rfl,hV,hs,hf⟩
  · exact ⟨rfl,DefPost.of_bad (Sx.go_bad HR.out hv) (HC2.out.fr.trans (L.out.fr.trans hf))⟩
  unfold vUnit at hV
  subst hV
  replace HR:=Lh (Sx.go_ok HR.out hv)
  have LA:=Lh (L.out.step hf hs)
  have hl3:l3.length≤1000000:=by have a:=Hl.out;have b:=t1.out;have d:=t2.out;have e3:=Sx.eats_need last _ _ _ _ _ hv;omega
  have HlA:=Lh hl3
  clear hv hs hf he L t1 t2 hl3 Hl
  go_wp2_with fail
  refine (sIsWord g B l3 last _ _ LA.out.ps).mono ?_
  rw[show (⟨#[117,115,101,115]⟩:ByteArray).data.toList=Sx.wUses from rfl]
  rintro e w6 ⟨rfl,hs,hf⟩
  have L7:=LA.out.step hf hs
  go_upto_if 14 with fail
  go_cut [0,1,4] from 5 to 62 (fun v0 v1 v4 wx=>v0 = .pointer (some ⟨g,0,none⟩)∧v1 = .pointer (some ⟨h,0,none⟩)∧v4 = .pointer (some ⟨w2.heap.size,0,none⟩)∧∃ us lB,Hid (R=G1 nm no  us lB)∧Hid (LSt g B last lB w2.heap.size 78 #[.string (Lx.bs nm),.int .i64 no,.int .i64 us,.int .i64 0,.int .i64 0,.int .i64 1,.slice none 0 0] w2 wx)∧Hid (lB.length≤1000000))
  case first=>
    cases hh:Sx.hit 1 Sx.wUses l3 with
    | true=>
      rw[hh,if_pos rfl] at L7
      have L8:=Lh L7
      have hRy:=HR.out
      rw[Sx.opt_yes hh] at hRy
      replace HR:=Lh hRy
      have t7:=Lh (Sx.hit_tail hh)
      clear L7 hRy hs hf hh
      go_wp2_with fail
      refine (sNumber g B _ last 1 4 _ L8.out.ps).mono ?_
      intro e w7 he
      rcases he.split with ⟨p,x,hv,rfl,hf⟩ | ⟨us,l7,u,hv,rfl,hV,hs,hf⟩
      · exact ⟨rfl,DefPost.of_bad (Sx.go_bad HR.out hv) (HC2.out.fr.trans (L8.out.fr.trans hf))⟩
      unfold vInt at hV
      subst hV
      replace HR:=Lh (Sx.go_ok HR.out hv)
      have L9:=L8.out.step hf hs
      have t8:=Lh (Sx.eats_number last _ _ _ _ _ hv)
      have q2:=L9.blk.cell 2;have qf2:=L9.blk.free 2
      simp at q2
      have hp7:=L9.blk.lt
      have L10:Hid (LSt g B last l7 w2.heap.size 78 #[.string (Lx.bs nm),.int .i64 no,.int .i64 us,.int .i64 0,.int .i64 0,.int .i64 1,.slice none 0 0] w2 (w7.setCell ⟨w2.heap.size,2,none⟩ (.int .i64 us))):=Lh (by have:=L9.set 2 (.int .i64 us);simpa using this)
      clear hv hs hf he L8 L9
      go_wp2_with fail
      refine (sSign g B l7 last 59 _ L10.out.ps).mono ?_
      intro e w8 he
      rcases he.split with ⟨p,x,hv,rfl,hf⟩ | ⟨_,l8,u,hv,rfl,hV,hs,hf⟩
      · exact ⟨rfl,DefPost.of_bad (Sx.go_bad HR.out hv) (HC2.out.fr.trans (L10.out.fr.trans hf))⟩
      unfold vUnit at hV
      subst hV
      have HR8:=Lh (Sx.go_ok HR.out hv)
      have HL8:=Lh (L10.out.step hf hs)
      have hl8:l8.length≤1000000:=by have a:=HlA.out;have b:=t7.out;have d:=t8.out;have e3:=Sx.eats_need last _ _ _ _ _ hv;omega
      have Hl8:=Lh hl8
      clear hv hs hf he hl8
      go_wp2_with fail
      go_meet
      exact ⟨rfl,rfl,rfl,us,l8,HR8,HL8,Hl8⟩
    | false=>
      rw[hh,if_neg (by simp)] at L7
      have hRy:=HR.out
      rw[Sx.opt_no hh] at hRy
      have HRn:=Lh hRy
      have HLn:=Lh L7
      clear L7 hRy hs hf hh
      go_wp2_with fail
      go_meet
      exact ⟨rfl,rfl,rfl,1,l3,HRn,HLn,HlA⟩
  case rest=>
    obtain ⟨rfl,rfl,rfl,us,lB,HRc,HLc,Hlc⟩:=hcut
    clear L7 hs hf HR LA HlA
    have hRg:=HRc.out
    rw[HG1.out] at hRg
    have HR:=Lh hRg
    have LB:=HLc
    have HlA:=Hlc
    clear hRg HRc HG1 HLc Hlc
    go_wp2_with fail
    refine (sIsWord g B lB last _ _ LB.out.ps).mono ?_
    rw[show (⟨#[101,97,114,110]⟩:ByteArray).data.toList=Sx.wEarn from rfl]
    rintro e w6 ⟨rfl,hs,hf⟩
    have L7:=LB.out.step hf hs
    go_upto_if 21 with fail
    go_cut [0,1,4] from 5 to 62 (fun v0 v1 v4 wx=>v0 = .pointer (some ⟨g,0,none⟩)∧v1 = .pointer (some ⟨h,0,none⟩)∧v4 = .pointer (some ⟨w2.heap.size,0,none⟩)∧∃ ea lC,Hid (R=G2 nm no us ea lC)∧Hid (LSt g B last lC w2.heap.size 78 #[.string (Lx.bs nm),.int .i64 no,.int .i64 us,.int .i64 ea,.int .i64 0,.int .i64 1,.slice none 0 0] w2 wx)∧Hid (lC.length≤1000000))
    case first=>
      cases hh:Sx.hit 1 Sx.wEarn lB with
      | true=>
        rw[hh,if_pos rfl] at L7
        have L8:=Lh L7
        have hRy:=HR.out
        rw[Sx.opt_yes hh] at hRy
        replace HR:=Lh hRy
        have t7:=Lh (Sx.hit_tail hh)
        clear L7 hRy hs hf hh
        go_wp2_with fail
        refine (sNumber g B _ last 0 10000 _ L8.out.ps).mono ?_
        intro e w7 he
        rcases he.split with ⟨p,x,hv,rfl,hf⟩ | ⟨ea,l7,u,hv,rfl,hV,hs,hf⟩
        · exact ⟨rfl,DefPost.of_bad (Sx.go_bad HR.out hv) (HC2.out.fr.trans (L8.out.fr.trans hf))⟩
        unfold vInt at hV
        subst hV
        replace HR:=Lh (Sx.go_ok HR.out hv)
        have L9:=L8.out.step hf hs
        have t8:=Lh (Sx.eats_number last _ _ _ _ _ hv)
        have q3:=L9.blk.cell 3;have qf3:=L9.blk.free 3
        simp at q3
        have hp7:=L9.blk.lt
        have L10:Hid (LSt g B last l7 w2.heap.size 78 #[.string (Lx.bs nm),.int .i64 no,.int .i64 us,.int .i64 ea,.int .i64 0,.int .i64 1,.slice none 0 0] w2 (w7.setCell ⟨w2.heap.size,3,none⟩ (.int .i64 ea))):=Lh (by have:=L9.set 3 (.int .i64 ea);simpa using this)
        clear hv hs hf he L8 L9
        go_wp2_with fail
        refine (sSign g B l7 last 59 _ L10.out.ps).mono ?_
        intro e w8 he
        rcases he.split with ⟨p,x,hv,rfl,hf⟩ | ⟨_,l8,u,hv,rfl,hV,hs,hf⟩
        · exact ⟨rfl,DefPost.of_bad (Sx.go_bad HR.out hv) (HC2.out.fr.trans (L10.out.fr.trans hf))⟩
        unfold vUnit at hV
        subst hV
        have HR8:=Lh (Sx.go_ok HR.out hv)
        have HL8:=Lh (L10.out.step hf hs)
        have hl8:l8.length≤1000000:=by have a:=HlA.out;have b:=t7.out;have d:=t8.out;have e3:=Sx.eats_need last _ _ _ _ _ hv;omega
        have Hl8:=Lh hl8
        clear hv hs hf he hl8
        go_wp2_with fail
        go_meet
        exact ⟨rfl,rfl,rfl,ea,l8,HR8,HL8,Hl8⟩
      | false=>
        rw[hh,if_neg (by simp)] at L7
        have hRy:=HR.out
        rw[Sx.opt_no hh] at hRy
        have HRn:=Lh hRy
        have HLn:=Lh L7
        clear L7 hRy hs hf hh
        go_wp2_with fail
        go_meet
        exact ⟨rfl,rfl,rfl,0,lB,HRn,HLn,HlA⟩
    case rest=>
      obtain ⟨rfl,rfl,rfl,ea,lC,HRc,HLc,Hlc⟩:=hcut
      clear L7 hs hf HR LB HlA
      have hRg:=HRc.out
      rw[HG2.out] at hRg
      have HR:=Lh hRg
      have LC:=HLc
      have HlA:=Hlc
      clear hRg HRc HG2 HLc Hlc
      go_wp2_with fail
      refine (sIsWord g B lC last _ _ LC.out.ps).mono ?_
      rw[show (⟨#[109,101,97,110]⟩:ByteArray).data.toList=Sx.wMean from rfl]
      rintro e w6 ⟨rfl,hs,hf⟩
      have L7:=LC.out.step hf hs
      go_upto_if 28 with fail
      go_cut [0,1,4] from 5 to 62 (fun v0 v1 v4 wx=>v0 = .pointer (some ⟨g,0,none⟩)∧v1 = .pointer (some ⟨h,0,none⟩)∧v4 = .pointer (some ⟨w2.heap.size,0,none⟩)∧∃ me lD,Hid (R=G3 nm no us ea me lD)∧Hid (LSt g B last lD w2.heap.size 78 #[.string (Lx.bs nm),.int .i64 no,.int .i64 us,.int .i64 ea,.int .i64 me.num,.int .i64 me.den,.slice none 0 0] w2 wx)∧Hid (lD.length≤1000000))
      case first=>
        cases hh:Sx.hit 1 Sx.wMean lC with
        | true=>
          rw[hh,if_pos rfl] at L7
          have L8:=Lh L7
          have hRy:=HR.out
          rw[Sx.opt_yes hh] at hRy
          replace HR:=Lh hRy
          have t7:=Lh (Sx.hit_tail hh)
          clear L7 hRy hs hf hh
          go_wp2_with fail
          refine (sRatio g B _ last _ L8.out.ps).mono ?_
          intro e w7 he
          rcases he.split with ⟨p,x,hv,rfl,hf⟩ | ⟨me,l7,u,hv,rfl,hV,hs,hf⟩
          · exact ⟨rfl,DefPost.of_bad (Sx.go_bad HR.out hv) (HC2.out.fr.trans (L8.out.fr.trans hf))⟩
          unfold vRat at hV
          subst hV
          replace HR:=Lh (Sx.go_ok HR.out hv)
          have L9:=L8.out.step hf hs
          have t8:=Lh (Sx.eats_ratio last _ _ _ hv)
          have q4:=L9.blk.cell 4;have qf4:=L9.blk.free 4
          have q5:=L9.blk.cell 5;have qf5:=L9.blk.free 5
          simp at q4 q5
          have hp7:=L9.blk.lt
          have L10:Hid (LSt g B last l7 w2.heap.size 78 #[.string (Lx.bs nm),.int .i64 no,.int .i64 us,.int .i64 ea,.int .i64 me.num,.int .i64 me.den,.slice none 0 0] w2 ((w7.setCell ⟨w2.heap.size,4,none⟩ (.int .i64 me.num)).setCell ⟨w2.heap.size,5,none⟩ (.int .i64 me.den))):=Lh (by have:=(L9.set 4 (.int .i64 me.num)).set 5 (.int .i64 me.den);simpa using this)
          clear hv hs hf he L8 L9
          go_wp2_with fail
          refine (sSign g B l7 last 59 _ L10.out.ps).mono ?_
          intro e w8 he
          rcases he.split with ⟨p,x,hv,rfl,hf⟩ | ⟨_,l8,u,hv,rfl,hV,hs,hf⟩
          · exact ⟨rfl,DefPost.of_bad (Sx.go_bad HR.out hv) (HC2.out.fr.trans (L10.out.fr.trans hf))⟩
          unfold vUnit at hV
          subst hV
          have HR8:=Lh (Sx.go_ok HR.out hv)
          have HL8:=Lh (L10.out.step hf hs)
          have hl8:l8.length≤1000000:=by have a:=HlA.out;have b:=t7.out;have d:=t8.out;have e3:=Sx.eats_need last _ _ _ _ _ hv;omega
          have Hl8:=Lh hl8
          clear hv hs hf he hl8
          go_wp2_with fail
          go_meet
          exact ⟨rfl,rfl,rfl,me,l8,HR8,HL8,Hl8⟩
        | false=>
          rw[hh,if_neg (by simp)] at L7
          have hRy:=HR.out
          rw[Sx.opt_no hh] at hRy
          have HRn:=Lh hRy
          have HLn:=Lh L7
          clear L7 hRy hs hf hh
          go_wp2_with fail
          go_meet
          exact ⟨rfl,rfl,rfl,⟨0,1⟩,lC,HRn,HLn,HlA⟩
      case rest=>
        obtain ⟨rfl,rfl,rfl,me,lD,HRc,HLc,Hlc⟩:=hcut
        clear L7 hs hf HR LC HlA
        have hRg:=HRc.out
        rw[HG3.out] at hRg
        obtain ⟨Rest,hRest⟩:∃ Rest:List Sx.Req→List Lx.Tok→Sx.R Sx.Cat,Rest=fun qs l=>(Sx.sign last 125 l).bind fun _ l=>.ok { c with progs:=c.progs++[⟨nm,no,us,ea,me,qs⟩] } l:=⟨_,rfl⟩
        have HR:Hid (R=(Sx.takes last (lD.length+1) [] lD).bind Rest):=Lh (by rw [hRg,hRest])
        have HRest:=Lh hRest
        have K0:=Lh (ReqI.start HLc.out)
        have HlD:=Hlc
        clear hRg HRc HG3 HLc Hlc hRest
        go_wp2_with fail
        go_loopg [] lD.length (fun gk wr=>∃ qs css2 v2 l4,Hid (R=(Sx.takes last (gk+1) qs l4).bind Rest)∧Hid (ReqI g B last w2.heap.size (.string (Lx.bs nm)) (.int .i64 no) (.int .i64 us) (.int .i64 ea) (.int .i64 me.num) (.int .i64 me.den) w2 qs css2 v2 l4 wr)∧Hid (l4.length≤gk)∧Hid (qs.length≤64)∧Hid (l4.length≤1000000))
        case atStart=>exact ⟨[],[],.slice none 0 0,lD,HR,K0,Lh (Nat.le_refl _),Lh (by simp),HlD⟩
        case round=>
          clear HR K0 HlD
          obtain ⟨qs,css2,v2,l4,HR,HK,Hk,H64,Hl4⟩:=hrel
          have Hnx:=Lh (sNext g B l4 last 1 ⟨#[116,97,107,101]⟩ _ HK.out.st.ps)
          rw[show (⟨#[116,97,107,101]⟩:ByteArray).data.toList=Sx.wTake from rfl] at Hnx
          obtain ⟨A2,c2,hv2⟩:=HK.out.form
          subst hv2
          cases hh:Sx.hit 1 Sx.wTake l4 with
          | true=>
            rw[hh] at Hnx
            have hRy:=HR.out
            rw[Sx.takes,hh,if_pos rfl] at hRy
            have hword:Sx.word last Sx.wTake l4 = .ok () l4.tail:=by unfold Sx.word Sx.need;rw[hh];rfl
            have HW:=Lh hword
            have q6:=HK.out.st.blk.cell 6;have qf6:=HK.out.st.blk.free 6
            simp at q6
            have tt:=Lh (Sx.hit_tail hh)
            cases h64:((qs.length:Int) == 64) with
            | true=>
              have he64:qs.length=64:=by simp at h64;omega
              rw[if_pos he64] at hRy
              have HR2:Hid (R = .bad (Sx.front last l4) 2):=Lh (by rw [hRy];rfl)
              have Hfail:=Lh (sFail g B l4 last 2 _ HK.out.st.ps)
              have HFr:=Lh (HC2.out.fr.trans HK.out.st.fr)
              have h64':(qs.length:Int)=64:=by omega
              clear hRy hh HR hword HW
              go_wp2_with fail
              refine Hnx.out.mono ?_
              rintro e w6 ⟨rfl,rfl⟩
              go_wp2_with fail
              refine Hfail.out.mono ?_
              rintro e w7 ⟨he,rfl⟩
              unfold FailS at he
              subst he
              exact ⟨rfl,DefPost.of_bad HR2.out HFr.out⟩
            | false=>
              have he64:¬ qs.length=64:=by simp at h64;omega
              rw[if_neg he64] at hRy
              have hRz:R=(Sx.take last l4.tail).bind fun q l=>(Sx.takes last gk (qs++[q]) l).bind Rest:=by rw [hRy,Sx.R.assoc2]
              have HR2:=Lh hRz
              have H64':=Lh he64
              clear hRy hRz hh HR hword he64
              go_wp2_with fail
              refine Hnx.out.mono ?_
              rintro e w6 ⟨rfl,rfl⟩
              go_wp2_with fail
              refine (sWord g B l4 last _ _ HK.out.st.ps).mono ?_
              intro e w7 he
              rcases he.split with ⟨p,x,hv,rfl,hf⟩ | ⟨_,l5,u,hv,rfl,hV,hs,hf⟩
              · exact absurd (HW.out.symm.trans hv) (by intro h;cases h)
              unfold vUnit at hV
              subst hV
              obtain rfl:l5=l4.tail:=by have:=HW.out.symm.trans hv;injection this with _ e;exact e.symm
              have K7:=HK.out.step hf hs
              have c6:=K7.st.blk.cell 6;have cf6:=K7.st.blk.free 6
              simp at c6
              have hp7:=K7.st.blk.lt
              have HKd:=Lh (K7.step (w':=w7.drew) (FrG.below (Below.refl _ _).drew K7.st.ps.lt) (K7.st.ps.next (Below.refl _ _).drew))
              have hl5:l4.tail.length≤1000000:=by have:=Hl4.out;have:=tt.out;omega
              clear hv hs hf he K7 HK Hnx HW q6 qf6
              go_wp2_with fail
              go_region_law (first
                | (refine HK8.out.step_append (lo:=w7.drew.heap.size) (x:=qq) (cs:=[.string (Lx.bs qn),.int .i64 qc,.int .i64 qg,.bool qh,.slice qA qi qj,.slice qB qk qm]) HX8.out HKd.out.st.blk.lt (fun z hz=>own_lt HKd.out.own hz) H64.out rfl _ _ _ rfl j0 _ Tryz.underlying76 hj0 jz0 jz1 jz2 rfl rfl rfl (by simp [Value.oneCell']) ?_;intro gg cap w9 d6 df6 HP)
                | (go_simp;go_at_call 162;refine (sTake g B l4.tail last _ HKd.out.st.ps hl5).mono ?_;intro e w8 he;rcases he.split with ⟨p,x,hv,rfl,hf⟩ | ⟨qq,l8,u8,hv,rfl,hV,hs,hf⟩;(exact ⟨rfl,DefPost.of_bad (Sx.go_bad HR2.out hv) (HC2.out.fr.trans (HKd.out.st.fr.trans hf))⟩);obtain ⟨cs8,hV,hra⟩:=hV;have hra0:=hra;obtain ⟨qA,qj,qB,qm,rfl,-,-,-⟩:=hra;obtain ⟨qn,hqn⟩:∃ a,a=qq.name:=⟨_,rfl⟩;obtain ⟨qc,hqc⟩:∃ a,a=qq.credits:=⟨_,rfl⟩;obtain ⟨qg,hqg⟩:∃ a,a=qq.grade:=⟨_,rfl⟩;obtain ⟨qh,hqh⟩:∃ a,a=qq.home:=⟨_,rfl⟩;obtain ⟨qi,hqi⟩:∃ a,a=qq.names.length:=⟨_,rfl⟩;obtain ⟨qk,hqk⟩:∃ a,a=qq.froms.length:=⟨_,rfl⟩;unfold intV strV at hV hra0;rw[←hqn,←hqc,←hqg,←hqh,←hqi,←hqk] at hV hra0;subst hV;have HR8:=Lh (Sx.go_ok HR2.out hv);have K8:=HKd.out.step hf hs;have e6:=K8.st.blk.cell 6;have ef6:=K8.st.blk.free 6;simp at e6;have hp8:=K8.st.blk.lt;have HK8:=Lh K8;have HX8:=Lh hra0;have t8:Hid (l8.length≤l4.tail.length):=Lh (Sx.cuts_take.shrinks (last:=last) (l:=l4.tail) hv);clear hv hs hf he hra0 K8 hqn hqc hqg hqh hqi hqk))
              all_goals (try go_wp2_with fail)
              all_goals (go_roundg (gk - 1))
              all_goals first
                | (have a:=Hk.out;have b:=tt.out;omega)
                | (have a:=Hk.out;have b:=tt.out;have d:=t8.out;have f:=H64.out;have f':=H64'.out;have a':=Hl4.out
                   exact ⟨_,_,_,l8,Lh (by rw [show gk - 1+1=gk by omega];exact HR8.out),Lh HP,Lh (by omega),Lh (by simp;omega),Lh (by omega)⟩)
          | false=>
            rw[hh] at Hnx
            have hRy:=HR.out
            rw[Sx.takes,hh,if_neg (by simp)] at hRy
            have hRz:R=(Sx.sign last 125 l4).bind fun _ l=>.ok { c with progs:=c.progs++[⟨nm,no,us,ea,me,qs⟩] } l:=by rw [hRy,Sx.ok_bind,HRest.out]
            have HR2:=Lh hRz
            clear hRy hRz hh HR HRest
            go_wp2_with fail
            refine Hnx.out.mono ?_
            rintro e w6 ⟨rfl,rfl⟩
            go_wp2_with fail
            refine (sSign g B l4 last 125 _ HK.out.st.ps).mono ?_
            intro e w7 he
            rcases he.split with ⟨p,x,hv,rfl,hf⟩ | ⟨_,l7,u,hv,rfl,hV,hs,hf⟩
            · exact ⟨rfl,DefPost.of_bad (Sx.go_bad HR2.out hv) (HC2.out.fr.trans (HK.out.st.fr.trans hf))⟩
            unfold vUnit at hV
            subst hV
            have HR7:=Lh (Sx.go_ok HR2.out hv)
            have K7:=HK.out.step hf hs
            have q0:=K7.st.blk.cell 0;have q1:=K7.st.blk.cell 1;have q2:=K7.st.blk.cell 2;have q3:=K7.st.blk.cell 3;have q4:=K7.st.blk.cell 4;have q5:=K7.st.blk.cell 5;have q6:=K7.st.blk.cell 6
            simp at q0 q1 q2 q3 q4 q5 q6
            have hp7:=K7.st.blk.lt
            have C7:=HC2.out.step K7.st.fr K7.st.ps
            have c7:w7.cell? ⟨h,2,none⟩=some v:=by rw [C7.blk.cell 2];simpa using HI.out.1
            have hh7:=C7.blk.lt
            obtain ⟨Aq,cq,hvq,hrow⟩:=K7.out H64.out
            injection hvq with hvq1 _ hvq3
            subst hvq1;subst hvq3
            have HX:Hid (ItemAt w7.drew (fun b=>w2.heap.size≤b∧b < w7.drew.heap.size) (.prog ⟨nm,no,us,ea,me,qs⟩) [.string (Lx.bs nm),.int .i64 no,.int .i64 us,.int .i64 ea,.int .i64 me.num,.int .i64 me.den,.slice A2 qs.length c2]):=Lh ⟨A2,c2,rfl,Hnl.out,hrow.keep (fun b hb=>⟨⟨by have:=hb.1;omega,hb.2⟩,fun _=>rfl⟩) (fun _ _ _ hr=>ReqAt.keep (w:=w7) (w':=w7.drew) (fun b hb=>⟨⟨by have:=hb.1;omega,hb.2⟩,fun _=>rfl⟩) hr)⟩
            have HC7:=Lh C7.drew
            have HROW:=Lh (fun u (hu:u∈vs) z (hz:u.ownBlock=some z)=>(HC2.out.ownOf hu hz).2)
            clear hv hs hf he HK K7 C7 Hnx hrow HR2
            go_wp2_with fail
            go_region_law (refine HC7.out.step_append (i:=2) (lo:=w2.heap.size) (x:=.prog ⟨nm,no,us,ea,me,qs⟩) (cs:=[.string (Lx.bs nm),.int .i64 no,.int .i64 us,.int .i64 ea,.int .i64 me.num,.int .i64 me.den,.slice A2 qs.length c2]) HI.out.1 HI.out.2.1 HI.out.2.2 HX.out rfl hh2 HROW.out hrf rfl _ _ _ rfl i0 _ 80 Tryz.underlying25 hi0 hz0 hz1 hz2 rfl (by omega) rfl rfl (by simp [Value.oneCell']) ?_;intro gg cap w12 d1 df1 HP)
            all_goals go_end0
            all_goals exact DefPost.of_ok HR7.out (by rw [HIS.out];simp[itemsOf]) HP
end Go.Proofs.YtjonaidancomgaaGreatDoor
