/- Parts of the proof, joined into one text: WJ, Yq. -/
import Derived.Test.YtjonaidancomgaaGreatDoorPSxKids
import Derived.Test.YtjonaidancomgaaGreatDoorPSxKidW
import Derived.Deep.CutRange
import Derived.Test.YtjonaidancomgaaGreatDoorPSxTakeM
import Derived.Test.YtjonaidancomgaaGreatDoorPSxEq
set_option maxHeartbeats 4000000
set_option maxRecDepth 20000
namespace Go.Proofs.YtjonaidancomgaaGreatDoor
open Go.RowKit
theorem Sx.sP {α β:Type} {last:Int} {w:List UInt8} {f:List Lx.Tok→Sx.R α} {d:α} {l:List Lx.Tok} {G:α→List Lx.Tok→Sx.R β} (hh:Sx.hit 1 w l=true):(Sx.opt last w f d l).bind G=(f l.tail).bind fun a l=>(Sx.sign last 59 l).bind fun _ l=>G a l:=by
 unfold Sx.opt;rw[hh,if_pos rfl];simp only[Sx.R.rG,Sx.fU]
theorem Sx.xu {α β:Type} {last:Int} {w:List UInt8} {f:List Lx.Tok→Sx.R α} {d:α} {l:List Lx.Tok} {G:α→List Lx.Tok→Sx.R β} (hh:Sx.hit 1 w l=false):(Sx.opt last w f d l).bind G=G d l:=by
 unfold Sx.opt;rw[hh,if_neg (by simp)];rfl
def gK (p:Nat) (w:World) (r:Sx.Rule) (cs:List Value):Prop:=aB w (fun b=>p < b∧b < w.heap.size) r cs
theorem gK.step {p g:Nat} {w w':World} {r:Sx.Rule} {cs:List Value} (h:gK p w r cs) (hf:eP g w w') (hg:g < p):gK p w' r cs:=
 aB.keep (fun b hb=>⟨⟨hb.1,Nat.lt_of_lt_of_le hb.2 hf.aY.size⟩,fun j=>hf.cell hb.2 (by have:=hb.1;omega) j⟩) r cs h
theorem gK.set {p:Nat} {w:World} {r:Sx.Rule} {cs:List Value} (h:gK p w r cs) (i:Nat) (u:Value):gK p (w.setCell ⟨p,i,none⟩ u) r cs:=
 aB.keep (fun b hb=>⟨⟨hb.1,by simpa [World.setCell] using hb.2⟩,fun j=>World.cell?_of_block (a:=⟨b,j,none⟩) (Below.heap_setCell w ⟨p,i,none⟩ u b (show b≠p by have:=hb.1;omega))⟩) r cs h
theorem gK.of {p lo:Nat} {w:World} {r:Sx.Rule} {cs:List Value} (h:aB w (fun b=>lo≤b∧b < w.heap.size) r cs) (hp:p < lo):gK p w r cs:=
 aB.keep (fun b hb=>⟨⟨by have:=hb.1;omega,hb.2⟩,fun _=>rfl⟩) r cs h
theorem gK.at {p:Nat} {w:World} {r:Sx.Rule} {cs:List Value} (h:gK p w r cs):aB w.drew (fun b=>p≤b∧b < w.drew.heap.size) r cs:=
 aB.keep (w:=w) (w':=w.drew) (S':=fun b=>p≤b∧b < w.drew.heap.size) (fun b hb=>⟨⟨by have:=hb.1;omega,hb.2⟩,fun _=>rfl⟩) r cs h
theorem iU.pack {g B:Nat} {last:Int} {ws:List (List UInt8)} {l:List Lx.Tok} {w w':World} {e:Ending} (h:iU g B last ws l w e w') :
  ∃ (z m:Int) (l':List Lx.Tok),e = .returned (.int .i64 z)∧PS g B last l' w'∧eP g w w'∧-1≤z∧z < ws.length∧m=max 0 z∧(match Sx.find ws l with | some i=>((i:Int),l.tail) | none=>(0,l))=(m,l'):=by
 unfold iU at h;cases hf:Sx.find ws l with
 | none=>
  rw[hf] at h;exact ⟨-1,0,l,h.1,h.2.1,h.2.2,by omega,by omega,rfl,rfl⟩
 | some i=>
  rw[hf] at h;have hi:i < ws.length:=by
   unfold Sx.find at hf;exact (List.findIdx?_eq_some_iff_getElem.1 hf).1
  exact ⟨i,i,l.tail,h.1,h.2.1,h.2.2,by omega,by omega,by omega,rfl⟩
theorem Tryz.infoCourseD:(Tryz.prog.info? 58).map (fun i=>(i.zero,i.size,i.bytes))=some (some (.agg #[.string ⟨#[]⟩,.int .i64 0,.int .i64 0,.int .i64 0,.int .i64 0,.int .i64 0,.string ⟨#[]⟩,.int .i64 0,.int .i64 0,.slice none 0 0,.int .i64 0,.int .i64 0,.string ⟨#[]⟩,.int .i64 0,.int .i64 0,.slice none 0 0]),16,184):=by kernel_rfl
theorem Ni (N:Nat):Cn N 84 fun last c l=>(Sx.course last l).bind fun x l=>.ok { c with courses:=c.courses++[x] } l:=by
 intro g B h l last w0 w c vs css H he hN gT hl;obtain ⟨R,hR⟩:∃ R,R=(Sx.course last l).bind fun x l=>(.ok { c with courses:=c.courses++[x] } l:Sx.R Sx.dh):=⟨_,rfl⟩
 show Calls _ _ _ _ (aP g B last h w0 ((Sx.course last l).bind fun x l=>(.ok { c with courses:=c.courses++[x] } l:Sx.R Sx.dh)));rw[←hR];replace hR:R=(Sx.number last 0 4095 l).bind fun no l=>(Sx.name last l).bind fun nm l=>(Sx.number last 1 60 l).bind fun cr l=>
   (Sx.sign last 123 (match Sx.find Sx.repeatWords l with | some i=>((i:Int),l.tail) | none=>(0,l)).2).bind fun _ l'=>(Sx.opt last Sx.je (Sx.rule last 16 0) (.mk 1 0 [] 0 0 []) l').bind fun nd l'=>(Sx.opt last Sx.lN (Sx.rule last 16 0) (.mk 2 0 [] 0 0 []) l').bind fun br l'=>(Sx.sign last 125 l').bind fun _ l'=>
    .ok { c with courses:=c.courses++[⟨nm,no,cr,(match Sx.find Sx.repeatWords l with | some i=>((i:Int),l.tail) | none=>(0,l)).1,nd,br⟩] } l':=by rw [hR];simp only[Sx.course,Sx.R.rG,Sx.fU];rfl
 have HR:=Lh hR;have HC:=Lh H;have HE:=Lh he;have hlt:=H.ps.lt;have hgl:h < w.heap.size:=H.blk.lt;have hgh:=H.gh;obtain ⟨i0,hi0,hz0,hz1,hz2⟩:=info_parts Tryz.infoCourseD;obtain ⟨v,rs,is,hv1,ni,iB,hrl⟩:=H.get (i:=0) (by omega);have hrf:rs.length≤1000000:=by rw [hrl];exact gT is (List.mem_of_getElem? iB)
 have nu:is=c.courses.map .course:=by simpa [dA] using iB.symm
 have HI:=Lh (And.intro hv1 (And.intro ni iB));have HIS:=Lh nu;clear H hR hv1 ni iB hrl gT nu he;go_enter Tryz.func84,Tryz.ntmps84;go_wp2_with fail;refine (fV g B l last 0 4095 _ HC.out.ps).mono ?_;intro e w1 he
 rcases he.split with ⟨p,x,hv,rfl,hf⟩ | ⟨no,l1,u,hv,rfl,hV,hs,hf⟩
 ·exact ⟨rfl,aP.aM (Sx.aR HR.out hv) (HC.out.fr.trans hf)⟩
 unfold gJ at hV;subst hV;replace HR:=Lh (Sx.go_ok HR.out hv);have Np:=Lh (HC.out.step hf hs);have UW:=Lh hf;clear hv hs hf he HC;go_wp2_with fail;refine (zq g B l1 last _ Np.out.ps).mono ?_;intro e w2 he
 rcases he.split with ⟨p,x,hv,rfl,hf⟩ | ⟨nm,l2,u,hv,rfl,hV,hs,hf⟩
 ·exact ⟨rfl,aP.aM (Sx.aR HR.out hv) (Np.out.fr.trans hf)⟩
 obtain ⟨hV,hnl⟩:=hV;unfold bB at hV;subst hV;replace HR:=Lh (Sx.go_ok HR.out hv);have Cq:=Lh (Np.out.step hf hs);have LV:=Lh (UW.out.trans hf);have Hnl:=Lh hnl;clear hv hs hf he Np UW hnl;go_wp2_with fail;refine (fV g B l2 last 1 60 _ Cq.out.ps).mono ?_;intro e w3 he
 rcases he.split with ⟨p,x,hv,rfl,hf⟩ | ⟨cr,l3,u,hv,rfl,hV,hs,hf⟩
 ·exact ⟨rfl,aP.aM (Sx.aR HR.out hv) (Cq.out.fr.trans hf)⟩
 unfold gJ at hV;subst hV;replace HR:=Lh (Sx.go_ok HR.out hv);have C3:=Cq.out.step hf hs;have WK:=HE.out.fr (LV.out.trans hf) hN;have hg3:=C3.ps.lt;have hh3:=C3.blk.lt;have L:=Lh (jl.start C3.ps 58 #[.string (Lx.bs nm),.int .i64 no,.int .i64 cr,.int .i64 0,.int .i64 1,.int .i64 0,.string ⟨#[]⟩,.int .i64 0,.int .i64 0,.slice none 0 0,.int .i64 2,.int .i64 0,.string ⟨#[]⟩,.int .i64 0,.int .i64 0,.slice none 0 0]);obtain ⟨bq,oq,cq,rc,rN,rwq⟩:=WK.rep;have DN:=WK.size;rw[show Sx.repeatWords.length=3 from rfl] at rc;have UY:=Lh WK;have Pf:=Lh C3
 have Yr:=Lh (FB g B N bq oq cq Sx.repeatWords l3 last _ L.out.ps (rwq.keep (L.out.fr.aY.mono hN)) hN (by decide));rw[show Sx.repeatWords.length=3 from rfl] at Yr;have hgr:4 < w3.heap.size:=by omega
 clear hv hs hf he Cq LV HE C3 WK rwq;go_wp2_with fail;refine Yr.out.mono ?_;intro e w4 he;obtain ⟨z,m,l4,rfl,hs,hf,hz1',hz2',hm,LW⟩:=he.pack;have Yt:=HR.out;simp only[LW] at Yt;replace HR:=Lh Yt;have L4:=L.out.step hf hs;have q3:=L4.blk.cell 3;have sQ:=L4.blk.free 3;simp at q3;have SN:=L4.blk.lt;have hm0:IntKind.i64.wrap (max 0 z)=m:=by rw [hm];exact IntWalk.i64_in _ (by rw [show Sx.repeatWords.length=3 from rfl] at hz2';omega)
 have L5:Hid (jl g B last l4 w3.heap.size 58 #[.string (Lx.bs nm),.int .i64 no,.int .i64 cr,.int .i64 m,.int .i64 1,.int .i64 0,.string ⟨#[]⟩,.int .i64 0,.int .i64 0,.slice none 0 0,.int .i64 2,.int .i64 0,.string ⟨#[]⟩,.int .i64 0,.int .i64 0,.slice none 0 0] w3 (w4.setCell ⟨w3.heap.size,3,none⟩ (.int .i64 m))):=Lh (by have:=L4.set 3 (.int .i64 m);simpa using this);clear hs hf he LW Yt L L4 Yr hz1' hz2';go_wp2_with fail;rw[←hm];clear hm hm0;refine (iA g B l4 last 123 _ L5.out.ps).mono ?_;intro e w5 he
 rcases he.split with ⟨p,x,hv,rfl,hf⟩ | ⟨_,l5,u,hv,rfl,hV,hs,hf⟩
 ·exact ⟨rfl,aP.aM (Sx.aR HR.out hv) (Pf.out.fr.trans (L5.out.fr.trans hf))⟩
 unfold fQ at hV;subst hV;obtain ⟨G,hG⟩:∃ G:Sx.Rule→List Lx.Tok→Sx.R Sx.dh,G=fun nd l'=>(Sx.opt last Sx.lN (Sx.rule last 16 0) (.mk 2 0 [] 0 0 []) l').bind fun br l'=>(Sx.sign last 125 l').bind fun _ l'=>.ok { c with courses:=c.courses++[⟨nm,no,cr,m,nd,br⟩] } l':=⟨_,rfl⟩
 have Ho:=Sx.go_ok HR.out hv;rw[←hG] at Ho;replace HR:=Lh Ho;have HG:=Lh hG;have L6:=Lh (L5.out.step hf hs);clear hv hs hf he Ho hG L5;go_wp2_with fail;refine (jG g B l5 last _ _ L6.out.ps).mono ?_;rw[show (⟨#[110,101,101,100]⟩:ByteArray).data.toList=Sx.je from rfl];rintro e w6 ⟨rfl,hs,hf⟩;have L7:=L6.out.step hf hs;go_upto_if 23 with fail
 go_cut [0,1,4] from 5 to 47 (fun v0 v1 v4 wx=>v0 = .pointer (some ⟨g,0,none⟩)∧v1 = .pointer (some ⟨h,0,none⟩)∧v4 = .pointer (some ⟨w3.heap.size,0,none⟩)∧∃ opn con vK nn dn vL An cn l8,Hid (R=G (.mk opn con vK nn dn vL) l8)∧Hid (jl g B last l8 w3.heap.size 58 #[.string (Lx.bs nm),.int .i64 no,.int .i64 cr,.int .i64 m,.int .i64 opn,.int .i64 con,.string (Lx.bs vK),.int .i64 nn,.int .i64 dn,.slice An vL.length cn,.int .i64 2,.int .i64 0,.string ⟨#[]⟩,.int .i64 0,.int .i64 0,.slice none 0 0] w3 wx)∧Hid (gK w3.heap.size wx (.mk opn con vK nn dn vL) [.int .i64 opn,.int .i64 con,.string (Lx.bs vK),.int .i64 nn,.int .i64 dn,.slice An vL.length cn]))
 case first=>
  cases hh:Sx.hit 1 Sx.je l5 with
  | true=>
   rw[hh,if_pos rfl] at L7;have L8:=Lh L7;have hRy:=HR.out;rw[Sx.sP hh] at hRy;replace HR:=Lh hRy;have SQ:=Lh (UY.out.fr L7.fr hN);clear L7 hRy hs hf hh;go_wp2_with fail;refine (Ke N g B _ last _ L8.out.ps SQ.out hN).mono ?_;intro e w7 he
   rcases he.split with ⟨p,x,hv,rfl,hf⟩ | ⟨nd,l7,u,hv,rfl,hV,hs,hf⟩
   ·exact ⟨rfl,aP.aM (Sx.aR HR.out hv) (Pf.out.fr.trans (L8.out.fr.trans hf))⟩
   obtain ⟨cs7,hV,hra⟩:=hV;obtain ⟨opn,con,vK,nn,dn,vL⟩:=nd;have iG:=hra;rw[aB] at hra;obtain ⟨An,cn,rfl,-,-,-⟩:=hra;unfold aT bB at hV;subst hV;replace HR:=Lh (Sx.go_ok HR.out hv);have UZ:gK w3.heap.size w7 (.mk opn con vK nn dn vL) [.int .i64 opn,.int .i64 con,.string (Lx.bs vK),.int .i64 nn,.int .i64 dn,.slice An vL.length cn]:=gK.of iG L8.out.blk.lt;have L9:=L8.out.step hf hs;have q4:=L9.blk.cell 4;have BI:=L9.blk.free 4;have q5:=L9.blk.cell 5;have BJ:=L9.blk.free 5;have q6:=L9.blk.cell 6;have Yu:=L9.blk.free 6;have q7:=L9.blk.cell 7;have qf7:=L9.blk.free 7
   have q8:=L9.blk.cell 8;have qf8:=L9.blk.free 8;have q9:=L9.blk.cell 9;have qf9:=L9.blk.free 9;simp at q4 q5 q6 q7 q8 q9;have QE:=L9.blk.lt
   have vY:Hid (jl g B last l7 w3.heap.size 58 #[.string (Lx.bs nm),.int .i64 no,.int .i64 cr,.int .i64 m,.int .i64 opn,.int .i64 con,.string (Lx.bs vK),.int .i64 nn,.int .i64 dn,.slice An vL.length cn,.int .i64 2,.int .i64 0,.string ⟨#[]⟩,.int .i64 0,.int .i64 0,.slice none 0 0] w3 ((((((w7.setCell ⟨w3.heap.size,4,none⟩ (.int .i64 opn)).setCell ⟨w3.heap.size,5,none⟩ (.int .i64 con)).setCell ⟨w3.heap.size,6,none⟩ (.string (Lx.bs vK))).setCell ⟨w3.heap.size,7,none⟩ (.int .i64 nn)).setCell ⟨w3.heap.size,8,none⟩ (.int .i64 dn)).setCell ⟨w3.heap.size,9,none⟩ (.slice An vL.length cn))):=Lh (by have:=(((((L9.set 4 (.int .i64 opn)).set 5 (.int .i64 con)).set 6 (.string (Lx.bs vK))).set 7 (.int .i64 nn)).set 8 (.int .i64 dn)).set 9 (.slice An vL.length cn);simpa using this)
   have Yv:Hid (gK w3.heap.size ((((((w7.setCell ⟨w3.heap.size,4,none⟩ (.int .i64 opn)).setCell ⟨w3.heap.size,5,none⟩ (.int .i64 con)).setCell ⟨w3.heap.size,6,none⟩ (.string (Lx.bs vK))).setCell ⟨w3.heap.size,7,none⟩ (.int .i64 nn)).setCell ⟨w3.heap.size,8,none⟩ (.int .i64 dn)).setCell ⟨w3.heap.size,9,none⟩ (.slice An vL.length cn)) (.mk opn con vK nn dn vL) [.int .i64 opn,.int .i64 con,.string (Lx.bs vK),.int .i64 nn,.int .i64 dn,.slice An vL.length cn]):=Lh (((((((UZ).set 4 _).set 5 _).set 6 _).set 7 _).set 8 _).set 9 _);clear hv hs hf he iG UZ L8 L9;go_wp2_with fail
   refine (iA g B l7 last 59 _ vY.out.ps).mono ?_;intro e w8 he
   rcases he.split with ⟨p,x,hv,rfl,hf⟩ | ⟨_,l8,u,hv,rfl,hV,hs,hf⟩
   ·exact ⟨rfl,aP.aM (Sx.aR HR.out hv) (Pf.out.fr.trans (vY.out.fr.trans hf))⟩
   unfold fQ at hV;subst hV;have vM:=Lh (Sx.go_ok HR.out hv);have FC:=Lh (vY.out.step hf hs);have Yw:=Lh (Yv.out.step hf hg3);clear hv hs hf he;go_wp2_with fail
   go_meet
   exact ⟨rfl,rfl,rfl,opn,con,vK,nn,dn,vL,An,cn,l8,vM,FC,Yw⟩
  | false=>
   rw[hh,if_neg (by simp)] at L7;have hRy:=HR.out;rw[Sx.xu hh] at hRy;have Kg:=Lh hRy;have zu:=Lh L7;clear L7 hRy hs hf hh;go_wp2_with fail
   go_meet
   exact ⟨rfl,rfl,rfl,1,0,[],0,0,[],none,0,l5,Kg,zu,Lh (fF _ _ 1 0 [] 0 0 (by simp))⟩
 case rest=>
 obtain ⟨rfl,rfl,rfl,opn,con,vK,nn,dn,vL,An,cn,l8,Kh,Jh,HN⟩:=hcut;have Ew:=Kh.out;rw[HG.out] at Ew;replace HR:=Lh Ew;clear L7 L6 hs hf Ew Kh HG;go_wp2_with fail;refine (jG g B l8 last _ _ Jh.out.ps).mono ?_;rw[show (⟨#[98,97,114]⟩:ByteArray).data.toList=Sx.lN from rfl];rintro e w9 ⟨rfl,hs,hf⟩;have L7:=Jh.out.step hf hs;go_upto_if 30 with fail
 go_cut [0,1,4] from 5 to 47 (fun v0 v1 v4 wx=>v0 = .pointer (some ⟨g,0,none⟩)∧v1 = .pointer (some ⟨h,0,none⟩)∧v4 = .pointer (some ⟨w3.heap.size,0,none⟩)∧∃ yI yJ yK nb db yL Ab cb l9,Hid (R=(Sx.sign last 125 l9).bind fun _ l'=>.ok { c with courses:=c.courses++[⟨nm,no,cr,m,.mk opn con vK nn dn vL,.mk yI yJ yK nb db yL⟩] } l')∧Hid (jl g B last l9 w3.heap.size 58 #[.string (Lx.bs nm),.int .i64 no,.int .i64 cr,.int .i64 m,.int .i64 opn,.int .i64 con,.string (Lx.bs vK),.int .i64 nn,.int .i64 dn,.slice An vL.length cn,.int .i64 yI,.int .i64 yJ,.string (Lx.bs yK),.int .i64 nb,.int .i64 db,.slice Ab yL.length cb] w3 wx)∧Hid (gK w3.heap.size wx (.mk yI yJ yK nb db yL) [.int .i64 yI,.int .i64 yJ,.string (Lx.bs yK),.int .i64 nb,.int .i64 db,.slice Ab yL.length cb])∧Hid (gK w3.heap.size wx (.mk opn con vK nn dn vL) [.int .i64 opn,.int .i64 con,.string (Lx.bs vK),.int .i64 nn,.int .i64 dn,.slice An vL.length cn]))
 case first=>
  cases hh:Sx.hit 1 Sx.lN l8 with
  | true=>
   rw[hh,if_pos rfl] at L7;have L8:=Lh L7;have hRy:=HR.out;rw[Sx.sP hh] at hRy;replace HR:=Lh hRy;have SQ:=Lh (UY.out.fr L7.fr hN);have Yx:=Lh (HN.out.step hf hg3);clear L7 hRy hs hf hh;go_wp2_with fail;refine (Ke N g B _ last _ L8.out.ps SQ.out hN).mono ?_;intro e w7 he
   rcases he.split with ⟨p,x,hv,rfl,hf⟩ | ⟨nd,l7,u,hv,rfl,hV,hs,hf⟩
   ·exact ⟨rfl,aP.aM (Sx.aR HR.out hv) (Pf.out.fr.trans (L8.out.fr.trans hf))⟩
   obtain ⟨cs7,hV,hra⟩:=hV;obtain ⟨yI,yJ,yK,nb,db,yL⟩:=nd;have iG:=hra;rw[aB] at hra;obtain ⟨Ab,cb,rfl,-,-,-⟩:=hra;unfold aT bB at hV;subst hV;replace HR:=Lh (Sx.go_ok HR.out hv);have UZ:gK w3.heap.size w7 (.mk yI yJ yK nb db yL) [.int .i64 yI,.int .i64 yJ,.string (Lx.bs yK),.int .i64 nb,.int .i64 db,.slice Ab yL.length cb]:=gK.of iG L8.out.blk.lt;have L9:=L8.out.step hf hs;have Yy:=L9.blk.cell 10;have q2a:=L9.blk.free 10;have Yz:=L9.blk.cell 11;have q2b:=L9.blk.free 11;have YA:=L9.blk.cell 12;have q2c:=L9.blk.free 12
   have YB:=L9.blk.cell 13;have q2d:=L9.blk.free 13;have YC:=L9.blk.cell 14;have q2e:=L9.blk.free 14;have YD:=L9.blk.cell 15;have q2f:=L9.blk.free 15;have HN9:=Lh ((((((((Yx.out.step hf hg3)).set 10 (.int .i64 yI)).set 11 (.int .i64 yJ)).set 12 (.string (Lx.bs yK))).set 13 (.int .i64 nb)).set 14 (.int .i64 db)).set 15 (.slice Ab yL.length cb));simp at Yy Yz YA YB YC YD;have QE:=L9.blk.lt
   have vY:Hid (jl g B last l7 w3.heap.size 58 #[.string (Lx.bs nm),.int .i64 no,.int .i64 cr,.int .i64 m,.int .i64 opn,.int .i64 con,.string (Lx.bs vK),.int .i64 nn,.int .i64 dn,.slice An vL.length cn,.int .i64 yI,.int .i64 yJ,.string (Lx.bs yK),.int .i64 nb,.int .i64 db,.slice Ab yL.length cb] w3 ((((((w7.setCell ⟨w3.heap.size,10,none⟩ (.int .i64 yI)).setCell ⟨w3.heap.size,11,none⟩ (.int .i64 yJ)).setCell ⟨w3.heap.size,12,none⟩ (.string (Lx.bs yK))).setCell ⟨w3.heap.size,13,none⟩ (.int .i64 nb)).setCell ⟨w3.heap.size,14,none⟩ (.int .i64 db)).setCell ⟨w3.heap.size,15,none⟩ (.slice Ab yL.length cb))):=Lh (by have:=(((((L9.set 10 (.int .i64 yI)).set 11 (.int .i64 yJ)).set 12 (.string (Lx.bs yK))).set 13 (.int .i64 nb)).set 14 (.int .i64 db)).set 15 (.slice Ab yL.length cb);simpa using this)
   have Yv:Hid (gK w3.heap.size ((((((w7.setCell ⟨w3.heap.size,10,none⟩ (.int .i64 yI)).setCell ⟨w3.heap.size,11,none⟩ (.int .i64 yJ)).setCell ⟨w3.heap.size,12,none⟩ (.string (Lx.bs yK))).setCell ⟨w3.heap.size,13,none⟩ (.int .i64 nb)).setCell ⟨w3.heap.size,14,none⟩ (.int .i64 db)).setCell ⟨w3.heap.size,15,none⟩ (.slice Ab yL.length cb)) (.mk yI yJ yK nb db yL) [.int .i64 yI,.int .i64 yJ,.string (Lx.bs yK),.int .i64 nb,.int .i64 db,.slice Ab yL.length cb]):=Lh (((((((UZ).set 10 _).set 11 _).set 12 _).set 13 _).set 14 _).set 15 _);clear hv hs hf he iG UZ L8 L9
   go_wp2_with fail;refine (iA g B l7 last 59 _ vY.out.ps).mono ?_;intro e w8 he
   rcases he.split with ⟨p,x,hv,rfl,hf⟩ | ⟨_,l8,u,hv,rfl,hV,hs,hf⟩
   ·exact ⟨rfl,aP.aM (Sx.aR HR.out hv) (Pf.out.fr.trans (vY.out.fr.trans hf))⟩
   unfold fQ at hV;subst hV;have vM:=Lh (Sx.go_ok HR.out hv);have FC:=Lh (vY.out.step hf hs);have Yw:=Lh (Yv.out.step hf hg3);have HN8:=Lh (HN9.out.step hf hg3);clear hv hs hf he;go_wp2_with fail
   go_meet
   exact ⟨rfl,rfl,rfl,yI,yJ,yK,nb,db,yL,Ab,cb,l8,vM,FC,Yw,HN8⟩
  | false=>
   rw[hh,if_neg (by simp)] at L7;have hRy:=HR.out;rw[Sx.xu hh] at hRy;have Kg:=Lh hRy;have zu:=Lh L7;have Yx:=Lh (HN.out.step hf hg3);clear L7 hRy hs hf hh;go_wp2_with fail
   go_meet
   exact ⟨rfl,rfl,rfl,2,0,[],0,0,[],none,0,l8,Kg,zu,Lh (fF _ _ 2 0 [] 0 0 (by simp)),Yx⟩
 case rest=>
 obtain ⟨rfl,rfl,rfl,yI,yJ,yK,nb,db,yL,Ab,cb,l9,YE,WL,HB,Ji⟩:=hcut;clear L7 hs hf HR Jh HN;go_wp2_with fail;refine (iA g B l9 last 125 _ WL.out.ps).mono ?_;intro e QF he
 rcases he.split with ⟨p,x,hv,rfl,hf⟩ | ⟨_,l10,u,hv,rfl,hV,hs,hf⟩
 ·exact ⟨rfl,aP.aM (Sx.aR YE.out hv) (Pf.out.fr.trans (WL.out.fr.trans hf))⟩
 unfold fQ at hV;subst hV;have HR:=Lh (Sx.go_ok YE.out hv);have sS:=WL.out.step hf hs;have q0:=sS.blk.cell 0;have q1:=sS.blk.cell 1;have q2:=sS.blk.cell 2;have q3:=sS.blk.cell 3;have q4:=sS.blk.cell 4;have q5:=sS.blk.cell 5;have q6:=sS.blk.cell 6;have q7:=sS.blk.cell 7;have q8:=sS.blk.cell 8;have q9:=sS.blk.cell 9;have Yy:=sS.blk.cell 10;have Yz:=sS.blk.cell 11;have YA:=sS.blk.cell 12;have YB:=sS.blk.cell 13;have YC:=sS.blk.cell 14;have YD:=sS.blk.cell 15;simp at q0 q1 q2 q3 q4 q5 q6 q7 q8 q9 Yy Yz YA YB YC YD;have YF:=sS.blk.lt
 have Nq:=Pf.out.step sS.fr sS.ps;have c11:QF.cell? ⟨h,0,none⟩=some v:=by rw [Nq.blk.cell 0];simpa using HI.out.1
 have YG:=Nq.blk.lt
 have HX:Hid (iV QF.drew (fun b=>w3.heap.size≤b∧b < QF.drew.heap.size) (.course ⟨nm,no,cr,m,.mk opn con vK nn dn vL,.mk yI yJ yK nb db yL⟩) [.string (Lx.bs nm),.int .i64 no,.int .i64 cr,.int .i64 m,.int .i64 opn,.int .i64 con,.string (Lx.bs vK),.int .i64 nn,.int .i64 dn,.slice An vL.length cn,.int .i64 yI,.int .i64 yJ,.string (Lx.bs yK),.int .i64 nb,.int .i64 db,.slice Ab yL.length cb]):=Lh ⟨[.int .i64 opn,.int .i64 con,.string (Lx.bs vK),.int .i64 nn,.int .i64 dn,.slice An vL.length cn],[.int .i64 yI,.int .i64 yJ,.string (Lx.bs yK),.int .i64 nb,.int .i64 db,.slice Ab yL.length cb],rfl,Hnl.out,(Ji.out.step hf hg3).at,(HB.out.step hf hg3).at⟩
 have QG:=Lh Nq.drew;have um:=Lh (fun u (hu:u∈vs) z (hz:u.ownBlock=some z)=>(Pf.out.ny hu hz).2);clear hv hs hf he sS Nq YE WL HB Ji;go_wp2_with fail
 go_region_law (refine QG.out.step_append (i:=0) (lo:=w3.heap.size) (x:=.course ⟨nm,no,cr,m,.mk opn con vK nn dn vL,.mk yI yJ yK nb db yL⟩) (cs:=[.string (Lx.bs nm),.int .i64 no,.int .i64 cr,.int .i64 m,.int .i64 opn,.int .i64 con,.string (Lx.bs vK),.int .i64 nn,.int .i64 dn,.slice An vL.length cn,.int .i64 yI,.int .i64 yJ,.string (Lx.bs yK),.int .i64 nb,.int .i64 db,.slice Ab yL.length cb]) HI.out.1 HI.out.2.1 HI.out.2.2 HX.out rfl hh3 um.out hrf rfl _ _ _ rfl i0 _ 184 Tryz.underlying23 hi0 hz0 hz1 hz2 rfl (by omega) rfl rfl (by simp [Value.oneCell']) ?_;intro gg cap WM d1 Nr HP)
 all_goals go_end0
 all_goals exact aP.sU HR.out (by rw [HIS.out];simp[dA]) HP
theorem Tryz.infoProgrammeD:(Tryz.prog.info? 78).map (fun i=>(i.zero,i.size,i.bytes))=some (some (.agg #[.string ⟨#[]⟩,.int .i64 0,.int .i64 0,.int .i64 0,.int .i64 0,.int .i64 0,.slice none 0 0]),7,80):=by kernel_rfl
theorem Tryz.infoReqD:(Tryz.prog.info? 108).map (fun i=>(i.zero,i.size,i.bytes))=some (some (.agg #[.string ⟨#[]⟩,.int .i64 0,.int .i64 0,.bool false,.slice none 0 0,.slice none 0 0]),6,88):=by kernel_rfl
theorem Eu (N:Nat):Cn N 86 fun last c l=>(Sx.fE last l).bind fun x l=>.ok { c with aS:=c.aS++[x] } l:=by
  intro g B h l last w0 w c vs css H he hN gT hl;obtain ⟨R,hR⟩:∃ R,R=(Sx.fE last l).bind fun x l=>(.ok { c with aS:=c.aS++[x] } l:Sx.R Sx.dh):=⟨_,rfl⟩
  show Calls _ _ _ _ (aP g B last h w0 ((Sx.fE last l).bind fun x l=>(.ok { c with aS:=c.aS++[x] } l:Sx.R Sx.dh)));rw[←hR];obtain ⟨G3,hG3⟩:∃ G:List UInt8→Int→Int→Int→Sx.bL→List Lx.Tok→Sx.R Sx.dh,G=fun nm no us ea me l=>(Sx.takes last l.length.succ [] l).bind fun qs l=>(Sx.sign last 125 l).bind fun _ l=>.ok { c with aS:=c.aS++[⟨nm,no,us,ea,me,qs⟩] } l:=⟨_,rfl⟩
  obtain ⟨G2,hG2⟩:∃ G:List UInt8→Int→Int→Int→List Lx.Tok→Sx.R Sx.dh,G=fun nm no us ea l=>(Sx.opt last Sx.fD (Sx.ratio last) ⟨0,1⟩ l).bind (G3 nm no us ea):=⟨_,rfl⟩
  obtain ⟨G1,hG1⟩:∃ G:List UInt8→Int→Int→List Lx.Tok→Sx.R Sx.dh,G=fun nm no us l=>(Sx.opt last Sx.gY (Sx.number last 0 10000) 0 l).bind (G2 nm no us):=⟨_,rfl⟩
  replace hR:R=(Sx.number last 0 255 l).bind fun no l=>(Sx.name last l).bind fun nm l=>(Sx.sign last 123 l).bind fun _ l=>(Sx.opt last Sx.jL (Sx.number last 1 4) 1 l).bind (G1 nm no):=by rw [hR,hG1,hG2,hG3];simp only[Sx.fE,Sx.R.rG,Sx.fU]
  have HR:=Lh hR;have HG1:=Lh hG1;have HG2:=Lh hG2;have HG3:=Lh hG3;have HC:=Lh H;have hlt:=H.ps.lt;have hgl:h < w.heap.size:=H.blk.lt;have hgh:=H.gh;obtain ⟨i0,hi0,hz0,hz1,hz2⟩:=info_parts Tryz.infoProgrammeD;obtain ⟨j0,hj0,QH,jz1,QI⟩:=info_parts Tryz.infoReqD;obtain ⟨v,rs,is,hv1,ni,iB,hrl⟩:=H.get (i:=2) (by omega);have hrf:rs.length≤1000000:=by rw [hrl];exact gT is (List.mem_of_getElem? iB)
  have nu:is=c.aS.map .prog:=by simpa [dA] using iB.symm
  have HI:=Lh (And.intro hv1 (And.intro ni iB));have HIS:=Lh nu;have Hl:=Lh hl;clear H hR hv1 ni iB hrl gT nu he hl hG1 hG2 hG3;go_enter Tryz.func86,Tryz.ntmps86;go_wp2_with fail;refine (fV g B l last 0 255 _ HC.out.ps).mono ?_;intro e w1 he
  rcases he.split with ⟨p,x,hv,rfl,hf⟩ | ⟨no,l1,u,hv,rfl,hV,hs,hf⟩
  · exact ⟨rfl,aP.aM (Sx.aR HR.out hv) (HC.out.fr.trans hf)⟩
  unfold gJ at hV;subst hV;replace HR:=Lh (Sx.go_ok HR.out hv);have Np:=Lh (HC.out.step hf hs);have t1:=Lh (Sx.bD last _ _ l _ _ hv);clear hv hs hf he HC;go_wp2_with fail;refine (zq g B l1 last _ Np.out.ps).mono ?_;intro e w2 he
  rcases he.split with ⟨p,x,hv,rfl,hf⟩ | ⟨nm,l2,u,hv,rfl,hV,hs,hf⟩
  · exact ⟨rfl,aP.aM (Sx.aR HR.out hv) (Np.out.fr.trans hf)⟩
  obtain ⟨hV,hnl⟩:=hV;unfold bB at hV;subst hV;replace HR:=Lh (Sx.go_ok HR.out hv);have C2:=Np.out.step hf hs;have t2:=Lh (Sx.iC last l1 _ _ hv);have hg2:=C2.ps.lt;have Mr:=C2.blk.lt;have L:=Lh (jl.start C2.ps 78 #[.string (Lx.bs nm),.int .i64 no,.int .i64 1,.int .i64 0,.int .i64 0,.int .i64 1,.slice none 0 0]);have Cq:=Lh C2;have Hnl:=Lh hnl;clear hv hs hf he Np C2 hnl;go_wp2_with fail;refine (iA g B l2 last 123 _ L.out.ps).mono ?_;intro e w3 he
  rcases he.split with ⟨p,x,hv,rfl,hf⟩ | ⟨_,l3,u,hv,rfl,hV,hs,hf⟩
  · exact ⟨rfl,aP.aM (Sx.aR HR.out hv) (Cq.out.fr.trans (L.out.fr.trans hf))⟩
  unfold fQ at hV;subst hV;replace HR:=Lh (Sx.go_ok HR.out hv);have LA:=Lh (L.out.step hf hs);have hl3:l3.length≤1000000:=by have a:=Hl.out;have b:=t1.out;have d:=t2.out;have e3:=Sx.bK last _ _ _ _ _ hv;omega
  have Ki:=Lh hl3;clear hv hs hf he L t1 t2 hl3 Hl;go_wp2_with fail;refine (jG g B l3 last _ _ LA.out.ps).mono ?_;rw[show (⟨#[117,115,101,115]⟩:ByteArray).data.toList=Sx.jL from rfl];rintro e w6 ⟨rfl,hs,hf⟩;have L7:=LA.out.step hf hs;go_upto_if 14 with fail
  go_cut [0,1,4] from 5 to 62 (fun v0 v1 v4 wx=>v0 = .pointer (some ⟨g,0,none⟩)∧v1 = .pointer (some ⟨h,0,none⟩)∧v4 = .pointer (some ⟨w2.heap.size,0,none⟩)∧∃ us lB,Hid (R=G1 nm no  us lB)∧Hid (jl g B last lB w2.heap.size 78 #[.string (Lx.bs nm),.int .i64 no,.int .i64 us,.int .i64 0,.int .i64 0,.int .i64 1,.slice none 0 0] w2 wx)∧Hid (lB.length≤1000000))
  case first=>
    cases hh:Sx.hit 1 Sx.jL l3 with
    | true=>
      rw[hh,if_pos rfl] at L7;have L8:=Lh L7;have hRy:=HR.out;rw[Sx.sP hh] at hRy;replace HR:=Lh hRy;have t7:=Lh (Sx.eT hh);clear L7 hRy hs hf hh;go_wp2_with fail;refine (fV g B _ last 1 4 _ L8.out.ps).mono ?_;intro e w7 he
      rcases he.split with ⟨p,x,hv,rfl,hf⟩ | ⟨us,l7,u,hv,rfl,hV,hs,hf⟩
      · exact ⟨rfl,aP.aM (Sx.aR HR.out hv) (Cq.out.fr.trans (L8.out.fr.trans hf))⟩
      unfold gJ at hV;subst hV;replace HR:=Lh (Sx.go_ok HR.out hv);have L9:=L8.out.step hf hs;have t8:=Lh (Sx.bD last _ _ _ _ _ hv);have q2:=L9.blk.cell 2;have yA:=L9.blk.free 2;simp at q2;have QE:=L9.blk.lt;have vY:Hid (jl g B last l7 w2.heap.size 78 #[.string (Lx.bs nm),.int .i64 no,.int .i64 us,.int .i64 0,.int .i64 0,.int .i64 1,.slice none 0 0] w2 (w7.setCell ⟨w2.heap.size,2,none⟩ (.int .i64 us))):=Lh (by have:=L9.set 2 (.int .i64 us);simpa using this);clear hv hs hf he L8 L9;go_wp2_with fail;refine (iA g B l7 last 59 _ vY.out.ps).mono ?_;intro e w8 he
      rcases he.split with ⟨p,x,hv,rfl,hf⟩ | ⟨_,l8,u,hv,rfl,hV,hs,hf⟩
      · exact ⟨rfl,aP.aM (Sx.aR HR.out hv) (Cq.out.fr.trans (vY.out.fr.trans hf))⟩
      unfold fQ at hV;subst hV;have vM:=Lh (Sx.go_ok HR.out hv);have FC:=Lh (vY.out.step hf hs);have FD:l8.length≤1000000:=by have a:=Ki.out;have b:=t7.out;have d:=t8.out;have e3:=Sx.bK last _ _ _ _ _ hv;omega
      have U0:=Lh FD;clear hv hs hf he FD;go_wp2_with fail
      go_meet
      exact ⟨rfl,rfl,rfl,us,l8,vM,FC,U0⟩
    | false=>
      rw[hh,if_neg (by simp)] at L7;have hRy:=HR.out;rw[Sx.xu hh] at hRy;have Kg:=Lh hRy;have zu:=Lh L7;clear L7 hRy hs hf hh;go_wp2_with fail
      go_meet
      exact ⟨rfl,rfl,rfl,1,l3,Kg,zu,Ki⟩
  case rest=>
    obtain ⟨rfl,rfl,rfl,us,lB,Kh,Jh,Pg⟩:=hcut;clear L7 hs hf HR LA Ki;have Ew:=Kh.out;rw[HG1.out] at Ew;have HR:=Lh Ew;have LB:=Jh;have Ki:=Pg;clear Ew Kh HG1 Jh Pg;go_wp2_with fail;refine (jG g B lB last _ _ LB.out.ps).mono ?_;rw[show (⟨#[101,97,114,110]⟩:ByteArray).data.toList=Sx.gY from rfl];rintro e w6 ⟨rfl,hs,hf⟩;have L7:=LB.out.step hf hs;go_upto_if 21 with fail
    go_cut [0,1,4] from 5 to 62 (fun v0 v1 v4 wx=>v0 = .pointer (some ⟨g,0,none⟩)∧v1 = .pointer (some ⟨h,0,none⟩)∧v4 = .pointer (some ⟨w2.heap.size,0,none⟩)∧∃ ea lC,Hid (R=G2 nm no us ea lC)∧Hid (jl g B last lC w2.heap.size 78 #[.string (Lx.bs nm),.int .i64 no,.int .i64 us,.int .i64 ea,.int .i64 0,.int .i64 1,.slice none 0 0] w2 wx)∧Hid (lC.length≤1000000))
    case first=>
      cases hh:Sx.hit 1 Sx.gY lB with
      | true=>
        rw[hh,if_pos rfl] at L7;have L8:=Lh L7;have hRy:=HR.out;rw[Sx.sP hh] at hRy;replace HR:=Lh hRy;have t7:=Lh (Sx.eT hh);clear L7 hRy hs hf hh;go_wp2_with fail;refine (fV g B _ last 0 10000 _ L8.out.ps).mono ?_;intro e w7 he
        rcases he.split with ⟨p,x,hv,rfl,hf⟩ | ⟨ea,l7,u,hv,rfl,hV,hs,hf⟩
        · exact ⟨rfl,aP.aM (Sx.aR HR.out hv) (Cq.out.fr.trans (L8.out.fr.trans hf))⟩
        unfold gJ at hV;subst hV;replace HR:=Lh (Sx.go_ok HR.out hv);have L9:=L8.out.step hf hs;have t8:=Lh (Sx.bD last _ _ _ _ _ hv);have q3:=L9.blk.cell 3;have sQ:=L9.blk.free 3;simp at q3;have QE:=L9.blk.lt;have vY:Hid (jl g B last l7 w2.heap.size 78 #[.string (Lx.bs nm),.int .i64 no,.int .i64 us,.int .i64 ea,.int .i64 0,.int .i64 1,.slice none 0 0] w2 (w7.setCell ⟨w2.heap.size,3,none⟩ (.int .i64 ea))):=Lh (by have:=L9.set 3 (.int .i64 ea);simpa using this);clear hv hs hf he L8 L9;go_wp2_with fail;refine (iA g B l7 last 59 _ vY.out.ps).mono ?_;intro e w8 he
        rcases he.split with ⟨p,x,hv,rfl,hf⟩ | ⟨_,l8,u,hv,rfl,hV,hs,hf⟩
        · exact ⟨rfl,aP.aM (Sx.aR HR.out hv) (Cq.out.fr.trans (vY.out.fr.trans hf))⟩
        unfold fQ at hV;subst hV;have vM:=Lh (Sx.go_ok HR.out hv);have FC:=Lh (vY.out.step hf hs);have FD:l8.length≤1000000:=by have a:=Ki.out;have b:=t7.out;have d:=t8.out;have e3:=Sx.bK last _ _ _ _ _ hv;omega
        have U0:=Lh FD;clear hv hs hf he FD;go_wp2_with fail
        go_meet
        exact ⟨rfl,rfl,rfl,ea,l8,vM,FC,U0⟩
      | false=>
        rw[hh,if_neg (by simp)] at L7;have hRy:=HR.out;rw[Sx.xu hh] at hRy;have Kg:=Lh hRy;have zu:=Lh L7;clear L7 hRy hs hf hh;go_wp2_with fail
        go_meet
        exact ⟨rfl,rfl,rfl,0,lB,Kg,zu,Ki⟩
    case rest=>
      obtain ⟨rfl,rfl,rfl,ea,lC,Kh,Jh,Pg⟩:=hcut;clear L7 hs hf HR LB Ki;have Ew:=Kh.out;rw[HG2.out] at Ew;have HR:=Lh Ew;have LC:=Jh;have Ki:=Pg;clear Ew Kh HG2 Jh Pg;go_wp2_with fail;refine (jG g B lC last _ _ LC.out.ps).mono ?_;rw[show (⟨#[109,101,97,110]⟩:ByteArray).data.toList=Sx.fD from rfl];rintro e w6 ⟨rfl,hs,hf⟩;have L7:=LC.out.step hf hs;go_upto_if 28 with fail
      go_cut [0,1,4] from 5 to 62 (fun v0 v1 v4 wx=>v0 = .pointer (some ⟨g,0,none⟩)∧v1 = .pointer (some ⟨h,0,none⟩)∧v4 = .pointer (some ⟨w2.heap.size,0,none⟩)∧∃ me lD,Hid (R=G3 nm no us ea me lD)∧Hid (jl g B last lD w2.heap.size 78 #[.string (Lx.bs nm),.int .i64 no,.int .i64 us,.int .i64 ea,.int .i64 me.num,.int .i64 me.den,.slice none 0 0] w2 wx)∧Hid (lD.length≤1000000))
      case first=>
        cases hh:Sx.hit 1 Sx.fD lC with
        | true=>
          rw[hh,if_pos rfl] at L7;have L8:=Lh L7;have hRy:=HR.out;rw[Sx.sP hh] at hRy;replace HR:=Lh hRy;have t7:=Lh (Sx.eT hh);clear L7 hRy hs hf hh;go_wp2_with fail;refine (Ey g B _ last _ L8.out.ps).mono ?_;intro e w7 he
          rcases he.split with ⟨p,x,hv,rfl,hf⟩ | ⟨me,l7,u,hv,rfl,hV,hs,hf⟩
          · exact ⟨rfl,aP.aM (Sx.aR HR.out hv) (Cq.out.fr.trans (L8.out.fr.trans hf))⟩
          unfold Nt at hV;subst hV;replace HR:=Lh (Sx.go_ok HR.out hv);have L9:=L8.out.step hf hs;have t8:=Lh (Sx.lF last _ _ _ hv);have q4:=L9.blk.cell 4;have BI:=L9.blk.free 4;have q5:=L9.blk.cell 5;have BJ:=L9.blk.free 5;simp at q4 q5;have QE:=L9.blk.lt
          have vY:Hid (jl g B last l7 w2.heap.size 78 #[.string (Lx.bs nm),.int .i64 no,.int .i64 us,.int .i64 ea,.int .i64 me.num,.int .i64 me.den,.slice none 0 0] w2 ((w7.setCell ⟨w2.heap.size,4,none⟩ (.int .i64 me.num)).setCell ⟨w2.heap.size,5,none⟩ (.int .i64 me.den))):=Lh (by have:=(L9.set 4 (.int .i64 me.num)).set 5 (.int .i64 me.den);simpa using this);clear hv hs hf he L8 L9;go_wp2_with fail;refine (iA g B l7 last 59 _ vY.out.ps).mono ?_;intro e w8 he
          rcases he.split with ⟨p,x,hv,rfl,hf⟩ | ⟨_,l8,u,hv,rfl,hV,hs,hf⟩
          · exact ⟨rfl,aP.aM (Sx.aR HR.out hv) (Cq.out.fr.trans (vY.out.fr.trans hf))⟩
          unfold fQ at hV;subst hV;have vM:=Lh (Sx.go_ok HR.out hv);have FC:=Lh (vY.out.step hf hs);have FD:l8.length≤1000000:=by have a:=Ki.out;have b:=t7.out;have d:=t8.out;have e3:=Sx.bK last _ _ _ _ _ hv;omega
          have U0:=Lh FD;clear hv hs hf he FD;go_wp2_with fail
          go_meet
          exact ⟨rfl,rfl,rfl,me,l8,vM,FC,U0⟩
        | false=>
          rw[hh,if_neg (by simp)] at L7;have hRy:=HR.out;rw[Sx.xu hh] at hRy;have Kg:=Lh hRy;have zu:=Lh L7;clear L7 hRy hs hf hh;go_wp2_with fail
          go_meet
          exact ⟨rfl,rfl,rfl,⟨0,1⟩,lC,Kg,zu,Ki⟩
      case rest=>
        obtain ⟨rfl,rfl,rfl,me,lD,Kh,Jh,Pg⟩:=hcut;clear L7 hs hf HR LC Ki;have Ew:=Kh.out;rw[HG3.out] at Ew;obtain ⟨Rest,xw⟩:∃ Rest:List Sx.iK→List Lx.Tok→Sx.R Sx.dh,Rest=fun qs l=>(Sx.sign last 125 l).bind fun _ l=>.ok { c with aS:=c.aS++[⟨nm,no,us,ea,me,qs⟩] } l:=⟨_,rfl⟩
        have HR:Hid (R=(Sx.takes last (lD.length+1) [] lD).bind Rest):=Lh (by rw [Ew,xw]);have Cr:=Lh xw;have K0:=Lh (mO.start Jh.out);have HlD:=Pg;clear Ew Kh HG3 Jh Pg xw;go_wp2_with fail
        go_loopg [] lD.length (fun gk wr=>∃ qs U1 v2 l4,Hid (R=(Sx.takes last (gk+1) qs l4).bind Rest)∧Hid (mO g B last w2.heap.size (.string (Lx.bs nm)) (.int .i64 no) (.int .i64 us) (.int .i64 ea) (.int .i64 me.num) (.int .i64 me.den) w2 qs U1 v2 l4 wr)∧Hid (l4.length≤gk)∧Hid (qs.length≤64)∧Hid (l4.length≤1000000))
        case atStart=>exact ⟨[],[],.slice none 0 0,lD,HR,K0,Lh (Nat.le_refl _),Lh (by simp),HlD⟩
        case round=>
          clear HR K0 HlD;obtain ⟨qs,U1,v2,l4,HR,HK,Hk,YH,Hl4⟩:=hrel;have mW:=Lh (O9 g B l4 last 1 ⟨#[116,97,107,101]⟩ _ HK.out.st.ps);rw[show (⟨#[116,97,107,101]⟩:ByteArray).data.toList=Sx.iE from rfl] at mW;obtain ⟨A2,c2,hv2⟩:=HK.out.form;subst hv2;cases hh:Sx.hit 1 Sx.iE l4 with
          | true=>
            rw[hh] at mW;have hRy:=HR.out;rw[Sx.takes,hh,if_pos rfl] at hRy;have hword:Sx.word last Sx.iE l4 = .ok () l4.tail:=by unfold Sx.word Sx.need;rw[hh];rfl
            have HW:=Lh hword;have q6:=HK.out.st.blk.cell 6;have Yu:=HK.out.st.blk.free 6;simp at q6;have tt:=Lh (Sx.eT hh);cases h64:((qs.length:Int) == 64) with
            | true=>
              have Kj:qs.length=64:=by simp at h64;omega
              rw[if_pos Kj] at hRy;have HR2:Hid (R = .bad (Sx.front last l4) 2):=Lh (by rw [hRy];rfl);have lu:=Lh (og g B l4 last 2 _ HK.out.st.ps);have HFr:=Lh (Cq.out.fr.trans HK.out.st.fr);have q2g:(qs.length:Int)=64:=by omega
              clear hRy hh HR hword HW;go_wp2_with fail;refine mW.out.mono ?_;rintro e w6 ⟨rfl,rfl⟩;go_wp2_with fail;refine lu.out.mono ?_;rintro e w7 ⟨he,rfl⟩;unfold iL at he;subst he;exact ⟨rfl,aP.aM HR2.out HFr.out⟩
            | false=>
              have Kj:¬ qs.length=64:=by simp at h64;omega
              rw[if_neg Kj] at hRy;have U2:R=(Sx.take last l4.tail).bind fun q l=>(Sx.takes last gk (qs++[q]) l).bind Rest:=by rw [hRy,Sx.R.rG]
              have HR2:=Lh U2;have YI:=Lh Kj;clear hRy U2 hh HR hword Kj;go_wp2_with fail;refine mW.out.mono ?_;rintro e w6 ⟨rfl,rfl⟩;go_wp2_with fail;refine (FE g B l4 last _ _ HK.out.st.ps).mono ?_;intro e w7 he
              rcases he.split with ⟨p,x,hv,rfl,hf⟩ | ⟨_,l5,u,hv,rfl,hV,hs,hf⟩
              · exact absurd (HW.out.symm.trans hv) (by intro h;cases h)
              unfold fQ at hV;subst hV;obtain rfl:l5=l4.tail:=by have:=HW.out.symm.trans hv;injection this with _ e;exact e.symm
              have K7:=HK.out.step hf hs;have c6:=K7.st.blk.cell 6;have cf6:=K7.st.blk.free 6;simp at c6;have QE:=K7.st.blk.lt;have xA:=Lh (K7.step (w':=w7.drew) (eP.below (Below.refl _ _).drew K7.st.ps.lt) (K7.st.ps.next (Below.refl _ _).drew));have hl5:l4.tail.length≤1000000:=by have:=Hl4.out;have:=tt.out;omega
              clear hv hs hf he K7 HK mW HW q6 Yu;go_wp2_with fail
              go_region_law (first
                | (refine HK8.out.step_append (lo:=w7.drew.heap.size) (x:=qq) (cs:=[.string (Lx.bs qn),.int .i64 qc,.int .i64 qg,.bool qh,.slice qA qi qj,.slice qB qk qm]) HX8.out xA.out.st.blk.lt (fun z hz=>kY xA.out.own hz) YH.out rfl _ _ _ rfl j0 _ Tryz.underlying76 hj0 QH jz1 QI rfl rfl rfl (by simp [Value.oneCell']) ?_;intro gg cap w9 d6 df6 HP)
                | (go_simp;go_at_call 162;refine (U3 g B l4.tail last _ xA.out.st.ps hl5).mono ?_;intro e w8 he;rcases he.split with ⟨p,x,hv,rfl,hf⟩ | ⟨qq,l8,u8,hv,rfl,hV,hs,hf⟩;(exact ⟨rfl,aP.aM (Sx.aR HR2.out hv) (Cq.out.fr.trans (xA.out.st.fr.trans hf))⟩);obtain ⟨cs8,hV,hra⟩:=hV;have iG:=hra;obtain ⟨qA,qj,qB,qm,rfl,-,-,-⟩:=hra;obtain ⟨qn,hqn⟩:∃ a,a=qq.name:=⟨_,rfl⟩;obtain ⟨qc,hqc⟩:∃ a,a=qq.aU:=⟨_,rfl⟩;obtain ⟨qg,hqg⟩:∃ a,a=qq.gX:=⟨_,rfl⟩;obtain ⟨qh,hqh⟩:∃ a,a=qq.home:=⟨_,rfl⟩;obtain ⟨qi,hqi⟩:∃ a,a=qq.names.length:=⟨_,rfl⟩;obtain ⟨qk,hqk⟩:∃ a,a=qq.froms.length:=⟨_,rfl⟩;unfold aT bB at hV iG;rw[←hqn,←hqc,←hqg,←hqh,←hqi,←hqk] at hV iG;subst hV;have vM:=Lh (Sx.go_ok HR2.out hv);have K8:=xA.out.step hf hs;have e6:=K8.st.blk.cell 6;have ef6:=K8.st.blk.free 6;simp at e6;have WO:=K8.st.blk.lt;have HK8:=Lh K8;have HX8:=Lh iG;have t8:Hid (l8.length≤l4.tail.length):=Lh (Sx.Hu.shrinks (last:=last) (l:=l4.tail) hv);clear hv hs hf he iG K8 hqn hqc hqg hqh hqi hqk))
              all_goals (try go_wp2_with fail)
              all_goals (go_roundg (gk - 1))
              all_goals first
                | (have a:=Hk.out;have b:=tt.out;omega)
                | (have a:=Hk.out;have b:=tt.out;have d:=t8.out;have f:=YH.out;have f':=YI.out;have a':=Hl4.out
                   exact ⟨_,_,_,l8,Lh (by rw [show gk - 1+1=gk by omega];exact vM.out),Lh HP,Lh (by omega),Lh (by simp;omega),Lh (by omega)⟩)
          | false=>
            rw[hh] at mW;have hRy:=HR.out;rw[Sx.takes,hh,if_neg (by simp)] at hRy;have U2:R=(Sx.sign last 125 l4).bind fun _ l=>.ok { c with aS:=c.aS++[⟨nm,no,us,ea,me,qs⟩] } l:=by rw [hRy,Sx.fU,Cr.out]
            have HR2:=Lh U2;clear hRy U2 hh HR Cr;go_wp2_with fail;refine mW.out.mono ?_;rintro e w6 ⟨rfl,rfl⟩;go_wp2_with fail;refine (iA g B l4 last 125 _ HK.out.st.ps).mono ?_;intro e w7 he
            rcases he.split with ⟨p,x,hv,rfl,hf⟩ | ⟨_,l7,u,hv,rfl,hV,hs,hf⟩
            · exact ⟨rfl,aP.aM (Sx.aR HR2.out hv) (Cq.out.fr.trans (HK.out.st.fr.trans hf))⟩
            unfold fQ at hV;subst hV;have LX:=Lh (Sx.go_ok HR2.out hv);have K7:=HK.out.step hf hs;have q0:=K7.st.blk.cell 0;have q1:=K7.st.blk.cell 1;have q2:=K7.st.blk.cell 2;have q3:=K7.st.blk.cell 3;have q4:=K7.st.blk.cell 4;have q5:=K7.st.blk.cell 5;have q6:=K7.st.blk.cell 6;simp at q0 q1 q2 q3 q4 q5 q6;have QE:=K7.st.blk.lt;have C7:=Cq.out.step K7.st.fr K7.st.ps;have c7:w7.cell? ⟨h,2,none⟩=some v:=by rw [C7.blk.cell 2];simpa using HI.out.1
            have hh7:=C7.blk.lt;obtain ⟨Aq,cq,hvq,hrow⟩:=K7.out YH.out;injection hvq with YJ _ YK;subst YJ;subst YK;have HX:Hid (iV w7.drew (fun b=>w2.heap.size≤b∧b < w7.drew.heap.size) (.prog ⟨nm,no,us,ea,me,qs⟩) [.string (Lx.bs nm),.int .i64 no,.int .i64 us,.int .i64 ea,.int .i64 me.num,.int .i64 me.den,.slice A2 qs.length c2]):=Lh ⟨A2,c2,rfl,Hnl.out,hrow.keep (fun b hb=>⟨⟨by have:=hb.1;omega,hb.2⟩,fun _=>rfl⟩) (fun _ _ _ hr=>bW.keep (w:=w7) (w':=w7.drew) (fun b hb=>⟨⟨by have:=hb.1;omega,hb.2⟩,fun _=>rfl⟩) hr)⟩;have HC7:=Lh C7.drew
            have um:=Lh (fun u (hu:u∈vs) z (hz:u.ownBlock=some z)=>(Cq.out.ny hu hz).2);clear hv hs hf he HK K7 C7 mW hrow HR2;go_wp2_with fail
            go_region_law (refine HC7.out.step_append (i:=2) (lo:=w2.heap.size) (x:=.prog ⟨nm,no,us,ea,me,qs⟩) (cs:=[.string (Lx.bs nm),.int .i64 no,.int .i64 us,.int .i64 ea,.int .i64 me.num,.int .i64 me.den,.slice A2 qs.length c2]) HI.out.1 HI.out.2.1 HI.out.2.2 HX.out rfl Mr um.out hrf rfl _ _ _ rfl i0 _ 80 Tryz.underlying25 hi0 hz0 hz1 hz2 rfl (by omega) rfl rfl (by simp [Value.oneCell']) ?_;intro gg cap WM d1 Nr HP)
            all_goals go_end0
            all_goals exact aP.sU LX.out (by rw [HIS.out];simp[dA]) HP
end Go.Proofs.YtjonaidancomgaaGreatDoor
