/- Parts of the proof, joined into one text: q1E, q1F, Xm. -/
import Derived.Test.YtjonaidancomgaaGreatDoorPSxPrR
import Derived.Test.YtjonaidancomgaaGreatDoorPSxRd
import Derived.Deep.Cut
import Derived.Test.YtjonaidancomgaaGreatDoorPLxE
import Derived.Laws.StructEq
import Derived.Test.YtjonaidancomgaaGreatDoorPLxI
set_option maxHeartbeats 4000000
set_option maxRecDepth 20000
namespace Go.Proofs.YtjonaidancomgaaGreatDoor
open Go.RowKit
theorem Sx.qF:∀ (l:List (List UInt8 × Int)) (p:List UInt8 × Int),Sx.dF (l++[p])=Sx.dF l++((if l.length=0 then [] else [Sx.bI 44])++Sx.fO p.1 p.2)
 | [],p=>by simp [Sx.dF]
 | [a],p=>by simp [Sx.dF]
 | a::b::r,p=>by
  have:=Sx.qF (b::r) p;simp only[List.cons_append,Sx.dF,List.length_cons,Nat.succ_ne_zero,if_false] at this ⊢;rw[this];simp
theorem Sx.Ow {l:List (List UInt8 × Int)} {i:Nat} {p:List UInt8 × Int} (h:l[i]?=some p):(Sx.dF (l.take i)).length+(if i=0 then 0 else 1)+(Sx.fO p.1 p.2).length≤(Sx.dF l).length:=by
 have mono:∀ (b a:List (List UInt8 × Int)),(Sx.dF a).length≤(Sx.dF (a++b)).length:=fun b=>by
  induction b with
  | nil=>intro a;simp
  | cons q b ih=>
   intro a;have:=ih (a++[q]);rw[Sx.qF,List.append_assoc] at this;simp only[List.length_append,List.cons_append,List.nil_append] at this ⊢;omega
 have h1:=mono (l.drop (i+1)) (l.take (i+1));rw[List.take_append_drop,List.take_add_one,h] at h1;have hi:i < l.length:=(List.getElem?_eq_some_iff.1 h).1;simp only[Option.toList_some,Sx.qF,List.length_append,List.length_take] at h1
 by_cases h0:i=0
 ·subst h0;simp at h1 ⊢;omega
 ·rw[if_neg (by omega)] at h1;rw[if_neg h0];simp at h1;omega
theorem VK (g:Nat) (x:Sx.iK) (hx:x.names.length=x.froms.length) (cs:List Value) (w:World) (hat:bW w (fun b=>b < g) x cs) (l:List Lx.Tok) (W:World) (hst:iq g l W) (hb:Below g w W) (hl:l.length+(Sx.gL x).length≤60000) :
  Calls Tryz.prog 130 #[.pointer (some ⟨g,0,none⟩),.agg cs.toArray] W (jh g l (Sx.gL x) W):=by
 replace hat:=bW.keep (ji hb) hat;obtain ⟨nm,cr,gr,hm,ns,fs⟩:=x;obtain ⟨A,c,B,d,rfl,hn,hA,hB⟩:=hat;obtain ⟨n,hn1⟩:∃ n,n=ns.length:=⟨_,rfl⟩
 have hn2:n=fs.length:=by rw [hn1];exact hx
 have hz:n≤140737488351232:=by rw [hn1];exact hA.len
 dsimp only [bB,aT];rw[←hn1,←hn2];have vQ:=hst.lt;have e0:Sx.gL ⟨nm,cr,gr,hm,ns,fs⟩ = [Sx.av Sx.iE,Sx.av nm,Sx.aW cr,Sx.av Sx.ku]++(Sx.dF (ns.zip fs)++((if gr≠1 then [Sx.av Sx.vX,Sx.aW gr] else [])++((if hm=true then [Sx.av Sx.dV] else [])++[Sx.bI 59]))):=by simp [Sx.gL]
 rw[e0] at hl ⊢;obtain ⟨tg,htg⟩:∃ tg,tg=if gr≠1 then [Sx.av Sx.vX,Sx.aW gr] else []:=⟨_,rfl⟩
 obtain ⟨th,hth⟩:∃ th,th=if hm=true then [Sx.av Sx.dV] else []:=⟨_,rfl⟩
 rw[←htg,←hth] at hl ⊢;have Hlen:=Lh hl;obtain ⟨V,hV⟩:∃ V,V=W.alloc (.cells #[.string (Lx.bs nm),.int .i64 cr,.int .i64 gr,.bool hm,.slice A n c,.slice B n d] 108):=⟨_,rfl⟩
 have hbw:Below W.heap.size W V:=by rw [hV];exact (Below.refl _ _).alloc (Nat.le_refl _) _
 have hbx:aC V W.heap.size 108 #[.string (Lx.bs nm),.int .i64 cr,.int .i64 gr,.bool hm,.slice A n c,.slice B n d]:=by rw [hV];exact aC.new _ _ _
 have hpi:PI g l V V:=PI.start (hst.next hbw);have hrow:∀ (i:Nat) (s:List UInt8) (f:Int),ns[i]?=some s→fs[i]?=some f→∃ b1 o1 b2 o2,A=some ⟨b1,o1,none⟩∧B=some ⟨b2,o2,none⟩∧∀ V',Below g V V'→V'.cell? ⟨b1,o1+i,none⟩=some (.string (Lx.bs s))∧V'.cell? ⟨b2,o2+i,none⟩=some (.int .i64 f)∧b1 < V'.heap.size∧b2 < V'.heap.size:=fun i s f hi hf=>by
  obtain ⟨b1,o1,c1,e1,s1,⟨rfl,-⟩,k1⟩:=hA.at_ i s hi;obtain ⟨b2,o2,c2,e2,s2,rfl,k2⟩:=hB.at_ i f hf;refine ⟨b1,o1,b2,o2,e1,e2,fun V' hV'=>?_⟩;have a1:=k1 0 _ rfl;have a2:=k2 0 _ rfl;simp only[Nat.mul_one,Nat.add_zero] at a1 a2;have hs:=hV'.size;have hs2:=hbw.size;have s1':b1 < g:=s1;have s2':b2 < g:=s2;exact ⟨((hV'.cell (p:=⟨b1,_,none⟩) s1').trans (hbw.cell (p:=⟨b1,_,none⟩) (show b1 < W.heap.size by omega))).trans a1,((hV'.cell (p:=⟨b2,_,none⟩) s2').trans (hbw.cell (p:=⟨b2,_,none⟩) (show b2 < W.heap.size by omega))).trans a2,by omega,by omega⟩
 have Rz:=Lh hrow;have H:=Lh hpi;have gy:=Lh hbw;have kJ:=Lh hbx;have tO:=Lh hn1;have nE:=Lh hn2;have Htg:=Lh htg;have Hth:=Lh hth;have tN:V.heap.size=W.heap.size+1:=by rw [hV];simp
 clear hrow hpi hbw hbx hn1 hn2 htg hth hl e0 hA hB hb hst hx hn;go_enter Tryz.func130,Tryz.ntmps130;go_wp2_with fail;rw[←hV];refine (H.out.put [.name Sx.iE,.name nm,.num cr,.name Sx.ku] (ts:=[Sx.av Sx.iE,Sx.av nm,Sx.aW cr,Sx.av Sx.ku]) tN.symm rfl rfl rfl (by simp) (by have:=Hlen.out;simp at this ⊢;omega) (by simp)).mono ?_;rintro e w1 ⟨rfl,h⟩;have H1:=Lh h;obtain ⟨x0,x1,x2,x3,x4,x5,z1⟩:=aQ (h.blk kJ.out (by decide) (by decide));clear h
 have Gb:Hid (PI g (l++[Sx.av Sx.iE,Sx.av nm,Sx.aW cr,Sx.av Sx.ku]++Sx.dF ((ns.zip fs).take 0)) V w1):=Lh (by simpa [Sx.dF] using H1.out);go_wp2_with fail
 go_loopg [20] n (fun gk v20 wr=>∃ i:Nat,v20 = .int .i64 i∧i+gk=n∧Hid (PI g (l++[Sx.av Sx.iE,Sx.av nm,Sx.aW cr,Sx.av Sx.ku]++Sx.dF ((ns.zip fs).take i)) V wr))
 case atStart=>exact ⟨0,rfl,by omega,Gb⟩
 case round=>
  clear x0 x1 x2 x3 x4 x5 Gb;obtain ⟨i,rfl,hi,HP⟩:=hrel;obtain ⟨x0,x1,x2,x3,x4,x5,zz⟩:=aQ (HP.out.blk kJ.out (by decide) (by decide));have hgr:=HP.out.st.lt
  by_cases hlt:i < n
  ·obtain ⟨s,hs⟩:∃ s,ns[i]?=some s:=⟨_,List.getElem?_eq_getElem (by have:=tO.out;omega)⟩
   obtain ⟨f,hf⟩:∃ f,fs[i]?=some f:=⟨_,List.getElem?_eq_getElem (by have:=nE.out;omega)⟩
   have RD:(ns.zip fs)[i]?=some (s,f):=by rw [List.getElem?_zip_eq_some];exact ⟨hs,hf⟩
   obtain ⟨b1,o1,b2,o2,rfl,rfl,hc⟩:=Rz.out i s f hs hf;have hle:=Sx.Ow RD;have hc':=hc wr HP.out.aY;have Hc:=Lh hc;have Ir:=Lh RD;have Hle:=Lh hle;obtain ⟨c1,c2,q1,q2⟩:=hc';clear hc hs hf hle RD
   by_cases h0:i=0
   ·subst h0;simp only[Nat.add_zero] at c1 c2;go_wp2_with fail;refine (HP.out.ref s f (by have:=Hlen.out;have:=Hle.out;simp at *;omega)).mono ?_;rintro e w9 ⟨rfl,h9⟩;have H9:=Lh h9;clear h9;go_wp2_with fail
    go_roundg (gk - 1)
    all_goals first
     | omega
     | exact ⟨1,by go_num,by omega,Lh (by
       have:=H9.out;rw[List.take_add_one,Ir.out];simpa[Sx.dF] using this)⟩
   ·go_wp2_with fail;refine (HP.out.put [.sign [44]] (ts:=[Sx.bI 44]) rfl rfl rfl rfl (by simp) (by have:=Hlen.out;have:=Hle.out;rw[if_neg h0] at this;simp at *;omega) (by simp)).mono ?_;rintro e w8 ⟨rfl,h8⟩;have H8:=Lh h8;obtain ⟨y0,y1,y2,y3,y4,y5,zy⟩:=aQ (h8.blk kJ.out (by decide) (by decide));obtain ⟨d1,d2,p1,p2⟩:=Hc.out w8 h8.aY;clear h8;go_wp2_with fail;refine (H8.out.ref s f (by have:=Hlen.out;have:=Hle.out;rw[if_neg h0] at this;simp at *;omega)).mono ?_;rintro e w9 ⟨rfl,h9⟩;have H9:=Lh h9;clear h9;go_wp2_with fail
    go_roundg (gk - 1)
    all_goals first
     | omega
     | exact ⟨i+1,by go_num,by omega,Lh (by
       have:=H9.out;have hl2:((ns.zip fs).take i).length≠0:=by
        have:=(List.getElem?_eq_some_iff.1 Ir.out).1;rw[List.length_take];omega
       rw[List.take_add_one,Ir.out,Option.toList_some,Sx.qF,if_neg hl2];simpa using this)⟩
  ·obtain rfl:i=n:=by omega
   have HQ:Hid (PI g (l++[Sx.av Sx.iE,Sx.av nm,Sx.aW cr,Sx.av Sx.ku]++Sx.dF (ns.zip fs)) V wr):=Lh (by have:=HP.out;rwa [List.take_of_length_le (by rw [List.length_zip,←tO.out,←nE.out];simp)] at this);go_upto_if 42 with fail;go_cut [0,3] from 42 (fun v0 v3 wx=>v0 = .pointer (some ⟨g,0,none⟩)∧v3 = .pointer (some ⟨W.heap.size,0,none⟩)∧Hid (PI g (l++[Sx.av Sx.iE,Sx.av nm,Sx.aW cr,Sx.av Sx.ku]++Sx.dF (ns.zip fs)++tg) V wx))
   case first=>
    by_cases h0:gr=1
    ·subst h0;go_wp2_with fail
     go_meet
     exact ⟨rfl,rfl,Lh (by have:=Htg.out;rw[if_neg (by decide)] at this;rw[this];simpa using HQ.out)⟩
    ·have Ht:Hid (tg = [Sx.av Sx.vX,Sx.aW gr]):=Lh (by have:=Htg.out;rw[if_pos h0] at this;exact this);go_wp2_with fail;refine (HQ.out.put [.name Sx.vX,.num gr] (ts:=[Sx.av Sx.vX,Sx.aW gr]) rfl rfl rfl rfl (by simp) (by have:=Hlen.out;rw[Ht.out] at this;simp at this ⊢;omega) (by simp)).mono ?_;rintro e w2 ⟨rfl,h⟩;have H2:=Lh h;clear h;go_wp2_with fail
     go_meet
     exact ⟨rfl,rfl,Lh (by rw [Ht.out];exact H2.out)⟩
   case rest=>
    clear x0 x1 x2 x3 x4 x5;obtain ⟨rfl,rfl,H3⟩:=hcut;obtain ⟨x0,x1,x2,x3,x4,x5,zz⟩:=aQ (H3.out.blk kJ.out (by decide) (by decide));go_upto_if 51 with fail;go_cut [0,3] from 51 (fun v0 v3 wx=>v0 = .pointer (some ⟨g,0,none⟩)∧v3 = .pointer (some ⟨W.heap.size,0,none⟩)∧Hid (PI g (l++[Sx.av Sx.iE,Sx.av nm,Sx.aW cr,Sx.av Sx.ku]++Sx.dF (ns.zip fs)++tg++th) V wx))
    case first=>
     cases hm with
     | false=>
      go_wp2_with fail
      go_meet
      exact ⟨rfl,rfl,Lh (by have:=Hth.out;rw[if_neg (by decide)] at this;rw[this];simpa using H3.out)⟩
     | true=>
      have Ht:Hid (th = [Sx.av Sx.dV]):=Lh (by have:=Hth.out;rw[if_pos rfl] at this;exact this);go_wp2_with fail;refine (H3.out.put [.name Sx.dV] (ts:=[Sx.av Sx.dV]) rfl rfl rfl rfl (by simp) (by have:=Hlen.out;rw[Ht.out] at this;simp at this ⊢;omega) (by simp)).mono ?_;rintro e w2 ⟨rfl,h⟩;have H2:=Lh h;clear h;go_wp2_with fail
      go_meet
      exact ⟨rfl,rfl,Lh (by rw [Ht.out];exact H2.out)⟩
    case rest=>
     clear x0 x1 x2 x3 x4 x5;obtain ⟨rfl,rfl,H4⟩:=hcut;go_wp2_with fail;refine (H4.out.put [.sign [59]] (ts:=[Sx.bI 59]) rfl rfl rfl rfl (by simp) (by have:=Hlen.out;simp at this ⊢;omega) (by simp)).mono ?_;rintro e w6 ⟨rfl,h⟩;have H6:=Lh h;clear h;go_wp2_with fail
     go_end0
     exact ⟨rfl,by have:=H6.out.st;simpa using this,(gy.out.mono (by omega)).trans H6.out.aY,(KP.below gy.out).trans H6.out.kp⟩
theorem Sx.nV {α:Type} (f:α→List Lx.Tok) {x:α} : ∀ {xs:List α} {i:Nat},xs[i]?=some x→((xs.take i).flatMap f).length+(f x).length≤(xs.flatMap f).length
 | [],i,h=>by simp at h
 | y::xs,0,h=>by simp at h;subst h;simp
 | y::xs,i+1,h=>by have:=Sx.nV f (xs:=xs) (i:=i) (by simpa using h);simp at *;omega
theorem Bq {w:World} {S:Nat→Prop} {x:Sx.iK} {cs:List Value} (h:bW w S x cs):∃ s0 i1 i2 b3 A4 n4 c4 A5 n5 c5,cs = [.string s0,.int .i64 i1,.int .i64 i2,.bool b3,.slice A4 n4 c4,.slice A5 n5 c5]:=by
 obtain ⟨A,c,B,d,rfl,-⟩:=h;exact ⟨_,_,_,_,_,_,_,_,_,_,rfl⟩
theorem VL (g:Nat) (x:Sx.Prog) (hx:∀ r∈x.reqs,r.names.length=r.froms.length) (cs:List Value) (w:World) (hat:bS w (fun b=>b < g) x cs) (l:List Lx.Tok) (W:World) (hst:iq g l W) (hb:Below g w W) (hl:l.length+(Sx.eB x).length≤60000) :
  Calls Tryz.prog 52 #[.pointer (some ⟨g,0,none⟩),.agg cs.toArray] W (jh g l (Sx.eB x) W):=by
 replace hat:=bS.keep (ji hb) hat;obtain ⟨nm,no,us,en,⟨mn,md⟩,rs⟩:=x;obtain ⟨A,c,rfl,hn,hA⟩:=hat;obtain ⟨n,hn1⟩:∃ n,n=rs.length:=⟨_,rfl⟩
 have hz:n≤140737488351232:=by rw [hn1];exact hA.len
 dsimp only [bB,aT];rw[←hn1];have vQ:=hst.lt;have e0:Sx.eB ⟨nm,no,us,en,⟨mn,md⟩,rs⟩ = [Sx.av Sx.bR,Sx.aW no,Sx.av nm,Sx.bI 123]++((if us≠1 then [Sx.av Sx.jL,Sx.aW us,Sx.bI 59] else [])++((if en≠0 then [Sx.av Sx.gY,Sx.aW en,Sx.bI 59] else [])++((if mn≠0 then Sx.av Sx.fD::(Sx.bO ⟨mn,md⟩++[Sx.bI 59]) else [])++(rs.flatMap Sx.gL++[Sx.bI 125])))):=by simp [Sx.eB]
 rw[e0] at hl ⊢;obtain ⟨tu,htu⟩:∃ tu,tu=if us≠1 then [Sx.av Sx.jL,Sx.aW us,Sx.bI 59] else []:=⟨_,rfl⟩
 obtain ⟨te,hte⟩:∃ te,te=if en≠0 then [Sx.av Sx.gY,Sx.aW en,Sx.bI 59] else []:=⟨_,rfl⟩
 obtain ⟨tm,htm⟩:∃ tm,tm=if mn≠0 then Sx.av Sx.fD::(Sx.bO ⟨mn,md⟩++[Sx.bI 59]) else []:=⟨_,rfl⟩
 rw[←htu,←hte,←htm] at hl ⊢;have Hlen:=Lh hl;obtain ⟨V,hV⟩:∃ V,V=W.alloc (.cells #[.string (Lx.bs nm),.int .i64 no,.int .i64 us,.int .i64 en,.int .i64 mn,.int .i64 md,.slice A n c] 78):=⟨_,rfl⟩
 have hbw:Below W.heap.size W V:=by rw [hV];exact (Below.refl _ _).alloc (Nat.le_refl _) _
 have hbx:aC V W.heap.size 78 #[.string (Lx.bs nm),.int .i64 no,.int .i64 us,.int .i64 en,.int .i64 mn,.int .i64 md,.slice A n c]:=by rw [hV];exact aC.new _ _ _
 have hpi:PI g l V V:=PI.start (hst.next hbw);have hrow:∀ (i:Nat) (r:Sx.iK),rs[i]?=some r→∃ bk ok s0 i1 i2 b3 A4 n4 c4 A5 n5 c5,A=some ⟨bk,ok,none⟩∧
   (∀ (l':List Lx.Tok) (W':World),PI g l' V W'→l'.length+(Sx.gL r).length≤60000→Calls Tryz.prog 130 #[.pointer (some ⟨g,0,none⟩),.agg #[.string s0,.int .i64 i1,.int .i64 i2,.bool b3,.slice A4 n4 c4,.slice A5 n5 c5]] W' (uD g (l'++Sx.gL r) V))∧
   ∀ V',Below g V V'→V'.cell? ⟨bk,ok+i*6,none⟩=some (.string s0)∧V'.cell? ⟨bk,ok+i*6+1,none⟩=some (.int .i64 i1)∧V'.cell? ⟨bk,ok+i*6+2,none⟩=some (.int .i64 i2)∧V'.cell? ⟨bk,ok+i*6+3,none⟩=some (.bool b3)∧V'.cell? ⟨bk,ok+i*6+4,none⟩=some (.slice A4 n4 c4)∧V'.cell? ⟨bk,ok+i*6+5,none⟩=some (.slice A5 n5 c5)∧bk < V'.heap.size:=fun i r hi=>by
  obtain ⟨bk,ok,cs,e1,hS,hP,hck⟩:=hA.at_ i r hi;have hS':bk < g:=hS;have hPV:bW V (fun b=>b < g) r cs:=bW.keep (ji (hbw.mono (by omega))) hP;obtain ⟨s0,i1,i2,b3,A4,n4,c4,A5,n5,c5,rfl⟩:=Bq hP;refine ⟨bk,ok,s0,i1,i2,b3,A4,n4,c4,A5,n5,c5,e1,fun l' W' hW hl=>(VK g r (hx r (List.mem_of_getElem? hi)) _ V hPV l' W' hW.st hW.aY hl).mono fun e w' he=>hW.post he,fun V' hV'=>?_⟩;have key:∀ j v,[.string s0,.int .i64 i1,.int .i64 i2,.bool b3,.slice A4 n4 c4,.slice A5 n5 c5][j]?=some v→V'.cell? ⟨bk,ok+i*6+j,none⟩=some v:=fun j v hj=>
   ((hV'.cell (p:=⟨bk,_,none⟩) hS').trans (hbw.cell (p:=⟨bk,_,none⟩) (show bk < W.heap.size by omega))).trans (hck j v hj)
  have hs:=hV'.size;have hs2:=hbw.size;exact ⟨key 0 _ rfl,key 1 _ rfl,key 2 _ rfl,key 3 _ rfl,key 4 _ rfl,key 5 _ rfl,by omega⟩
 have Rz:=Lh hrow;have H:=Lh hpi;have gy:=Lh hbw;have kJ:=Lh hbx;have tO:=Lh hn1;have Htu:=Lh htu;have Hte:=Lh hte;have Htm:=Lh htm;have tN:V.heap.size=W.heap.size+1:=by rw [hV];simp
 clear hrow hpi hbw hbx hn1 htu hte htm hl e0 hA hb hst hx hn;go_enter Tryz.func52,Tryz.ntmps52;go_wp2_with fail;rw[←hV];refine (H.out.put [.name Sx.bR,.num no,.name nm,.sign [123]] (ts:=[Sx.av Sx.bR,Sx.aW no,Sx.av nm,Sx.bI 123]) tN.symm rfl rfl rfl (by simp) (by have:=Hlen.out;simp at this ⊢;omega) (by simp)).mono ?_;rintro e w1 ⟨rfl,h⟩;have H1:=Lh h;obtain ⟨x0,x1,x2,x3,x4,x5,x6,z1⟩:=bJ (h.blk kJ.out (by decide) (by decide));clear h;go_upto_if 19 with fail
 go_cut [0,3] from 19 (fun v0 v3 wx=>v0 = .pointer (some ⟨g,0,none⟩)∧v3 = .pointer (some ⟨W.heap.size,0,none⟩)∧Hid (PI g (l++[Sx.av Sx.bR,Sx.aW no,Sx.av nm,Sx.bI 123]++tu) V wx))
 case first=>
  by_cases h0:us=1
  ·subst h0;go_wp2_with fail
   go_meet
   exact ⟨rfl,rfl,Lh (by have:=Htu.out;rw[if_neg (by decide)] at this;rw[this];simpa using H1.out)⟩
  ·have Ht:Hid (tu = [Sx.av Sx.jL,Sx.aW us,Sx.bI 59]):=Lh (by have:=Htu.out;rw[if_pos h0] at this;exact this);go_wp2_with fail;refine (H1.out.put [.name Sx.jL,.num us,.sign [59]] (ts:=[Sx.av Sx.jL,Sx.aW us,Sx.bI 59]) rfl rfl rfl (by simp [dN.toks,Sx.av,Sx.bI,Sx.aW]) (by simp) (by have:=Hlen.out;rw[Ht.out] at this;simp at this ⊢;omega) (by simp)).mono ?_;rintro e w2 ⟨rfl,h⟩;have HN:=Lh h;clear h;go_wp2_with fail
   go_meet
   exact ⟨rfl,rfl,Lh (by rw [Ht.out];exact HN.out)⟩
 case rest=>
  clear x0 x1 x2 x3 x4 x5 x6;obtain ⟨rfl,rfl,H2⟩:=hcut;obtain ⟨x0,x1,x2,x3,x4,x5,x6,zz⟩:=bJ (H2.out.blk kJ.out (by decide) (by decide));go_upto_if 30 with fail;go_cut [0,3] from 30 (fun v0 v3 wx=>v0 = .pointer (some ⟨g,0,none⟩)∧v3 = .pointer (some ⟨W.heap.size,0,none⟩)∧Hid (PI g (l++[Sx.av Sx.bR,Sx.aW no,Sx.av nm,Sx.bI 123]++tu++te) V wx))
  case first=>
   by_cases h0:en=0
   ·subst h0;go_wp2_with fail
    go_meet
    exact ⟨rfl,rfl,Lh (by have:=Hte.out;rw[if_neg (by decide)] at this;rw[this];simpa using H2.out)⟩
   ·have Ht:Hid (te = [Sx.av Sx.gY,Sx.aW en,Sx.bI 59]):=Lh (by have:=Hte.out;rw[if_pos h0] at this;exact this);go_wp2_with fail;refine (H2.out.put [.name Sx.gY,.num en,.sign [59]] (ts:=[Sx.av Sx.gY,Sx.aW en,Sx.bI 59]) rfl rfl rfl (by simp [dN.toks,Sx.av,Sx.bI,Sx.aW]) (by simp) (by have:=Hlen.out;rw[Ht.out] at this;simp at this ⊢;omega) (by simp)).mono ?_;rintro e w2 ⟨rfl,h⟩;have HN:=Lh h;clear h;go_wp2_with fail
    go_meet
    exact ⟨rfl,rfl,Lh (by rw [Ht.out];exact HN.out)⟩
  case rest=>
   clear x0 x1 x2 x3 x4 x5 x6;obtain ⟨rfl,rfl,H3⟩:=hcut;obtain ⟨x0,x1,x2,x3,x4,x5,x6,zz⟩:=bJ (H3.out.blk kJ.out (by decide) (by decide));go_upto_if 42 with fail;go_cut [0,3] from 42 (fun v0 v3 wx=>v0 = .pointer (some ⟨g,0,none⟩)∧v3 = .pointer (some ⟨W.heap.size,0,none⟩)∧Hid (PI g (l++[Sx.av Sx.bR,Sx.aW no,Sx.av nm,Sx.bI 123]++tu++te++tm) V wx))
   case first=>
    by_cases h0:mn=0
    ·subst h0;go_wp2_with fail
     go_meet
     exact ⟨rfl,rfl,Lh (by have:=Htm.out;rw[if_neg (by decide)] at this;rw[this];simpa using H3.out)⟩
    ·have Ht:Hid (tm=Sx.av Sx.fD::(Sx.bO ⟨mn,md⟩++[Sx.bI 59])):=Lh (by have:=Htm.out;rw[if_pos h0] at this;exact this);go_wp2_with fail;refine (H3.out.put [.name Sx.fD,.ratio ⟨mn,md⟩,.sign [59]] (ts:=Sx.av Sx.fD::(Sx.bO ⟨mn,md⟩++[Sx.bI 59])) rfl rfl rfl (by simp [dN.toks,Sx.av,Sx.bI,Sx.aW,Sx.bO]) (by simp) (by have:=Hlen.out;rw[Ht.out] at this;simp at this ⊢;omega) (by simp)).mono ?_;rintro e w2 ⟨rfl,h⟩;have HN:=Lh h;clear h;go_wp2_with fail
     go_meet
     exact ⟨rfl,rfl,Lh (by rw [Ht.out];exact HN.out)⟩
   case rest=>
    clear x0 x1 x2 x3 x4 x5 x6;obtain ⟨rfl,rfl,H4⟩:=hcut;obtain ⟨x0,x1,x2,x3,x4,x5,x6,zz⟩:=bJ (H4.out.blk kJ.out (by decide) (by decide));have Gb:Hid (PI g (l++[Sx.av Sx.bR,Sx.aW no,Sx.av nm,Sx.bI 123]++tu++te++tm++(rs.take 0).flatMap Sx.gL) V wc):=Lh (by simpa using H4.out);go_wp2_with fail
    go_loopg [54] n (fun gk v54 wr=>∃ i:Nat,v54 = .int .i64 i∧i+gk=n∧Hid (PI g (l++[Sx.av Sx.bR,Sx.aW no,Sx.av nm,Sx.bI 123]++tu++te++tm++(rs.take i).flatMap Sx.gL) V wr))
    case atStart=>exact ⟨0,rfl,by omega,Gb⟩
    case round=>
     clear x0 x1 x2 x3 x4 x5 x6 Gb;obtain ⟨i,rfl,hi,HP⟩:=hrel;obtain ⟨x0,x1,x2,x3,x4,x5,x6,zy⟩:=bJ (HP.out.blk kJ.out (by decide) (by decide));have hgr:=HP.out.st.lt
     by_cases hlt:i < n
     ·obtain ⟨r,hr⟩:∃ r,rs[i]?=some r:=⟨_,List.getElem?_eq_getElem (by have:=tO.out;omega)⟩
      obtain ⟨bk,ok,s0,i1,i2,b3,A4,n4,c4,A5,n5,c5,rfl,lI,hck⟩:=Rz.out i r hr;obtain ⟨k0,k1,k2,k3,k4,k5,zk⟩:=hck wr HP.out.aY;have hle:=Sx.nV Sx.gL hr;obtain ⟨W3,hW3⟩:∃ W3,W3=wr.alloc (.cells #[.string s0,.int .i64 i1,.int .i64 i2,.bool b3,.slice A4 n4 c4,.slice A5 n5 c5] 108):=⟨_,rfl⟩
      have oC:PI g (l++[Sx.av Sx.bR,Sx.aW no,Sx.av nm,Sx.bI 123]++tu++te++tm++(rs.take i).flatMap Sx.gL) V W3:=by rw [hW3];exact HP.out.next ((Below.refl _ _).alloc (Nat.le_refl _) _)
      have aH:=Lh (lI _ W3 oC (by have:=Hlen.out;simp only[List.length_append,List.length_cons,List.length_nil] at this ⊢;omega));have Hr:=Lh hr;clear lI hck hr hle oC;go_wp2_with fail;rw[←hW3];refine aH.out.mono ?_;rintro e w5 ⟨rfl,h5⟩;have H5:=Lh h5;clear h5 hW3 k0 k1 k2 k3 k4 k5;go_wp2_with fail
      go_roundg (gk - 1)
      all_goals first
       | omega
       | exact ⟨i+1,by go_num,by omega,Lh (by
         have:=H5.out;rw[List.take_add_one,Hr.out];simpa using this)⟩
     ·obtain rfl:i=n:=by omega
      have HQ:Hid (PI g (l++[Sx.av Sx.bR,Sx.aW no,Sx.av nm,Sx.bI 123]++tu++te++tm++rs.flatMap Sx.gL) V wr):=Lh (by have:=HP.out;rwa [tO.out,List.take_length] at this);go_wp2_with fail;refine (HQ.out.put [.sign [125]] (ts:=[Sx.bI 125]) rfl rfl rfl rfl (by simp) (by have:=Hlen.out;simp at this ⊢;omega) (by simp)).mono ?_;rintro e w6 ⟨rfl,h⟩;have H6:=Lh h;clear h;go_wp2_with fail
      go_end0
      exact ⟨rfl,by have:=H6.out.st;simpa using this,(gy.out.mono (by omega)).trans H6.out.aY,(KP.below gy.out).trans H6.out.kp⟩
theorem iJ (d:Nat) (w:World) (x y:Int):(Op.equalIn (d+1) 3 (.int .i64 x) (.int .i64 y)).run Tryz.prog w = .ok (x == y) w:=run_equalIn_int w d 3 .i64 .i64 x y Tryz.underlying3
theorem kr (d:Nat) (w:World) (x y:List UInt8):(Op.equalIn (d+1) 9 (.string (Lx.bs x)) (.string (Lx.bs y))).run Tryz.prog w = .ok (x == y) w:=by
 rw[run_equalIn_string w d 9 _ _ Tryz.underlying9,ByteArray.toList_eq,ByteArray.toList_eq,Lx.aK,Lx.aK]
def qP (x:Sx.Pair):Value:=.agg #[.string (Lx.bs x.a),.string (Lx.bs x.b),.int .i64 x.x,.int .i64 x.y]
def yO (x:Sx.Cls):Value:=.agg #[.string (Lx.bs x.name),.int .i64 x.gD,.int .i64 x.mean.num,.int .i64 x.mean.den]
def yP (x:Sx.tL):Value:=.agg #[.string (Lx.bs x.name),.int .i64 x.aU]
def jI (x:Sx.Clause):Value:=.agg #[.int .i64 x.kind,.int .i64 x.gH,.int .i64 x.action,.int .i64 x.BD]
theorem AX (d:Nat) (w:World) (x y:Sx.bL):(Op.equalIn (d+1+1) 75 (.agg #[.int .i64 x.num,.int .i64 x.den]) (.agg #[.int .i64 y.num,.int .i64 y.den])).run Tryz.prog w = .ok (x.num == y.num && x.den == y.den) w:=by
 rw[run_equalIn_struct w (d+1) 75 _ _ (by kernel_rfl) (by kernel_rfl)];have p0:∀ (w:World) (z:Sx.bL),(part 3 #[.int .i64 z.num,.int .i64 z.den] 0).run Tryz.prog w = .ok (.int .i64 z.num) w:=fun _ _=>by kernel_rfl
 have p1:∀ (w:World) (z:Sx.bL),(part 3 #[.int .i64 z.num,.int .i64 z.den] 1).run Tryz.prog w = .ok (.int .i64 z.den) w:=fun _ _=>by kernel_rfl
 simp only[Program.fieldsOf,Tryz.underlying75];cases h0:(x.num == y.num)
 ·simp only[Op.eqFields,Sem.run_bind,Sem.run_ite,p0,iJ,h0,Result.andThen_ok];simp
 cases h1:(x.den == y.den)
 ·simp only[Op.eqFields,Sem.run_bind,Sem.run_ite,p0,p1,iJ,h0,h1,Result.andThen_ok];simp
 ·simp only[Op.eqFields,Sem.run_bind,Sem.run_ite,p0,p1,iJ,h0,h1,Result.andThen_ok];simp
theorem Sx.KY (a b:Sx.bL):a=b↔(a.num=b.num∧a.den=b.den):=by
 cases a;cases b;simp
theorem Ox (x y:Sx.Pair) (w:World):(Op.equal 71 (qP x) (qP y)).run Tryz.prog w = .ok (decide (x=y)) w:=by
 have e:decide (x=y)=(x.a == y.a && (x.b == y.b && (x.x == y.x && (x.y == y.y)))):=by
  cases x;cases y;rw[Bool.eq_iff_iff];simp only[decide_eq_true_eq,Sx.Pair.mk.injEq,Bool.and_eq_true,beq_iff_eq]
 rw[e];show (Op.equalIn (9997+1+1+1) 71 (qP x) (qP y)).run Tryz.prog w=_;unfold qP;rw[run_equalIn_struct w (9997+1+1) 71 _ _ (by kernel_rfl) (by kernel_rfl)];have p0:∀ (w:World) (z:Sx.Pair),(part 9 #[.string (Lx.bs z.a),.string (Lx.bs z.b),.int .i64 z.x,.int .i64 z.y] 0).run Tryz.prog w = .ok (.string (Lx.bs z.a)) w:=fun _ _=>by kernel_rfl
 have p1:∀ (w:World) (z:Sx.Pair),(part 9 #[.string (Lx.bs z.a),.string (Lx.bs z.b),.int .i64 z.x,.int .i64 z.y] 1).run Tryz.prog w = .ok (.string (Lx.bs z.b)) w:=fun _ _=>by kernel_rfl
 have p2:∀ (w:World) (z:Sx.Pair),(part 3 #[.string (Lx.bs z.a),.string (Lx.bs z.b),.int .i64 z.x,.int .i64 z.y] 2).run Tryz.prog w = .ok (.int .i64 z.x) w:=fun _ _=>by kernel_rfl
 have p3:∀ (w:World) (z:Sx.Pair),(part 3 #[.string (Lx.bs z.a),.string (Lx.bs z.b),.int .i64 z.x,.int .i64 z.y] 3).run Tryz.prog w = .ok (.int .i64 z.y) w:=fun _ _=>by kernel_rfl
 simp only[Program.fieldsOf,Tryz.underlying71];cases h0:(x.a == y.a)
 ·simp only[Op.eqFields,Sem.run_bind,Sem.run_ite,p0,kr,h0,Result.andThen_ok];simp
 cases h1:(x.b == y.b)
 ·simp only[Op.eqFields,Sem.run_bind,Sem.run_ite,p0,p1,kr,h0,h1,Result.andThen_ok];simp
 cases h2:(x.x == y.x)
 ·simp only[Op.eqFields,Sem.run_bind,Sem.run_ite,p0,p1,p2,iJ,kr,h0,h1,h2,Result.andThen_ok];simp
 cases h3:(x.y == y.y)
 ·simp only[Op.eqFields,Sem.run_bind,Sem.run_ite,p0,p1,p2,p3,iJ,kr,h0,h1,h2,h3,Result.andThen_ok];simp
 ·simp only[Op.eqFields,Sem.run_bind,Sem.run_ite,p0,p1,p2,p3,iJ,kr,h0,h1,h2,h3,Result.andThen_ok];simp
theorem Cy (x y:Sx.Pair) (w:World):(binOp .neq 71 (qP x) (qP y)).run Tryz.prog w = .ok (.bool (!decide (x=y))) w:=by
 have h:=Ox x y w;unfold qP at h ⊢;simp only[binOp];simp[h]
theorem RF (x y:Sx.Cls) (w:World):(Op.equal 82 (yO x) (yO y)).run Tryz.prog w = .ok (decide (x=y)) w:=by
 have e:decide (x=y)=(x.name == y.name && (x.gD == y.gD && ((x.mean.num == y.mean.num && x.mean.den == y.mean.den)))):=by
  cases x;cases y;rw[Bool.eq_iff_iff];simp only[decide_eq_true_eq,Sx.Cls.mk.injEq,Bool.and_eq_true,beq_iff_eq,Sx.KY]
 rw[e];show (Op.equalIn (9997+1+1+1) 82 (yO x) (yO y)).run Tryz.prog w=_;unfold yO;rw[run_equalIn_struct w (9997+1+1) 82 _ _ (by kernel_rfl) (by kernel_rfl)];have p0:∀ (w:World) (z:Sx.Cls),(part 9 #[.string (Lx.bs z.name),.int .i64 z.gD,.int .i64 z.mean.num,.int .i64 z.mean.den] 0).run Tryz.prog w = .ok (.string (Lx.bs z.name)) w:=fun _ _=>by kernel_rfl
 have p1:∀ (w:World) (z:Sx.Cls),(part 3 #[.string (Lx.bs z.name),.int .i64 z.gD,.int .i64 z.mean.num,.int .i64 z.mean.den] 1).run Tryz.prog w = .ok (.int .i64 z.gD) w:=fun _ _=>by kernel_rfl
 have p2:∀ (w:World) (z:Sx.Cls),(part 75 #[.string (Lx.bs z.name),.int .i64 z.gD,.int .i64 z.mean.num,.int .i64 z.mean.den] 2).run Tryz.prog w = .ok (.agg #[.int .i64 z.mean.num,.int .i64 z.mean.den]) w:=fun _ _=>by kernel_rfl
 simp only[Program.fieldsOf,Tryz.underlying82];cases h0:(x.name == y.name)
 ·simp only[Op.eqFields,Sem.run_bind,Sem.run_ite,p0,kr,h0,Result.andThen_ok];simp
 cases h1:(x.gD == y.gD)
 ·simp only[Op.eqFields,Sem.run_bind,Sem.run_ite,p0,p1,iJ,kr,h0,h1,Result.andThen_ok];simp
 cases h2:((x.mean.num == y.mean.num && x.mean.den == y.mean.den))
 ·simp only[Op.eqFields,Sem.run_bind,Sem.run_ite,p0,p1,p2,iJ,kr,AX,h0,h1,h2,Result.andThen_ok];simp
 ·simp only[Op.eqFields,Sem.run_bind,Sem.run_ite,p0,p1,p2,iJ,kr,AX,h0,h1,h2,Result.andThen_ok];simp
theorem FP (x y:Sx.Cls) (w:World):(binOp .neq 82 (yO x) (yO y)).run Tryz.prog w = .ok (.bool (!decide (x=y))) w:=by
 have h:=RF x y w;unfold yO at h ⊢;simp only[binOp];simp[h]
theorem RG (x y:Sx.tL) (w:World):(Op.equal 86 (yP x) (yP y)).run Tryz.prog w = .ok (decide (x=y)) w:=by
 have e:decide (x=y)=(x.name == y.name && (x.aU == y.aU)):=by
  cases x;cases y;rw[Bool.eq_iff_iff];simp only[decide_eq_true_eq,Sx.tL.mk.injEq,Bool.and_eq_true,beq_iff_eq]
 rw[e];show (Op.equalIn (9997+1+1+1) 86 (yP x) (yP y)).run Tryz.prog w=_;unfold yP;rw[run_equalIn_struct w (9997+1+1) 86 _ _ (by kernel_rfl) (by kernel_rfl)];have p0:∀ (w:World) (z:Sx.tL),(part 9 #[.string (Lx.bs z.name),.int .i64 z.aU] 0).run Tryz.prog w = .ok (.string (Lx.bs z.name)) w:=fun _ _=>by kernel_rfl
 have p1:∀ (w:World) (z:Sx.tL),(part 3 #[.string (Lx.bs z.name),.int .i64 z.aU] 1).run Tryz.prog w = .ok (.int .i64 z.aU) w:=fun _ _=>by kernel_rfl
 simp only[Program.fieldsOf,Tryz.underlying86];cases h0:(x.name == y.name)
 ·simp only[Op.eqFields,Sem.run_bind,Sem.run_ite,p0,kr,h0,Result.andThen_ok];simp
 cases h1:(x.aU == y.aU)
 ·simp only[Op.eqFields,Sem.run_bind,Sem.run_ite,p0,p1,iJ,kr,h0,h1,Result.andThen_ok];simp
 ·simp only[Op.eqFields,Sem.run_bind,Sem.run_ite,p0,p1,iJ,kr,h0,h1,Result.andThen_ok];simp
theorem FQ (x y:Sx.tL) (w:World):(binOp .neq 86 (yP x) (yP y)).run Tryz.prog w = .ok (.bool (!decide (x=y))) w:=by
 have h:=RG x y w;unfold yP at h ⊢;simp only[binOp];simp[h]
theorem IU (x y:Sx.Clause) (w:World):(Op.equal 90 (jI x) (jI y)).run Tryz.prog w = .ok (decide (x=y)) w:=by
 have e:decide (x=y)=(x.kind == y.kind && (x.gH == y.gH && (x.action == y.action && (x.BD == y.BD)))):=by
  cases x;cases y;rw[Bool.eq_iff_iff];simp only[decide_eq_true_eq,Sx.Clause.mk.injEq,Bool.and_eq_true,beq_iff_eq]
 rw[e];show (Op.equalIn (9997+1+1+1) 90 (jI x) (jI y)).run Tryz.prog w=_;unfold jI;rw[run_equalIn_struct w (9997+1+1) 90 _ _ (by kernel_rfl) (by kernel_rfl)];have p0:∀ (w:World) (z:Sx.Clause),(part 3 #[.int .i64 z.kind,.int .i64 z.gH,.int .i64 z.action,.int .i64 z.BD] 0).run Tryz.prog w = .ok (.int .i64 z.kind) w:=fun _ _=>by kernel_rfl
 have p1:∀ (w:World) (z:Sx.Clause),(part 3 #[.int .i64 z.kind,.int .i64 z.gH,.int .i64 z.action,.int .i64 z.BD] 1).run Tryz.prog w = .ok (.int .i64 z.gH) w:=fun _ _=>by kernel_rfl
 have p2:∀ (w:World) (z:Sx.Clause),(part 3 #[.int .i64 z.kind,.int .i64 z.gH,.int .i64 z.action,.int .i64 z.BD] 2).run Tryz.prog w = .ok (.int .i64 z.action) w:=fun _ _=>by kernel_rfl
 have p3:∀ (w:World) (z:Sx.Clause),(part 3 #[.int .i64 z.kind,.int .i64 z.gH,.int .i64 z.action,.int .i64 z.BD] 3).run Tryz.prog w = .ok (.int .i64 z.BD) w:=fun _ _=>by kernel_rfl
 simp only[Program.fieldsOf,Tryz.underlying90];cases h0:(x.kind == y.kind)
 ·simp only[Op.eqFields,Sem.run_bind,Sem.run_ite,p0,iJ,h0,Result.andThen_ok];simp
 cases h1:(x.gH == y.gH)
 ·simp only[Op.eqFields,Sem.run_bind,Sem.run_ite,p0,p1,iJ,h0,h1,Result.andThen_ok];simp
 cases h2:(x.action == y.action)
 ·simp only[Op.eqFields,Sem.run_bind,Sem.run_ite,p0,p1,p2,iJ,h0,h1,h2,Result.andThen_ok];simp
 cases h3:(x.BD == y.BD)
 ·simp only[Op.eqFields,Sem.run_bind,Sem.run_ite,p0,p1,p2,p3,iJ,h0,h1,h2,h3,Result.andThen_ok];simp
 ·simp only[Op.eqFields,Sem.run_bind,Sem.run_ite,p0,p1,p2,p3,iJ,h0,h1,h2,h3,Result.andThen_ok];simp
theorem xG (x y:Sx.Clause) (w:World):(binOp .neq 90 (jI x) (jI y)).run Tryz.prog w = .ok (.bool (!decide (x=y))) w:=by
 have h:=IU x y w;unfold jI at h ⊢;simp only[binOp];simp[h]
theorem bY {α:Type} {a b:List α} {k:Nat} (h:∀ j,j < k→a[j]?=b[j]?) (hk:a[k]?=b[k]?):∀ j,j < k+1→a[j]?=b[j]?:=fun j hj=>by
 rcases Nat.lt_or_ge j k with h1 | h1
 ·exact h j h1
 ·rw[show j=k by omega];exact hk
theorem dG {α:Type} {a b:List α} {k:Nat} (h:∀ j,j < k→a[j]?=b[j]?) (ha:k=a.length) (hb:k=b.length):a=b:=
 List.ext_getElem? fun j=>by
  rcases Nat.lt_or_ge j k with h1 | h1
  ·exact h j h1
  ·rw[List.getElem?_eq_none (by omega),List.getElem?_eq_none (by omega)]
theorem Row.old {α:Type} {w w':World} {A:Option Addr} {sz:Nat} {P:α→List Value→Prop} {l:List α} (h:Row w (Old w) A sz P l) (hb:Below w.heap.size w w'):Row w' (Old w') A sz P l:=
 h.keep (fun b hb1=>⟨Nat.lt_of_lt_of_le hb1 hb.size,fun i=>hb.cell (p:=⟨b,i,none⟩) hb1⟩) (fun _ _ _ h=>h)
theorem tC (A B:Option Addr) (c d:Nat) (l m:List Sx.Cls) (w:World) (ha:Row w (Old w) A 4 eu l) (hb:Row w (Old w) B 4 eu m) :
  Calls Tryz.prog 104 #[.slice A l.length c,.slice B m.length d] w (ak (decide (l=m)) w):=by
 obtain ⟨n0,hn0⟩:∃ n0,n0=l.length:=⟨_,rfl⟩
 obtain ⟨m0,hm0⟩:∃ m0,m0=m.length:=⟨_,rfl⟩
 have z0:=ha.len;have y0:=hb.len;rw[←hn0] at z0 ⊢;rw[←hm0] at y0 ⊢;have HA:=Lh ha;have HB:=Lh hb;have AZ:=Lh hn0;have RH:=Lh hm0;clear ha hb hn0 hm0;cases q0:((n0:Int) != (m0:Int)) with
 | true=>
  have hne:decide (l=m)=false:=decide_eq_false fun e=>by
   have hh:n0=m0:=by rw [AZ.out,RH.out,e]
   rw[hh] at q0;simp at q0
  have Hne:=Lh hne;clear hne;go_enter Tryz.func104,Tryz.ntmps104;go_wp2_with fail;go_ret;exact ⟨aj Hne.out.symm,Below.refl _ _⟩
 | false=>
 obtain rfl:n0=m0:=by have:(n0:Int)=m0:=(by simpa using q0);omega
 clear q0;go_enter Tryz.func104,Tryz.ntmps104;go_wp2_with fail
 go_loopg [5] n0 (fun gk v5 wr=>∃ i nn:Nat,v5 = .int .i64 i∧i+gk=n0∧wr=w.drewN nn∧Hid (∀ j,j < i→l[j]?=m[j]?))
 case atStart=>exact ⟨0,0,rfl,by omega,rfl,Lh (fun j hj=>absurd hj (Nat.not_lt_zero j))⟩
 case round=>
  obtain ⟨i,nn,rfl,hi,rfl,dQ⟩:=hrel
  by_cases hlt:i < n0
  ·obtain ⟨x,hx⟩:∃ x,l[i]?=some x:=⟨_,List.getElem?_eq_getElem (by have:=AZ.out;omega)⟩
   obtain ⟨y,hy⟩:∃ y,m[i]?=some y:=⟨_,List.getElem?_eq_getElem (by have:=RH.out;omega)⟩
   obtain ⟨bx,ox,Xn,rfl,_,⟨rfl,-⟩,hcx⟩:=HA.out.at_ i x hx;obtain ⟨Jl,oy,Xo,rfl,_,⟨rfl,-⟩,hcy⟩:=HB.out.at_ i y hy;have x0:=hcx 0 _ rfl;have y0':=hcy 0 _ rfl;have x1:=hcx 1 _ rfl;have y1:=hcy 1 _ rfl;have x2:=hcx 2 _ rfl;have y2:=hcy 2 _ rfl;have x3:=hcx 3 _ rfl;have y3:=hcy 3 _ rfl;simp only[Nat.add_zero,aT,bB] at x0 x1 x2 x3 y0' y1 y2 y3;have Hx:=Lh hx;have Hy:=Lh hy;clear hcx hcy hx hy;have hneq:=FP x y;unfold yO at hneq;cases hq:decide (x=y) with
   | false=>
    have hne:decide (l=m)=false:=decide_eq_false fun e0=>by
     have hxy:x≠y:=fun e=>by simp [e] at hq
     have h1:=Hx.out;rw[e0,Hy.out] at h1;injection h1 with h1;exact hxy h1.symm
    have Hne:=Lh hne;rw[hq] at hneq;clear hne hq;go_wp2_with fail
    go_quiet (fail)
    go_wp2_with fail;go_ret;exact ⟨aj Hne.out.symm,ay (ay (Below.refl _ _) _) _⟩
   | true=>
    have hnx:=bY dQ.out (by have e:x=y:=(by simpa using hq);rw[Hx.out,Hy.out,e]);have mW:=Lh hnx;rw[hq] at hneq;clear hnx hq;go_wp2_with fail
    go_quiet (fail)
    go_wp2_with fail
    go_roundg (gk - 1)
    all_goals first
     | omega
     | exact ⟨i+1,_,by go_num,by omega,(by first | rfl | exact World.drewN_drewN _ _ _),Lh mW.out⟩
  ·obtain rfl:i=n0:=by omega
   have hall:decide (l=m)=true:=decide_eq_true (dG dQ.out AZ.out RH.out);have aX:=Lh hall;clear hall;go_wp2_with fail;go_ret;exact ⟨aj aX.out.symm,ay (Below.refl _ _) _⟩
end Go.Proofs.YtjonaidancomgaaGreatDoor
