/- Parts of the proof, joined into one text: SxPrQ. -/
import Derived.Test.YtjonaidancomgaaGreatDoorBSxPrI
import Derived.Deep.Cut

namespace Go.Proofs.YtjonaidancomgaaGreatDoor
open Go.RowKit

theorem Sx.refs_snoc:∀ (l:List (List UInt8 × Int)) (p:List UInt8 × Int),Sx.refsT (l++[p])=Sx.refsT l++((if l.length=0 then [] else [Sx.sgT 44])++Sx.refT p.1 p.2)
 | [],p=>by simp [Sx.refsT]
 | [a],p=>by simp [Sx.refsT]
 | a::b::r,p=>by
  have:=Sx.refs_snoc (b::r) p
  simp only[List.cons_append,Sx.refsT,List.length_cons,Nat.succ_ne_zero,if_false] at this ⊢
  rw[this];simp
theorem Sx.refs_le {l:List (List UInt8 × Int)} {i:Nat} {p:List UInt8 × Int} (h:l[i]?=some p):(Sx.refsT (l.take i)).length+(if i=0 then 0 else 1)+(Sx.refT p.1 p.2).length≤(Sx.refsT l).length:=by
 have mono:∀ (b a:List (List UInt8 × Int)),(Sx.refsT a).length≤(Sx.refsT (a++b)).length:=fun b=>by
  induction b with
  | nil=>intro a;simp
  | cons q b ih=>
   intro a
   have:=ih (a++[q])
   rw[Sx.refs_snoc,List.append_assoc] at this
   simp only[List.length_append,List.cons_append,List.nil_append] at this ⊢
   omega
 have h1:=mono (l.drop (i+1)) (l.take (i+1))
 rw[List.take_append_drop,List.take_add_one,h] at h1
 have hi:i < l.length:=(List.getElem?_eq_some_iff.1 h).1
 simp only[Option.toList_some,Sx.refs_snoc,List.length_append,List.length_take] at h1
 by_cases h0:i=0
 ·subst h0;simp at h1 ⊢;omega
 ·rw[if_neg (by omega)] at h1;rw[if_neg h0];simp at h1;omega
set_option maxRecDepth 20000 in
set_option maxHeartbeats 4000000 in
theorem lTake (g:Nat) (x:Sx.Req) (hx:x.names.length=x.froms.length) (cs:List Value) (w:World) (hat:ReqAt w (fun b=>b < g) x cs) (l:List Lx.Tok) (W:World) (hst:PrSt g l W) (hb:Below g w W) (hl:l.length+(Sx.reqT x).length≤60000) :
  Calls Tryz.prog 130 #[.pointer (some ⟨g,0,none⟩),.agg cs.toArray] W (TPost g l (Sx.reqT x) W):=by
 replace hat:=ReqAt.keep (low_keep hb) hat
 obtain ⟨nm,cr,gr,hm,ns,fs⟩:=x
 obtain ⟨A,c,B,d,rfl,hn,hA,hB⟩:=hat
 obtain ⟨n,hn1⟩:∃ n,n=ns.length:=⟨_,rfl⟩
 have hn2:n=fs.length:=by rw [hn1];exact hx
 have hz:n≤140737488351232:=by rw [hn1];exact hA.len
 dsimp only [strV,intV]
 rw[←hn1,←hn2]
 have hglt:=hst.lt
 have e0:Sx.reqT ⟨nm,cr,gr,hm,ns,fs⟩ = [Sx.nameT Sx.wTake,Sx.nameT nm,Sx.numT cr,Sx.nameT Sx.wFrom]++(Sx.refsT (ns.zip fs)++((if gr≠1 then [Sx.nameT Sx.wAt,Sx.numT gr] else [])++((if hm=true then [Sx.nameT Sx.wHome] else [])++[Sx.sgT 59]))):=by simp [Sx.reqT]
 rw[e0] at hl ⊢
 obtain ⟨tg,htg⟩:∃ tg,tg=if gr≠1 then [Sx.nameT Sx.wAt,Sx.numT gr] else []:=⟨_,rfl⟩
 obtain ⟨th,hth⟩:∃ th,th=if hm=true then [Sx.nameT Sx.wHome] else []:=⟨_,rfl⟩
 rw[←htg,←hth] at hl ⊢
 have Hlen:=Lh hl
 obtain ⟨V,hV⟩:∃ V,V=W.alloc (.cells #[.string (Lx.bs nm),.int .i64 cr,.int .i64 gr,.bool hm,.slice A n c,.slice B n d] 108):=⟨_,rfl⟩
 have hbw:Below W.heap.size W V:=by rw [hV];exact (Below.refl _ _).alloc (Nat.le_refl _) _
 have hbx:Blk V W.heap.size 108 #[.string (Lx.bs nm),.int .i64 cr,.int .i64 gr,.bool hm,.slice A n c,.slice B n d]:=by rw [hV];exact Blk.new _ _ _
 have hpi:PI g l V V:=PI.start (hst.next hbw)
 have hrow:∀ (i:Nat) (s:List UInt8) (f:Int),ns[i]?=some s→fs[i]?=some f→∃ b1 o1 b2 o2,A=some ⟨b1,o1,none⟩∧B=some ⟨b2,o2,none⟩∧∀ V',Below g V V'→V'.cell? ⟨b1,o1+i,none⟩=some (.string (Lx.bs s))∧V'.cell? ⟨b2,o2+i,none⟩=some (.int .i64 f)∧b1 < V'.heap.size∧b2 < V'.heap.size:=fun i s f hi hf=>by
  obtain ⟨b1,o1,c1,e1,s1,⟨rfl,-⟩,k1⟩:=hA.at_ i s hi
  obtain ⟨b2,o2,c2,e2,s2,rfl,k2⟩:=hB.at_ i f hf
  refine ⟨b1,o1,b2,o2,e1,e2,fun V' hV'=>?_⟩
  have a1:=k1 0 _ rfl
  have a2:=k2 0 _ rfl
  simp only[Nat.mul_one,Nat.add_zero] at a1 a2
  have hs:=hV'.size;have hs2:=hbw.size
  have s1':b1 < g:=s1
  have s2':b2 < g:=s2
  exact ⟨((hV'.cell (p:=⟨b1,_,none⟩) s1').trans (hbw.cell (p:=⟨b1,_,none⟩) (show b1 < W.heap.size by omega))).trans a1,((hV'.cell (p:=⟨b2,_,none⟩) s2').trans (hbw.cell (p:=⟨b2,_,none⟩) (show b2 < W.heap.size by omega))).trans a2,by omega,by omega⟩
 have Hrow:=Lh hrow;have H:=Lh hpi;have Hbw:=Lh hbw;have Hbx:=Lh hbx;have Hn1:=Lh hn1;have Hn2:=Lh hn2;have Htg:=Lh htg;have Hth:=Lh hth
 have hVs:V.heap.size=W.heap.size+1:=by rw [hV];simp
 clear hrow hpi hbw hbx hn1 hn2 htg hth hl e0 hA hB hb hst hx hn
 go_enter Tryz.func130,Tryz.ntmps130
 go_wp2_with fail
 rw[←hV]
 refine (H.out.put [.name Sx.wTake,.name nm,.num cr,.name Sx.wFrom] (ts:=[Sx.nameT Sx.wTake,Sx.nameT nm,Sx.numT cr,Sx.nameT Sx.wFrom]) hVs.symm rfl rfl rfl (by simp) (by have:=Hlen.out;simp at this ⊢;omega) (by simp)).mono ?_
 rintro e w1 ⟨rfl,h⟩
 have H1:=Lh h
 obtain ⟨x0,x1,x2,x3,x4,x5,z1⟩:=cells6 (h.blk Hbx.out (by decide) (by decide))
 clear h
 have Hst:Hid (PI g (l++[Sx.nameT Sx.wTake,Sx.nameT nm,Sx.numT cr,Sx.nameT Sx.wFrom]++Sx.refsT ((ns.zip fs).take 0)) V w1):=Lh (by simpa [Sx.refsT] using H1.out)
 go_wp2_with fail
 go_loopg [20] n (fun gk v20 wr=>∃ i:Nat,v20 = .int .i64 i∧i+gk=n∧Hid (PI g (l++[Sx.nameT Sx.wTake,Sx.nameT nm,Sx.numT cr,Sx.nameT Sx.wFrom]++Sx.refsT ((ns.zip fs).take i)) V wr))
 case atStart=>exact ⟨0,rfl,by omega,Hst⟩
 case round=>
  clear x0 x1 x2 x3 x4 x5 Hst
  obtain ⟨i,rfl,hi,HP⟩:=hrel
  obtain ⟨x0,x1,x2,x3,x4,x5,zz⟩:=cells6 (HP.out.blk Hbx.out (by decide) (by decide))
  have hgr:=HP.out.st.lt
  by_cases hlt:i < n
  ·obtain ⟨s,hs⟩:∃ s,ns[i]?=some s:=⟨_,List.getElem?_eq_getElem (by have:=Hn1.out;omega)⟩
   obtain ⟨f,hf⟩:∃ f,fs[i]?=some f:=⟨_,List.getElem?_eq_getElem (by have:=Hn2.out;omega)⟩
   have hzip:(ns.zip fs)[i]?=some (s,f):=by rw [List.getElem?_zip_eq_some];exact ⟨hs,hf⟩
   obtain ⟨b1,o1,b2,o2,rfl,rfl,hc⟩:=Hrow.out i s f hs hf
   have hle:=Sx.refs_le hzip
   have hc':=hc wr HP.out.bel
   have Hc:=Lh hc;have Hzip:=Lh hzip
   have Hle:=Lh hle
   obtain ⟨c1,c2,q1,q2⟩:=hc'
   clear hc hs hf hle hzip
   by_cases h0:i=0
   ·subst h0
    simp only[Nat.add_zero] at c1 c2
    go_wp2_with fail
    refine (HP.out.ref s f (by have:=Hlen.out;have:=Hle.out;simp at *;omega)).mono ?_
    rintro e w9 ⟨rfl,h9⟩
    have H9:=Lh h9
    clear h9
    go_wp2_with fail
    go_roundg (gk - 1)
    all_goals first
     | omega
     | exact ⟨1,by go_num,by omega,Lh (by
       have:=H9.out
       rw[List.take_add_one,Hzip.out]
       simpa[Sx.refsT] using this)⟩
   ·go_wp2_with fail
    refine (HP.out.put [.sign [44]] (ts:=[Sx.sgT 44]) rfl rfl rfl rfl (by simp) (by have:=Hlen.out;have:=Hle.out;rw[if_neg h0] at this;simp at *;omega) (by simp)).mono ?_
    rintro e w8 ⟨rfl,h8⟩
    have H8:=Lh h8
    obtain ⟨y0,y1,y2,y3,y4,y5,zy⟩:=cells6 (h8.blk Hbx.out (by decide) (by decide))
    obtain ⟨d1,d2,p1,p2⟩:=Hc.out w8 h8.bel
    clear h8
    go_wp2_with fail
    refine (H8.out.ref s f (by have:=Hlen.out;have:=Hle.out;rw[if_neg h0] at this;simp at *;omega)).mono ?_
    rintro e w9 ⟨rfl,h9⟩
    have H9:=Lh h9
    clear h9
    go_wp2_with fail
    go_roundg (gk - 1)
    all_goals first
     | omega
     | exact ⟨i+1,by go_num,by omega,Lh (by
       have:=H9.out
       have hl2:((ns.zip fs).take i).length≠0:=by
        have:=(List.getElem?_eq_some_iff.1 Hzip.out).1
        rw[List.length_take];omega
       rw[List.take_add_one,Hzip.out,Option.toList_some,Sx.refs_snoc,if_neg hl2]
       simpa using this)⟩
  ·obtain rfl:i=n:=by omega
   have HQ:Hid (PI g (l++[Sx.nameT Sx.wTake,Sx.nameT nm,Sx.numT cr,Sx.nameT Sx.wFrom]++Sx.refsT (ns.zip fs)) V wr):=Lh (by have:=HP.out;rwa [List.take_of_length_le (by rw [List.length_zip,←Hn1.out,←Hn2.out];simp)] at this)
   go_upto_if 42 with fail
   go_cut [0,3] from 42 (fun v0 v3 wx=>v0 = .pointer (some ⟨g,0,none⟩)∧v3 = .pointer (some ⟨W.heap.size,0,none⟩)∧Hid (PI g (l++[Sx.nameT Sx.wTake,Sx.nameT nm,Sx.numT cr,Sx.nameT Sx.wFrom]++Sx.refsT (ns.zip fs)++tg) V wx))
   case first=>
    by_cases h0:gr=1
    ·subst h0
     go_wp2_with fail
     go_meet
     exact ⟨rfl,rfl,Lh (by have:=Htg.out;rw[if_neg (by decide)] at this;rw[this];simpa using HQ.out)⟩
    ·have Ht:Hid (tg = [Sx.nameT Sx.wAt,Sx.numT gr]):=Lh (by have:=Htg.out;rw[if_pos h0] at this;exact this)
     go_wp2_with fail
     refine (HQ.out.put [.name Sx.wAt,.num gr] (ts:=[Sx.nameT Sx.wAt,Sx.numT gr]) rfl rfl rfl rfl (by simp) (by have:=Hlen.out;rw[Ht.out] at this;simp at this ⊢;omega) (by simp)).mono ?_
     rintro e w2 ⟨rfl,h⟩
     have H2:=Lh h
     clear h
     go_wp2_with fail
     go_meet
     exact ⟨rfl,rfl,Lh (by rw [Ht.out];exact H2.out)⟩
   case rest=>
    clear x0 x1 x2 x3 x4 x5
    obtain ⟨rfl,rfl,H3⟩:=hcut
    obtain ⟨x0,x1,x2,x3,x4,x5,zz⟩:=cells6 (H3.out.blk Hbx.out (by decide) (by decide))
    go_upto_if 51 with fail
    go_cut [0,3] from 51 (fun v0 v3 wx=>v0 = .pointer (some ⟨g,0,none⟩)∧v3 = .pointer (some ⟨W.heap.size,0,none⟩)∧Hid (PI g (l++[Sx.nameT Sx.wTake,Sx.nameT nm,Sx.numT cr,Sx.nameT Sx.wFrom]++Sx.refsT (ns.zip fs)++tg++th) V wx))
    case first=>
     cases hm with
     | false=>
      go_wp2_with fail
      go_meet
      exact ⟨rfl,rfl,Lh (by have:=Hth.out;rw[if_neg (by decide)] at this;rw[this];simpa using H3.out)⟩
     | true=>
      have Ht:Hid (th = [Sx.nameT Sx.wHome]):=Lh (by have:=Hth.out;rw[if_pos rfl] at this;exact this)
      go_wp2_with fail
      refine (H3.out.put [.name Sx.wHome] (ts:=[Sx.nameT Sx.wHome]) rfl rfl rfl rfl (by simp) (by have:=Hlen.out;rw[Ht.out] at this;simp at this ⊢;omega) (by simp)).mono ?_
      rintro e w2 ⟨rfl,h⟩
      have H2:=Lh h
      clear h
      go_wp2_with fail
      go_meet
      exact ⟨rfl,rfl,Lh (by rw [Ht.out];exact H2.out)⟩
    case rest=>
     clear x0 x1 x2 x3 x4 x5
     obtain ⟨rfl,rfl,H4⟩:=hcut
     go_wp2_with fail
     refine (H4.out.put [.sign [59]] (ts:=[Sx.sgT 59]) rfl rfl rfl rfl (by simp) (by have:=Hlen.out;simp at this ⊢;omega) (by simp)).mono ?_
     rintro e w6 ⟨rfl,h⟩
     have H6:=Lh h
     clear h
     go_wp2_with fail
     go_end0
     exact ⟨rfl,by have:=H6.out.st;simpa using this,(Hbw.out.mono (by omega)).trans H6.out.bel,(KP.below Hbw.out).trans H6.out.kp⟩
theorem Sx.flatLe {α:Type} (f:α→List Lx.Tok) {x:α} : ∀ {xs:List α} {i:Nat},xs[i]?=some x→((xs.take i).flatMap f).length+(f x).length≤(xs.flatMap f).length
 | [],i,h=>by simp at h
 | y::xs,0,h=>by simp at h;subst h;simp
 | y::xs,i+1,h=>by have:=Sx.flatLe f (xs:=xs) (i:=i) (by simpa using h);simp at *;omega
theorem form_req_low {w:World} {S:Nat→Prop} {x:Sx.Req} {cs:List Value} (h:ReqAt w S x cs):∃ s0 i1 i2 b3 A4 n4 c4 A5 n5 c5,cs = [.string s0,.int .i64 i1,.int .i64 i2,.bool b3,.slice A4 n4 c4,.slice A5 n5 c5]:=by
 obtain ⟨A,c,B,d,rfl,-⟩:=h
 exact ⟨_,_,_,_,_,_,_,_,_,_,rfl⟩
set_option maxRecDepth 20000 in
set_option maxHeartbeats 4000000 in
theorem lProg (g:Nat) (x:Sx.Prog) (hx:∀ r∈x.reqs,r.names.length=r.froms.length) (cs:List Value) (w:World) (hat:ProgAt w (fun b=>b < g) x cs) (l:List Lx.Tok) (W:World) (hst:PrSt g l W) (hb:Below g w W) (hl:l.length+(Sx.progT x).length≤60000) :
  Calls Tryz.prog 52 #[.pointer (some ⟨g,0,none⟩),.agg cs.toArray] W (TPost g l (Sx.progT x) W):=by
 replace hat:=ProgAt.keep (low_keep hb) hat
 obtain ⟨nm,no,us,en,⟨mn,md⟩,rs⟩:=x
 obtain ⟨A,c,rfl,hn,hA⟩:=hat
 obtain ⟨n,hn1⟩:∃ n,n=rs.length:=⟨_,rfl⟩
 have hz:n≤140737488351232:=by rw [hn1];exact hA.len
 dsimp only [strV,intV]
 rw[←hn1]
 have hglt:=hst.lt
 have e0:Sx.progT ⟨nm,no,us,en,⟨mn,md⟩,rs⟩ = [Sx.nameT Sx.wProgramme,Sx.numT no,Sx.nameT nm,Sx.sgT 123]++((if us≠1 then [Sx.nameT Sx.wUses,Sx.numT us,Sx.sgT 59] else [])++((if en≠0 then [Sx.nameT Sx.wEarn,Sx.numT en,Sx.sgT 59] else [])++((if mn≠0 then Sx.nameT Sx.wMean::(Sx.ratioT ⟨mn,md⟩++[Sx.sgT 59]) else [])++(rs.flatMap Sx.reqT++[Sx.sgT 125])))):=by simp [Sx.progT]
 rw[e0] at hl ⊢
 obtain ⟨tu,htu⟩:∃ tu,tu=if us≠1 then [Sx.nameT Sx.wUses,Sx.numT us,Sx.sgT 59] else []:=⟨_,rfl⟩
 obtain ⟨te,hte⟩:∃ te,te=if en≠0 then [Sx.nameT Sx.wEarn,Sx.numT en,Sx.sgT 59] else []:=⟨_,rfl⟩
 obtain ⟨tm,htm⟩:∃ tm,tm=if mn≠0 then Sx.nameT Sx.wMean::(Sx.ratioT ⟨mn,md⟩++[Sx.sgT 59]) else []:=⟨_,rfl⟩
 rw[←htu,←hte,←htm] at hl ⊢
 have Hlen:=Lh hl
 obtain ⟨V,hV⟩:∃ V,V=W.alloc (.cells #[.string (Lx.bs nm),.int .i64 no,.int .i64 us,.int .i64 en,.int .i64 mn,.int .i64 md,.slice A n c] 78):=⟨_,rfl⟩
 have hbw:Below W.heap.size W V:=by rw [hV];exact (Below.refl _ _).alloc (Nat.le_refl _) _
 have hbx:Blk V W.heap.size 78 #[.string (Lx.bs nm),.int .i64 no,.int .i64 us,.int .i64 en,.int .i64 mn,.int .i64 md,.slice A n c]:=by rw [hV];exact Blk.new _ _ _
 have hpi:PI g l V V:=PI.start (hst.next hbw)
 have hrow:∀ (i:Nat) (r:Sx.Req),rs[i]?=some r→∃ bk ok s0 i1 i2 b3 A4 n4 c4 A5 n5 c5,A=some ⟨bk,ok,none⟩∧
   (∀ (l':List Lx.Tok) (W':World),PI g l' V W'→l'.length+(Sx.reqT r).length≤60000→Calls Tryz.prog 130 #[.pointer (some ⟨g,0,none⟩),.agg #[.string s0,.int .i64 i1,.int .i64 i2,.bool b3,.slice A4 n4 c4,.slice A5 n5 c5]] W' (PIPost g (l'++Sx.reqT r) V))∧
   ∀ V',Below g V V'→V'.cell? ⟨bk,ok+i*6,none⟩=some (.string s0)∧V'.cell? ⟨bk,ok+i*6+1,none⟩=some (.int .i64 i1)∧V'.cell? ⟨bk,ok+i*6+2,none⟩=some (.int .i64 i2)∧V'.cell? ⟨bk,ok+i*6+3,none⟩=some (.bool b3)∧V'.cell? ⟨bk,ok+i*6+4,none⟩=some (.slice A4 n4 c4)∧V'.cell? ⟨bk,ok+i*6+5,none⟩=some (.slice A5 n5 c5)∧bk < V'.heap.size:=fun i r hi=>by
  obtain ⟨bk,ok,cs,e1,hS,hP,hck⟩:=hA.at_ i r hi
  have hS':bk < g:=hS
  have hPV:ReqAt V (fun b=>b < g) r cs:=ReqAt.keep (low_keep (hbw.mono (by omega))) hP
  obtain ⟨s0,i1,i2,b3,A4,n4,c4,A5,n5,c5,rfl⟩:=form_req_low hP
  refine ⟨bk,ok,s0,i1,i2,b3,A4,n4,c4,A5,n5,c5,e1,fun l' W' hW hl=>(lTake g r (hx r (List.mem_of_getElem? hi)) _ V hPV l' W' hW.st hW.bel hl).mono fun e w' he=>hW.post he,fun V' hV'=>?_⟩
  have key:∀ j v,[.string s0,.int .i64 i1,.int .i64 i2,.bool b3,.slice A4 n4 c4,.slice A5 n5 c5][j]?=some v→V'.cell? ⟨bk,ok+i*6+j,none⟩=some v:=fun j v hj=>
   ((hV'.cell (p:=⟨bk,_,none⟩) hS').trans (hbw.cell (p:=⟨bk,_,none⟩) (show bk < W.heap.size by omega))).trans (hck j v hj)
  have hs:=hV'.size;have hs2:=hbw.size
  exact ⟨key 0 _ rfl,key 1 _ rfl,key 2 _ rfl,key 3 _ rfl,key 4 _ rfl,key 5 _ rfl,by omega⟩
 have Hrow:=Lh hrow;have H:=Lh hpi;have Hbw:=Lh hbw;have Hbx:=Lh hbx;have Hn1:=Lh hn1;have Htu:=Lh htu;have Hte:=Lh hte;have Htm:=Lh htm
 have hVs:V.heap.size=W.heap.size+1:=by rw [hV];simp
 clear hrow hpi hbw hbx hn1 htu hte htm hl e0 hA hb hst hx hn
 go_enter Tryz.func52,Tryz.ntmps52
 go_wp2_with fail
 rw[←hV]
 refine (H.out.put [.name Sx.wProgramme,.num no,.name nm,.sign [123]] (ts:=[Sx.nameT Sx.wProgramme,Sx.numT no,Sx.nameT nm,Sx.sgT 123]) hVs.symm rfl rfl rfl (by simp) (by have:=Hlen.out;simp at this ⊢;omega) (by simp)).mono ?_
 rintro e w1 ⟨rfl,h⟩
 have H1:=Lh h
 obtain ⟨x0,x1,x2,x3,x4,x5,x6,z1⟩:=cells7 (h.blk Hbx.out (by decide) (by decide))
 clear h
 go_upto_if 19 with fail
 go_cut [0,3] from 19 (fun v0 v3 wx=>v0 = .pointer (some ⟨g,0,none⟩)∧v3 = .pointer (some ⟨W.heap.size,0,none⟩)∧Hid (PI g (l++[Sx.nameT Sx.wProgramme,Sx.numT no,Sx.nameT nm,Sx.sgT 123]++tu) V wx))
 case first=>
  by_cases h0:us=1
  ·subst h0
   go_wp2_with fail
   go_meet
   exact ⟨rfl,rfl,Lh (by have:=Htu.out;rw[if_neg (by decide)] at this;rw[this];simpa using H1.out)⟩
  ·have Ht:Hid (tu = [Sx.nameT Sx.wUses,Sx.numT us,Sx.sgT 59]):=Lh (by have:=Htu.out;rw[if_pos h0] at this;exact this)
   go_wp2_with fail
   refine (H1.out.put [.name Sx.wUses,.num us,.sign [59]] (ts:=[Sx.nameT Sx.wUses,Sx.numT us,Sx.sgT 59]) rfl rfl rfl (by simp [PrIt.toks,Sx.nameT,Sx.sgT,Sx.numT]) (by simp) (by have:=Hlen.out;rw[Ht.out] at this;simp at this ⊢;omega) (by simp)).mono ?_
   rintro e w2 ⟨rfl,h⟩
   have HN:=Lh h
   clear h
   go_wp2_with fail
   go_meet
   exact ⟨rfl,rfl,Lh (by rw [Ht.out];exact HN.out)⟩
 case rest=>
  clear x0 x1 x2 x3 x4 x5 x6
  obtain ⟨rfl,rfl,H2⟩:=hcut
  obtain ⟨x0,x1,x2,x3,x4,x5,x6,zz⟩:=cells7 (H2.out.blk Hbx.out (by decide) (by decide))
  go_upto_if 30 with fail
  go_cut [0,3] from 30 (fun v0 v3 wx=>v0 = .pointer (some ⟨g,0,none⟩)∧v3 = .pointer (some ⟨W.heap.size,0,none⟩)∧Hid (PI g (l++[Sx.nameT Sx.wProgramme,Sx.numT no,Sx.nameT nm,Sx.sgT 123]++tu++te) V wx))
  case first=>
   by_cases h0:en=0
   ·subst h0
    go_wp2_with fail
    go_meet
    exact ⟨rfl,rfl,Lh (by have:=Hte.out;rw[if_neg (by decide)] at this;rw[this];simpa using H2.out)⟩
   ·have Ht:Hid (te = [Sx.nameT Sx.wEarn,Sx.numT en,Sx.sgT 59]):=Lh (by have:=Hte.out;rw[if_pos h0] at this;exact this)
    go_wp2_with fail
    refine (H2.out.put [.name Sx.wEarn,.num en,.sign [59]] (ts:=[Sx.nameT Sx.wEarn,Sx.numT en,Sx.sgT 59]) rfl rfl rfl (by simp [PrIt.toks,Sx.nameT,Sx.sgT,Sx.numT]) (by simp) (by have:=Hlen.out;rw[Ht.out] at this;simp at this ⊢;omega) (by simp)).mono ?_
    rintro e w2 ⟨rfl,h⟩
    have HN:=Lh h
    clear h
    go_wp2_with fail
    go_meet
    exact ⟨rfl,rfl,Lh (by rw [Ht.out];exact HN.out)⟩
  case rest=>
   clear x0 x1 x2 x3 x4 x5 x6
   obtain ⟨rfl,rfl,H3⟩:=hcut
   obtain ⟨x0,x1,x2,x3,x4,x5,x6,zz⟩:=cells7 (H3.out.blk Hbx.out (by decide) (by decide))
   go_upto_if 42 with fail
   go_cut [0,3] from 42 (fun v0 v3 wx=>v0 = .pointer (some ⟨g,0,none⟩)∧v3 = .pointer (some ⟨W.heap.size,0,none⟩)∧Hid (PI g (l++[Sx.nameT Sx.wProgramme,Sx.numT no,Sx.nameT nm,Sx.sgT 123]++tu++te++tm) V wx))
   case first=>
    by_cases h0:mn=0
    ·subst h0
     go_wp2_with fail
     go_meet
     exact ⟨rfl,rfl,Lh (by have:=Htm.out;rw[if_neg (by decide)] at this;rw[this];simpa using H3.out)⟩
    ·have Ht:Hid (tm=Sx.nameT Sx.wMean::(Sx.ratioT ⟨mn,md⟩++[Sx.sgT 59])):=Lh (by have:=Htm.out;rw[if_pos h0] at this;exact this)
     go_wp2_with fail
     refine (H3.out.put [.name Sx.wMean,.ratio ⟨mn,md⟩,.sign [59]] (ts:=Sx.nameT Sx.wMean::(Sx.ratioT ⟨mn,md⟩++[Sx.sgT 59])) rfl rfl rfl (by simp [PrIt.toks,Sx.nameT,Sx.sgT,Sx.numT,Sx.ratioT]) (by simp) (by have:=Hlen.out;rw[Ht.out] at this;simp at this ⊢;omega) (by simp)).mono ?_
     rintro e w2 ⟨rfl,h⟩
     have HN:=Lh h
     clear h
     go_wp2_with fail
     go_meet
     exact ⟨rfl,rfl,Lh (by rw [Ht.out];exact HN.out)⟩
   case rest=>
    clear x0 x1 x2 x3 x4 x5 x6
    obtain ⟨rfl,rfl,H4⟩:=hcut
    obtain ⟨x0,x1,x2,x3,x4,x5,x6,zz⟩:=cells7 (H4.out.blk Hbx.out (by decide) (by decide))
    have Hst:Hid (PI g (l++[Sx.nameT Sx.wProgramme,Sx.numT no,Sx.nameT nm,Sx.sgT 123]++tu++te++tm++(rs.take 0).flatMap Sx.reqT) V wc):=Lh (by simpa using H4.out)
    go_wp2_with fail
    go_loopg [54] n (fun gk v54 wr=>∃ i:Nat,v54 = .int .i64 i∧i+gk=n∧Hid (PI g (l++[Sx.nameT Sx.wProgramme,Sx.numT no,Sx.nameT nm,Sx.sgT 123]++tu++te++tm++(rs.take i).flatMap Sx.reqT) V wr))
    case atStart=>exact ⟨0,rfl,by omega,Hst⟩
    case round=>
     clear x0 x1 x2 x3 x4 x5 x6 Hst
     obtain ⟨i,rfl,hi,HP⟩:=hrel
     obtain ⟨x0,x1,x2,x3,x4,x5,x6,zy⟩:=cells7 (HP.out.blk Hbx.out (by decide) (by decide))
     have hgr:=HP.out.st.lt
     by_cases hlt:i < n
     ·obtain ⟨r,hr⟩:∃ r,rs[i]?=some r:=⟨_,List.getElem?_eq_getElem (by have:=Hn1.out;omega)⟩
      obtain ⟨bk,ok,s0,i1,i2,b3,A4,n4,c4,A5,n5,c5,rfl,hsay,hck⟩:=Hrow.out i r hr
      obtain ⟨k0,k1,k2,k3,k4,k5,zk⟩:=hck wr HP.out.bel
      have hle:=Sx.flatLe Sx.reqT hr
      obtain ⟨W3,hW3⟩:∃ W3,W3=wr.alloc (.cells #[.string s0,.int .i64 i1,.int .i64 i2,.bool b3,.slice A4 n4 c4,.slice A5 n5 c5] 108):=⟨_,rfl⟩
      have hPn:PI g (l++[Sx.nameT Sx.wProgramme,Sx.numT no,Sx.nameT nm,Sx.sgT 123]++tu++te++tm++(rs.take i).flatMap Sx.reqT) V W3:=by rw [hW3];exact HP.out.next ((Below.refl _ _).alloc (Nat.le_refl _) _)
      have Hcall:=Lh (hsay _ W3 hPn (by have:=Hlen.out;simp only[List.length_append,List.length_cons,List.length_nil] at this ⊢;omega))
      have Hr:=Lh hr
      clear hsay hck hr hle hPn
      go_wp2_with fail
      rw[←hW3]
      refine Hcall.out.mono ?_
      rintro e w5 ⟨rfl,h5⟩
      have H5:=Lh h5
      clear h5 hW3 k0 k1 k2 k3 k4 k5
      go_wp2_with fail
      go_roundg (gk - 1)
      all_goals first
       | omega
       | exact ⟨i+1,by go_num,by omega,Lh (by
         have:=H5.out
         rw[List.take_add_one,Hr.out]
         simpa using this)⟩
     ·obtain rfl:i=n:=by omega
      have HQ:Hid (PI g (l++[Sx.nameT Sx.wProgramme,Sx.numT no,Sx.nameT nm,Sx.sgT 123]++tu++te++tm++rs.flatMap Sx.reqT) V wr):=Lh (by have:=HP.out;rwa [Hn1.out,List.take_length] at this)
      go_wp2_with fail
      refine (HQ.out.put [.sign [125]] (ts:=[Sx.sgT 125]) rfl rfl rfl rfl (by simp) (by have:=Hlen.out;simp at this ⊢;omega) (by simp)).mono ?_
      rintro e w6 ⟨rfl,h⟩
      have H6:=Lh h
      clear h
      go_wp2_with fail
      go_end0
      exact ⟨rfl,by have:=H6.out.st;simpa using this,(Hbw.out.mono (by omega)).trans H6.out.bel,(KP.below Hbw.out).trans H6.out.kp⟩
end Go.Proofs.YtjonaidancomgaaGreatDoor
