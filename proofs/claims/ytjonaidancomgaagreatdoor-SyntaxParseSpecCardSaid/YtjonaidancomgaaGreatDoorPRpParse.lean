/- Parts of the proof, joined into one text: RpParse. -/
import Derived.Test.YtjonaidancomgaaGreatDoorPRpDfs
import Derived.Test.YtjonaidancomgaaGreatDoorPRpCourse
import Derived.Test.YtjonaidancomgaaGreatDoorPRpProg
import Derived.Test.YtjonaidancomgaaGreatDoorPLxRefNum

namespace Go.Proofs.YtjonaidancomgaaGreatDoor
open Go.RowKit

def CatOut (s:List UInt8) (w:World) (e:Ending) (w':World):Prop:=Below w.heap.size w w'∧
 match Sx.parse s with
 | .ok c=>∃ cs:List Value,e = .returned (.tuple #[.agg cs.toArray,.int .i64 0,.int .i64 0])∧CatAt w' (Old w') c cs
 | .bad p x=>e = .returned (.tuple #[.agg #[.slice none 0 0,.slice none 0 0,.slice none 0 0,.slice none 0 0,.slice none 0 0,.slice none 0 0,.slice none 0 0],.int .i64 p,.int .i64 x])
theorem CatOut.bad {s:List UInt8} {w w':World} {p x:Int} (h:Sx.parse s = .bad p x) (hb:Below w.heap.size w w'):CatOut s w (.returned (.tuple #[.agg #[.slice none 0 0,.slice none 0 0,.slice none 0 0,.slice none 0 0,.slice none 0 0,.slice none 0 0,.slice none 0 0],.int .i64 p,.int .i64 x])) w':=⟨hb,by rw [h]⟩
theorem CatOut.ok {s:List UInt8} {w w':World} {c:Sx.Cat} {cs:List Value} (h:Sx.parse s = .ok c) (hb:Below w.heap.size w w') (hr:CatAt w' (Old w') c cs):CatOut s w (.returned (.tuple #[.agg cs.toArray,.int .i64 0,.int .i64 0])) w':=⟨hb,by rw [h];exact ⟨cs,rfl,hr⟩⟩
section
variable {g h : Nat} {w0 W V : World} {its : List (List Item)} {vs : List Value} {css : List (List (List Value))}
theorem cjm (H:Hid (CatJ g h w0 its vs css W)) (hb:Below W.heap.size W V):Hid (CatJ g h w0 its vs css V):=Lh (H.out.step (FrG.below hb (by have:=H.out.gh;have:=H.out.blk.lt;omega)))
theorem cjf (hf:∀ k,k≠g→V.heap[k]?=W.heap[k]?) (hb:Below g W V) (H:Hid (CatJ g h w0 its vs css W)):Hid (CatJ g h w0 its vs css V):=Lh (H.out.step ⟨hb,fun k _ hn=>hf k hn⟩)
theorem CatJ.few {c:Sx.Cat} (H:CatJ g h w0 (itemsOf c) vs css W) {n:Nat} (hc:c.size≤n) {i:Nat} {rs:List (List Value)} (hrs:css[i]?=some rs):rs.length≤n:=by
 have hi:i < 7:=by have:=(List.getElem?_eq_some_iff.1 hrs).1;rw[H.lenc] at this;exact this
 obtain ⟨v,rs',is,h1,h2,h3,h4⟩:=H.get hi
 rw[hrs] at h2
 obtain rfl:rs=rs':=by simpa using h2
 rw[h4]
 exact Sx.items_few hc is (List.mem_of_getElem? h3)
end
theorem cat_7 {w:World} {S:Nat→Prop} {x:Sx.Cat} {cs:List Value} (h:CatAt w S x cs):∃ A0 An0 Ac0 A1 An1 Ac1 A2 An2 Ac2 A3 An3 Ac3 A4 An4 Ac4 A5 An5 Ac5 A6 An6 Ac6,cs = [.slice A0 An0 Ac0,.slice A1 An1 Ac1,.slice A2 An2 Ac2,.slice A3 An3 Ac3,.slice A4 An4 Ac4,.slice A5 An5 Ac5,.slice A6 An6 Ac6]:=by
 obtain ⟨A0,c0,A1,c1,A2,c2,A3,c3,A4,c4,A5,c5,A6,c6,rfl,_⟩:=h
 exact ⟨_,_,_,_,_,_,_,_,_,_,_,_,_,_,_,_,_,_,_,_,_,rfl⟩
theorem list7 {α:Type} {l:List α} (h:l.length=7):∃ y0 y1 y2 y3 y4 y5 y6,l = [y0,y1,y2,y3,y4,y5,y6]:=by
 match l,h with
 | [y0,y1,y2,y3,y4,y5,y6],_=>exact ⟨_,_,_,_,_,_,_,rfl⟩
set_option maxRecDepth 20000 in
set_option maxHeartbeats 8000000 in
theorem pParse (s:ByteArray) (v0:World) (hs:s.size≤100000):Calls Tryz.prog 13 #[.string s] v0 (CatOut s.data.toList v0):=by
 have HBg:=Lh (fun W=>pBegin s W hs)
 have hsz:s.data.toList.length=s.size:=Lx.ba_len s
 obtain ⟨W1,hW1⟩:∃ W1,W1=v0.alloc (.cells #[.slice none 0 0,.slice none 0 0,.slice none 0 0,.slice none 0 0,.slice none 0 0,.slice none 0 0,.slice none 0 0] 30):=⟨_,rfl⟩
 have HV:=Lh (show Below v0.heap.size v0 W1 by rw [hW1];exact (Below.refl _ _).alloc (Nat.le_refl _) _)
 have HX_a:=Lh (show Blk W1 v0.heap.size 30 #[.slice none 0 0,.slice none 0 0,.slice none 0 0,.slice none 0 0,.slice none 0 0,.slice none 0 0,.slice none 0 0] by rw [hW1];exact Blk.new _ _ _)
 have hz0:=HX_a.out.lt
 have Hsz:=Lh hsz
 clear hsz
 go_enter Tryz.func13,Tryz.ntmps13
 go_upto_region 1 with fail
 rw[←hW1]
 clear hW1
 go_wp2_with fail
 refine (HBg.out _).mono ?_
 rintro e' w ⟨hb,hpost⟩
 obtain ⟨src,hsrc⟩:∃ src,src=s.data.toList:=⟨_,rfl⟩
 rw[←hsrc] at hpost
 have Hsrc:=Lh hsrc
 clear HBg hsrc
 have hgz:=hb.size
 replace HV:=bmb HV hb
 replace HX_a:=bmv HX_a hb
 clear hb
 have HB:=Lh (Below.refl w.heap.size w)
 by_cases hlong:65536 < src.length
 ·rw[if_pos hlong] at hpost
  subst hpost
  unfold pv
  have HOut:=Lh (Sx.parse_long hlong)
  clear hlong
  obtain ⟨V2,hV2⟩:∃ V,V=w.alloc (.cells #[.slice none 0 0,.int .i64 0,.int .i64 0,.int .i64 0,.int .i64 0] 64):=⟨_,rfl⟩
  obtain ⟨HX_p,hb⟩:=bnw hV2
  have hgz:=hb.size
  replace HB:=bmb HB hb
  replace HX_a:=bmv HX_a hb
  clear hb
  go_upto_region 3 with fail
  rw[←hV2]
  clear hV2
  obtain ⟨c_a0,c_a1,c_a2,c_a3,c_a4,c_a5,c_a6,z_a⟩:=cells7 HX_a.out
  obtain ⟨f_a0,f_a1,f_a2,f_a3,f_a4,f_a5,f_a6⟩:=frees7 HX_a.out
  obtain ⟨W9,hW9,hxn,hfar,hbn⟩:=pst7 HX_a.out (.slice none 0 0) (.slice none 0 0) (.slice none 0 0) (.slice none 0 0) (.slice none 0 0) (.slice none 0 0) (.slice none 0 0)
  have HV9:=Lh (hbn v0.heap.size v0 (HV.out.trans (HB.out.mono HV.out.size)) (Nat.le_refl _))
  replace HX_a:=Lh hxn
  clear hxn hfar hbn
  go_wp2_with fail
  rw[←hW9]
  clear hW9
  clear c_a0 c_a1 c_a2 c_a3 c_a4 c_a5 c_a6 z_a f_a0 f_a1 f_a2 f_a3 f_a4 f_a5 f_a6
  obtain ⟨c_a0,c_a1,c_a2,c_a3,c_a4,c_a5,c_a6,z_a⟩:=cells7 HX_a.out
  exact bodyPost_ret (v:=.tuple #[.agg #[.slice none 0 0,.slice none 0 0,.slice none 0 0,.slice none 0 0,.slice none 0 0,.slice none 0 0,.slice none 0 0],.int .i64 0,.int .i64 2]) (by simp [results,Tryz.results13,go_sem,c_a0,c_a1,c_a2,c_a3,c_a4,c_a5,c_a6]) rfl (.bad (Hsrc.out ▸ HOut.out) HV9.out)
 rw[if_neg hlong] at hpost
 have HLong:=Lh hlong
 clear hlong
 cases hl:Lx.lex src with
 | err p=>
  rw[hl] at hpost
  simp only at hpost
  subst hpost
  unfold pv
  have HOut:=Lh (Sx.parse_err HLong.out hl)
  clear hl
  obtain ⟨V2,hV2⟩:∃ V,V=w.alloc (.cells #[.slice none 0 0,.int .i64 0,.int .i64 0,.int .i64 0,.int .i64 0] 64):=⟨_,rfl⟩
  obtain ⟨HX_p,hb⟩:=bnw hV2
  have hgz:=hb.size
  replace HB:=bmb HB hb
  replace HX_a:=bmv HX_a hb
  clear hb
  go_upto_region 3 with fail
  rw[←hV2]
  clear hV2
  obtain ⟨c_a0,c_a1,c_a2,c_a3,c_a4,c_a5,c_a6,z_a⟩:=cells7 HX_a.out
  obtain ⟨f_a0,f_a1,f_a2,f_a3,f_a4,f_a5,f_a6⟩:=frees7 HX_a.out
  obtain ⟨W9,hW9,hxn,hfar,hbn⟩:=pst7 HX_a.out (.slice none 0 0) (.slice none 0 0) (.slice none 0 0) (.slice none 0 0) (.slice none 0 0) (.slice none 0 0) (.slice none 0 0)
  have HV9:=Lh (hbn v0.heap.size v0 (HV.out.trans (HB.out.mono HV.out.size)) (Nat.le_refl _))
  replace HX_a:=Lh hxn
  clear hxn hfar hbn
  go_wp2_with fail
  rw[←hW9]
  clear hW9
  clear c_a0 c_a1 c_a2 c_a3 c_a4 c_a5 c_a6 z_a f_a0 f_a1 f_a2 f_a3 f_a4 f_a5 f_a6
  obtain ⟨c_a0,c_a1,c_a2,c_a3,c_a4,c_a5,c_a6,z_a⟩:=cells7 HX_a.out
  exact bodyPost_ret (v:=.tuple #[.agg #[.slice none 0 0,.slice none 0 0,.slice none 0 0,.slice none 0 0,.slice none 0 0,.slice none 0 0,.slice none 0 0],.int .i64 p,.int .i64 90]) (by simp [results,Tryz.results13,go_sem,c_a0,c_a1,c_a2,c_a3,c_a4,c_a5,c_a6]) rfl (.bad (Hsrc.out ▸ HOut.out) HV9.out)
 | ok T=>
  rw[hl] at hpost
  obtain ⟨A,c,rfl,hctx⟩:=hpost
  have HOut:=Lh (Sx.parse_lex HLong.out hl)
  obtain ⟨last,hlast⟩:∃ last:Int,last=src.length:=⟨_,rfl⟩
  rw[←hlast] at HOut ⊢
  obtain ⟨n,hn⟩:∃ n,n=T.length:=⟨_,rfl⟩
  rw[←hn]
  have Hn:=Lh hn;have HC:=Lh hctx
  have hnf:n≤1000000:=by rw [hn];exact hctx.few
  unfold pv
  clear hl hlast hn hctx HLong
  obtain ⟨V2,hV2⟩:∃ V,V=w.alloc (.cells #[.slice A n c,.int .i64 0,.int .i64 last,.int .i64 0,.int .i64 0] 64):=⟨_,rfl⟩
  obtain ⟨HX_p,hb⟩:=bnw hV2
  have hgz:=hb.size
  replace HB:=bmb HB hb
  replace HX_a:=bmv HX_a hb
  clear hb
  have hV2z:V2.heap.size=w.heap.size+1:=by rw [hV2];simp
  go_upto_region 4 with fail
  rw[←hV2]
  clear hV2
  obtain ⟨V4,hV4⟩:∃ V,V=V2.alloc (.cells #[.slice none 0 0,.slice none 0 0,.slice none 0 0,.slice none 0 0,.slice none 0 0,.slice none 0 0,.slice none 0 0] 30):=⟨_,rfl⟩
  obtain ⟨HX_c,hb⟩:=bnw hV4
  have hgz:=hb.size
  replace HB:=bmb HB hb
  replace HX_a:=bmv HX_a hb
  replace HX_p:=bmv HX_p hb
  clear hb
  replace HX_c:=bat (b:=w.heap.size+1) HX_c (hV2z)
  have hV4z:w.heap.size+2≤V4.heap.size:=by have:=HX_c.out.lt;omega
  have hJ0:=CatJ.start (w0:=V4) (FrH.refl w.heap.size (w.heap.size+1) V4) (by omega) (by omega) HX_c.out
  have HJ:=Lh hJ0
  have HR:Hid (Sx.go (.ok () T) (Sx.catalogue last)=Sx.go (.ok () T) (Sx.defs last n Sx.Cat.none)):=Lh (by rw [Hn.out];rfl)
  have HP:Hid (PAt T (.ok () T) 0 0 0):=Lh ⟨rfl,rfl,0,rfl,Nat.zero_le _,rfl⟩
  have HS:Hid (∀ l,(Sx.R.ok () T:Sx.R Unit) = .ok () l→l.length≤n):=Lh (fun l hl=>by injection hl with _ e;exact Nat.le_of_eq (by rw [Hn.out,e]))
  have HF:Hid (Sx.Cat.none.size+n≤1000000):=Lh (by simp [Sx.Cat.size,Sx.Cat.none];exact hnf)
  have HV2z:=Lh hV2z
  clear hJ0 hV2z
  go_wp2_with fail
  rw[←hV4,HV2z.out]
  clear hV4 HV2z
  go_loopg [9,10,11,12,13,14,15,16,17,18,19,20,21,22,48,63,78,93,108,123,138] n (fun gk q9_ q10_ q11_ q12_ q13_ q14_ q15_ q16_ q17_ q18_ q19_ q20_ q21_ q22_ q48_ q63_ q78_ q93_ q108_ q123_ q138_ wr=>∃ (cc:Sx.Cat) (vs:List Value) (css:List (List (List Value))) (st:Sx.R Unit) (kx ex px:Int),Hid (Sx.go (.ok () T) (Sx.catalogue last)=Sx.go st (Sx.defs last gk cc))∧Hid (PAt T st kx ex px)∧Hid (∀ l,st = .ok () l→l.length≤gk)∧Hid (cc.size+gk≤1000000)∧Hid (CatJ w.heap.size (w.heap.size+1) V4 (itemsOf cc) vs css wr)∧Hid (Blk wr v0.heap.size 30 #[.slice none 0 0,.slice none 0 0,.slice none 0 0,.slice none 0 0,.slice none 0 0,.slice none 0 0,.slice none 0 0])∧Hid (Blk wr w.heap.size 64 #[.slice A n c,.int .i64 kx,.int .i64 last,.int .i64 ex,.int .i64 px])∧Hid (Below w.heap.size w wr))
  case atStart=>exact ⟨Sx.Cat.none,_,_,.ok () T,0,0,0,HR,HP,HS,HF,HJ,HX_a,HX_p,HB⟩
  case round=>
   clear HR HP HS HF HJ HX_a HX_p HX_c HB
   obtain ⟨cc,vs,css,st,kx,ex,px,HR,HP,HS,HF,HJ,HX_a,HX_p,HB⟩:=hrel
   obtain ⟨y0,y1,y2,y3,y4,y5,y6,rfl⟩:=list7 HJ.out.lenv
   obtain ⟨r0,r1,r2,r3,r4,r5,r6,rfl⟩:=list7 HJ.out.lenc
   have hz4:=HJ.out.fr.bel.size
   rcases HP.out.cases with ⟨hst,hy⟩ | ⟨hst,rfl,rfl,hkn⟩ | ⟨j,tk,hst,rfl,rfl,rfl,hj,ht⟩
   ·have hx1:(ex == 0)=false:=by simpa using hy
    have hx2:(ex != 0)=true:=by simpa using hy
    have HBad:=Lh (Sx.parse_bad HOut.out HR.out hst)
    clear hst hy
    obtain ⟨c_p0,c_p1,c_p2,c_p3,c_p4,z_p⟩:=cells5 HX_p.out
    go_upto_region 36 with fail
    clear c_p0 c_p1 c_p2 c_p3 c_p4 z_p
    obtain ⟨c_p0,c_p1,c_p2,c_p3,c_p4,z_p⟩:=cells5 HX_p.out
    obtain ⟨c_a0,c_a1,c_a2,c_a3,c_a4,c_a5,c_a6,z_a⟩:=cells7 HX_a.out
    obtain ⟨f_a0,f_a1,f_a2,f_a3,f_a4,f_a5,f_a6⟩:=frees7 HX_a.out
    obtain ⟨W9,hW9,hxn,hfar,hbn⟩:=pst7 HX_a.out (.slice none 0 0) (.slice none 0 0) (.slice none 0 0) (.slice none 0 0) (.slice none 0 0) (.slice none 0 0) (.slice none 0 0)
    have HV9:=Lh (hbn v0.heap.size v0 (HV.out.trans (HB.out.mono HV.out.size)) (Nat.le_refl _))
    replace HX_a:=Lh hxn
    clear hxn hfar hbn
    go_region
    rw[←hW9]
    clear hW9
    clear c_p0 c_p1 c_p2 c_p3 c_p4 z_p c_a0 c_a1 c_a2 c_a3 c_a4 c_a5 c_a6 z_a f_a0 f_a1 f_a2 f_a3 f_a4 f_a5 f_a6
    obtain ⟨c_a0,c_a1,c_a2,c_a3,c_a4,c_a5,c_a6,z_a⟩:=cells7 HX_a.out
    go_wp2_with fail
    exact bodyPost_ret (v:=.tuple #[.agg #[.slice none 0 0,.slice none 0 0,.slice none 0 0,.slice none 0 0,.slice none 0 0,.slice none 0 0,.slice none 0 0],.int .i64 px,.int .i64 ex]) (by simp [results,Tryz.results13,go_sem,c_a0,c_a1,c_a2,c_a3,c_a4,c_a5,c_a6]) rfl (.bad (Hsrc.out ▸ HBad.out) HV9.out.drew)
   ·have HOk:=Lh (Sx.parse_ok HOut.out HR.out hst)
    rw[←Hn.out] at hkn
    subst hkn
    have hz:¬ (n:Int) < n:=by omega
    have hcat:=HJ.out.out (Sx.items_few (n:=140737488351232) (by have:=HF.out;omega))
    have HX_c:=Lh (show Blk wr (w.heap.size+1) 30 #[y0,y1,y2,y3,y4,y5,y6] from HJ.out.blk)
    have HCat:=Lh hcat
    obtain ⟨yA0,yn0,yc0,yA1,yn1,yc1,yA2,yn2,yc2,yA3,yn3,yc3,yA4,yn4,yc4,yA5,yn5,yc5,yA6,yn6,yc6,hys⟩:=cat_7 hcat
    simp only[List.cons.injEq,and_true] at hys
    obtain ⟨rfl,rfl,rfl,rfl,rfl,rfl,rfl⟩:=hys
    clear hst hcat
    obtain ⟨c_p0,c_p1,c_p2,c_p3,c_p4,z_p⟩:=cells5 HX_p.out
    go_upto_region 37 with fail
    clear c_p0 c_p1 c_p2 c_p3 c_p4 z_p
    obtain ⟨c_a0,c_a1,c_a2,c_a3,c_a4,c_a5,c_a6,z_a⟩:=cells7 HX_a.out
    obtain ⟨f_a0,f_a1,f_a2,f_a3,f_a4,f_a5,f_a6⟩:=frees7 HX_a.out
    obtain ⟨c_c0,c_c1,c_c2,c_c3,c_c4,c_c5,c_c6,z_c⟩:=cells7 HX_c.out
    obtain ⟨W9,hW9,hxn,hfar,hbn⟩:=pst7 HX_a.out (.slice yA0 yn0 yc0) (.slice yA1 yn1 yc1) (.slice yA2 yn2 yc2) (.slice yA3 yn3 yc3) (.slice yA4 yn4 yc4) (.slice yA5 yn5 yc5) (.slice yA6 yn6 yc6)
    have HV9:=Lh (hbn v0.heap.size v0 (HV.out.trans (HB.out.mono HV.out.size)) (Nat.le_refl _))
    have hfin:CatAt W9 (Old W9) cc [.slice yA0 yn0 yc0,.slice yA1 yn1 yc1,.slice yA2 yn2 yc2,.slice yA3 yn3 yc3,.slice yA4 yn4 yc4,.slice yA5 yn5 yc5,.slice yA6 yn6 yc6]:=CatAt.keep (fun b hb=>⟨by show b < W9.heap.size;rw[hfar.2];exact hb.2,fun j=>World.cell?_of_block (a:=⟨b,j,none⟩) (hfar.1 b (by have:=hb.1;omega))⟩) HCat.out
    have HFin:=Lh hfin
    replace HX_a:=Lh hxn
    clear hxn hfar hbn hfin
    go_wp2_with fail
    rw[←hW9]
    clear hW9
    clear c_a0 c_a1 c_a2 c_a3 c_a4 c_a5 c_a6 z_a f_a0 f_a1 f_a2 f_a3 f_a4 f_a5 f_a6 c_c0 c_c1 c_c2 c_c3 c_c4 c_c5 c_c6 z_c
    obtain ⟨c_a0,c_a1,c_a2,c_a3,c_a4,c_a5,c_a6,z_a⟩:=cells7 HX_a.out
    exact bodyPost_ret (v:=.tuple #[.agg #[.slice yA0 yn0 yc0,.slice yA1 yn1 yc1,.slice yA2 yn2 yc2,.slice yA3 yn3 yc3,.slice yA4 yn4 yc4,.slice yA5 yn5 yc5,.slice yA6 yn6 yc6],.int .i64 0,.int .i64 0]) (by simp [results,Tryz.results13,go_sem,c_a0,c_a1,c_a2,c_a3,c_a4,c_a5,c_a6]) rfl (.ok (Hsrc.out ▸ HOk.out) HV9.out HFin.out)
   ·have hlt:j < n:=by have:=Hn.out;omega
    have Hst:=Lh hst
    obtain ⟨g',hg'⟩:∃ g',gk=g'+1:=⟨gk - 1,by have:=HS.out _ hst;simp at this;omega⟩
    obtain rfl:=hg'
    have hltI:(j:Int) < n:=by omega
    clear hst ht hj
    obtain ⟨c_p0,c_p1,c_p2,c_p3,c_p4,z_p⟩:=cells5 HX_p.out
    go_upto_region 7 with fail
    clear c_p0 c_p1 c_p2 c_p3 c_p4 z_p
    clear hlt hltI
    have HI:=Lh (fun w' h=>pW T A c last ⟨#[99,111,117,114,115,101]⟩ st (j) (0) (0) w' h HP.out)
    rw[show (⟨#[99,111,117,114,115,101]⟩:ByteArray).data.toList=Sx.wCourse from rfl] at HI
    unfold pv at HI
    rw[←Hn.out] at HI
    cases hh0:st.hits 1 Sx.wCourse with
    | true=>
     rw[hh0] at HI
     have Hh0:=Lh hh0
     clear hh0
     obtain ⟨c_p0,c_p1,c_p2,c_p3,c_p4,z_p⟩:=cells5 HX_p.out
     go_wp2_with fail
     refine (HI.out _ (HC.out.next HB.out)).mono ?_
     rintro e' u0 ⟨rfl,hb⟩
     clear HI
     clear c_p0 c_p1 c_p2 c_p3 c_p4 z_p
     replace HJ:=cjm HJ hb
     have hgz:=hb.size
     replace HB:=bmb HB hb
     replace HX_a:=bmv HX_a hb
     replace HX_p:=bmv HX_p hb
     clear hb
     have HR2:=Lh (HR.out.trans (Sx.defs_word Sx.wCourse (fun last l=>Sx.course last l) _ Sx.def_course Hh0.out))
     have HS2:=Lh (Sx.defs_left (x:=Sx.wCourse) (F:=fun last l=>Sx.course last l) (last:=last) Sx.cuts_course HS.out)
     have HT:=Lh (fun w' h=>pCourse T A c last st j 0 0 w' h HP.out)
     unfold PRead pv at HT
     rw[←Hn.out] at HT
     clear HR HS
     obtain ⟨c_p0,c_p1,c_p2,c_p3,c_p4,z_p⟩:=cells5 HX_p.out
     go_wp2_with fail
     refine (HT.out _ (HC.out.next HB.out)).mono ?_
     rintro e' w4 ⟨q,vs,k4,x4,p4,rfl,hv,⟨cq,hvs,hq⟩,ha,hb⟩
     have HRq:=Lh hq
     obtain ⟨s0,i1,i2,i3,i4,i5,s6,i7,i8,A9,n9,c9,i10,i11,s12,i13,i14,A15,n15,c15,rfl⟩:=form_course hq
     subst hvs
     simp only[List.cons_append,List.nil_append]
     obtain ⟨s4,hs4⟩:∃ s4,s4=(Sx.go st (fun l=>(Sx.word last Sx.wCourse l).bind fun _ l=>Sx.course last l)).void:=⟨_,rfl⟩
     rw[←hs4] at ha HS2
     have HP4:=Lh ha
     have HR5:=Lh (HR2.out.trans (show Sx.go st _=Sx.go s4 _ by rw [hv.step,←hs4]))
     have hgw:=hb.size
     clear hv ha HT hq hs4 HR2
     obtain ⟨lo,hlo⟩:∃ lo,lo=u0.heap.size:=⟨_,rfl⟩
     have hrows:=fun u hu z hz=>(HJ.out.ownGe (u:=u) hu (z:=z) hz).2
     rw[←hlo] at hrows HRq hgw
     have HRows:=Lh hrows
     have hlo1:w.heap.size+2≤lo:=by have:=HJ.out.fr.bel.size;omega
     clear hlo hrows
     clear c_p0 c_p1 c_p2 c_p3 c_p4 z_p
     replace HJ:=cjm HJ hb
     have hgz:=hb.size
     replace HB:=bmb HB hb
     replace HX_a:=bmv HX_a hb
     replace HX_p:=bmv HX_p hb
     clear hb
     obtain ⟨V5,hV5⟩:∃ V,V=w4.alloc (.cells #[.string s0,.int .i64 i1,.int .i64 i2,.int .i64 i3,.int .i64 i4,.int .i64 i5,.string s6,.int .i64 i7,.int .i64 i8,.slice A9 n9 c9,.int .i64 i10,.int .i64 i11,.string s12,.int .i64 i13,.int .i64 i14,.slice A15 n15 c15] 58):=⟨_,rfl⟩
     obtain ⟨HX_t,hb⟩:=bnw hV5
     have hgz:=hb.size
     replace HB:=bmb HB hb
     replace HX_a:=bmv HX_a hb
     replace HX_p:=bmv HX_p hb
     clear hb
     obtain ⟨V6,hV6⟩:∃ V,V=V5.alloc (.cells #[.slice A n c,.int .i64 k4,.int .i64 last,.int .i64 x4,.int .i64 p4] 64):=⟨_,rfl⟩
     obtain ⟨HX_u,hb⟩:=bnw hV6
     have hgz:=hb.size
     replace HB:=bmb HB hb
     replace HX_a:=bmv HX_a hb
     replace HX_p:=bmv HX_p hb
     replace HX_t:=bmv HX_t hb
     clear hb
     rw[hV5] at hV6
     have hsz5:V5.heap.size=w4.heap.size+1:=by rw [hV5];simp
     have hsz6:V6.heap.size=w4.heap.size+2:=by rw [hV6];simp
     replace HX_u:=bat (b:=w4.heap.size+1) HX_u hsz5
     have hb46:Below w4.heap.size w4 V6:=by rw [hV6];exact ((Below.refl _ _).alloc (Nat.le_refl _) _).alloc (by simp) _
     have HJ4:=HJ
     have hz44:=HJ4.out.fr.bel.size
     replace HJ:=cjm HJ hb46
     go_upto_region 9 with fail
     rw[←hV6]
     clear hV5 hV6
     have HX_c:=Lh (show Blk V6 (w.heap.size+1) 30 #[y0,y1,y2,y3,y4,y5,y6] from HJ.out.blk)
     obtain ⟨c_t0,c_t1,c_t2,c_t3,c_t4,c_t5,c_t6,c_t7,c_t8,c_t9,c_t10,c_t11,c_t12,c_t13,c_t14,c_t15,z_t⟩:=cells16 HX_t.out
     obtain ⟨c_c0,c_c1,c_c2,c_c3,c_c4,c_c5,c_c6,z_c⟩:=cells7 HX_c.out
     obtain ⟨V7,hV7⟩:∃ V,V=V6.alloc (.cells #[.string s0,.int .i64 i1,.int .i64 i2,.int .i64 i3,.int .i64 i4,.int .i64 i5,.string s6,.int .i64 i7,.int .i64 i8,.slice A9 n9 c9,.int .i64 i10,.int .i64 i11,.string s12,.int .i64 i13,.int .i64 i14,.slice A15 n15 c15] 58):=⟨_,rfl⟩
     obtain ⟨HX_kb,hb⟩:=bnw hV7
     have hgz:=hb.size
     replace HB:=bmb HB hb
     replace HX_a:=bmv HX_a hb
     replace HX_p:=bmv HX_p hb
     replace HX_t:=bmv HX_t hb
     replace HX_u:=bmv HX_u hb
     replace HX_c:=bmv HX_c hb
     clear hb
     replace HX_kb:=bat (b:=w4.heap.size+2) HX_kb hsz6
     have hsz7:V7.heap.size=w4.heap.size+3:=by rw [hV7];simp[hsz6]
     have hb47:Below w4.heap.size w4 V7:=hb46.trans (by rw [hV7];exact ((Below.refl _ _).alloc (Nat.le_refl _) _).mono (by omega))
     have Hb47:=Lh hb47
     have hbV:Below V6.heap.size V6 V7:=by rw [hV7];exact (Below.refl _ _).alloc (Nat.le_refl _) _
     have hJ7:=(cjm HJ hbV).out
     have hown0:V7.ownsRow V4.heap.size 58 16 y0 r0.length r0.flatten:=hJ7.own 0 y0 r0 rfl rfl
     have HOwn:=Lh hown0
     have hfw:r0.length≤1000000:=HJ4.out.few (n:=1000000) (by have:=HF.out;omega) (i:=0) rfl
     have HO0:=Lh (fun z hz=>own_lt (b:=z) (HJ4.out.own 0 y0 r0 rfl rfl) hz);have HO1:=Lh (fun z hz=>own_ge (b:=z) hown0 hz)
     obtain ⟨ir,hir,rz0,rz1,rz2⟩:=info_parts Tryz.infoCourseD
     clear hJ7 hown0 hb46 hb47 hbV HJ
     go_upto_region 10 with (at_builtin;rw[←hV7];refine wpList_append_lies _ rfl (.tmp 57) (.tmp 59) 23 rfl V4.heap.size 58 ir _ 16 184 Tryz.underlying23 hir rz0 rz1 rz2 rfl (by decide) y0 r0.length _ rfl HOwn.out ⟨w4.heap.size+2,0,none⟩ 1 1 [.string s0,.int .i64 i1,.int .i64 i2,.int .i64 i3,.int .i64 i4,.int .i64 i5,.string s6,.int .i64 i7,.int .i64 i8,.slice A9 n9 c9,.int .i64 i10,.int .i64 i11,.string s12,.int .i64 i13,.int .i64 i14,.slice A15 n15 c15] rfl rfl (World.news_of_block (cs:=#[.string s0,.int .i64 i1,.int .i64 i2,.int .i64 i3,.int .i64 i4,.int .i64 i5,.string s6,.int .i64 i7,.int .i64 i8,.slice A9 n9 c9,.int .i64 i10,.int .i64 i11,.string s12,.int .i64 i13,.int .i64 i14,.slice A15 n15 c15]) (t:=58) (fr:=(0,0)) HX_kb.out) (by simp [Value.oneCell']) (by omega) (by unfold maxLen;omega) (by omega) (by omega) (w4.heap.size+3) hsz7 ?_;intro gg cap w10 hown hgrow hat hlt;have hgn:=HJ4.out.grow (i:=0) (lo:=lo) (gg:=gg) (cap:=cap) (v:=y0) (rs:=r0) (x:=.course q) (cs:=[.string s0,.int .i64 i1,.int .i64 i2,.int .i64 i3,.int .i64 i4,.int .i64 i5,.string s6,.int .i64 i7,.int .i64 i8,.slice A9 n9 c9,.int .i64 i10,.int .i64 i11,.string s12,.int .i64 i13,.int .i64 i14,.slice A15 n15 c15]) rfl rfl rfl HRq.out rfl (by omega) HRows.out Hb47.out hgrow (by rcases hat with e | e;exact .inl e;right;omega) hown;have HGn:=Lh hgn.2;have hcc:=hgn.1.1;have hcf:=hgn.1.2;have HBn:=Lh (Below.grown HB.out hgrow (by omega) (fun z hz=>by have:=HO1.out z hz;omega));have HXn_a:=Lh (HX_a.out.grown hgrow (fun e=>by have h1:=HO0.out _ e;have h2:=HO1.out _ e;omega));have HXn_p:=Lh (HX_p.out.grown hgrow (fun e=>by have h1:=HO0.out _ e;have h2:=HO1.out _ e;omega));have HXn_u:=Lh (HX_u.out.grown hgrow (fun e=>by have h1:=HO0.out _ e;have h2:=HO1.out _ e;omega));have hg10:=hgrow.size;clear hown hgrow hat hgn)
     clear HB HX_a HX_p HX_t HX_u HX_c HX_kb
     have HB:=HBn
     have HX_a:=HXn_a
     have HX_p:=HXn_p
     have HX_u:=HXn_u
     clear HBn HXn_a HXn_p HXn_u HO0 HO1 HOwn hir rz0 rz1 rz2 HRows
     clear c_t0 c_t1 c_t2 c_t3 c_t4 c_t5 c_t6 c_t7 c_t8 c_t9 c_t10 c_t11 c_t12 c_t13 c_t14 c_t15 z_t c_c0 c_c1 c_c2 c_c3 c_c4 c_c5 c_c6 z_c hcc hcf hV7
     obtain ⟨W11,hW11⟩:∃ V,V=w10.setCell ⟨w.heap.size+1,0,none⟩ (.slice (some ⟨gg,0,none⟩) (r0.length+1) cap):=⟨_,rfl⟩
     have hs11:=bss hW11
     replace HB:=bsb hW11 HB (by omega)
     replace HX_a:=bst hW11 HX_a (by omega)
     replace HX_p:=bst hW11 HX_p (by omega)
     replace HX_u:=bst hW11 HX_u (by omega)
     rw[←hW11] at HGn ⊢
     clear hW11
     obtain ⟨c_u0,c_u1,c_u2,c_u3,c_u4,z_u⟩:=cells5 HX_u.out
     obtain ⟨c_p0,c_p1,c_p2,c_p3,c_p4,z_p⟩:=cells5 HX_p.out
     obtain ⟨f_p0,f_p1,f_p2,f_p3,f_p4⟩:=frees5 HX_p.out
     obtain ⟨W12,hW12,hxn,hfar,hbn⟩:=pstoreB HX_p.out (.slice A n c) (.int .i64 k4) (.int .i64 last) (.int .i64 x4) (.int .i64 p4)
     have HJn:=cjf hfar.1 (hbn w.heap.size W11 (Below.refl _ _) (Nat.le_refl _)) HGn
     replace HX_a:=bfr hfar.1 HX_a (by omega)
     replace HB:=Lh (hbn w.heap.size w HB.out (Nat.le_refl _))
     replace HX_p:=Lh hxn
     clear hxn hfar hbn
     go_wp2_with fail
     rw[←hW12]
     clear hW12
     go_roundg g'
     all_goals first
      | omega
      | exact ⟨_,_,_,s4,k4,x4,p4,HR5,HP4,HS2,Lh (by have:=HF.out;simp[Sx.Cat.size] at this ⊢;omega),Lh (by have:=HJn.out;simpa [itemsOf] using this),HX_a,HX_p,HB⟩
    | false=>
     rw[hh0] at HI
     have Hh0:=Lh hh0
     clear hh0
     obtain ⟨c_p0,c_p1,c_p2,c_p3,c_p4,z_p⟩:=cells5 HX_p.out
     go_wp2_with fail
     refine (HI.out _ (HC.out.next HB.out)).mono ?_
     rintro e' u0 ⟨rfl,hb⟩
     clear HI
     clear c_p0 c_p1 c_p2 c_p3 c_p4 z_p
     replace HJ:=cjm HJ hb
     have hgz:=hb.size
     replace HB:=bmb HB hb
     replace HX_a:=bmv HX_a hb
     replace HX_p:=bmv HX_p hb
     clear hb
     have HI:=Lh (fun w' h=>pW T A c last ⟨#[115,97,109,101]⟩ st (j) (0) (0) w' h HP.out)
     rw[show (⟨#[115,97,109,101]⟩:ByteArray).data.toList=Sx.wSame from rfl] at HI
     unfold pv at HI
     rw[←Hn.out] at HI
     cases hh1:st.hits 1 Sx.wSame with
     | true=>
      rw[hh1] at HI
      have Hh1:=Lh hh1
      clear hh1
      obtain ⟨c_p0,c_p1,c_p2,c_p3,c_p4,z_p⟩:=cells5 HX_p.out
      go_wp2_with fail
      refine (HI.out _ (HC.out.next HB.out)).mono ?_
      rintro e' u1 ⟨rfl,hb⟩
      clear HI
      clear c_p0 c_p1 c_p2 c_p3 c_p4 z_p
      replace HJ:=cjm HJ hb
      have hgz:=hb.size
      replace HB:=bmb HB hb
      replace HX_a:=bmv HX_a hb
      replace HX_p:=bmv HX_p hb
      clear hb
      have HR2:=Lh (HR.out.trans (Sx.defs_word Sx.wSame (fun last l=>Sx.same last l) _ Sx.def_same Hh1.out))
      have HS2:=Lh (Sx.defs_left (x:=Sx.wSame) (F:=fun last l=>Sx.same last l) (last:=last) Sx.cuts_same HS.out)
      have HT:=Lh (fun w' h=>pSame T A c last st j 0 0 w' h HP.out)
      unfold PRead pv at HT
      rw[←Hn.out] at HT
      clear HR HS
      obtain ⟨c_p0,c_p1,c_p2,c_p3,c_p4,z_p⟩:=cells5 HX_p.out
      go_wp2_with fail
      refine (HT.out _ (HC.out.next HB.out)).mono ?_
      rintro e' w4 ⟨q,vs,k4,x4,p4,rfl,hv,⟨cq,hvs,hq⟩,ha,hb⟩
      have HRq:=Lh hq
      obtain ⟨s0,s1,i2,i3,rfl⟩:=form_pair hq
      subst hvs
      simp only[List.cons_append,List.nil_append]
      obtain ⟨s4,hs4⟩:∃ s4,s4=(Sx.go st (fun l=>(Sx.word last Sx.wSame l).bind fun _ l=>Sx.same last l)).void:=⟨_,rfl⟩
      rw[←hs4] at ha HS2
      have HP4:=Lh ha
      have HR5:=Lh (HR2.out.trans (show Sx.go st _=Sx.go s4 _ by rw [hv.step,←hs4]))
      have hgw:=hb.size
      clear hv ha HT hq hs4 HR2
      obtain ⟨lo,hlo⟩:∃ lo,lo=u1.heap.size:=⟨_,rfl⟩
      have hrows:=fun u hu z hz=>(HJ.out.ownGe (u:=u) hu (z:=z) hz).2
      rw[←hlo] at hrows hgw
      have HRows:=Lh hrows
      have hlo1:w.heap.size+2≤lo:=by have:=HJ.out.fr.bel.size;omega
      clear hlo hrows
      clear c_p0 c_p1 c_p2 c_p3 c_p4 z_p
      replace HJ:=cjm HJ hb
      have hgz:=hb.size
      replace HB:=bmb HB hb
      replace HX_a:=bmv HX_a hb
      replace HX_p:=bmv HX_p hb
      clear hb
      obtain ⟨V5,hV5⟩:∃ V,V=w4.alloc (.cells #[.string s0,.string s1,.int .i64 i2,.int .i64 i3] 71):=⟨_,rfl⟩
      obtain ⟨HX_t,hb⟩:=bnw hV5
      have hgz:=hb.size
      replace HB:=bmb HB hb
      replace HX_a:=bmv HX_a hb
      replace HX_p:=bmv HX_p hb
      clear hb
      obtain ⟨V6,hV6⟩:∃ V,V=V5.alloc (.cells #[.slice A n c,.int .i64 k4,.int .i64 last,.int .i64 x4,.int .i64 p4] 64):=⟨_,rfl⟩
      obtain ⟨HX_u,hb⟩:=bnw hV6
      have hgz:=hb.size
      replace HB:=bmb HB hb
      replace HX_a:=bmv HX_a hb
      replace HX_p:=bmv HX_p hb
      replace HX_t:=bmv HX_t hb
      clear hb
      rw[hV5] at hV6
      have hsz5:V5.heap.size=w4.heap.size+1:=by rw [hV5];simp
      have hsz6:V6.heap.size=w4.heap.size+2:=by rw [hV6];simp
      replace HX_u:=bat (b:=w4.heap.size+1) HX_u hsz5
      have hb46:Below w4.heap.size w4 V6:=by rw [hV6];exact ((Below.refl _ _).alloc (Nat.le_refl _) _).alloc (by simp) _
      have HJ4:=HJ
      have hz44:=HJ4.out.fr.bel.size
      replace HJ:=cjm HJ hb46
      go_upto_region 13 with fail
      rw[←hV6]
      clear hV5 hV6
      have HX_c:=Lh (show Blk V6 (w.heap.size+1) 30 #[y0,y1,y2,y3,y4,y5,y6] from HJ.out.blk)
      obtain ⟨c_t0,c_t1,c_t2,c_t3,z_t⟩:=cells4 HX_t.out
      obtain ⟨c_c0,c_c1,c_c2,c_c3,c_c4,c_c5,c_c6,z_c⟩:=cells7 HX_c.out
      obtain ⟨V7,hV7⟩:∃ V,V=V6.alloc (.cells #[.string s0,.string s1,.int .i64 i2,.int .i64 i3] 71):=⟨_,rfl⟩
      obtain ⟨HX_kb,hb⟩:=bnw hV7
      have hgz:=hb.size
      replace HB:=bmb HB hb
      replace HX_a:=bmv HX_a hb
      replace HX_p:=bmv HX_p hb
      replace HX_t:=bmv HX_t hb
      replace HX_u:=bmv HX_u hb
      replace HX_c:=bmv HX_c hb
      clear hb
      replace HX_kb:=bat (b:=w4.heap.size+2) HX_kb hsz6
      have hsz7:V7.heap.size=w4.heap.size+3:=by rw [hV7];simp[hsz6]
      have hb47:Below w4.heap.size w4 V7:=hb46.trans (by rw [hV7];exact ((Below.refl _ _).alloc (Nat.le_refl _) _).mono (by omega))
      have Hb47:=Lh hb47
      have hbV:Below V6.heap.size V6 V7:=by rw [hV7];exact (Below.refl _ _).alloc (Nat.le_refl _) _
      have hJ7:=(cjm HJ hbV).out
      have hown0:V7.ownsRow V4.heap.size 71 4 y1 r1.length r1.flatten:=hJ7.own 1 y1 r1 rfl rfl
      have HOwn:=Lh hown0
      have hfw:r1.length≤1000000:=HJ4.out.few (n:=1000000) (by have:=HF.out;omega) (i:=1) rfl
      have HO0:=Lh (fun z hz=>own_lt (b:=z) (HJ4.out.own 1 y1 r1 rfl rfl) hz);have HO1:=Lh (fun z hz=>own_ge (b:=z) hown0 hz)
      obtain ⟨ir,hir,rz0,rz1,rz2⟩:=info_parts Tryz.infoPair
      clear hJ7 hown0 hb46 hb47 hbV HJ
      go_upto_region 14 with (at_builtin;rw[←hV7];refine wpList_append_lies _ rfl (.tmp 72) (.tmp 74) 24 rfl V4.heap.size 71 ir _ 4 48 Tryz.underlying24 hir rz0 rz1 rz2 rfl (by decide) y1 r1.length _ rfl HOwn.out ⟨w4.heap.size+2,0,none⟩ 1 1 [.string s0,.string s1,.int .i64 i2,.int .i64 i3] rfl rfl (World.news_of_block (cs:=#[.string s0,.string s1,.int .i64 i2,.int .i64 i3]) (t:=71) (fr:=(0,0)) HX_kb.out) (by simp [Value.oneCell']) (by omega) (by unfold maxLen;omega) (by omega) (by omega) (w4.heap.size+3) hsz7 ?_;intro gg cap w10 hown hgrow hat hlt;have hgn:=HJ4.out.grow (i:=1) (lo:=lo) (gg:=gg) (cap:=cap) (v:=y1) (rs:=r1) (x:=.pair q) (cs:=[.string s0,.string s1,.int .i64 i2,.int .i64 i3]) rfl rfl rfl HRq.out rfl (by omega) HRows.out Hb47.out hgrow (by rcases hat with e | e;exact .inl e;right;omega) hown;have HGn:=Lh hgn.2;have hcc:=hgn.1.1;have hcf:=hgn.1.2;have HBn:=Lh (Below.grown HB.out hgrow (by omega) (fun z hz=>by have:=HO1.out z hz;omega));have HXn_a:=Lh (HX_a.out.grown hgrow (fun e=>by have h1:=HO0.out _ e;have h2:=HO1.out _ e;omega));have HXn_p:=Lh (HX_p.out.grown hgrow (fun e=>by have h1:=HO0.out _ e;have h2:=HO1.out _ e;omega));have HXn_u:=Lh (HX_u.out.grown hgrow (fun e=>by have h1:=HO0.out _ e;have h2:=HO1.out _ e;omega));have hg10:=hgrow.size;clear hown hgrow hat hgn)
      clear HB HX_a HX_p HX_t HX_u HX_c HX_kb
      have HB:=HBn
      have HX_a:=HXn_a
      have HX_p:=HXn_p
      have HX_u:=HXn_u
      clear HBn HXn_a HXn_p HXn_u HO0 HO1 HOwn hir rz0 rz1 rz2 HRows
      clear c_t0 c_t1 c_t2 c_t3 z_t c_c0 c_c1 c_c2 c_c3 c_c4 c_c5 c_c6 z_c hcc hcf hV7
      obtain ⟨W11,hW11⟩:∃ V,V=w10.setCell ⟨w.heap.size+1,1,none⟩ (.slice (some ⟨gg,0,none⟩) (r1.length+1) cap):=⟨_,rfl⟩
      have hs11:=bss hW11
      replace HB:=bsb hW11 HB (by omega)
      replace HX_a:=bst hW11 HX_a (by omega)
      replace HX_p:=bst hW11 HX_p (by omega)
      replace HX_u:=bst hW11 HX_u (by omega)
      rw[←hW11] at HGn ⊢
      clear hW11
      obtain ⟨c_u0,c_u1,c_u2,c_u3,c_u4,z_u⟩:=cells5 HX_u.out
      obtain ⟨c_p0,c_p1,c_p2,c_p3,c_p4,z_p⟩:=cells5 HX_p.out
      obtain ⟨f_p0,f_p1,f_p2,f_p3,f_p4⟩:=frees5 HX_p.out
      obtain ⟨W12,hW12,hxn,hfar,hbn⟩:=pstoreB HX_p.out (.slice A n c) (.int .i64 k4) (.int .i64 last) (.int .i64 x4) (.int .i64 p4)
      have HJn:=cjf hfar.1 (hbn w.heap.size W11 (Below.refl _ _) (Nat.le_refl _)) HGn
      replace HX_a:=bfr hfar.1 HX_a (by omega)
      replace HB:=Lh (hbn w.heap.size w HB.out (Nat.le_refl _))
      replace HX_p:=Lh hxn
      clear hxn hfar hbn
      go_wp2_with fail
      rw[←hW12]
      clear hW12
      go_roundg g'
      all_goals first
       | omega
       | exact ⟨_,_,_,s4,k4,x4,p4,HR5,HP4,HS2,Lh (by have:=HF.out;simp[Sx.Cat.size] at this ⊢;omega),Lh (by have:=HJn.out;simpa [itemsOf] using this),HX_a,HX_p,HB⟩
     | false=>
      rw[hh1] at HI
      have Hh1:=Lh hh1
      clear hh1
      obtain ⟨c_p0,c_p1,c_p2,c_p3,c_p4,z_p⟩:=cells5 HX_p.out
      go_wp2_with fail
      refine (HI.out _ (HC.out.next HB.out)).mono ?_
      rintro e' u1 ⟨rfl,hb⟩
      clear HI
      clear c_p0 c_p1 c_p2 c_p3 c_p4 z_p
      replace HJ:=cjm HJ hb
      have hgz:=hb.size
      replace HB:=bmb HB hb
      replace HX_a:=bmv HX_a hb
      replace HX_p:=bmv HX_p hb
      clear hb
      have HI:=Lh (fun w' h=>pW T A c last ⟨#[112,114,111,103,114,97,109,109,101]⟩ st (j) (0) (0) w' h HP.out)
      rw[show (⟨#[112,114,111,103,114,97,109,109,101]⟩:ByteArray).data.toList=Sx.wProgramme from rfl] at HI
      unfold pv at HI
      rw[←Hn.out] at HI
      cases hh2:st.hits 1 Sx.wProgramme with
      | true=>
       rw[hh2] at HI
       have Hh2:=Lh hh2
       clear hh2
       obtain ⟨c_p0,c_p1,c_p2,c_p3,c_p4,z_p⟩:=cells5 HX_p.out
       go_wp2_with fail
       refine (HI.out _ (HC.out.next HB.out)).mono ?_
       rintro e' u2 ⟨rfl,hb⟩
       clear HI
       clear c_p0 c_p1 c_p2 c_p3 c_p4 z_p
       replace HJ:=cjm HJ hb
       have hgz:=hb.size
       replace HB:=bmb HB hb
       replace HX_a:=bmv HX_a hb
       replace HX_p:=bmv HX_p hb
       clear hb
       have HR2:=Lh (HR.out.trans (Sx.defs_word Sx.wProgramme (fun last l=>Sx.programme last l) _ Sx.def_programme Hh2.out))
       have HS2:=Lh (Sx.defs_left (x:=Sx.wProgramme) (F:=fun last l=>Sx.programme last l) (last:=last) Sx.cuts_programme HS.out)
       have HT:=Lh (fun w' h=>pProg T A c last st j 0 0 w' h HP.out)
       unfold PRead pv at HT
       rw[←Hn.out] at HT
       clear HR HS
       obtain ⟨c_p0,c_p1,c_p2,c_p3,c_p4,z_p⟩:=cells5 HX_p.out
       go_wp2_with fail
       refine (HT.out _ (HC.out.next HB.out)).mono ?_
       rintro e' w4 ⟨q,vs,k4,x4,p4,rfl,hv,⟨cq,hvs,hq⟩,ha,hb⟩
       have HRq:=Lh hq
       obtain ⟨s0,i1,i2,i3,i4,i5,A6,n6,c6,rfl⟩:=form_prog hq
       subst hvs
       simp only[List.cons_append,List.nil_append]
       obtain ⟨s4,hs4⟩:∃ s4,s4=(Sx.go st (fun l=>(Sx.word last Sx.wProgramme l).bind fun _ l=>Sx.programme last l)).void:=⟨_,rfl⟩
       rw[←hs4] at ha HS2
       have HP4:=Lh ha
       have HR5:=Lh (HR2.out.trans (show Sx.go st _=Sx.go s4 _ by rw [hv.step,←hs4]))
       have hgw:=hb.size
       clear hv ha HT hq hs4 HR2
       obtain ⟨lo,hlo⟩:∃ lo,lo=u2.heap.size:=⟨_,rfl⟩
       have hrows:=fun u hu z hz=>(HJ.out.ownGe (u:=u) hu (z:=z) hz).2
       rw[←hlo] at hrows HRq hgw
       have HRows:=Lh hrows
       have hlo1:w.heap.size+2≤lo:=by have:=HJ.out.fr.bel.size;omega
       clear hlo hrows
       clear c_p0 c_p1 c_p2 c_p3 c_p4 z_p
       replace HJ:=cjm HJ hb
       have hgz:=hb.size
       replace HB:=bmb HB hb
       replace HX_a:=bmv HX_a hb
       replace HX_p:=bmv HX_p hb
       clear hb
       obtain ⟨V5,hV5⟩:∃ V,V=w4.alloc (.cells #[.string s0,.int .i64 i1,.int .i64 i2,.int .i64 i3,.int .i64 i4,.int .i64 i5,.slice A6 n6 c6] 78):=⟨_,rfl⟩
       obtain ⟨HX_t,hb⟩:=bnw hV5
       have hgz:=hb.size
       replace HB:=bmb HB hb
       replace HX_a:=bmv HX_a hb
       replace HX_p:=bmv HX_p hb
       clear hb
       obtain ⟨V6,hV6⟩:∃ V,V=V5.alloc (.cells #[.slice A n c,.int .i64 k4,.int .i64 last,.int .i64 x4,.int .i64 p4] 64):=⟨_,rfl⟩
       obtain ⟨HX_u,hb⟩:=bnw hV6
       have hgz:=hb.size
       replace HB:=bmb HB hb
       replace HX_a:=bmv HX_a hb
       replace HX_p:=bmv HX_p hb
       replace HX_t:=bmv HX_t hb
       clear hb
       rw[hV5] at hV6
       have hsz5:V5.heap.size=w4.heap.size+1:=by rw [hV5];simp
       have hsz6:V6.heap.size=w4.heap.size+2:=by rw [hV6];simp
       replace HX_u:=bat (b:=w4.heap.size+1) HX_u hsz5
       have hb46:Below w4.heap.size w4 V6:=by rw [hV6];exact ((Below.refl _ _).alloc (Nat.le_refl _) _).alloc (by simp) _
       have HJ4:=HJ
       have hz44:=HJ4.out.fr.bel.size
       replace HJ:=cjm HJ hb46
       go_upto_region 17 with fail
       rw[←hV6]
       clear hV5 hV6
       have HX_c:=Lh (show Blk V6 (w.heap.size+1) 30 #[y0,y1,y2,y3,y4,y5,y6] from HJ.out.blk)
       obtain ⟨c_t0,c_t1,c_t2,c_t3,c_t4,c_t5,c_t6,z_t⟩:=cells7 HX_t.out
       obtain ⟨c_c0,c_c1,c_c2,c_c3,c_c4,c_c5,c_c6,z_c⟩:=cells7 HX_c.out
       obtain ⟨V7,hV7⟩:∃ V,V=V6.alloc (.cells #[.string s0,.int .i64 i1,.int .i64 i2,.int .i64 i3,.int .i64 i4,.int .i64 i5,.slice A6 n6 c6] 78):=⟨_,rfl⟩
       obtain ⟨HX_kb,hb⟩:=bnw hV7
       have hgz:=hb.size
       replace HB:=bmb HB hb
       replace HX_a:=bmv HX_a hb
       replace HX_p:=bmv HX_p hb
       replace HX_t:=bmv HX_t hb
       replace HX_u:=bmv HX_u hb
       replace HX_c:=bmv HX_c hb
       clear hb
       replace HX_kb:=bat (b:=w4.heap.size+2) HX_kb hsz6
       have hsz7:V7.heap.size=w4.heap.size+3:=by rw [hV7];simp[hsz6]
       have hb47:Below w4.heap.size w4 V7:=hb46.trans (by rw [hV7];exact ((Below.refl _ _).alloc (Nat.le_refl _) _).mono (by omega))
       have Hb47:=Lh hb47
       have hbV:Below V6.heap.size V6 V7:=by rw [hV7];exact (Below.refl _ _).alloc (Nat.le_refl _) _
       have hJ7:=(cjm HJ hbV).out
       have hown0:V7.ownsRow V4.heap.size 78 7 y2 r2.length r2.flatten:=hJ7.own 2 y2 r2 rfl rfl
       have HOwn:=Lh hown0
       have hfw:r2.length≤1000000:=HJ4.out.few (n:=1000000) (by have:=HF.out;omega) (i:=2) rfl
       have HO0:=Lh (fun z hz=>own_lt (b:=z) (HJ4.out.own 2 y2 r2 rfl rfl) hz);have HO1:=Lh (fun z hz=>own_ge (b:=z) hown0 hz)
       obtain ⟨ir,hir,rz0,rz1,rz2⟩:=info_parts Tryz.infoProgrammeD
       clear hJ7 hown0 hb46 hb47 hbV HJ
       go_upto_region 18 with (at_builtin;rw[←hV7];refine wpList_append_lies _ rfl (.tmp 87) (.tmp 89) 25 rfl V4.heap.size 78 ir _ 7 80 Tryz.underlying25 hir rz0 rz1 rz2 rfl (by decide) y2 r2.length _ rfl HOwn.out ⟨w4.heap.size+2,0,none⟩ 1 1 [.string s0,.int .i64 i1,.int .i64 i2,.int .i64 i3,.int .i64 i4,.int .i64 i5,.slice A6 n6 c6] rfl rfl (World.news_of_block (cs:=#[.string s0,.int .i64 i1,.int .i64 i2,.int .i64 i3,.int .i64 i4,.int .i64 i5,.slice A6 n6 c6]) (t:=78) (fr:=(0,0)) HX_kb.out) (by simp [Value.oneCell']) (by omega) (by unfold maxLen;omega) (by omega) (by omega) (w4.heap.size+3) hsz7 ?_;intro gg cap w10 hown hgrow hat hlt;have hgn:=HJ4.out.grow (i:=2) (lo:=lo) (gg:=gg) (cap:=cap) (v:=y2) (rs:=r2) (x:=.prog q) (cs:=[.string s0,.int .i64 i1,.int .i64 i2,.int .i64 i3,.int .i64 i4,.int .i64 i5,.slice A6 n6 c6]) rfl rfl rfl HRq.out rfl (by omega) HRows.out Hb47.out hgrow (by rcases hat with e | e;exact .inl e;right;omega) hown;have HGn:=Lh hgn.2;have hcc:=hgn.1.1;have hcf:=hgn.1.2;have HBn:=Lh (Below.grown HB.out hgrow (by omega) (fun z hz=>by have:=HO1.out z hz;omega));have HXn_a:=Lh (HX_a.out.grown hgrow (fun e=>by have h1:=HO0.out _ e;have h2:=HO1.out _ e;omega));have HXn_p:=Lh (HX_p.out.grown hgrow (fun e=>by have h1:=HO0.out _ e;have h2:=HO1.out _ e;omega));have HXn_u:=Lh (HX_u.out.grown hgrow (fun e=>by have h1:=HO0.out _ e;have h2:=HO1.out _ e;omega));have hg10:=hgrow.size;clear hown hgrow hat hgn)
       clear HB HX_a HX_p HX_t HX_u HX_c HX_kb
       have HB:=HBn
       have HX_a:=HXn_a
       have HX_p:=HXn_p
       have HX_u:=HXn_u
       clear HBn HXn_a HXn_p HXn_u HO0 HO1 HOwn hir rz0 rz1 rz2 HRows
       clear c_t0 c_t1 c_t2 c_t3 c_t4 c_t5 c_t6 z_t c_c0 c_c1 c_c2 c_c3 c_c4 c_c5 c_c6 z_c hcc hcf hV7
       obtain ⟨W11,hW11⟩:∃ V,V=w10.setCell ⟨w.heap.size+1,2,none⟩ (.slice (some ⟨gg,0,none⟩) (r2.length+1) cap):=⟨_,rfl⟩
       have hs11:=bss hW11
       replace HB:=bsb hW11 HB (by omega)
       replace HX_a:=bst hW11 HX_a (by omega)
       replace HX_p:=bst hW11 HX_p (by omega)
       replace HX_u:=bst hW11 HX_u (by omega)
       rw[←hW11] at HGn ⊢
       clear hW11
       obtain ⟨c_u0,c_u1,c_u2,c_u3,c_u4,z_u⟩:=cells5 HX_u.out
       obtain ⟨c_p0,c_p1,c_p2,c_p3,c_p4,z_p⟩:=cells5 HX_p.out
       obtain ⟨f_p0,f_p1,f_p2,f_p3,f_p4⟩:=frees5 HX_p.out
       obtain ⟨W12,hW12,hxn,hfar,hbn⟩:=pstoreB HX_p.out (.slice A n c) (.int .i64 k4) (.int .i64 last) (.int .i64 x4) (.int .i64 p4)
       have HJn:=cjf hfar.1 (hbn w.heap.size W11 (Below.refl _ _) (Nat.le_refl _)) HGn
       replace HX_a:=bfr hfar.1 HX_a (by omega)
       replace HB:=Lh (hbn w.heap.size w HB.out (Nat.le_refl _))
       replace HX_p:=Lh hxn
       clear hxn hfar hbn
       go_wp2_with fail
       rw[←hW12]
       clear hW12
       go_roundg g'
       all_goals first
        | omega
        | exact ⟨_,_,_,s4,k4,x4,p4,HR5,HP4,HS2,Lh (by have:=HF.out;simp[Sx.Cat.size] at this ⊢;omega),Lh (by have:=HJn.out;simpa [itemsOf] using this),HX_a,HX_p,HB⟩
      | false=>
       rw[hh2] at HI
       have Hh2:=Lh hh2
       clear hh2
       obtain ⟨c_p0,c_p1,c_p2,c_p3,c_p4,z_p⟩:=cells5 HX_p.out
       go_wp2_with fail
       refine (HI.out _ (HC.out.next HB.out)).mono ?_
       rintro e' u2 ⟨rfl,hb⟩
       clear HI
       clear c_p0 c_p1 c_p2 c_p3 c_p4 z_p
       replace HJ:=cjm HJ hb
       have hgz:=hb.size
       replace HB:=bmb HB hb
       replace HX_a:=bmv HX_a hb
       replace HX_p:=bmv HX_p hb
       clear hb
       have HI:=Lh (fun w' h=>pW T A c last ⟨#[99,108,97,115,115]⟩ st (j) (0) (0) w' h HP.out)
       rw[show (⟨#[99,108,97,115,115]⟩:ByteArray).data.toList=Sx.wClass from rfl] at HI
       unfold pv at HI
       rw[←Hn.out] at HI
       cases hh3:st.hits 1 Sx.wClass with
       | true=>
        rw[hh3] at HI
        have Hh3:=Lh hh3
        clear hh3
        obtain ⟨c_p0,c_p1,c_p2,c_p3,c_p4,z_p⟩:=cells5 HX_p.out
        go_wp2_with fail
        refine (HI.out _ (HC.out.next HB.out)).mono ?_
        rintro e' u3 ⟨rfl,hb⟩
        clear HI
        clear c_p0 c_p1 c_p2 c_p3 c_p4 z_p
        replace HJ:=cjm HJ hb
        have hgz:=hb.size
        replace HB:=bmb HB hb
        replace HX_a:=bmv HX_a hb
        replace HX_p:=bmv HX_p hb
        clear hb
        have HR2:=Lh (HR.out.trans (Sx.defs_word Sx.wClass (fun last l=>Sx.standing last l) _ Sx.def_class Hh3.out))
        have HS2:=Lh (Sx.defs_left (x:=Sx.wClass) (F:=fun last l=>Sx.standing last l) (last:=last) Sx.cuts_standing HS.out)
        have HT:=Lh (fun w' h=>pClass T A c last Sx.wClass st j 0 0 w' h HP.out)
        unfold PRead pv at HT
        rw[←Hn.out] at HT
        clear HR HS
        obtain ⟨c_p0,c_p1,c_p2,c_p3,c_p4,z_p⟩:=cells5 HX_p.out
        go_wp2_with fail
        refine (HT.out _ (HC.out.next HB.out)).mono ?_
        rintro e' w4 ⟨q,vs,k4,x4,p4,rfl,hv,⟨cq,hvs,hq⟩,ha,hb⟩
        have HRq:=Lh hq
        obtain ⟨s0,i1,i2,i3,rfl⟩:=form_cls hq
        subst hvs
        simp only[List.cons_append,List.nil_append]
        obtain ⟨s4,hs4⟩:∃ s4,s4=(Sx.go st (fun l=>(Sx.word last Sx.wClass l).bind fun _ l=>Sx.standing last l)).void:=⟨_,rfl⟩
        rw[←hs4] at ha HS2
        have HP4:=Lh ha
        have HR5:=Lh (HR2.out.trans (show Sx.go st _=Sx.go s4 _ by rw [hv.step,←hs4]))
        have hgw:=hb.size
        clear hv ha HT hq hs4 HR2
        obtain ⟨lo,hlo⟩:∃ lo,lo=u3.heap.size:=⟨_,rfl⟩
        have hrows:=fun u hu z hz=>(HJ.out.ownGe (u:=u) hu (z:=z) hz).2
        rw[←hlo] at hrows hgw
        have HRows:=Lh hrows
        have hlo1:w.heap.size+2≤lo:=by have:=HJ.out.fr.bel.size;omega
        clear hlo hrows
        clear c_p0 c_p1 c_p2 c_p3 c_p4 z_p
        replace HJ:=cjm HJ hb
        have hgz:=hb.size
        replace HB:=bmb HB hb
        replace HX_a:=bmv HX_a hb
        replace HX_p:=bmv HX_p hb
        clear hb
        obtain ⟨V5,hV5⟩:∃ V,V=w4.alloc (.cells #[.string s0,.int .i64 i1,.int .i64 i2,.int .i64 i3] 82):=⟨_,rfl⟩
        obtain ⟨HX_t,hb⟩:=bnw hV5
        have hgz:=hb.size
        replace HB:=bmb HB hb
        replace HX_a:=bmv HX_a hb
        replace HX_p:=bmv HX_p hb
        clear hb
        obtain ⟨V6,hV6⟩:∃ V,V=V5.alloc (.cells #[.slice A n c,.int .i64 k4,.int .i64 last,.int .i64 x4,.int .i64 p4] 64):=⟨_,rfl⟩
        obtain ⟨HX_u,hb⟩:=bnw hV6
        have hgz:=hb.size
        replace HB:=bmb HB hb
        replace HX_a:=bmv HX_a hb
        replace HX_p:=bmv HX_p hb
        replace HX_t:=bmv HX_t hb
        clear hb
        rw[hV5] at hV6
        have hsz5:V5.heap.size=w4.heap.size+1:=by rw [hV5];simp
        have hsz6:V6.heap.size=w4.heap.size+2:=by rw [hV6];simp
        replace HX_u:=bat (b:=w4.heap.size+1) HX_u hsz5
        have hb46:Below w4.heap.size w4 V6:=by rw [hV6];exact ((Below.refl _ _).alloc (Nat.le_refl _) _).alloc (by simp) _
        have HJ4:=HJ
        have hz44:=HJ4.out.fr.bel.size
        replace HJ:=cjm HJ hb46
        go_upto_region 21 with fail
        rw[←hV6]
        clear hV5 hV6
        have HX_c:=Lh (show Blk V6 (w.heap.size+1) 30 #[y0,y1,y2,y3,y4,y5,y6] from HJ.out.blk)
        obtain ⟨c_t0,c_t1,c_t2,c_t3,z_t⟩:=cells4 HX_t.out
        obtain ⟨c_c0,c_c1,c_c2,c_c3,c_c4,c_c5,c_c6,z_c⟩:=cells7 HX_c.out
        obtain ⟨V7,hV7⟩:∃ V,V=V6.alloc (.cells #[.string s0,.int .i64 i1,.int .i64 i2,.int .i64 i3] 82):=⟨_,rfl⟩
        obtain ⟨HX_kb,hb⟩:=bnw hV7
        have hgz:=hb.size
        replace HB:=bmb HB hb
        replace HX_a:=bmv HX_a hb
        replace HX_p:=bmv HX_p hb
        replace HX_t:=bmv HX_t hb
        replace HX_u:=bmv HX_u hb
        replace HX_c:=bmv HX_c hb
        clear hb
        replace HX_kb:=bat (b:=w4.heap.size+2) HX_kb hsz6
        have hsz7:V7.heap.size=w4.heap.size+3:=by rw [hV7];simp[hsz6]
        have hb47:Below w4.heap.size w4 V7:=hb46.trans (by rw [hV7];exact ((Below.refl _ _).alloc (Nat.le_refl _) _).mono (by omega))
        have Hb47:=Lh hb47
        have hbV:Below V6.heap.size V6 V7:=by rw [hV7];exact (Below.refl _ _).alloc (Nat.le_refl _) _
        have hJ7:=(cjm HJ hbV).out
        have hown0:V7.ownsRow V4.heap.size 82 4 y3 r3.length r3.flatten:=hJ7.own 3 y3 r3 rfl rfl
        have HOwn:=Lh hown0
        have hfw:r3.length≤1000000:=HJ4.out.few (n:=1000000) (by have:=HF.out;omega) (i:=3) rfl
        have HO0:=Lh (fun z hz=>own_lt (b:=z) (HJ4.out.own 3 y3 r3 rfl rfl) hz);have HO1:=Lh (fun z hz=>own_ge (b:=z) hown0 hz)
        obtain ⟨ir,hir,rz0,rz1,rz2⟩:=info_parts Tryz.infoClassD
        clear hJ7 hown0 hb46 hb47 hbV HJ
        go_upto_region 22 with (at_builtin;rw[←hV7];refine wpList_append_lies _ rfl (.tmp 102) (.tmp 104) 26 rfl V4.heap.size 82 ir _ 4 40 Tryz.underlying26 hir rz0 rz1 rz2 rfl (by decide) y3 r3.length _ rfl HOwn.out ⟨w4.heap.size+2,0,none⟩ 1 1 [.string s0,.int .i64 i1,.int .i64 i2,.int .i64 i3] rfl rfl (World.news_of_block (cs:=#[.string s0,.int .i64 i1,.int .i64 i2,.int .i64 i3]) (t:=82) (fr:=(0,0)) HX_kb.out) (by simp [Value.oneCell']) (by omega) (by unfold maxLen;omega) (by omega) (by omega) (w4.heap.size+3) hsz7 ?_;intro gg cap w10 hown hgrow hat hlt;have hgn:=HJ4.out.grow (i:=3) (lo:=lo) (gg:=gg) (cap:=cap) (v:=y3) (rs:=r3) (x:=.cls q) (cs:=[.string s0,.int .i64 i1,.int .i64 i2,.int .i64 i3]) rfl rfl rfl HRq.out rfl (by omega) HRows.out Hb47.out hgrow (by rcases hat with e | e;exact .inl e;right;omega) hown;have HGn:=Lh hgn.2;have hcc:=hgn.1.1;have hcf:=hgn.1.2;have HBn:=Lh (Below.grown HB.out hgrow (by omega) (fun z hz=>by have:=HO1.out z hz;omega));have HXn_a:=Lh (HX_a.out.grown hgrow (fun e=>by have h1:=HO0.out _ e;have h2:=HO1.out _ e;omega));have HXn_p:=Lh (HX_p.out.grown hgrow (fun e=>by have h1:=HO0.out _ e;have h2:=HO1.out _ e;omega));have HXn_u:=Lh (HX_u.out.grown hgrow (fun e=>by have h1:=HO0.out _ e;have h2:=HO1.out _ e;omega));have hg10:=hgrow.size;clear hown hgrow hat hgn)
        clear HB HX_a HX_p HX_t HX_u HX_c HX_kb
        have HB:=HBn
        have HX_a:=HXn_a
        have HX_p:=HXn_p
        have HX_u:=HXn_u
        clear HBn HXn_a HXn_p HXn_u HO0 HO1 HOwn hir rz0 rz1 rz2 HRows
        clear c_t0 c_t1 c_t2 c_t3 z_t c_c0 c_c1 c_c2 c_c3 c_c4 c_c5 c_c6 z_c hcc hcf hV7
        obtain ⟨W11,hW11⟩:∃ V,V=w10.setCell ⟨w.heap.size+1,3,none⟩ (.slice (some ⟨gg,0,none⟩) (r3.length+1) cap):=⟨_,rfl⟩
        have hs11:=bss hW11
        replace HB:=bsb hW11 HB (by omega)
        replace HX_a:=bst hW11 HX_a (by omega)
        replace HX_p:=bst hW11 HX_p (by omega)
        replace HX_u:=bst hW11 HX_u (by omega)
        rw[←hW11] at HGn ⊢
        clear hW11
        obtain ⟨c_u0,c_u1,c_u2,c_u3,c_u4,z_u⟩:=cells5 HX_u.out
        obtain ⟨c_p0,c_p1,c_p2,c_p3,c_p4,z_p⟩:=cells5 HX_p.out
        obtain ⟨f_p0,f_p1,f_p2,f_p3,f_p4⟩:=frees5 HX_p.out
        obtain ⟨W12,hW12,hxn,hfar,hbn⟩:=pstoreB HX_p.out (.slice A n c) (.int .i64 k4) (.int .i64 last) (.int .i64 x4) (.int .i64 p4)
        have HJn:=cjf hfar.1 (hbn w.heap.size W11 (Below.refl _ _) (Nat.le_refl _)) HGn
        replace HX_a:=bfr hfar.1 HX_a (by omega)
        replace HB:=Lh (hbn w.heap.size w HB.out (Nat.le_refl _))
        replace HX_p:=Lh hxn
        clear hxn hfar hbn
        go_wp2_with fail
        rw[←hW12]
        clear hW12
        go_roundg g'
        all_goals first
         | omega
         | exact ⟨_,_,_,s4,k4,x4,p4,HR5,HP4,HS2,Lh (by have:=HF.out;simp[Sx.Cat.size] at this ⊢;omega),Lh (by have:=HJn.out;simpa [itemsOf] using this),HX_a,HX_p,HB⟩
       | false=>
        rw[hh3] at HI
        have Hh3:=Lh hh3
        clear hh3
        obtain ⟨c_p0,c_p1,c_p2,c_p3,c_p4,z_p⟩:=cells5 HX_p.out
        go_wp2_with fail
        refine (HI.out _ (HC.out.next HB.out)).mono ?_
        rintro e' u3 ⟨rfl,hb⟩
        clear HI
        clear c_p0 c_p1 c_p2 c_p3 c_p4 z_p
        replace HJ:=cjm HJ hb
        have hgz:=hb.size
        replace HB:=bmb HB hb
        replace HX_a:=bmv HX_a hb
        replace HX_p:=bmv HX_p hb
        clear hb
        have HI:=Lh (fun w' h=>pW T A c last ⟨#[102,101,101]⟩ st (j) (0) (0) w' h HP.out)
        rw[show (⟨#[102,101,101]⟩:ByteArray).data.toList=Sx.wFee from rfl] at HI
        unfold pv at HI
        rw[←Hn.out] at HI
        cases hh4:st.hits 1 Sx.wFee with
        | true=>
         rw[hh4] at HI
         have Hh4:=Lh hh4
         clear hh4
         obtain ⟨c_p0,c_p1,c_p2,c_p3,c_p4,z_p⟩:=cells5 HX_p.out
         go_wp2_with fail
         refine (HI.out _ (HC.out.next HB.out)).mono ?_
         rintro e' u4 ⟨rfl,hb⟩
         clear HI
         clear c_p0 c_p1 c_p2 c_p3 c_p4 z_p
         replace HJ:=cjm HJ hb
         have hgz:=hb.size
         replace HB:=bmb HB hb
         replace HX_a:=bmv HX_a hb
         replace HX_p:=bmv HX_p hb
         clear hb
         have HR2:=Lh (HR.out.trans (Sx.defs_word Sx.wFee (fun last l=>Sx.fee last l) _ Sx.def_fee Hh4.out))
         have HS2:=Lh (Sx.defs_left (x:=Sx.wFee) (F:=fun last l=>Sx.fee last l) (last:=last) Sx.cuts_fee HS.out)
         have HT:=Lh (fun w' h=>pFee T A c last st j 0 0 w' h HP.out)
         unfold PRead pv at HT
         rw[←Hn.out] at HT
         clear HR HS
         obtain ⟨c_p0,c_p1,c_p2,c_p3,c_p4,z_p⟩:=cells5 HX_p.out
         go_wp2_with fail
         refine (HT.out _ (HC.out.next HB.out)).mono ?_
         rintro e' w4 ⟨q,vs,k4,x4,p4,rfl,hv,⟨cq,hvs,hq⟩,ha,hb⟩
         have HRq:=Lh hq
         obtain ⟨s0,i1,rfl⟩:=form_fee hq
         subst hvs
         simp only[List.cons_append,List.nil_append]
         obtain ⟨s4,hs4⟩:∃ s4,s4=(Sx.go st (fun l=>(Sx.word last Sx.wFee l).bind fun _ l=>Sx.fee last l)).void:=⟨_,rfl⟩
         rw[←hs4] at ha HS2
         have HP4:=Lh ha
         have HR5:=Lh (HR2.out.trans (show Sx.go st _=Sx.go s4 _ by rw [hv.step,←hs4]))
         have hgw:=hb.size
         clear hv ha HT hq hs4 HR2
         obtain ⟨lo,hlo⟩:∃ lo,lo=u4.heap.size:=⟨_,rfl⟩
         have hrows:=fun u hu z hz=>(HJ.out.ownGe (u:=u) hu (z:=z) hz).2
         rw[←hlo] at hrows hgw
         have HRows:=Lh hrows
         have hlo1:w.heap.size+2≤lo:=by have:=HJ.out.fr.bel.size;omega
         clear hlo hrows
         clear c_p0 c_p1 c_p2 c_p3 c_p4 z_p
         replace HJ:=cjm HJ hb
         have hgz:=hb.size
         replace HB:=bmb HB hb
         replace HX_a:=bmv HX_a hb
         replace HX_p:=bmv HX_p hb
         clear hb
         obtain ⟨V5,hV5⟩:∃ V,V=w4.alloc (.cells #[.string s0,.int .i64 i1] 86):=⟨_,rfl⟩
         obtain ⟨HX_t,hb⟩:=bnw hV5
         have hgz:=hb.size
         replace HB:=bmb HB hb
         replace HX_a:=bmv HX_a hb
         replace HX_p:=bmv HX_p hb
         clear hb
         obtain ⟨V6,hV6⟩:∃ V,V=V5.alloc (.cells #[.slice A n c,.int .i64 k4,.int .i64 last,.int .i64 x4,.int .i64 p4] 64):=⟨_,rfl⟩
         obtain ⟨HX_u,hb⟩:=bnw hV6
         have hgz:=hb.size
         replace HB:=bmb HB hb
         replace HX_a:=bmv HX_a hb
         replace HX_p:=bmv HX_p hb
         replace HX_t:=bmv HX_t hb
         clear hb
         rw[hV5] at hV6
         have hsz5:V5.heap.size=w4.heap.size+1:=by rw [hV5];simp
         have hsz6:V6.heap.size=w4.heap.size+2:=by rw [hV6];simp
         replace HX_u:=bat (b:=w4.heap.size+1) HX_u hsz5
         have hb46:Below w4.heap.size w4 V6:=by rw [hV6];exact ((Below.refl _ _).alloc (Nat.le_refl _) _).alloc (by simp) _
         have HJ4:=HJ
         have hz44:=HJ4.out.fr.bel.size
         replace HJ:=cjm HJ hb46
         go_upto_region 25 with fail
         rw[←hV6]
         clear hV5 hV6
         have HX_c:=Lh (show Blk V6 (w.heap.size+1) 30 #[y0,y1,y2,y3,y4,y5,y6] from HJ.out.blk)
         obtain ⟨c_t0,c_t1,z_t⟩:=cells2 HX_t.out
         obtain ⟨c_c0,c_c1,c_c2,c_c3,c_c4,c_c5,c_c6,z_c⟩:=cells7 HX_c.out
         obtain ⟨V7,hV7⟩:∃ V,V=V6.alloc (.cells #[.string s0,.int .i64 i1] 86):=⟨_,rfl⟩
         obtain ⟨HX_kb,hb⟩:=bnw hV7
         have hgz:=hb.size
         replace HB:=bmb HB hb
         replace HX_a:=bmv HX_a hb
         replace HX_p:=bmv HX_p hb
         replace HX_t:=bmv HX_t hb
         replace HX_u:=bmv HX_u hb
         replace HX_c:=bmv HX_c hb
         clear hb
         replace HX_kb:=bat (b:=w4.heap.size+2) HX_kb hsz6
         have hsz7:V7.heap.size=w4.heap.size+3:=by rw [hV7];simp[hsz6]
         have hb47:Below w4.heap.size w4 V7:=hb46.trans (by rw [hV7];exact ((Below.refl _ _).alloc (Nat.le_refl _) _).mono (by omega))
         have Hb47:=Lh hb47
         have hbV:Below V6.heap.size V6 V7:=by rw [hV7];exact (Below.refl _ _).alloc (Nat.le_refl _) _
         have hJ7:=(cjm HJ hbV).out
         have hown0:V7.ownsRow V4.heap.size 86 2 y4 r4.length r4.flatten:=hJ7.own 4 y4 r4 rfl rfl
         have HOwn:=Lh hown0
         have hfw:r4.length≤1000000:=HJ4.out.few (n:=1000000) (by have:=HF.out;omega) (i:=4) rfl
         have HO0:=Lh (fun z hz=>own_lt (b:=z) (HJ4.out.own 4 y4 r4 rfl rfl) hz);have HO1:=Lh (fun z hz=>own_ge (b:=z) hown0 hz)
         obtain ⟨ir,hir,rz0,rz1,rz2⟩:=info_parts Tryz.infoFeeD
         clear hJ7 hown0 hb46 hb47 hbV HJ
         go_upto_region 26 with (at_builtin;rw[←hV7];refine wpList_append_lies _ rfl (.tmp 117) (.tmp 119) 27 rfl V4.heap.size 86 ir _ 2 24 Tryz.underlying27 hir rz0 rz1 rz2 rfl (by decide) y4 r4.length _ rfl HOwn.out ⟨w4.heap.size+2,0,none⟩ 1 1 [.string s0,.int .i64 i1] rfl rfl (World.news_of_block (cs:=#[.string s0,.int .i64 i1]) (t:=86) (fr:=(0,0)) HX_kb.out) (by simp [Value.oneCell']) (by omega) (by unfold maxLen;omega) (by omega) (by omega) (w4.heap.size+3) hsz7 ?_;intro gg cap w10 hown hgrow hat hlt;have hgn:=HJ4.out.grow (i:=4) (lo:=lo) (gg:=gg) (cap:=cap) (v:=y4) (rs:=r4) (x:=.fee q) (cs:=[.string s0,.int .i64 i1]) rfl rfl rfl HRq.out rfl (by omega) HRows.out Hb47.out hgrow (by rcases hat with e | e;exact .inl e;right;omega) hown;have HGn:=Lh hgn.2;have hcc:=hgn.1.1;have hcf:=hgn.1.2;have HBn:=Lh (Below.grown HB.out hgrow (by omega) (fun z hz=>by have:=HO1.out z hz;omega));have HXn_a:=Lh (HX_a.out.grown hgrow (fun e=>by have h1:=HO0.out _ e;have h2:=HO1.out _ e;omega));have HXn_p:=Lh (HX_p.out.grown hgrow (fun e=>by have h1:=HO0.out _ e;have h2:=HO1.out _ e;omega));have HXn_u:=Lh (HX_u.out.grown hgrow (fun e=>by have h1:=HO0.out _ e;have h2:=HO1.out _ e;omega));have hg10:=hgrow.size;clear hown hgrow hat hgn)
         clear HB HX_a HX_p HX_t HX_u HX_c HX_kb
         have HB:=HBn
         have HX_a:=HXn_a
         have HX_p:=HXn_p
         have HX_u:=HXn_u
         clear HBn HXn_a HXn_p HXn_u HO0 HO1 HOwn hir rz0 rz1 rz2 HRows
         clear c_t0 c_t1 z_t c_c0 c_c1 c_c2 c_c3 c_c4 c_c5 c_c6 z_c hcc hcf hV7
         obtain ⟨W11,hW11⟩:∃ V,V=w10.setCell ⟨w.heap.size+1,4,none⟩ (.slice (some ⟨gg,0,none⟩) (r4.length+1) cap):=⟨_,rfl⟩
         have hs11:=bss hW11
         replace HB:=bsb hW11 HB (by omega)
         replace HX_a:=bst hW11 HX_a (by omega)
         replace HX_p:=bst hW11 HX_p (by omega)
         replace HX_u:=bst hW11 HX_u (by omega)
         rw[←hW11] at HGn ⊢
         clear hW11
         obtain ⟨c_u0,c_u1,c_u2,c_u3,c_u4,z_u⟩:=cells5 HX_u.out
         obtain ⟨c_p0,c_p1,c_p2,c_p3,c_p4,z_p⟩:=cells5 HX_p.out
         obtain ⟨f_p0,f_p1,f_p2,f_p3,f_p4⟩:=frees5 HX_p.out
         obtain ⟨W12,hW12,hxn,hfar,hbn⟩:=pstoreB HX_p.out (.slice A n c) (.int .i64 k4) (.int .i64 last) (.int .i64 x4) (.int .i64 p4)
         have HJn:=cjf hfar.1 (hbn w.heap.size W11 (Below.refl _ _) (Nat.le_refl _)) HGn
         replace HX_a:=bfr hfar.1 HX_a (by omega)
         replace HB:=Lh (hbn w.heap.size w HB.out (Nat.le_refl _))
         replace HX_p:=Lh hxn
         clear hxn hfar hbn
         go_wp2_with fail
         rw[←hW12]
         clear hW12
         go_roundg g'
         all_goals first
          | omega
          | exact ⟨_,_,_,s4,k4,x4,p4,HR5,HP4,HS2,Lh (by have:=HF.out;simp[Sx.Cat.size] at this ⊢;omega),Lh (by have:=HJn.out;simpa [itemsOf] using this),HX_a,HX_p,HB⟩
        | false=>
         rw[hh4] at HI
         have Hh4:=Lh hh4
         clear hh4
         obtain ⟨c_p0,c_p1,c_p2,c_p3,c_p4,z_p⟩:=cells5 HX_p.out
         go_wp2_with fail
         refine (HI.out _ (HC.out.next HB.out)).mono ?_
         rintro e' u4 ⟨rfl,hb⟩
         clear HI
         clear c_p0 c_p1 c_p2 c_p3 c_p4 z_p
         replace HJ:=cjm HJ hb
         have hgz:=hb.size
         replace HB:=bmb HB hb
         replace HX_a:=bmv HX_a hb
         replace HX_p:=bmv HX_p hb
         clear hb
         have HI:=Lh (fun w' h=>pW T A c last ⟨#[104,111,110,111,117,114]⟩ st (j) (0) (0) w' h HP.out)
         rw[show (⟨#[104,111,110,111,117,114]⟩:ByteArray).data.toList=Sx.wHonour from rfl] at HI
         unfold pv at HI
         rw[←Hn.out] at HI
         cases hh5:st.hits 1 Sx.wHonour with
         | true=>
          rw[hh5] at HI
          have Hh5:=Lh hh5
          clear hh5
          obtain ⟨c_p0,c_p1,c_p2,c_p3,c_p4,z_p⟩:=cells5 HX_p.out
          go_wp2_with fail
          refine (HI.out _ (HC.out.next HB.out)).mono ?_
          rintro e' u5 ⟨rfl,hb⟩
          clear HI
          clear c_p0 c_p1 c_p2 c_p3 c_p4 z_p
          replace HJ:=cjm HJ hb
          have hgz:=hb.size
          replace HB:=bmb HB hb
          replace HX_a:=bmv HX_a hb
          replace HX_p:=bmv HX_p hb
          clear hb
          have HR2:=Lh (HR.out.trans (Sx.defs_word Sx.wHonour (fun last l=>Sx.standing last l) _ Sx.def_honour Hh5.out))
          have HS2:=Lh (Sx.defs_left (x:=Sx.wHonour) (F:=fun last l=>Sx.standing last l) (last:=last) Sx.cuts_standing HS.out)
          have HT:=Lh (fun w' h=>pClass T A c last Sx.wHonour st j 0 0 w' h HP.out)
          unfold PRead pv at HT
          rw[←Hn.out] at HT
          clear HR HS
          obtain ⟨c_p0,c_p1,c_p2,c_p3,c_p4,z_p⟩:=cells5 HX_p.out
          go_wp2_with fail
          refine (HT.out _ (HC.out.next HB.out)).mono ?_
          rintro e' w4 ⟨q,vs,k4,x4,p4,rfl,hv,⟨cq,hvs,hq⟩,ha,hb⟩
          have HRq:=Lh hq
          obtain ⟨s0,i1,i2,i3,rfl⟩:=form_cls hq
          subst hvs
          simp only[List.cons_append,List.nil_append]
          obtain ⟨s4,hs4⟩:∃ s4,s4=(Sx.go st (fun l=>(Sx.word last Sx.wHonour l).bind fun _ l=>Sx.standing last l)).void:=⟨_,rfl⟩
          rw[←hs4] at ha HS2
          have HP4:=Lh ha
          have HR5:=Lh (HR2.out.trans (show Sx.go st _=Sx.go s4 _ by rw [hv.step,←hs4]))
          have hgw:=hb.size
          clear hv ha HT hq hs4 HR2
          obtain ⟨lo,hlo⟩:∃ lo,lo=u5.heap.size:=⟨_,rfl⟩
          have hrows:=fun u hu z hz=>(HJ.out.ownGe (u:=u) hu (z:=z) hz).2
          rw[←hlo] at hrows hgw
          have HRows:=Lh hrows
          have hlo1:w.heap.size+2≤lo:=by have:=HJ.out.fr.bel.size;omega
          clear hlo hrows
          clear c_p0 c_p1 c_p2 c_p3 c_p4 z_p
          replace HJ:=cjm HJ hb
          have hgz:=hb.size
          replace HB:=bmb HB hb
          replace HX_a:=bmv HX_a hb
          replace HX_p:=bmv HX_p hb
          clear hb
          obtain ⟨V5,hV5⟩:∃ V,V=w4.alloc (.cells #[.string s0,.int .i64 i1,.int .i64 i2,.int .i64 i3] 82):=⟨_,rfl⟩
          obtain ⟨HX_t,hb⟩:=bnw hV5
          have hgz:=hb.size
          replace HB:=bmb HB hb
          replace HX_a:=bmv HX_a hb
          replace HX_p:=bmv HX_p hb
          clear hb
          obtain ⟨V6,hV6⟩:∃ V,V=V5.alloc (.cells #[.slice A n c,.int .i64 k4,.int .i64 last,.int .i64 x4,.int .i64 p4] 64):=⟨_,rfl⟩
          obtain ⟨HX_u,hb⟩:=bnw hV6
          have hgz:=hb.size
          replace HB:=bmb HB hb
          replace HX_a:=bmv HX_a hb
          replace HX_p:=bmv HX_p hb
          replace HX_t:=bmv HX_t hb
          clear hb
          rw[hV5] at hV6
          have hsz5:V5.heap.size=w4.heap.size+1:=by rw [hV5];simp
          have hsz6:V6.heap.size=w4.heap.size+2:=by rw [hV6];simp
          replace HX_u:=bat (b:=w4.heap.size+1) HX_u hsz5
          have hb46:Below w4.heap.size w4 V6:=by rw [hV6];exact ((Below.refl _ _).alloc (Nat.le_refl _) _).alloc (by simp) _
          have HJ4:=HJ
          have hz44:=HJ4.out.fr.bel.size
          replace HJ:=cjm HJ hb46
          go_upto_region 29 with fail
          rw[←hV6]
          clear hV5 hV6
          have HX_c:=Lh (show Blk V6 (w.heap.size+1) 30 #[y0,y1,y2,y3,y4,y5,y6] from HJ.out.blk)
          obtain ⟨c_t0,c_t1,c_t2,c_t3,z_t⟩:=cells4 HX_t.out
          obtain ⟨c_c0,c_c1,c_c2,c_c3,c_c4,c_c5,c_c6,z_c⟩:=cells7 HX_c.out
          obtain ⟨V7,hV7⟩:∃ V,V=V6.alloc (.cells #[.string s0,.int .i64 i1,.int .i64 i2,.int .i64 i3] 82):=⟨_,rfl⟩
          obtain ⟨HX_kb,hb⟩:=bnw hV7
          have hgz:=hb.size
          replace HB:=bmb HB hb
          replace HX_a:=bmv HX_a hb
          replace HX_p:=bmv HX_p hb
          replace HX_t:=bmv HX_t hb
          replace HX_u:=bmv HX_u hb
          replace HX_c:=bmv HX_c hb
          clear hb
          replace HX_kb:=bat (b:=w4.heap.size+2) HX_kb hsz6
          have hsz7:V7.heap.size=w4.heap.size+3:=by rw [hV7];simp[hsz6]
          have hb47:Below w4.heap.size w4 V7:=hb46.trans (by rw [hV7];exact ((Below.refl _ _).alloc (Nat.le_refl _) _).mono (by omega))
          have Hb47:=Lh hb47
          have hbV:Below V6.heap.size V6 V7:=by rw [hV7];exact (Below.refl _ _).alloc (Nat.le_refl _) _
          have hJ7:=(cjm HJ hbV).out
          have hown0:V7.ownsRow V4.heap.size 82 4 y5 r5.length r5.flatten:=hJ7.own 5 y5 r5 rfl rfl
          have HOwn:=Lh hown0
          have hfw:r5.length≤1000000:=HJ4.out.few (n:=1000000) (by have:=HF.out;omega) (i:=5) rfl
          have HO0:=Lh (fun z hz=>own_lt (b:=z) (HJ4.out.own 5 y5 r5 rfl rfl) hz);have HO1:=Lh (fun z hz=>own_ge (b:=z) hown0 hz)
          obtain ⟨ir,hir,rz0,rz1,rz2⟩:=info_parts Tryz.infoClassD
          clear hJ7 hown0 hb46 hb47 hbV HJ
          go_upto_region 30 with (at_builtin;rw[←hV7];refine wpList_append_lies _ rfl (.tmp 132) (.tmp 134) 26 rfl V4.heap.size 82 ir _ 4 40 Tryz.underlying26 hir rz0 rz1 rz2 rfl (by decide) y5 r5.length _ rfl HOwn.out ⟨w4.heap.size+2,0,none⟩ 1 1 [.string s0,.int .i64 i1,.int .i64 i2,.int .i64 i3] rfl rfl (World.news_of_block (cs:=#[.string s0,.int .i64 i1,.int .i64 i2,.int .i64 i3]) (t:=82) (fr:=(0,0)) HX_kb.out) (by simp [Value.oneCell']) (by omega) (by unfold maxLen;omega) (by omega) (by omega) (w4.heap.size+3) hsz7 ?_;intro gg cap w10 hown hgrow hat hlt;have hgn:=HJ4.out.grow (i:=5) (lo:=lo) (gg:=gg) (cap:=cap) (v:=y5) (rs:=r5) (x:=.cls q) (cs:=[.string s0,.int .i64 i1,.int .i64 i2,.int .i64 i3]) rfl rfl rfl HRq.out rfl (by omega) HRows.out Hb47.out hgrow (by rcases hat with e | e;exact .inl e;right;omega) hown;have HGn:=Lh hgn.2;have hcc:=hgn.1.1;have hcf:=hgn.1.2;have HBn:=Lh (Below.grown HB.out hgrow (by omega) (fun z hz=>by have:=HO1.out z hz;omega));have HXn_a:=Lh (HX_a.out.grown hgrow (fun e=>by have h1:=HO0.out _ e;have h2:=HO1.out _ e;omega));have HXn_p:=Lh (HX_p.out.grown hgrow (fun e=>by have h1:=HO0.out _ e;have h2:=HO1.out _ e;omega));have HXn_u:=Lh (HX_u.out.grown hgrow (fun e=>by have h1:=HO0.out _ e;have h2:=HO1.out _ e;omega));have hg10:=hgrow.size;clear hown hgrow hat hgn)
          clear HB HX_a HX_p HX_t HX_u HX_c HX_kb
          have HB:=HBn
          have HX_a:=HXn_a
          have HX_p:=HXn_p
          have HX_u:=HXn_u
          clear HBn HXn_a HXn_p HXn_u HO0 HO1 HOwn hir rz0 rz1 rz2 HRows
          clear c_t0 c_t1 c_t2 c_t3 z_t c_c0 c_c1 c_c2 c_c3 c_c4 c_c5 c_c6 z_c hcc hcf hV7
          obtain ⟨W11,hW11⟩:∃ V,V=w10.setCell ⟨w.heap.size+1,5,none⟩ (.slice (some ⟨gg,0,none⟩) (r5.length+1) cap):=⟨_,rfl⟩
          have hs11:=bss hW11
          replace HB:=bsb hW11 HB (by omega)
          replace HX_a:=bst hW11 HX_a (by omega)
          replace HX_p:=bst hW11 HX_p (by omega)
          replace HX_u:=bst hW11 HX_u (by omega)
          rw[←hW11] at HGn ⊢
          clear hW11
          obtain ⟨c_u0,c_u1,c_u2,c_u3,c_u4,z_u⟩:=cells5 HX_u.out
          obtain ⟨c_p0,c_p1,c_p2,c_p3,c_p4,z_p⟩:=cells5 HX_p.out
          obtain ⟨f_p0,f_p1,f_p2,f_p3,f_p4⟩:=frees5 HX_p.out
          obtain ⟨W12,hW12,hxn,hfar,hbn⟩:=pstoreB HX_p.out (.slice A n c) (.int .i64 k4) (.int .i64 last) (.int .i64 x4) (.int .i64 p4)
          have HJn:=cjf hfar.1 (hbn w.heap.size W11 (Below.refl _ _) (Nat.le_refl _)) HGn
          replace HX_a:=bfr hfar.1 HX_a (by omega)
          replace HB:=Lh (hbn w.heap.size w HB.out (Nat.le_refl _))
          replace HX_p:=Lh hxn
          clear hxn hfar hbn
          go_wp2_with fail
          rw[←hW12]
          clear hW12
          go_roundg g'
          all_goals first
           | omega
           | exact ⟨_,_,_,s4,k4,x4,p4,HR5,HP4,HS2,Lh (by have:=HF.out;simp[Sx.Cat.size] at this ⊢;omega),Lh (by have:=HJn.out;simpa [itemsOf] using this),HX_a,HX_p,HB⟩
         | false=>
          rw[hh5] at HI
          have Hh5:=Lh hh5
          clear hh5
          obtain ⟨c_p0,c_p1,c_p2,c_p3,c_p4,z_p⟩:=cells5 HX_p.out
          go_wp2_with fail
          refine (HI.out _ (HC.out.next HB.out)).mono ?_
          rintro e' u5 ⟨rfl,hb⟩
          clear HI
          clear c_p0 c_p1 c_p2 c_p3 c_p4 z_p
          replace HJ:=cjm HJ hb
          have hgz:=hb.size
          replace HB:=bmb HB hb
          replace HX_a:=bmv HX_a hb
          replace HX_p:=bmv HX_p hb
          clear hb
          have HI:=Lh (fun w' h=>pW T A c last ⟨#[119,104,101,110]⟩ st (j) (0) (0) w' h HP.out)
          rw[show (⟨#[119,104,101,110]⟩:ByteArray).data.toList=Sx.wWhen from rfl] at HI
          unfold pv at HI
          rw[←Hn.out] at HI
          cases hh6:st.hits 1 Sx.wWhen with
          | true=>
           rw[hh6] at HI
           have Hh6:=Lh hh6
           clear hh6
           obtain ⟨c_p0,c_p1,c_p2,c_p3,c_p4,z_p⟩:=cells5 HX_p.out
           go_wp2_with fail
           refine (HI.out _ (HC.out.next HB.out)).mono ?_
           rintro e' u6 ⟨rfl,hb⟩
           clear HI
           clear c_p0 c_p1 c_p2 c_p3 c_p4 z_p
           replace HJ:=cjm HJ hb
           have hgz:=hb.size
           replace HB:=bmb HB hb
           replace HX_a:=bmv HX_a hb
           replace HX_p:=bmv HX_p hb
           clear hb
           have HR2:=Lh (HR.out.trans (Sx.defs_word Sx.wWhen (fun last l=>Sx.clause last l) _ Sx.def_clause Hh6.out))
           have HS2:=Lh (Sx.defs_left (x:=Sx.wWhen) (F:=fun last l=>Sx.clause last l) (last:=last) Sx.cuts_clause HS.out)
           have HT:=Lh (fun w' h=>pClause T A c last st j 0 0 w' h HP.out)
           unfold PRead pv at HT
           rw[←Hn.out] at HT
           clear HR HS
           obtain ⟨c_p0,c_p1,c_p2,c_p3,c_p4,z_p⟩:=cells5 HX_p.out
           go_wp2_with fail
           refine (HT.out _ (HC.out.next HB.out)).mono ?_
           rintro e' w4 ⟨q,vs,k4,x4,p4,rfl,hv,⟨cq,hvs,hq⟩,ha,hb⟩
           have HRq:=Lh hq
           obtain ⟨i0,i1,i2,i3,rfl⟩:=form_clause hq
           subst hvs
           simp only[List.cons_append,List.nil_append]
           obtain ⟨s4,hs4⟩:∃ s4,s4=(Sx.go st (fun l=>(Sx.word last Sx.wWhen l).bind fun _ l=>Sx.clause last l)).void:=⟨_,rfl⟩
           rw[←hs4] at ha HS2
           have HP4:=Lh ha
           have HR5:=Lh (HR2.out.trans (show Sx.go st _=Sx.go s4 _ by rw [hv.step,←hs4]))
           have hgw:=hb.size
           clear hv ha HT hq hs4 HR2
           obtain ⟨lo,hlo⟩:∃ lo,lo=u6.heap.size:=⟨_,rfl⟩
           have hrows:=fun u hu z hz=>(HJ.out.ownGe (u:=u) hu (z:=z) hz).2
           rw[←hlo] at hrows hgw
           have HRows:=Lh hrows
           have hlo1:w.heap.size+2≤lo:=by have:=HJ.out.fr.bel.size;omega
           clear hlo hrows
           clear c_p0 c_p1 c_p2 c_p3 c_p4 z_p
           replace HJ:=cjm HJ hb
           have hgz:=hb.size
           replace HB:=bmb HB hb
           replace HX_a:=bmv HX_a hb
           replace HX_p:=bmv HX_p hb
           clear hb
           obtain ⟨V5,hV5⟩:∃ V,V=w4.alloc (.cells #[.int .i64 i0,.int .i64 i1,.int .i64 i2,.int .i64 i3] 90):=⟨_,rfl⟩
           obtain ⟨HX_t,hb⟩:=bnw hV5
           have hgz:=hb.size
           replace HB:=bmb HB hb
           replace HX_a:=bmv HX_a hb
           replace HX_p:=bmv HX_p hb
           clear hb
           obtain ⟨V6,hV6⟩:∃ V,V=V5.alloc (.cells #[.slice A n c,.int .i64 k4,.int .i64 last,.int .i64 x4,.int .i64 p4] 64):=⟨_,rfl⟩
           obtain ⟨HX_u,hb⟩:=bnw hV6
           have hgz:=hb.size
           replace HB:=bmb HB hb
           replace HX_a:=bmv HX_a hb
           replace HX_p:=bmv HX_p hb
           replace HX_t:=bmv HX_t hb
           clear hb
           rw[hV5] at hV6
           have hsz5:V5.heap.size=w4.heap.size+1:=by rw [hV5];simp
           have hsz6:V6.heap.size=w4.heap.size+2:=by rw [hV6];simp
           replace HX_u:=bat (b:=w4.heap.size+1) HX_u hsz5
           have hb46:Below w4.heap.size w4 V6:=by rw [hV6];exact ((Below.refl _ _).alloc (Nat.le_refl _) _).alloc (by simp) _
           have HJ4:=HJ
           have hz44:=HJ4.out.fr.bel.size
           replace HJ:=cjm HJ hb46
           go_upto_region 33 with fail
           rw[←hV6]
           clear hV5 hV6
           have HX_c:=Lh (show Blk V6 (w.heap.size+1) 30 #[y0,y1,y2,y3,y4,y5,y6] from HJ.out.blk)
           obtain ⟨c_t0,c_t1,c_t2,c_t3,z_t⟩:=cells4 HX_t.out
           obtain ⟨c_c0,c_c1,c_c2,c_c3,c_c4,c_c5,c_c6,z_c⟩:=cells7 HX_c.out
           obtain ⟨V7,hV7⟩:∃ V,V=V6.alloc (.cells #[.int .i64 i0,.int .i64 i1,.int .i64 i2,.int .i64 i3] 90):=⟨_,rfl⟩
           obtain ⟨HX_kb,hb⟩:=bnw hV7
           have hgz:=hb.size
           replace HB:=bmb HB hb
           replace HX_a:=bmv HX_a hb
           replace HX_p:=bmv HX_p hb
           replace HX_t:=bmv HX_t hb
           replace HX_u:=bmv HX_u hb
           replace HX_c:=bmv HX_c hb
           clear hb
           replace HX_kb:=bat (b:=w4.heap.size+2) HX_kb hsz6
           have hsz7:V7.heap.size=w4.heap.size+3:=by rw [hV7];simp[hsz6]
           have hb47:Below w4.heap.size w4 V7:=hb46.trans (by rw [hV7];exact ((Below.refl _ _).alloc (Nat.le_refl _) _).mono (by omega))
           have Hb47:=Lh hb47
           have hbV:Below V6.heap.size V6 V7:=by rw [hV7];exact (Below.refl _ _).alloc (Nat.le_refl _) _
           have hJ7:=(cjm HJ hbV).out
           have hown0:V7.ownsRow V4.heap.size 90 4 y6 r6.length r6.flatten:=hJ7.own 6 y6 r6 rfl rfl
           have HOwn:=Lh hown0
           have hfw:r6.length≤1000000:=HJ4.out.few (n:=1000000) (by have:=HF.out;omega) (i:=6) rfl
           have HO0:=Lh (fun z hz=>own_lt (b:=z) (HJ4.out.own 6 y6 r6 rfl rfl) hz);have HO1:=Lh (fun z hz=>own_ge (b:=z) hown0 hz)
           obtain ⟨ir,hir,rz0,rz1,rz2⟩:=info_parts Tryz.infoClauseD
           clear hJ7 hown0 hb46 hb47 hbV HJ
           go_upto_region 34 with (at_builtin;rw[←hV7];refine wpList_append_lies _ rfl (.tmp 147) (.tmp 149) 28 rfl V4.heap.size 90 ir _ 4 32 Tryz.underlying28 hir rz0 rz1 rz2 rfl (by decide) y6 r6.length _ rfl HOwn.out ⟨w4.heap.size+2,0,none⟩ 1 1 [.int .i64 i0,.int .i64 i1,.int .i64 i2,.int .i64 i3] rfl rfl (World.news_of_block (cs:=#[.int .i64 i0,.int .i64 i1,.int .i64 i2,.int .i64 i3]) (t:=90) (fr:=(0,0)) HX_kb.out) (by simp [Value.oneCell']) (by omega) (by unfold maxLen;omega) (by omega) (by omega) (w4.heap.size+3) hsz7 ?_;intro gg cap w10 hown hgrow hat hlt;have hgn:=HJ4.out.grow (i:=6) (lo:=lo) (gg:=gg) (cap:=cap) (v:=y6) (rs:=r6) (x:=.clause q) (cs:=[.int .i64 i0,.int .i64 i1,.int .i64 i2,.int .i64 i3]) rfl rfl rfl HRq.out rfl (by omega) HRows.out Hb47.out hgrow (by rcases hat with e | e;exact .inl e;right;omega) hown;have HGn:=Lh hgn.2;have hcc:=hgn.1.1;have hcf:=hgn.1.2;have HBn:=Lh (Below.grown HB.out hgrow (by omega) (fun z hz=>by have:=HO1.out z hz;omega));have HXn_a:=Lh (HX_a.out.grown hgrow (fun e=>by have h1:=HO0.out _ e;have h2:=HO1.out _ e;omega));have HXn_p:=Lh (HX_p.out.grown hgrow (fun e=>by have h1:=HO0.out _ e;have h2:=HO1.out _ e;omega));have HXn_u:=Lh (HX_u.out.grown hgrow (fun e=>by have h1:=HO0.out _ e;have h2:=HO1.out _ e;omega));have hg10:=hgrow.size;clear hown hgrow hat hgn)
           clear HB HX_a HX_p HX_t HX_u HX_c HX_kb
           have HB:=HBn
           have HX_a:=HXn_a
           have HX_p:=HXn_p
           have HX_u:=HXn_u
           clear HBn HXn_a HXn_p HXn_u HO0 HO1 HOwn hir rz0 rz1 rz2 HRows
           clear c_t0 c_t1 c_t2 c_t3 z_t c_c0 c_c1 c_c2 c_c3 c_c4 c_c5 c_c6 z_c hcc hcf hV7
           obtain ⟨W11,hW11⟩:∃ V,V=w10.setCell ⟨w.heap.size+1,6,none⟩ (.slice (some ⟨gg,0,none⟩) (r6.length+1) cap):=⟨_,rfl⟩
           have hs11:=bss hW11
           replace HB:=bsb hW11 HB (by omega)
           replace HX_a:=bst hW11 HX_a (by omega)
           replace HX_p:=bst hW11 HX_p (by omega)
           replace HX_u:=bst hW11 HX_u (by omega)
           rw[←hW11] at HGn ⊢
           clear hW11
           obtain ⟨c_u0,c_u1,c_u2,c_u3,c_u4,z_u⟩:=cells5 HX_u.out
           obtain ⟨c_p0,c_p1,c_p2,c_p3,c_p4,z_p⟩:=cells5 HX_p.out
           obtain ⟨f_p0,f_p1,f_p2,f_p3,f_p4⟩:=frees5 HX_p.out
           obtain ⟨W12,hW12,hxn,hfar,hbn⟩:=pstoreB HX_p.out (.slice A n c) (.int .i64 k4) (.int .i64 last) (.int .i64 x4) (.int .i64 p4)
           have HJn:=cjf hfar.1 (hbn w.heap.size W11 (Below.refl _ _) (Nat.le_refl _)) HGn
           replace HX_a:=bfr hfar.1 HX_a (by omega)
           replace HB:=Lh (hbn w.heap.size w HB.out (Nat.le_refl _))
           replace HX_p:=Lh hxn
           clear hxn hfar hbn
           go_wp2_with fail
           rw[←hW12]
           clear hW12
           go_roundg g'
           all_goals first
            | omega
            | exact ⟨_,_,_,s4,k4,x4,p4,HR5,HP4,HS2,Lh (by have:=HF.out;simp[Sx.Cat.size] at this ⊢;omega),Lh (by have:=HJn.out;simpa [itemsOf] using this),HX_a,HX_p,HB⟩
          | false=>
           rw[hh6] at HI
           have Hh6:=Lh hh6
           clear hh6
           obtain ⟨c_p0,c_p1,c_p2,c_p3,c_p4,z_p⟩:=cells5 HX_p.out
           go_wp2_with fail
           refine (HI.out _ (HC.out.next HB.out)).mono ?_
           rintro e' u6 ⟨rfl,hb⟩
           clear HI
           clear c_p0 c_p1 c_p2 c_p3 c_p4 z_p
           replace HJ:=cjm HJ hb
           have hgz:=hb.size
           replace HB:=bmb HB hb
           replace HX_a:=bmv HX_a hb
           replace HX_p:=bmv HX_p hb
           clear hb
           have HR2:=Lh (HR.out.trans (Sx.defs_no Hst.out Hh0.out Hh1.out Hh2.out Hh3.out Hh4.out Hh5.out Hh6.out))
           have HT:=Lh (fun w' h=>pFail T A c last 100 (by decide) st j 0 0 w' h HP.out)
           unfold PPost pv at HT
           rw[←Hn.out] at HT
           have HS2:Hid (∀ l,Sx.go st (fun l=>(Sx.fail last l 100:Sx.R Unit)) = .ok () l→l.length≤g'):=Lh (fun l h=>by rw [Hst.out] at h;cases h)
           obtain ⟨s4,hs4⟩:∃ s4,s4=Sx.go st (fun l=>(Sx.fail last l 100:Sx.R Unit)):=⟨_,rfl⟩
           rw[←hs4] at HR2 HT HS2
           clear HR HS hs4
           obtain ⟨c_p0,c_p1,c_p2,c_p3,c_p4,z_p⟩:=cells5 HX_p.out
           go_wp2_with fail
           refine (HT.out _ (HC.out.next HB.out)).mono ?_
           rintro e' w4 ⟨k4,x4,p4,rfl,ha,hb⟩
           have HP4:=Lh ha
           clear ha HT
           clear c_p0 c_p1 c_p2 c_p3 c_p4 z_p
           replace HJ:=cjm HJ hb
           have hgz:=hb.size
           replace HB:=bmb HB hb
           replace HX_a:=bmv HX_a hb
           replace HX_p:=bmv HX_p hb
           clear hb
           obtain ⟨c_p0,c_p1,c_p2,c_p3,c_p4,z_p⟩:=cells5 HX_p.out
           obtain ⟨f_p0,f_p1,f_p2,f_p3,f_p4⟩:=frees5 HX_p.out
           obtain ⟨W12,hW12,hxn,hfar,hbn⟩:=pstoreB HX_p.out (.slice A n c) (.int .i64 k4) (.int .i64 last) (.int .i64 x4) (.int .i64 p4)
           have HJn:=cjf hfar.1 (hbn w.heap.size w4 (Below.refl _ _) (Nat.le_refl _)) HJ
           replace HX_a:=bfr hfar.1 HX_a (by omega)
           replace HB:=Lh (hbn w.heap.size w HB.out (Nat.le_refl _))
           replace HX_p:=Lh hxn
           clear hxn hfar hbn
           go_wp2_with fail
           rw[←hW12]
           clear hW12
           go_roundg g'
           all_goals first
            | omega
            | exact ⟨cc,_,_,s4,k4,x4,p4,HR2,HP4,HS2,Lh (by have:=HF.out;omega),HJn,HX_a,HX_p,HB⟩
end Go.Proofs.YtjonaidancomgaaGreatDoor
