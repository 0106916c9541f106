/- Parts of the proof, joined into one text: RpTake. -/
import Derived.Test.YtjonaidancomgaaGreatDoorPRpDefA
import Derived.Test.YtjonaidancomgaaGreatDoorPRpRulC
import Derived.Test.YtjonaidancomgaaGreatDoorPRpRulB
import Derived.Test.YtjonaidancomgaaGreatDoorPSxTakeM
import Derived.Test.YtjonaidancomgaaGreatDoorPSxPrC0
import Derived.Deep.CutRange

namespace Go.Proofs.YtjonaidancomgaaGreatDoor
open Go.RowKit

def vReqB (lo:Nat) (w:World) (a:Sx.Req) (vs:List Value):Prop:=∃ cs,vs = [.agg cs.toArray]∧ReqAt w (fun b=>lo≤b∧b < w.heap.size) a cs
section
variable {α : Type} {lo base sz : Nat} {T : TypeId} {P : World → (Nat → Prop) → α → List Value → Prop} {xs : List α} {css : List (List Value)} {v : Value} {w W V : World} {b i : Nat} {u : Value}
theorem GRow.one {x:α} {c:Value} (hb:base≤b) (h:Blk w b T #[c]) (hP:∀ S,P w S x [c]):GRow lo base T 1 P [x] [[c]] (.slice (some ⟨b,0,none⟩) 1 1) w:=
 ⟨⟨rfl,.inr ⟨b,1,#[c],rfl,hb,h,Nat.le_refl _,by unfold maxLen;omega,rfl,rfl⟩⟩,rfl,fun i y cs h1 h2=>by
  cases i with
  | zero=>simp at h1 h2;subst h1;subst h2;exact hP _
  | succ i=>simp at h1⟩
theorem grm (hK:KeepP P) (h:Hid (GRow lo base T sz P xs css v W)) (hb:Below W.heap.size W V):Hid (GRow lo base T sz P xs css v V):=Lh (h.out.next hK hb)
theorem grf (hf:∀ k,k≠b→V.heap[k]?=W.heap[k]?) (hs:V.heap.size=W.heap.size) (hK:KeepP P) (h:Hid (GRow 0 base T sz P xs css v W)) (hn:b < base):Hid (GRow 0 base T sz P xs css v V):=Lh (h.out.keep hK (Nat.le_of_eq hs.symm) fun k _ hk=>hf k (by omega))
theorem grs (e:V=W.setCell ⟨b,i,none⟩ u) (hK:KeepP P) (h:Hid (GRow 0 base T sz P xs css v W)) (hn:b < base):Hid (GRow 0 base T sz P xs css v V):=grf (fun k hk=>by rw [e];exact Below.heap_setCell _ ⟨b,i,none⟩ _ k hk) (bss e) hK h hn
theorem GRow.beside {ob:Option Nat} (h:GRow lo base T sz P xs css v w) (hgrow:w.grownBy V ob) (hne:v.ownBlock=none∨v.ownBlock≠ob) (hPP:∀ S S' x cs,P w S x cs→P V S' x cs):GRow lo base T sz P xs css v V:=
 ⟨h.own.kept hgrow hne,h.len,fun i x cs h1 h2=>hPP _ _ _ _ (h.el i x cs h1 h2)⟩
end
theorem keep_str:KeepP (fun _ _=>StrAt):=fun _ _ _ _ _ _ _ h=>h
theorem take_first {last:Int} {s:Sx.R Unit} {f0:Nat} (hf0:f0+1=max 1 (Sx.fuel s)):∀ l,(Sx.go s (Sx.ref last)).void = .ok () l→l.length≤f0:=fun l h=>by
 obtain ⟨x,hx⟩:=Sx.void_ok h
 obtain ⟨m,rfl,hm⟩:=Sx.go_of_ok hx
 have h1:=Sx.eats_ref last m x l hm
 have h2:f0+1=max 1 m.length.succ:=hf0
 omega
theorem take_next {last:Int} {s:Sx.R Unit} {g:Nat} (hs:∀ l,s = .ok () l→l.length≤g+1):∀ l,(Sx.go (Sx.go s (Sx.sign last 44)) (Sx.ref last)).void = .ok () l→l.length≤g:=fun l h=>by
 obtain ⟨x,hx⟩:=Sx.void_ok h
 obtain ⟨m,hm,he⟩:=Sx.go_of_ok hx
 obtain ⟨m',rfl,hm'⟩:=Sx.go_of_ok hm
 have h1:=Sx.eats_ref last m x l he
 have h2:=Sx.eats_need last 3 [44] m' () m hm'
 have h3:=hs m' rfl
 omega
theorem fuel_small {T:List Lx.Tok} {s:Sx.R Unit} {k e p:Int} {f0:Nat} (h:PAt T s k e p) (hT:T.length≤1000000) (hf0:f0+1=max 1 (Sx.fuel s)):f0≤1000001:=by
 cases s with
 | bad q x=>have h2:f0+1=max 1 0:=hf0;omega
 | ok u l=>
  obtain ⟨-,-,j,-,-,rfl⟩:=h
  have h2:f0+1=max 1 (T.drop j).length.succ:=hf0
  rw[List.length_drop] at h2
  omega
theorem pst6 {w:World} {b:Nat} {t:TypeId} {z0 z1 z2 z3 z4 z5:Value} (h:Blk w b t #[z0,z1,z2,z3,z4,z5]) (a0 a1 a2 a3 a4 a5:Value):∃ W:World,W=(((((w.setCell ⟨b,0,none⟩ a0).setCell ⟨b,1,none⟩ a1).setCell ⟨b,2,none⟩ a2).setCell ⟨b,3,none⟩ a3).setCell ⟨b,4,none⟩ a4).setCell ⟨b,5,none⟩ a5∧Blk W b t #[a0,a1,a2,a3,a4,a5]∧((∀ k,k≠b→W.heap[k]?=w.heap[k]?)∧W.heap.size=w.heap.size)∧∀ (B:Nat) (w0:World),Below B w0 w→B≤b→Below B w0 W:=by
 refine ⟨_,rfl,?_,⟨fun k hk=>?_,by simp [World.setCell]⟩,fun B w0 hb hB=>(((((hb.setCell (p:=⟨b,0,none⟩) hB a0).setCell (p:=⟨b,1,none⟩) hB a1).setCell (p:=⟨b,2,none⟩) hB a2).setCell (p:=⟨b,3,none⟩) hB a3).setCell (p:=⟨b,4,none⟩) hB a4).setCell (p:=⟨b,5,none⟩) hB a5⟩
 ·have:=(((((h.set 0 a0).set 1 a1).set 2 a2).set 3 a3).set 4 a4).set 5 a5
  simpa using this
 ·rw[Below.heap_setCell _ ⟨b,5,none⟩ _ k hk,Below.heap_setCell _ ⟨b,4,none⟩ _ k hk,Below.heap_setCell _ ⟨b,3,none⟩ _ k hk,Below.heap_setCell _ ⟨b,2,none⟩ _ k hk,Below.heap_setCell _ ⟨b,1,none⟩ _ k hk,Below.heap_setCell _ ⟨b,0,none⟩ _ k hk]
set_option maxRecDepth 20000 in
set_option maxHeartbeats 2000000 in
theorem pTake (T:List Lx.Tok) (A:Option Addr) (c:Nat) (last:Int) (s:Sx.R Unit) (k e p:Int) (w:World) (hc:PCtx T A w) (hp:PAt T s k e p) :
  Calls Tryz.prog 99 #[pv A T.length c k last e p] w (PRead T A c last (vReqB w.heap.size) (Sx.go s (fun l=>(Sx.word last Sx.wTake l).bind fun _ l=>Sx.take last l)) w):=by
 have HC:=Lh hc;have HP0:=Lh hp
 have hlen:=hc.toks.len
 obtain ⟨R,hR⟩:∃ R,R=Sx.go s (fun l=>(Sx.word last Sx.wTake l).bind fun _ l=>Sx.take last l):=⟨_,rfl⟩
 obtain ⟨n,hn⟩:∃ n,n=T.length:=⟨_,rfl⟩
 rw[←hR]
 unfold PRead
 have Hn:=Lh hn;have HR0:=Lh hR
 unfold pv
 rw[←hn] at hlen ⊢
 obtain ⟨W1,W2,W3,hW1,hW2,hW3,p1,p2,p3,hb,hsz⟩:=pbox6 w 108 #[.string ⟨#[]⟩,.int .i64 0,.int .i64 0,.bool false,.slice none 0 0,.slice none 0 0] (.slice A n c) (.int .i64 k) (.int .i64 last) (.int .i64 e) (.int .i64 p)
 have HB:=Lh hb;have HX_p:=Lh p1;have HX_a:=Lh p2;have HX_q:=Lh p3
 clear hc hp hn hb p1 p2 p3 hR
 go_enter Tryz.func99,Tryz.ntmps99
 go_upto_region 1 with fail
 rw[←hW1,←hW2,←hW3]
 clear hW1 hW2 hW3
 obtain ⟨X1,hX1⟩:∃ V,V=W3.alloc (.cells #[.string ⟨#[]⟩,.int .i64 0,.int .i64 1,.bool false,.slice none 0 0,.slice none 0 0] 108):=⟨_,rfl⟩
 obtain ⟨HX_x,hb⟩:=bnw hX1
 have hgz:=hb.size
 replace HB:=bmb HB hb
 replace HX_p:=bmv HX_p hb
 replace HX_a:=bmv HX_a hb
 replace HX_q:=bmv HX_q hb
 clear hb
 have hx1:X1.heap.size=w.heap.size+4:=by rw [hX1];simp[hsz]
 replace HX_x:=bat (b:=w.heap.size+1+1+1) HX_x (by omega)
 go_upto_region 2 with fail
 rw[←hX1]
 clear hX1
 obtain ⟨c_p0,c_p1,c_p2,c_p3,c_p4,z_p⟩:=cells5 HX_p.out
 have HW:=Lh (fun w' h=>pWord T A c last ⟨#[116,97,107,101]⟩ s (k) (e) (p) w' h HP0.out)
 rw[show Sx.need last 1 (⟨#[116,97,107,101]⟩:ByteArray).data.toList=Sx.word last Sx.wTake from rfl] at HW
 unfold PPost pv at HW
 rw[←Hn.out] at HW
 obtain ⟨s1,hs⟩:∃ s',s'=Sx.go s (Sx.word last Sx.wTake):=⟨_,rfl⟩
 rw[←hs] at HW
 have HR1:=Lh (HR0.out.trans ((Sx.go_unit _ _ _).trans (by rw [←hs])))
 clear hs HR0
 go_wp2_with fail
 refine (HW.out _ (HC.out.next HB.out)).mono ?_
 rintro e' v1 ⟨k1,x1,p1,rfl,ha,hb⟩
 have HP1:=Lh ha
 clear ha HW
 clear c_p0 c_p1 c_p2 c_p3 c_p4 z_p
 have hgz:=hb.size
 replace HB:=bmb HB hb
 replace HX_p:=bmv HX_p hb
 replace HX_a:=bmv HX_a hb
 replace HX_q:=bmv HX_q hb
 replace HX_x:=bmv HX_x hb
 clear hb
 replace HR1:=Lh (HR1.out.trans (by rw [funext (Sx.take_steps (last:=last))]))
 have HW:=Lh (fun w' h=>pName T A c last s1 (k1) (x1) (p1) w' h HP1.out)
 unfold PRead pv at HW
 rw[←Hn.out] at HW
 obtain ⟨s2,hs⟩:∃ s',s'=(Sx.go s1 (Sx.name last)).void:=⟨_,rfl⟩
 go_wp2_with fail
 refine (HW.out _ (HC.out.next HB.out)).mono ?_
 rintro e' v2 ⟨nm,vs,k2,x2,p2,rfl,hv,hvs,ha,hb⟩
 rw[←hs] at ha
 have HP2:=Lh ha
 have HR2:=Lh (HR1.out.trans ((Sx.R.Val.step hv _).trans (by rw [←hs])))
 obtain ⟨hvs,hl⟩:=hvs
 unfold strV at hvs
 subst hvs
 have HL:=Lh hl
 clear hl
 simp only[List.cons_append,List.nil_append]
 clear hs ha hv HW HR1
 have hgz:=hb.size
 replace HB:=bmb HB hb
 replace HX_p:=bmv HX_p hb
 replace HX_a:=bmv HX_a hb
 replace HX_q:=bmv HX_q hb
 replace HX_x:=bmv HX_x hb
 clear hb
 obtain ⟨c_p0,c_p1,c_p2,c_p3,c_p4,z_p⟩:=cells5 HX_p.out
 obtain ⟨f_p0,f_p1,f_p2,f_p3,f_p4⟩:=frees5 HX_p.out
 obtain ⟨c_x0,c_x1,c_x2,c_x3,c_x4,c_x5,z_x⟩:=cells6 HX_x.out
 obtain ⟨f_x0,f_x1,f_x2,f_x3,f_x4,f_x5⟩:=frees6 HX_x.out
 obtain ⟨A0,hA0⟩:∃ V,V=v2.setCell ⟨(w.heap.size+1+1+1),0,none⟩ (.string (Lx.bs nm)):=⟨_,rfl⟩
 have hsz_A0:=bss hA0
 replace HB:=bsb hA0 HB (by omega)
 replace HX_p:=bst hA0 HX_p (by omega)
 replace HX_a:=bst hA0 HX_a (by omega)
 replace HX_q:=bst hA0 HX_q (by omega)
 replace HX_x:=bsc hA0 HX_x (cs':=#[.string (Lx.bs nm),.int .i64 0,.int .i64 1,.bool false,.slice none 0 0,.slice none 0 0]) (by simp)
 obtain ⟨Ap,hAp,hxn,hfar,hbn⟩:=pstoreB HX_p.out (.slice A n c) (.int .i64 k2) (.int .i64 last) (.int .i64 x2) (.int .i64 p2)
 replace HB:=Lh (hbn w.heap.size w HB.out (by omega))
 replace HX_a:=bfr hfar.1 HX_a (by omega)
 replace HX_q:=bfr hfar.1 HX_q (by omega)
 replace HX_x:=bfr hfar.1 HX_x (by omega)
 replace HX_p:=Lh hxn
 have hsz_Ap:=hfar.2
 clear hxn hfar hbn
 rw[hA0] at hAp
 go_upto_region 3 with fail
 rw[←hAp]
 clear hA0 hAp
 clear c_p0 c_p1 c_p2 c_p3 c_p4 z_p f_p0 f_p1 f_p2 f_p3 f_p4 c_x0 c_x1 c_x2 c_x3 c_x4 c_x5 z_x f_x0 f_x1 f_x2 f_x3 f_x4 f_x5
 obtain ⟨c_p0,c_p1,c_p2,c_p3,c_p4,z_p⟩:=cells5 HX_p.out
 have HW:=Lh (fun w' h=>pNumber T A c last 1 10000 s2 (k2) (x2) (p2) w' h HP2.out)
 unfold PRead pv at HW
 rw[←Hn.out] at HW
 obtain ⟨s3,hs⟩:∃ s',s'=(Sx.go s2 (Sx.number last 1 10000)).void:=⟨_,rfl⟩
 go_wp2_with fail
 refine (HW.out _ (HC.out.next HB.out)).mono ?_
 rintro e' v3 ⟨cr,vs,k3,x3,p3,rfl,hv,hvs,ha,hb⟩
 rw[←hs] at ha
 have HP3:=Lh ha
 have HR3:=Lh (HR2.out.trans ((Sx.R.Val.step hv _).trans (by rw [←hs])))
 unfold vInts intV at hvs
 subst hvs
 simp only[List.cons_append,List.nil_append]
 clear hs ha hv HW HR2
 clear c_p0 c_p1 c_p2 c_p3 c_p4 z_p
 have hgz:=hb.size
 replace HB:=bmb HB hb
 replace HX_p:=bmv HX_p hb
 replace HX_a:=bmv HX_a hb
 replace HX_q:=bmv HX_q hb
 replace HX_x:=bmv HX_x hb
 clear hb
 obtain ⟨c_p0,c_p1,c_p2,c_p3,c_p4,z_p⟩:=cells5 HX_p.out
 obtain ⟨f_p0,f_p1,f_p2,f_p3,f_p4⟩:=frees5 HX_p.out
 obtain ⟨c_x0,c_x1,c_x2,c_x3,c_x4,c_x5,z_x⟩:=cells6 HX_x.out
 obtain ⟨f_x0,f_x1,f_x2,f_x3,f_x4,f_x5⟩:=frees6 HX_x.out
 obtain ⟨B0,hB0⟩:∃ V,V=v3.setCell ⟨(w.heap.size+1+1+1),1,none⟩ (.int .i64 cr):=⟨_,rfl⟩
 have hsz_B0:=bss hB0
 replace HB:=bsb hB0 HB (by omega)
 replace HX_p:=bst hB0 HX_p (by omega)
 replace HX_a:=bst hB0 HX_a (by omega)
 replace HX_q:=bst hB0 HX_q (by omega)
 replace HX_x:=bsc hB0 HX_x (cs':=#[.string (Lx.bs nm),.int .i64 cr,.int .i64 1,.bool false,.slice none 0 0,.slice none 0 0]) (by simp)
 obtain ⟨Bp,hBp,hxn,hfar,hbn⟩:=pstoreB HX_p.out (.slice A n c) (.int .i64 k3) (.int .i64 last) (.int .i64 x3) (.int .i64 p3)
 replace HB:=Lh (hbn w.heap.size w HB.out (by omega))
 replace HX_a:=bfr hfar.1 HX_a (by omega)
 replace HX_q:=bfr hfar.1 HX_q (by omega)
 replace HX_x:=bfr hfar.1 HX_x (by omega)
 replace HX_p:=Lh hxn
 have hsz_Bp:=hfar.2
 clear hxn hfar hbn
 rw[hB0] at hBp
 go_upto_region 4 with fail
 rw[←hBp]
 clear hB0 hBp
 clear c_p0 c_p1 c_p2 c_p3 c_p4 z_p f_p0 f_p1 f_p2 f_p3 f_p4 c_x0 c_x1 c_x2 c_x3 c_x4 c_x5 z_x f_x0 f_x1 f_x2 f_x3 f_x4 f_x5
 obtain ⟨c_p0,c_p1,c_p2,c_p3,c_p4,z_p⟩:=cells5 HX_p.out
 have HW:=Lh (fun w' h=>pWord T A c last ⟨#[102,114,111,109]⟩ s3 (k3) (x3) (p3) w' h HP3.out)
 rw[show Sx.need last 1 (⟨#[102,114,111,109]⟩:ByteArray).data.toList=Sx.word last Sx.wFrom from rfl] at HW
 unfold PPost pv at HW
 rw[←Hn.out] at HW
 obtain ⟨s4,hs⟩:∃ s',s'=Sx.go s3 (Sx.word last Sx.wFrom):=⟨_,rfl⟩
 rw[←hs] at HW
 have HR4:=Lh (HR3.out.trans ((Sx.go_unit _ _ _).trans (by rw [←hs])))
 clear hs HR3
 go_wp2_with fail
 refine (HW.out _ (HC.out.next HB.out)).mono ?_
 rintro e' v4 ⟨k4,x4,p4,rfl,ha,hb⟩
 have HP4:=Lh ha
 clear ha HW
 clear c_p0 c_p1 c_p2 c_p3 c_p4 z_p
 have hgz:=hb.size
 replace HB:=bmb HB hb
 replace HX_p:=bmv HX_p hb
 replace HX_a:=bmv HX_a hb
 replace HX_q:=bmv HX_q hb
 replace HX_x:=bmv HX_x hb
 clear hb
 obtain ⟨f0,hf0⟩:∃ f0,f0+1=max 1 (Sx.fuel s4):=⟨max 1 (Sx.fuel s4) - 1,by omega⟩
 replace HR4:=Lh (show R=Sx.go s4 (fun l=>(Sx.ref last l).bind fun r l=>(Sx.refsB last f0 [r] l).bind fun rs l=>Sx.takeF last nm cr rs l) from by rw [HR4.out];cases h:s4 with | bad p e=>rfl | ok u l=>rw [Sx.goOk,Sx.goOk,show l.length.succ=f0+1 by rw [hf0,h];simp[Sx.fuel],Sx.refs_succ];show ((Sx.ref last l).bind _).bind _=(Sx.ref last l).bind _;cases Sx.ref last l <;> rfl)
 have HF0:=Lh (take_first (last:=last) hf0)
 have hf1:=fuel_small HP4.out HC.out.few hf0
 have HW:=Lh (fun w' h=>pRef T A c last s4 (k4) (x4) (p4) w' h HP4.out)
 unfold PRead pv at HW
 rw[←Hn.out] at HW
 obtain ⟨s5,hs⟩:∃ s',s'=(Sx.go s4 (Sx.ref last)).void:=⟨_,rfl⟩
 go_wp2_with fail
 refine (HW.out _ (HC.out.next HB.out)).mono ?_
 rintro e' v5 ⟨⟨na,xa⟩,vs,k5,x5,p5,rfl,hv,hvs,ha,hb⟩
 rw[←hs] at ha HF0
 have HP5:=Lh ha
 have HR5:=Lh (HR4.out.trans ((Sx.R.Val.step hv _).trans (by rw [←hs])))
 obtain ⟨hvs,hl⟩:=hvs
 unfold strV intV at hvs
 dsimp only at hvs hl
 subst hvs
 have HL1:=Lh hl
 clear hl
 simp only[List.cons_append,List.nil_append]
 clear hs ha hv HW HR4
 have hgz:=hb.size
 replace HB:=bmb HB hb
 replace HX_p:=bmv HX_p hb
 replace HX_a:=bmv HX_a hb
 replace HX_q:=bmv HX_q hb
 replace HX_x:=bmv HX_x hb
 clear hb
 obtain ⟨Y1,hY1⟩:∃ V,V=v5.alloc (.cells #[.slice A n c,.int .i64 k5,.int .i64 last,.int .i64 x5,.int .i64 p5] 64):=⟨_,rfl⟩
 obtain ⟨HX_y,hb⟩:=bnw hY1
 have hgz:=hb.size
 replace HB:=bmb HB hb
 replace HX_p:=bmv HX_p hb
 replace HX_a:=bmv HX_a hb
 replace HX_q:=bmv HX_q hb
 replace HX_x:=bmv HX_x hb
 clear hb
 go_upto_region 5 with fail
 rw[←hY1]
 have hy1:Y1.heap.size=v5.heap.size+1:=by rw [hY1];simp
 have HYs:=Lh hy1
 clear hY1 hy1
 obtain ⟨c_x0,c_x1,c_x2,c_x3,c_x4,c_x5,z_x⟩:=cells6 HX_x.out
 obtain ⟨f_x0,f_x1,f_x2,f_x3,f_x4,f_x5⟩:=frees6 HX_x.out
 obtain ⟨N1,hN1⟩:∃ V,V=Y1.setCell ⟨(w.heap.size+1+1+1),4,none⟩ (.slice (some ⟨Y1.heap.size,0,none⟩) 1 1):=⟨_,rfl⟩
 have hsz_N1:=bss hN1
 replace HB:=bsb hN1 HB (by omega)
 replace HX_p:=bst hN1 HX_p (by omega)
 replace HX_a:=bst hN1 HX_a (by omega)
 replace HX_q:=bst hN1 HX_q (by omega)
 replace HX_y:=bst hN1 HX_y (by omega)
 replace HX_x:=bsc hN1 HX_x (cs':=#[.string (Lx.bs nm),.int .i64 cr,.int .i64 1,.bool false,.slice (some ⟨Y1.heap.size,0,none⟩) 1 1,.slice none 0 0]) (by simp)
 obtain ⟨N2,hN2⟩:∃ V,V=N1.alloc (.cells #[.string (Lx.bs na)] 9):=⟨_,rfl⟩
 obtain ⟨HX_na,hb⟩:=bnw hN2
 have hgz:=hb.size
 replace HB:=bmb HB hb
 replace HX_p:=bmv HX_p hb
 replace HX_a:=bmv HX_a hb
 replace HX_q:=bmv HX_q hb
 replace HX_x:=bmv HX_x hb
 replace HX_y:=bmv HX_y hb
 clear hb
 replace HX_na:=bat (b:=Y1.heap.size) HX_na (hsz_N1)
 rw[hN1] at hN2
 go_upto_region 6 with fail
 rw[←hN2]
 clear hN1 hN2
 clear c_x0 c_x1 c_x2 c_x3 c_x4 c_x5 z_x f_x0 f_x1 f_x2 f_x3 f_x4 f_x5
 obtain ⟨c_x0,c_x1,c_x2,c_x3,c_x4,c_x5,z_x⟩:=cells6 HX_x.out
 obtain ⟨f_x0,f_x1,f_x2,f_x3,f_x4,f_x5⟩:=frees6 HX_x.out
 obtain ⟨M1,hM1⟩:∃ V,V=N2.setCell ⟨(w.heap.size+1+1+1),5,none⟩ (.slice (some ⟨N2.heap.size,0,none⟩) 1 1):=⟨_,rfl⟩
 have hsz_M1:=bss hM1
 replace HB:=bsb hM1 HB (by omega)
 replace HX_p:=bst hM1 HX_p (by omega)
 replace HX_a:=bst hM1 HX_a (by omega)
 replace HX_q:=bst hM1 HX_q (by omega)
 replace HX_y:=bst hM1 HX_y (by omega)
 replace HX_na:=bst hM1 HX_na (by omega)
 replace HX_x:=bsc hM1 HX_x (cs':=#[.string (Lx.bs nm),.int .i64 cr,.int .i64 1,.bool false,.slice (some ⟨Y1.heap.size,0,none⟩) 1 1,.slice (some ⟨N2.heap.size,0,none⟩) 1 1]) (by simp)
 obtain ⟨M2,hM2⟩:∃ V,V=M1.alloc (.cells #[.int .i64 xa] 3):=⟨_,rfl⟩
 obtain ⟨HX_nf,hb⟩:=bnw hM2
 have hgz:=hb.size
 replace HB:=bmb HB hb
 replace HX_p:=bmv HX_p hb
 replace HX_a:=bmv HX_a hb
 replace HX_q:=bmv HX_q hb
 replace HX_x:=bmv HX_x hb
 replace HX_y:=bmv HX_y hb
 replace HX_na:=bmv HX_na hb
 clear hb
 replace HX_nf:=bat (b:=N2.heap.size) HX_nf (hsz_M1)
 rw[hM1] at hM2
 go_wp2_with fail
 rw[←hM2]
 clear hM1 hM2
 clear c_x0 c_x1 c_x2 c_x3 c_x4 c_x5 z_x f_x0 f_x1 f_x2 f_x3 f_x4 f_x5
 clear HX_p
 have hY:=HYs.out
 have HGN:=Lh (GRow.one (lo:=0) (base:=v5.heap.size+1) (P:=fun _ _=>StrAt) (x:=na) (by omega) HX_na.out (fun _=>⟨rfl,HL1.out⟩))
 have HGF:=Lh (GRow.one (lo:=0) (base:=v5.heap.size+1) (P:=fun _ _=>OneAt intV) (x:=xa) (by omega) HX_nf.out (fun _=>rfl))
 have hz5:w.heap.size+4≤v5.heap.size:=by have:=HX_x.out.lt;omega
 have hzm:v5.heap.size+1≤M2.heap.size:=by omega
 have HX_n1:=HX_na;have HX_n2:=HX_nf
 clear HX_na HX_nf HX_n1 HX_n2 hf0 hY
 go_loopg [5,6] f0 (fun gk v5_ v6_ wr=>∃ (rs:List (List UInt8 × Int)) (nss iss:List (List Value)) (rA rE:Option Addr) (rc re i:Nat) (st:Sx.R Unit) (kx ex px:Int),i=rs.length∧i+gk≤1000002∧Hid (R=Sx.go st fun l=>(Sx.refsB last gk rs l).bind fun rs l=>Sx.takeF last nm cr rs l)∧Hid (PAt T st kx ex px)∧Hid (∀ l,st = .ok () l→l.length≤gk)∧Hid (GRow 0 (v5.heap.size+1) 9 1 (fun _ _=>StrAt) (rs.map Prod.fst) nss (.slice rA i rc) wr)∧Hid (GRow 0 (v5.heap.size+1) 3 1 (fun _ _=>OneAt intV) (rs.map Prod.snd) iss (.slice rE i re) wr)∧Hid (Blk wr (w.heap.size+1) 108 #[.string ⟨#[]⟩,.int .i64 0,.int .i64 0,.bool false,.slice none 0 0,.slice none 0 0])∧Hid (Blk wr (w.heap.size+1+1) 64 #[.slice none 0 0,.int .i64 0,.int .i64 0,.int .i64 0,.int .i64 0])∧Hid (Blk wr (w.heap.size+1+1+1) 108 #[.string (Lx.bs nm),.int .i64 cr,.int .i64 1,.bool false,.slice rA i rc,.slice rE i re])∧Hid (Blk wr v5.heap.size 64 #[.slice A n c,.int .i64 kx,.int .i64 last,.int .i64 ex,.int .i64 px])∧Hid (Below w.heap.size w wr)∧Hid (v5.heap.size+1≤wr.heap.size))
 case atStart=>exact ⟨[(na,xa)],_,_,_,_,_,_,1,s5,k5,x5,p5,rfl,by omega,HR5,HP5,HF0,HGN,HGF,HX_a,HX_q,HX_x,HX_y,HB,Lh hzm⟩
 case round=>
  clear HGN HGF HX_a HX_q HX_x HX_y HB HR5 HP5 HF0 hzm
  obtain ⟨rs,nss,iss,rA,rE,rc,re,i,st,kx,ex,px,hi,hi64,HR,HP,HS,HGN,HGF,HX_a,HX_q,HX_x,HX_y,HB,HZ⟩:=hrel
  have Hi:=Lh hi
  have hz:=HZ.out
  clear hi
  have HI:=Lh (fun w' h=>pS T A c last ⟨#[44]⟩ st kx ex px w' h HP.out)
  rw[show (⟨#[44]⟩:ByteArray).data.toList = [44] from rfl] at HI
  unfold pv at HI
  rw[←Hn.out] at HI
  cases hh:st.hits 3 [44] with
  | false=>
   rw[hh] at HI
   replace HR:=Lh (HR.out.trans (Sx.refs_end _ hh))
   clear hh HS
   obtain ⟨c_y0,c_y1,c_y2,c_y3,c_y4,z_y⟩:=cells5 HX_y.out
   go_wp2_with fail
   refine (HI.out _ (HC.out.next HB.out)).mono ?_
   rintro e' wz ⟨rfl,hb⟩
   clear HI
   clear c_y0 c_y1 c_y2 c_y3 c_y4 z_y
   have hgz:=hb.size
   replace HB:=bmb HB hb
   replace HX_a:=bmv HX_a hb
   replace HX_q:=bmv HX_q hb
   replace HX_x:=bmv HX_x hb
   replace HX_y:=bmv HX_y hb
   replace HGN:=grm keep_str HGN hb
   replace HGF:=grm keep_int HGF hb
   clear hb
   go_upto_region 11 with fail
   have HI:=Lh (fun w' h=>pW T A c last ⟨#[97,116]⟩ st (kx) (ex) (px) w' h HP.out)
   rw[show (⟨#[97,116]⟩:ByteArray).data.toList=Sx.wAt from rfl] at HI
   unfold pv at HI
   rw[←Hn.out] at HI
   obtain ⟨c_y0,c_y1,c_y2,c_y3,c_y4,z_y⟩:=cells5 HX_y.out
   go_wp2_with fail
   refine (HI.out _ (HC.out.next HB.out)).mono ?_
   rintro e' v31 ⟨rfl,hb⟩
   clear HI
   clear c_y0 c_y1 c_y2 c_y3 c_y4 z_y
   have hgz:=hb.size
   replace HB:=bmb HB hb
   replace HX_a:=bmv HX_a hb
   replace HX_q:=bmv HX_q hb
   replace HX_x:=bmv HX_x hb
   replace HX_y:=bmv HX_y hb
   replace HGN:=grm keep_str HGN hb
   replace HGF:=grm keep_int HGF hb
   clear hb
   go_upto_if 57 with fail
   go_cut [] from 57 to 64 (fun wx=>∃ (g:Int) (s5_:Sx.R Unit) (k5_ x5_ p5_:Int),Hid (R=Sx.go s5_ (Sx.takeG last nm cr rs g))∧Hid (PAt T s5_ k5_ x5_ p5_)∧Hid (GRow 0 (v5.heap.size+1) 9 1 (fun _ _=>StrAt) (rs.map Prod.fst) nss (.slice rA i rc) wx)∧Hid (GRow 0 (v5.heap.size+1) 3 1 (fun _ _=>OneAt intV) (rs.map Prod.snd) iss (.slice rE i re) wx)∧Hid (Blk wx (w.heap.size+1) 108 #[.string ⟨#[]⟩,.int .i64 0,.int .i64 0,.bool false,.slice none 0 0,.slice none 0 0])∧Hid (Blk wx (w.heap.size+1+1) 64 #[.slice none 0 0,.int .i64 0,.int .i64 0,.int .i64 0,.int .i64 0])∧Hid (Blk wx (w.heap.size+1+1+1) 108 #[.string (Lx.bs nm),.int .i64 cr,.int .i64 g,.bool false,.slice rA i rc,.slice rE i re])∧Hid (Blk wx v5.heap.size 64 #[.slice A n c,.int .i64 k5_,.int .i64 last,.int .i64 x5_,.int .i64 p5_])∧Hid (Below w.heap.size w wx)∧Hid (v5.heap.size+1≤wx.heap.size))
   case first=>
    cases hh:(st).hits 1 Sx.wAt with
    | false=>
     have HRn:=Lh (HR.out.trans (Sx.takeF_no hh))
     clear hh
     go_wp2_with fail
     go_meet
     exact ⟨1,_,_,_,_,HRn,HP,HGN,HGF,HX_a,HX_q,HX_x,HX_y,HB,Lh (by omega)⟩
    | true=>
     replace HR:=Lh (HR.out.trans (Sx.takeF_yes hh))
     clear hh
     obtain ⟨c_y0,c_y1,c_y2,c_y3,c_y4,z_y⟩:=cells5 HX_y.out
     have HW:=Lh (fun w' h=>pWord T A c last ⟨#[97,116]⟩ st (kx) (ex) (px) w' h HP.out)
     rw[show Sx.need last 1 (⟨#[97,116]⟩:ByteArray).data.toList=Sx.word last Sx.wAt from rfl] at HW
     unfold PPost pv at HW
     rw[←Hn.out] at HW
     obtain ⟨s32,hs⟩:∃ s',s'=Sx.go st (Sx.word last Sx.wAt):=⟨_,rfl⟩
     rw[←hs] at HW
     have HR32:=Lh (HR.out.trans ((Sx.go_unit _ _ _).trans (by rw [←hs])))
     clear hs HR
     go_wp2_with fail
     refine (HW.out _ (HC.out.next HB.out)).mono ?_
     rintro e' v32 ⟨k32,x32,p32,rfl,ha,hb⟩
     have HP32:=Lh ha
     clear ha HW
     clear c_y0 c_y1 c_y2 c_y3 c_y4 z_y
     have hgz:=hb.size
     replace HB:=bmb HB hb
     replace HX_a:=bmv HX_a hb
     replace HX_q:=bmv HX_q hb
     replace HX_x:=bmv HX_x hb
     replace HX_y:=bmv HX_y hb
     replace HGN:=grm keep_str HGN hb
     replace HGF:=grm keep_int HGF hb
     clear hb
     have HW:=Lh (fun w' h=>pNumber T A c last 0 12 s32 (k32) (x32) (p32) w' h HP32.out)
     unfold PRead pv at HW
     rw[←Hn.out] at HW
     obtain ⟨s33,hs⟩:∃ s',s'=(Sx.go s32 (Sx.number last 0 12)).void:=⟨_,rfl⟩
     go_wp2_with fail
     refine (HW.out _ (HC.out.next HB.out)).mono ?_
     rintro e' v33 ⟨gr,vs,k33,x33,p33,rfl,hv,hvs,ha,hb⟩
     rw[←hs] at ha
     have HP33:=Lh ha
     have HR33:=Lh (HR32.out.trans ((Sx.R.Val.step hv _).trans (by rw [←hs])))
     unfold vInts intV at hvs
     subst hvs
     simp only[List.cons_append,List.nil_append]
     clear hs ha hv HW HR32
     have hgz:=hb.size
     replace HB:=bmb HB hb
     replace HX_a:=bmv HX_a hb
     replace HX_q:=bmv HX_q hb
     replace HX_x:=bmv HX_x hb
     replace HX_y:=bmv HX_y hb
     replace HGN:=grm keep_str HGN hb
     replace HGF:=grm keep_int HGF hb
     clear hb
     obtain ⟨c_x0,c_x1,c_x2,c_x3,c_x4,c_x5,z_x⟩:=cells6 HX_x.out
     obtain ⟨f_x0,f_x1,f_x2,f_x3,f_x4,f_x5⟩:=frees6 HX_x.out
     obtain ⟨c_y0,c_y1,c_y2,c_y3,c_y4,z_y⟩:=cells5 HX_y.out
     obtain ⟨f_y0,f_y1,f_y2,f_y3,f_y4⟩:=frees5 HX_y.out
     obtain ⟨J1,hJ1⟩:∃ V,V=v33.setCell ⟨(w.heap.size+1+1+1),2,none⟩ (.int .i64 gr):=⟨_,rfl⟩
     have hsz_J1:=bss hJ1
     replace HB:=bsb hJ1 HB (by omega)
     replace HX_a:=bst hJ1 HX_a (by omega)
     replace HX_q:=bst hJ1 HX_q (by omega)
     replace HX_y:=bst hJ1 HX_y (by omega)
     replace HGN:=grs hJ1 keep_str HGN (by omega)
     replace HGF:=grs hJ1 keep_int HGF (by omega)
     replace HX_x:=bsc hJ1 HX_x (cs':=#[.string (Lx.bs nm),.int .i64 cr,.int .i64 gr,.bool false,.slice rA i rc,.slice rE i re]) (by simp)
     obtain ⟨J2,hJ2,hxn,hfar,hbn⟩:=pstoreB HX_y.out (.slice A n c) (.int .i64 k33) (.int .i64 last) (.int .i64 x33) (.int .i64 p33)
     replace HB:=Lh (hbn w.heap.size w HB.out (by omega))
     replace HX_a:=bfr hfar.1 HX_a (by omega)
     replace HX_q:=bfr hfar.1 HX_q (by omega)
     replace HX_x:=bfr hfar.1 HX_x (by omega)
     replace HX_y:=Lh hxn
     replace HGN:=grf hfar.1 hfar.2 keep_str HGN (by omega)
     replace HGF:=grf hfar.1 hfar.2 keep_int HGF (by omega)
     have hsz_J2:=hfar.2
     clear hxn hfar hbn
     rw[hJ1] at hJ2
     go_wp2_with fail
     rw[←hJ2]
     go_meet
     exact ⟨gr,_,k33,x33,p33,HR33,HP33,HGN,HGF,HX_a,HX_q,HX_x,HX_y,HB,Lh (by omega)⟩
   case rest=>
    clear HB HGN HGF hz HX_a HX_q HX_x HX_y
    obtain ⟨g,s5_,k5_,x5_,p5_,HRc,HPc,HGN,HGF,HX_a,HX_q,HX_x,HX_y,HB,HZ⟩:=hcut
    have hz:=HZ.out
    replace HRc:=Lh (show R=Sx.go s5_ (Sx.takeG last nm cr rs g) from HRc.out)
    go_upto_region 13 with fail
    have HI:=Lh (fun w' h=>pW T A c last ⟨#[104,111,109,101]⟩ s5_ (k5_) (x5_) (p5_) w' h HPc.out)
    rw[show (⟨#[104,111,109,101]⟩:ByteArray).data.toList=Sx.wHome from rfl] at HI
    unfold pv at HI
    rw[←Hn.out] at HI
    obtain ⟨c_y0,c_y1,c_y2,c_y3,c_y4,z_y⟩:=cells5 HX_y.out
    go_wp2_with fail
    refine (HI.out _ (HC.out.next HB.out)).mono ?_
    rintro e' v32 ⟨rfl,hb⟩
    clear HI
    clear c_y0 c_y1 c_y2 c_y3 c_y4 z_y
    have hgz:=hb.size
    replace HB:=bmb HB hb
    replace HX_a:=bmv HX_a hb
    replace HX_q:=bmv HX_q hb
    replace HX_x:=bmv HX_x hb
    replace HX_y:=bmv HX_y hb
    replace HGN:=grm keep_str HGN hb
    replace HGF:=grm keep_int HGF hb
    clear hb
    go_upto_if 66 with fail
    go_cut [] from 66 to 69 (fun wx=>∃ (hm:Bool) (s5_:Sx.R Unit) (k5_ x5_ p5_:Int),Hid (R=Sx.go s5_ (Sx.takeH last nm cr rs g hm))∧Hid (PAt T s5_ k5_ x5_ p5_)∧Hid (GRow 0 (v5.heap.size+1) 9 1 (fun _ _=>StrAt) (rs.map Prod.fst) nss (.slice rA i rc) wx)∧Hid (GRow 0 (v5.heap.size+1) 3 1 (fun _ _=>OneAt intV) (rs.map Prod.snd) iss (.slice rE i re) wx)∧Hid (Blk wx (w.heap.size+1) 108 #[.string ⟨#[]⟩,.int .i64 0,.int .i64 0,.bool false,.slice none 0 0,.slice none 0 0])∧Hid (Blk wx (w.heap.size+1+1) 64 #[.slice none 0 0,.int .i64 0,.int .i64 0,.int .i64 0,.int .i64 0])∧Hid (Blk wx (w.heap.size+1+1+1) 108 #[.string (Lx.bs nm),.int .i64 cr,.int .i64 g,.bool hm,.slice rA i rc,.slice rE i re])∧Hid (Blk wx v5.heap.size 64 #[.slice A n c,.int .i64 k5_,.int .i64 last,.int .i64 x5_,.int .i64 p5_])∧Hid (Below w.heap.size w wx)∧Hid (v5.heap.size+1≤wx.heap.size))
    case first=>
     cases hh:(s5_).hits 1 Sx.wHome with
     | false=>
      have HRn:=Lh (HRc.out.trans (Sx.takeG_no hh))
      clear hh
      go_wp2_with fail
      go_meet
      exact ⟨false,_,_,_,_,HRn,HPc,HGN,HGF,HX_a,HX_q,HX_x,HX_y,HB,Lh (by omega)⟩
     | true=>
      replace HRc:=Lh (HRc.out.trans (Sx.takeG_yes hh))
      clear hh
      obtain ⟨c_x0,c_x1,c_x2,c_x3,c_x4,c_x5,z_x⟩:=cells6 HX_x.out
      obtain ⟨f_x0,f_x1,f_x2,f_x3,f_x4,f_x5⟩:=frees6 HX_x.out
      obtain ⟨L1,hL1⟩:∃ V,V=v32.setCell ⟨(w.heap.size+1+1+1),3,none⟩ (.bool true):=⟨_,rfl⟩
      have hsz_L1:=bss hL1
      replace HB:=bsb hL1 HB (by omega)
      replace HX_a:=bst hL1 HX_a (by omega)
      replace HX_q:=bst hL1 HX_q (by omega)
      replace HX_y:=bst hL1 HX_y (by omega)
      replace HGN:=grs hL1 keep_str HGN (by omega)
      replace HGF:=grs hL1 keep_int HGF (by omega)
      replace HX_x:=bsc hL1 HX_x (cs':=#[.string (Lx.bs nm),.int .i64 cr,.int .i64 g,.bool true,.slice rA i rc,.slice rE i re]) (by simp)
      go_upto_region 15 with fail
      rw[←hL1]
      clear hL1
      clear c_x0 c_x1 c_x2 c_x3 c_x4 c_x5 z_x f_x0 f_x1 f_x2 f_x3 f_x4 f_x5
      obtain ⟨c_y0,c_y1,c_y2,c_y3,c_y4,z_y⟩:=cells5 HX_y.out
      have HW:=Lh (fun w' h=>pWord T A c last ⟨#[104,111,109,101]⟩ s5_ (k5_) (x5_) (p5_) w' h HPc.out)
      rw[show Sx.need last 1 (⟨#[104,111,109,101]⟩:ByteArray).data.toList=Sx.word last Sx.wHome from rfl] at HW
      unfold PPost pv at HW
      rw[←Hn.out] at HW
      obtain ⟨s33,hs⟩:∃ s',s'=Sx.go s5_ (Sx.word last Sx.wHome):=⟨_,rfl⟩
      rw[←hs] at HW
      have HR33:=Lh (HRc.out.trans ((Sx.go_unit _ _ _).trans (by rw [←hs])))
      clear hs HRc
      go_wp2_with fail
      refine (HW.out _ (HC.out.next HB.out)).mono ?_
      rintro e' v33 ⟨k33,x33,p33,rfl,ha,hb⟩
      have HP33:=Lh ha
      clear ha HW
      clear c_y0 c_y1 c_y2 c_y3 c_y4 z_y
      have hgz:=hb.size
      replace HB:=bmb HB hb
      replace HX_a:=bmv HX_a hb
      replace HX_q:=bmv HX_q hb
      replace HX_x:=bmv HX_x hb
      replace HX_y:=bmv HX_y hb
      replace HGN:=grm keep_str HGN hb
      replace HGF:=grm keep_int HGF hb
      clear hb
      obtain ⟨c_y0,c_y1,c_y2,c_y3,c_y4,z_y⟩:=cells5 HX_y.out
      obtain ⟨f_y0,f_y1,f_y2,f_y3,f_y4⟩:=frees5 HX_y.out
      obtain ⟨L2,hL2,hxn,hfar,hbn⟩:=pstoreB HX_y.out (.slice A n c) (.int .i64 k33) (.int .i64 last) (.int .i64 x33) (.int .i64 p33)
      replace HB:=Lh (hbn w.heap.size w HB.out (by omega))
      replace HX_a:=bfr hfar.1 HX_a (by omega)
      replace HX_q:=bfr hfar.1 HX_q (by omega)
      replace HX_x:=bfr hfar.1 HX_x (by omega)
      replace HX_y:=Lh hxn
      replace HGN:=grf hfar.1 hfar.2 keep_str HGN (by omega)
      replace HGF:=grf hfar.1 hfar.2 keep_int HGF (by omega)
      have hsz_L2:=hfar.2
      clear hxn hfar hbn
      go_wp2_with fail
      rw[←hL2]
      go_meet
      exact ⟨true,_,k33,x33,p33,HR33,HP33,HGN,HGF,HX_a,HX_q,HX_x,HX_y,HB,Lh (by omega)⟩
    case rest=>
     clear HB HGN HGF hz HX_a HX_q HX_x HX_y
     obtain ⟨hm,s5_,k5_,x5_,p5_,HRc,HPc,HGN,HGF,HX_a,HX_q,HX_x,HX_y,HB,HZ⟩:=hcut
     have hz:=HZ.out
     replace HRc:=Lh (show R=Sx.go s5_ (fun l=>(Sx.sign last 59 l).bind fun _ l=>.ok ⟨nm,cr,g,hm,rs.map Prod.fst,rs.map Prod.snd⟩ l) from HRc.out)
     go_upto_region 16 with fail
     have HSg:=Lh (pSg T A c last 59 s5_ (k5_) (x5_) (p5_) wc.drew ((HC.out.next HB.out).next (Below.refl _ _).drew) HPc.out)
     unfold PPost pv at HSg
     rw[←Hn.out] at HSg
     have HE:Hid (R=Sx.go (Sx.go s5_ (Sx.sign last 59)) fun l=>.ok ⟨nm,cr,g,hm,rs.map Prod.fst,rs.map Prod.snd⟩ l):=Lh (HRc.out.trans (Sx.go_unit _ _ _))
     have HV:Hid (R.Val ⟨nm,cr,g,hm,rs.map Prod.fst,rs.map Prod.snd⟩):=Lh (by rw [HE.out];exact .done _ _)
     have HVd:Hid (R.void=Sx.go s5_ (Sx.sign last 59)):=Lh (by rw [HE.out,Sx.void_done])
     rw[←HVd.out] at HSg
     clear HE HVd HRc
     obtain ⟨c_x0,c_x1,c_x2,c_x3,c_x4,c_x5,z_x⟩:=cells6 HX_x.out
     obtain ⟨c_y0,c_y1,c_y2,c_y3,c_y4,z_y⟩:=cells5 HX_y.out
     go_region_law (go_simp;go_at_call 96;refine HSg.out.mono ?_;rintro e w6 ⟨k6,x6,p6,rfl,ha,hb6⟩;have hb:Below wc.heap.size wc w6:=Below.trans (Below.refl _ _).drew hb6;have HA:=Lh ha;have HB6:=Lh hb;have HY_a:=bmv HX_a hb;have HY_q:=bmv HX_q hb;have HY_x:=bmv HX_x hb;obtain ⟨d_x0,d_x1,d_x2,d_x3,d_x4,d_x5,d_z⟩:=cells6 HY_x.out;obtain ⟨y_a0,y_a1,y_a2,y_a3,y_a4,y_a5,y_z⟩:=cells6 HY_a.out;obtain ⟨g_a0,g_a1,g_a2,g_a3,g_a4,g_a5⟩:=frees6 HY_a.out;obtain ⟨y_q0,y_q1,y_q2,y_q3,y_q4,y_q⟩:=cells5 HY_q.out;obtain ⟨g_q0,g_q1,g_q2,g_q3,g_q4⟩:=frees5 HY_q.out;clear ha hb6 hb)
     all_goals (try go_wp2_with fail)
     all_goals (
      have hgz:=HB6.out.size
      obtain ⟨W8,hW8,hxn,hfar,hbn⟩:=pst6 HY_a.out (.string (Lx.bs nm)) (.int .i64 cr) (.int .i64 g) (.bool hm) (.slice rA i rc) (.slice rE i re)
      have HX8:=bfr hfar.1 HY_q (by omega)
      obtain ⟨W9,hW9,hxn9,hfar9,hbn9⟩:=pstoreB HX8.out (.slice A n c) (.int .i64 k6) (.int .i64 last) (.int .i64 x6) (.int .i64 p6)
      have hxa9:=bfr hfar9.1 (Lh hxn) (by omega)
      have hbel:=hbn9 w.heap.size w (hbn w.heap.size w (HB.out.trans (HB6.out.mono HB.out.size)) (by omega)) (by omega)
      have HFar:Hid (∀ b,w.heap.size+1+1 < b→W9.heap[b]?=w6.heap[b]?):=Lh fun b hb=>(hfar9.1 b (by omega)).trans (hfar.1 b (by omega))
      have HSz:Hid (W9.heap.size=w6.heap.size):=Lh (hfar9.2.trans hfar.2)
      rw[hW8] at hW9
      rw[←hW9]
      clear hW9 hW8
      obtain ⟨t0,t1,t2,t3,t4,tz⟩:=cells5 hxn9
      obtain ⟨r0,r1,r2,r3,r4,r5,rz⟩:=cells6 hxa9.out
      have hGn:=((HGN.out.next keep_str HB6.out).keep (w':=W9) keep_str (Nat.le_of_eq HSz.out.symm) (fun b _ hb=>HFar.out b (by omega)))
      have hGf:=((HGF.out.next keep_int HB6.out).keep (w':=W9) keep_int (Nat.le_of_eq HSz.out.symm) (fun b _ hb=>HFar.out b (by omega)))
      obtain ⟨rB,rd,hvv,hrowN⟩:=hGn.row keep_str (fun _ _ _ _ h=>by rw [h.1];rfl) (by rw [List.length_map];have:=Hi.out;omega)
      injection hvv with v1 v2 v3
      rw[←v1] at hrowN
      clear v1 v2 v3
      obtain ⟨rF,rf,hvv,hrowF⟩:=hGf.row keep_int (fun _ _ _ _ h=>by rw [h];rfl) (by rw [List.length_map];have:=Hi.out;omega)
      injection hvv with v1 v2 v3
      rw[←v1] at hrowF
      have hSS:∀ b,((b < 0∨v5.heap.size+1≤b)∧b < W9.heap.size)→(w.heap.size≤b∧b < W9.heap.size)∧∀ j,W9.cell? ⟨b,j,none⟩=W9.cell? ⟨b,j,none⟩:=fun b hb=>⟨⟨by have:=hb.1;omega,hb.2⟩,fun _=>rfl⟩
      clear v1 v2 v3
      exact bodyPost_ret (v:=.tuple #[.agg #[.string (Lx.bs nm),.int .i64 cr,.int .i64 g,.bool hm,.slice rA i rc,.slice rE i re],pv A n c k6 last x6 p6]) (by simp [results,Tryz.results99,go_sem,pv,t0,t1,t2,t3,t4,r0,r1,r2,r3,r4,r5]) rfl ⟨_,[.agg #[.string (Lx.bs nm),.int .i64 cr,.int .i64 g,.bool hm,.slice rA i rc,.slice rE i re]],_,_,_,rfl,HV.out,⟨_,rfl,rA,rc,rE,re,by rw [Hi.out];simp[strV,intV],HL.out,hrowN.keep hSS fun _ _ _ h=>h,hrowF.keep hSS fun _ _ _ h=>h⟩,HA.out,hbel⟩)
  | true=>
   rw[hh] at HI
   obtain ⟨g',hg'⟩:∃ g',gk=g'+1:=by
    obtain ⟨l,e,h1,_⟩:=Sx.hits_need (last:=last) _ hh
    have h2:=HS.out l e
    have h3:=Sx.hit_tail h1
    exact ⟨gk - 1,by omega⟩
   obtain rfl:=hg'
   replace HR:=Lh (HR.out.trans (Sx.refs_go _ hh))
   have HLs:=Lh (take_next (last:=last) HS.out)
   clear hh HS
   obtain ⟨c_y0,c_y1,c_y2,c_y3,c_y4,z_y⟩:=cells5 HX_y.out
   go_wp2_with fail
   refine (HI.out _ (HC.out.next HB.out)).mono ?_
   rintro e' wz ⟨rfl,hb⟩
   clear HI
   clear c_y0 c_y1 c_y2 c_y3 c_y4 z_y
   have hgz:=hb.size
   replace HB:=bmb HB hb
   replace HX_a:=bmv HX_a hb
   replace HX_q:=bmv HX_q hb
   replace HX_x:=bmv HX_x hb
   replace HX_y:=bmv HX_y hb
   replace HGN:=grm keep_str HGN hb
   replace HGF:=grm keep_int HGF hb
   clear hb
   obtain ⟨c_y0,c_y1,c_y2,c_y3,c_y4,z_y⟩:=cells5 HX_y.out
   have HW:=Lh (fun w' h=>pSg T A c last 44 st (kx) (ex) (px) w' h HP.out)
   unfold PPost pv at HW
   rw[←Hn.out] at HW
   obtain ⟨s21,hs⟩:∃ s',s'=Sx.go st (Sx.sign last 44):=⟨_,rfl⟩
   rw[←hs] at HW HLs
   have HR21:=Lh (HR.out.trans ((Sx.go_unit _ _ _).trans (by rw [←hs])))
   clear hs HR
   go_wp2_with fail
   refine (HW.out _ (HC.out.next HB.out)).mono ?_
   rintro e' v21 ⟨k21,x21,p21,rfl,ha,hb⟩
   have HP21:=Lh ha
   clear ha HW
   clear c_y0 c_y1 c_y2 c_y3 c_y4 z_y
   have hgz:=hb.size
   replace HB:=bmb HB hb
   replace HX_a:=bmv HX_a hb
   replace HX_q:=bmv HX_q hb
   replace HX_x:=bmv HX_x hb
   replace HX_y:=bmv HX_y hb
   replace HGN:=grm keep_str HGN hb
   replace HGF:=grm keep_int HGF hb
   clear hb
   have HW:=Lh (fun w' h=>pRef T A c last s21 (k21) (x21) (p21) w' h HP21.out)
   unfold PRead pv at HW
   rw[←Hn.out] at HW
   obtain ⟨s22,hs⟩:∃ s',s'=(Sx.go s21 (Sx.ref last)).void:=⟨_,rfl⟩
   go_wp2_with fail
   refine (HW.out _ (HC.out.next HB.out)).mono ?_
   rintro e' v22 ⟨⟨nb,xb⟩,vs,k22,x22,p22,rfl,hv,hvs,ha,hb⟩
   rw[←hs] at ha HLs
   have HP22:=Lh ha
   have HR22:=Lh (HR21.out.trans ((Sx.R.Val.step hv _).trans (by rw [←hs])))
   obtain ⟨hvs,hl⟩:=hvs
   unfold strV intV at hvs
   dsimp only at hvs hl
   subst hvs
   have HL2:=Lh hl
   clear hl
   simp only[List.cons_append,List.nil_append]
   clear hs ha hv HW HR21
   have hgz:=hb.size
   replace HB:=bmb HB hb
   replace HX_a:=bmv HX_a hb
   replace HX_q:=bmv HX_q hb
   replace HX_x:=bmv HX_x hb
   replace HX_y:=bmv HX_y hb
   replace HGN:=grm keep_str HGN hb
   replace HGF:=grm keep_int HGF hb
   clear hb
   obtain ⟨c_y0,c_y1,c_y2,c_y3,c_y4,z_y⟩:=cells5 HX_y.out
   obtain ⟨f_y0,f_y1,f_y2,f_y3,f_y4⟩:=frees5 HX_y.out
   obtain ⟨D1,hD1,hxn,hfar,hbn⟩:=pstoreB HX_y.out (.slice A n c) (.int .i64 k22) (.int .i64 last) (.int .i64 x22) (.int .i64 p22)
   replace HB:=Lh (hbn w.heap.size w HB.out (by omega))
   replace HX_a:=bfr hfar.1 HX_a (by omega)
   replace HX_q:=bfr hfar.1 HX_q (by omega)
   replace HX_x:=bfr hfar.1 HX_x (by omega)
   replace HX_y:=Lh hxn
   replace HGN:=grf hfar.1 hfar.2 keep_str HGN (by omega)
   replace HGF:=grf hfar.1 hfar.2 keep_int HGF (by omega)
   have hsz_D1:=hfar.2
   clear hxn hfar hbn
   go_upto_region 9 with fail
   rw[←hD1]
   clear hD1
   clear c_y0 c_y1 c_y2 c_y3 c_y4 z_y f_y0 f_y1 f_y2 f_y3 f_y4
   obtain ⟨c_x0,c_x1,c_x2,c_x3,c_x4,c_x5,z_x⟩:=cells6 HX_x.out
   obtain ⟨f_x0,f_x1,f_x2,f_x3,f_x4,f_x5⟩:=frees6 HX_x.out
   obtain ⟨K1,hK1⟩:∃ V,V=D1.alloc (.cells #[.string (Lx.bs nb)] 9):=⟨_,rfl⟩
   obtain ⟨HX_kb,hb⟩:=bnw hK1
   have hgz:=hb.size
   replace HB:=bmb HB hb
   replace HX_a:=bmv HX_a hb
   replace HX_q:=bmv HX_q hb
   replace HX_x:=bmv HX_x hb
   replace HX_y:=bmv HX_y hb
   replace HGN:=grm keep_str HGN hb
   replace HGF:=grm keep_int HGF hb
   clear hb
   replace HX_kb:=bat (b:=v22.heap.size) HX_kb (hsz_D1)
   have hown0:=fun z hz=>own_lt (b:=z) HGN.out.own hz
   have hown1:=fun z hz=>own_ge (b:=z) HGN.out.own hz
   have HO0:=Lh hown0;have HO1:=Lh hown1
   obtain ⟨ir,hir,rz0,rz1,rz2⟩:=info_parts Tryz.infoStr
   clear hown0 hown1
   go_upto_region 10 with (at_builtin;rw[←hK1];refine wpList_append_own_at _ rfl (.tmp 45) (.tmp 47) 105 rfl (v5.heap.size+1) 9 ir _ 1 16 Tryz.underlying105 hir rz0 rz1 rz2 rfl (by decide) (.slice rA i rc) i nss.flatten rfl (by have:=HGN.out.own;rwa [List.length_map,←Hi.out] at this) ⟨v22.heap.size,0,none⟩ 1 1 [.string (Lx.bs nb)] rfl rfl (World.news_of_block (cs:=#[.string (Lx.bs nb)]) (t:=9) (fr:=(0,0)) HX_kb.out) (by simp [Value.oneCell']) (by unfold maxLen;omega) (by omega) (by omega) ?_;intro v' G1 hown hgrow _ hat;obtain ⟨rB,rd,rfl,-⟩:=own_slice hown;have HGa:=Lh (HGN.out.grow keep_str (x:=nb) (cs:=[.string (Lx.bs nb)]) ⟨rfl,HL2.out⟩ (by rw [List.length_map,←Hi.out];exact hown) hgrow hat);have HGo:=Lh (HGF.out.beside hgrow (kinds_ne HGF.out.own HGN.out.own (by decide)) (fun _ _ _ _ h=>h));have HBn:=Lh (Below.grown HB.out hgrow (by omega) (fun z hz=>by have:=HO1.out z hz;omega));have HXn_a:=Lh (HX_a.out.grown hgrow (fun e=>by have h1:=HO0.out _ e;have h2:=HO1.out _ e;omega));have HXn_q:=Lh (HX_q.out.grown hgrow (fun e=>by have h1:=HO0.out _ e;have h2:=HO1.out _ e;omega));have HXn_x:=Lh (HX_x.out.grown hgrow (fun e=>by have h1:=HO0.out _ e;have h2:=HO1.out _ e;omega));have HXn_y:=Lh (HX_y.out.grown hgrow (fun e=>by have h1:=HO0.out _ e;have h2:=HO1.out _ e;omega));have hgg:=hgrow.size;obtain ⟨e_x0,e_x1,e_x2,e_x3,e_x4,e_x5,e_zx⟩:=cells6 HXn_x.out;obtain ⟨h_x0,h_x1,h_x2,h_x3,h_x4,h_x5⟩:=frees6 HXn_x.out;clear hown hgrow hat)
   clear HB HGN HGF HX_a HX_q HX_x HX_y HX_kb
   have HB:=HBn;have HGN:=HGa;have HGF:=HGo
   have HX_a:=HXn_a
   have HX_q:=HXn_q
   have HX_x:=HXn_x
   have HX_y:=HXn_y
   clear HBn HGa HGo HXn_a HXn_q HXn_x HXn_y HO0 HO1 hir rz0 rz1 rz2
   clear c_x0 c_x1 c_x2 c_x3 c_x4 c_x5 z_x f_x0 f_x1 f_x2 f_x3 f_x4 f_x5 e_x0 h_x0 e_x1 h_x1 e_x2 h_x2 e_x3 h_x3 e_x4 h_x4 e_x5 h_x5 e_zx hK1
   obtain ⟨S1,hS1⟩:∃ V,V=G1.setCell ⟨(w.heap.size+1+1+1),4,none⟩ (.slice rB (i+1) rd):=⟨_,rfl⟩
   have hsz_S1:=bss hS1
   replace HB:=bsb hS1 HB (by omega)
   replace HX_a:=bst hS1 HX_a (by omega)
   replace HX_q:=bst hS1 HX_q (by omega)
   replace HX_y:=bst hS1 HX_y (by omega)
   replace HGN:=grs hS1 keep_str HGN (by omega)
   replace HGF:=grs hS1 keep_int HGF (by omega)
   replace HX_x:=bsc hS1 HX_x (cs':=#[.string (Lx.bs nm),.int .i64 cr,.int .i64 1,.bool false,.slice rB (i+1) rd,.slice rE i re]) (by simp)
   rw[←hS1]
   clear hS1
   obtain ⟨c_x0,c_x1,c_x2,c_x3,c_x4,c_x5,z_x⟩:=cells6 HX_x.out
   obtain ⟨f_x0,f_x1,f_x2,f_x3,f_x4,f_x5⟩:=frees6 HX_x.out
   obtain ⟨K2,hK2⟩:∃ V,V=S1.alloc (.cells #[.int .i64 xb] 3):=⟨_,rfl⟩
   obtain ⟨HX_kb,hb⟩:=bnw hK2
   have hgz:=hb.size
   replace HB:=bmb HB hb
   replace HX_a:=bmv HX_a hb
   replace HX_q:=bmv HX_q hb
   replace HX_x:=bmv HX_x hb
   replace HX_y:=bmv HX_y hb
   replace HGN:=grm keep_str HGN hb
   replace HGF:=grm keep_int HGF hb
   clear hb
   replace HX_kb:=bat (b:=G1.heap.size) HX_kb (hsz_S1)
   have hown0:=fun z hz=>own_lt (b:=z) HGF.out.own hz
   have hown1:=fun z hz=>own_ge (b:=z) HGF.out.own hz
   have HO0:=Lh hown0;have HO1:=Lh hown1
   obtain ⟨ir,hir,rz0,rz1,rz2⟩:=info_parts Tryz.infoIntT
   clear hown0 hown1
   go_wp2_with (at_builtin;rw[←hK2];refine wpList_append_own_at _ rfl (.tmp 51) (.tmp 53) 106 rfl (v5.heap.size+1) 3 ir _ 1 8 Tryz.underlying106 hir rz0 rz1 rz2 rfl (by decide) (.slice rE i re) i iss.flatten rfl (by have:=HGF.out.own;rwa [List.length_map,←Hi.out] at this) ⟨G1.heap.size,0,none⟩ 1 1 [.int .i64 xb] rfl rfl (World.news_of_block (cs:=#[.int .i64 xb]) (t:=3) (fr:=(0,0)) HX_kb.out) (by simp [Value.oneCell']) (by unfold maxLen;omega) (by omega) (by omega) ?_;intro v' G2 hown hgrow _ hat;obtain ⟨rF,rf,rfl,-⟩:=own_slice hown;have HGa:=Lh (HGF.out.grow keep_int (x:=xb) (cs:=[.int .i64 xb]) rfl (by rw [List.length_map,←Hi.out];exact hown) hgrow hat);have HGo:=Lh (HGN.out.beside hgrow (kinds_ne HGN.out.own HGF.out.own (by decide)) (fun _ _ _ _ h=>h));have HBn:=Lh (Below.grown HB.out hgrow (by omega) (fun z hz=>by have:=HO1.out z hz;omega));have HXn_a:=Lh (HX_a.out.grown hgrow (fun e=>by have h1:=HO0.out _ e;have h2:=HO1.out _ e;omega));have HXn_q:=Lh (HX_q.out.grown hgrow (fun e=>by have h1:=HO0.out _ e;have h2:=HO1.out _ e;omega));have HXn_x:=Lh (HX_x.out.grown hgrow (fun e=>by have h1:=HO0.out _ e;have h2:=HO1.out _ e;omega));have HXn_y:=Lh (HX_y.out.grown hgrow (fun e=>by have h1:=HO0.out _ e;have h2:=HO1.out _ e;omega));have hgg:=hgrow.size;obtain ⟨e_x0,e_x1,e_x2,e_x3,e_x4,e_x5,e_zx⟩:=cells6 HXn_x.out;obtain ⟨h_x0,h_x1,h_x2,h_x3,h_x4,h_x5⟩:=frees6 HXn_x.out;clear hown hgrow hat)
   clear HB HGF HGN HX_a HX_q HX_x HX_y HX_kb
   have HB:=HBn;have HGF:=HGa;have HGN:=HGo
   have HX_a:=HXn_a
   have HX_q:=HXn_q
   have HX_x:=HXn_x
   have HX_y:=HXn_y
   clear HBn HGa HGo HXn_a HXn_q HXn_x HXn_y HO0 HO1 hir rz0 rz1 rz2
   clear c_x0 c_x1 c_x2 c_x3 c_x4 c_x5 z_x f_x0 f_x1 f_x2 f_x3 f_x4 f_x5 e_x0 h_x0 e_x1 h_x1 e_x2 h_x2 e_x3 h_x3 e_x4 h_x4 e_x5 h_x5 e_zx hK2
   obtain ⟨S2,hS2⟩:∃ V,V=G2.setCell ⟨(w.heap.size+1+1+1),5,none⟩ (.slice rF (i+1) rf):=⟨_,rfl⟩
   have hsz_S2:=bss hS2
   replace HB:=bsb hS2 HB (by omega)
   replace HX_a:=bst hS2 HX_a (by omega)
   replace HX_q:=bst hS2 HX_q (by omega)
   replace HX_y:=bst hS2 HX_y (by omega)
   replace HGN:=grs hS2 keep_str HGN (by omega)
   replace HGF:=grs hS2 keep_int HGF (by omega)
   replace HX_x:=bsc hS2 HX_x (cs':=#[.string (Lx.bs nm),.int .i64 cr,.int .i64 1,.bool false,.slice rB (i+1) rd,.slice rF (i+1) rf]) (by simp)
   rw[←hS2]
   clear hS2
   go_roundg g'
   all_goals first
    | omega
    | exact ⟨rs++[(nb,xb)],_,_,rB,rF,rd,rf,i+1,s22,k22,x22,p22,by rw [Hi.out];simp,by omega,HR22,HP22,HLs,by rw [List.map_append];rw[Hi.out] at HGN ⊢;exact HGN,by rw [List.map_append];rw[Hi.out] at HGF ⊢;exact HGF,HX_a,HX_q,HX_x,HX_y,HB,Lh (by omega)⟩
end Go.Proofs.YtjonaidancomgaaGreatDoor
