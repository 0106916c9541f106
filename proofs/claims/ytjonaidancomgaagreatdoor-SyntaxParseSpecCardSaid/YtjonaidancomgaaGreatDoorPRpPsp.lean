/- Parts of the proof, joined into one text: RpPsp, LxCard, LxOpen, SxCard. -/
import Derived.Test.YtjonaidancomgaaGreatDoorPSxSanL
import Derived.Test.YtjonaidancomgaaGreatDoorPRpParse
import Derived.Test.YtjonaidancomgaaGreatDoorPSxSameC
import Derived.Test.YtjonaidancomgaaGreatDoorCards
import Derived.Test.YtjonaidancomgaaGreatDoorTie
import Derived.Test.YtjonaidancomgaaGreatDoorPShelf
import Derived.WalkKit
import Derived.ProofKit
import Derived.LaidMore
import Derived.OpenShut
import Derived.Below
import Derived.ChangeSame
import Derived.Stop.Joined
import Derived.Stop.LaidErr
import Derived.Lib.LaidTab
import Derived.Deep.DeepHandedRow
import Derived.Deep.DeepWitnessRowRef
import Derived.Deep.Slices
import Derived.Deep.Fields
import Derived.Test.YtjonaidancomgaaGreatDoorPSxParB
import Derived.SliceStrings

namespace Go.Proofs.YtjonaidancomgaaGreatDoor
open Go.RowKit

theorem sParse_out (s:ByteArray) (N:Nat) (w:World) (he:EnvS N w) (hs:s.size≤100000):Calls Tryz.prog 12 #[.string s] w (CatOut s.data.toList w):=by
 cases hq:Sx.parse s.data.toList with
 | ok r=>exact (sParse_ok s N r hq w he hs).mono fun e w' ⟨cs,h1,h2,h3⟩=>⟨h3,by rw [hq];exact ⟨cs,h1,h2⟩⟩
 | bad p x=>exact (sParse_bad s N p x hq w he hs).mono fun e w' ⟨h1,h2⟩=>⟨h2,by rw [hq];exact h1⟩
theorem cat_0 (w:World) (S:Nat→Prop):CatAt w S Sx.Cat.none [.slice none 0 0,.slice none 0 0,.slice none 0 0,.slice none 0 0,.slice none 0 0,.slice none 0 0,.slice none 0 0]:=⟨none,0,none,0,none,0,none,0,none,0,none,0,none,0,rfl,Row.nil _ _ _ _ _,Row.nil _ _ _ _ _,Row.nil _ _ _ _ _,Row.nil _ _ _ _ _,Row.nil _ _ _ _ _,Row.nil _ _ _ _ _,Row.nil _ _ _ _ _⟩
theorem CatOut.one {s:List UInt8} : ∃ (r:Sx.Cat) (p x:Int),∀ (w:World) (e:Ending) (w':World),CatOut s w e w'→∃ A0 An0 Ac0 A1 An1 Ac1 A2 An2 Ac2 A3 An3 Ac3 A4 An4 Ac4 A5 An5 Ac5 A6 An6 Ac6,e = .returned (.tuple #[.agg #[.slice A0 An0 Ac0,.slice A1 An1 Ac1,.slice A2 An2 Ac2,.slice A3 An3 Ac3,.slice A4 An4 Ac4,.slice A5 An5 Ac5,.slice A6 An6 Ac6],.int .i64 p,.int .i64 x])∧CatAt w' (Old w') r [.slice A0 An0 Ac0,.slice A1 An1 Ac1,.slice A2 An2 Ac2,.slice A3 An3 Ac3,.slice A4 An4 Ac4,.slice A5 An5 Ac5,.slice A6 An6 Ac6]∧Below w.heap.size w w':=by
 cases hq:Sx.parse s with
 | ok r=>
  refine ⟨r,0,0,fun w e w' h=>?_⟩
  obtain ⟨hb,h⟩:=h
  rw[hq] at h
  obtain ⟨cs,h1,h2⟩:=h
  obtain ⟨A0,An0,Ac0,A1,An1,Ac1,A2,An2,Ac2,A3,An3,Ac3,A4,An4,Ac4,A5,An5,Ac5,A6,An6,Ac6,rfl⟩:=cat_7 h2
  exact ⟨A0,An0,Ac0,A1,An1,Ac1,A2,An2,Ac2,A3,An3,Ac3,A4,An4,Ac4,A5,An5,Ac5,A6,An6,Ac6,h1,h2,hb⟩
 | bad p x=>
  refine ⟨Sx.Cat.none,p,x,fun w e w' h=>?_⟩
  obtain ⟨hb,h⟩:=h
  rw[hq] at h
  exact ⟨none,0,0,none,0,0,none,0,0,none,0,0,none,0,0,none,0,0,none,0,0,h,cat_0 _ _,hb⟩
set_option maxRecDepth 20000 in
set_option maxHeartbeats 4000000 in
theorem sParseSpec (N:Nat) (s:ByteArray) (w:World) (he:EnvS N w):Calls Tryz.prog 3 #[.string s] w (TruePost w):=by
 have HE:=Lh he
 clear he
 by_cases hlen:3000 < s.size
 ·go_enter Tryz.func3,Tryz.ntmps3
  go_wp2_with fail
  refine (sSane N w HE.out).mono ?_
  rintro e w1 ⟨rfl,b1⟩
  have B1:=Lh b1;clear b1
  go_wp2_with fail
  go_ret
  exact ⟨rfl,B1.out⟩
 obtain ⟨r,p,x,hone⟩:=CatOut.one (s:=s.data.toList)
 have HOne:=Lh hone
 clear hone
 go_enter Tryz.func3,Tryz.ntmps3
 go_wp2_with fail
 refine (sSane N w HE.out).mono ?_
 rintro e w1 ⟨rfl,b1⟩
 have B1:=Lh b1;clear b1
 go_wp2_with fail
 refine (sParse_out s N w1 (HE.out.next B1.out) (by omega)).mono ?_
 intro e w2 hpost
 obtain ⟨i0,in0,ic0,i1,in1,ic1,i2,in2,ic2,i3,in3,ic3,i4,in4,ic4,i5,in5,ic5,i6,in6,ic6,rfl,hr,b2⟩:=HOne.out w1 e w2 hpost
 have B2:=Lh (B1.out.trans (b2.mono B1.out.size));clear b2 hpost
 obtain ⟨W3,hW3⟩:∃ W3,W3=w2.alloc (.cells #[.slice i0 in0 ic0,.slice i1 in1 ic1,.slice i2 in2 ic2,.slice i3 in3 ic3,.slice i4 in4 ic4,.slice i5 in5 ic5,.slice i6 in6 ic6] 30):=⟨_,rfl⟩
 have b3:Below w2.heap.size w2 W3:=by rw [hW3];exact (Below.refl _ _).alloc (Nat.le_refl _) _
 have p3:Blk W3 w2.heap.size 30 #[.slice i0 in0 ic0,.slice i1 in1 ic1,.slice i2 in2 ic2,.slice i3 in3 ic3,.slice i4 in4 ic4,.slice i5 in5 ic5,.slice i6 in6 ic6]:=by rw [hW3];exact Blk.new _ _ _
 have B3:=Lh (B2.out.trans (b3.mono B2.out.size));have P3:=Lh p3;have R3:=Lh (CatAt.keep (old_keep b3) hr)
 go_upto_region 6 with fail
 rw[←hW3]
 clear b3 hW3 p3 hr
 go_wp2_with fail
 refine (pParse s W3 (by omega)).mono ?_
 intro e w4 hpost
 obtain ⟨j0,jn0,jc0,j1,jn1,jc1,j2,jn2,jc2,j3,jn3,jc3,j4,jn4,jc4,j5,jn5,jc5,j6,jn6,jc6,rfl,hr,b4⟩:=HOne.out W3 e w4 hpost
 have B4:=Lh (B3.out.trans (b4.mono B3.out.size));have P4:=Lh (P3.out.below b4 P3.out.lt);have R4:=Lh (CatAt.keep (old_keep b4) R3.out)
 clear b4 hpost
 obtain ⟨W5,hW5⟩:∃ W5,W5=w4.alloc (.cells #[.slice j0 jn0 jc0,.slice j1 jn1 jc1,.slice j2 jn2 jc2,.slice j3 jn3 jc3,.slice j4 jn4 jc4,.slice j5 jn5 jc5,.slice j6 jn6 jc6] 30):=⟨_,rfl⟩
 have b5:Below w4.heap.size w4 W5:=by rw [hW5];exact (Below.refl _ _).alloc (Nat.le_refl _) _
 have p5:Blk W5 w4.heap.size 30 #[.slice j0 jn0 jc0,.slice j1 jn1 jc1,.slice j2 jn2 jc2,.slice j3 jn3 jc3,.slice j4 jn4 jc4,.slice j5 jn5 jc5,.slice j6 jn6 jc6]:=by rw [hW5];exact Blk.new _ _ _
 have B5:=Lh (B4.out.trans (b5.mono B4.out.size));have Q5:=Lh p5;have P5:=Lh (P4.out.below b5 P4.out.lt);have R5:=Lh (CatAt.keep (old_keep b5) R4.out);have S5:=Lh (CatAt.keep (old_keep b5) hr)
 go_upto_region 7 with fail
 rw[←hW5]
 clear b5 hW5 p5 hr
 obtain ⟨x0,x1,x2,x3,x4,x5,x6,xz⟩:=cells7 P5.out
 obtain ⟨y0,y1,y2,y3,y4,y5,y6,yz⟩:=cells7 Q5.out
 go_wp2_with fail
 refine (rSame r r _ _ _ R5.out S5.out).mono ?_
 rw[decide_eq_true rfl]
 rintro e w6 ⟨rfl,b6⟩
 have B6:=Lh (B5.out.trans (b6.mono B5.out.size))
 clear b6
 go_wp2_with fail
 go_ret
 exact ⟨ret_bool (by simp),B6.out⟩
end Go.Proofs.YtjonaidancomgaaGreatDoor

namespace Go.Proofs.YtjonaidancomgaaGreatDoor
open Go.RowKit Go.WideShapes Go.ChangeShapes
set_option maxRecDepth 100000

section
variable {H : Type} {enc : TypeId × Value → H} {P : Program}
theorem post_of_below {f:Func} {s:ChangeSpec} {apart fresh handsOn again:Bool} {W W':World} {args:Array Value} {v:Value} {ds gs:List (DataW H)} {before pa pv:List MemPlace}
  (hW:DataW.Whole enc P f.params.toList s.vars apart W args.toList ds gs before)
  (hres:∀ (b:Nat) (sp:Nat→Bool) (hd:Bool),DataW.TrodAll enc P W' b sp hd f.resultTypes.toList (v.resultList f.resultTypes.size) (s.fn H (ds++gs)).results [])
  (hargs:∀ sp:Nat→Bool,(∀ p∈before,sp p.block=true)→DataW.TrodAll enc P W' 0 sp true f.params.toList args.toList (s.fn H (ds++gs)).args pa)
  (hvars:∀ sp:Nat→Bool,(∀ p∈before,sp p.block=true)→DataW.TrodVars enc P W' sp s.vars (s.fn H (ds++gs)).vars pv)
  (hps:before=pa++pv) (hb:Below W.heap.size W W')
  (hok:∀ (j:Nat) (t:TypeId) (r:Value),f.resultTypes[j]?=some t→(v.resultList f.resultTypes.size)[j]?=some r→Value.okWide P W' .any 0 t r) :
  s.post enc P f apart fresh handsOn again W args v W':=by
 have hlt:∀ p∈before,p.block < W.heap.size:=fun p hp=>hW.lt p hp
 have hold:∀ p∈before,(fun b=>decide (b < W.heap.size)) p.block=true:=fun p hp=>by simpa using hlt p hp
 refine ⟨ds,gs,before,[],pa,pv,hW,hres _ _ _,hargs _ hold,hvars _ hold,World.keptBut_mono (fun p hp=>⟨hp,?_⟩) (hb.frame (·∈before)),fun _=>?_⟩
 ·rw[hps,List.mem_append] at hp
  exact Or.inr hp
 ·obtain ⟨_,_,_,_,_,hz,hn⟩:=hW
  refine ⟨hok,_,_,([]++pa)++pv,⟨[]++pa,pv,trodAll_append (hargs _ (fun _ _=>rfl)) (hres _ _ _),hvars _ (fun _ _=>rfl),rfl,?_,?_⟩,?_⟩
  ·intro b off hp
   have hin:MemPlace.cell b off∈before:=by rw [hps];simpa using hp
   rw[hb.frozen (hlt _ hin)]
   exact hz b off hin
  ·intro ha
   have:=hn ha
   rw[hps] at this
   simpa using this
  ·intro p hp _
   rw[hps]
   simpa using hp
end

theorem own:ownKnob Tryz.prog.godebug=none:=by kernel_rfl
theorem starErr : "*" ++ "errors.errorString" = "*errors.errorString" := by decide
theorem rowErr (u : TypeId) (h : Tryz.prog.typeName? 3 u = some "*errors.errorString") : u = 272 :=
 typeName_ptr_named (nm := "errors.errorString") (by rw [starErr]; kernel_rfl) (by kernel_rfl) (by decide) u (by rw [starErr]; exact h)

theorem env_of_laid {x y z:DataW Unit} {text:List UInt8} {r:List (String × DataW Unit)} {W:World} (hz:z=Lib.tabData .u64 Lib.pow10Tab)
  (h : laidMet Tryz.prog (("math/bits.deBruijn32tab", x) :: ("math/bits.deBruijn64tab", y) :: ("internal/strconv.uint64pow10", z) :: ("strconv.ErrRange", .iface "*errors.errorString" (.ptr (.agg [.lit (.string text)]))) :: r) W) : Env W := by
 subst hz
 have h1:=h.tail
 have h2:=h1.tail
 have h3:=h2.tail
 refine ⟨?_,?_,?_⟩
 ·have ht:=Lib.tabIs_of_head (P:=Tryz.prog) (g:=8) (t:=266) (e:=229) (n:=20) (by kernel_rfl) (by kernel_rfl) Tryz.underlying266 Tryz.underlying229 (by kernel_rfl) (by kernel_rfl) h2
  unfold Lib.TabIs World.var? at ht
  rw [show Tryz.prog.globalNamed "internal/strconv.uint64pow10" = some 8 by kernel_rfl] at ht
  simp only[Option.bind_some] at ht
  split at ht
  ·rename_i cs t fz hh
   cases ht
   exact ⟨t,fz,hh⟩
  ·cases ht
 ·obtain ⟨a,s,hv,_⟩:=laid_sentinel h3 (g:=6) (ti:=204) (by kernel_rfl) (by kernel_rfl) Tryz.underlying204 rowErr Tryz.underlying272 Tryz.underlying274 rfl rfl Tryz.underlying9 (by kernel_rfl) (by kernel_rfl)
  have := World.var?_cell (show Tryz.prog.globalNamed "strconv.ErrRange" = some 6 by kernel_rfl) hv 0
  exact ⟨_,_,by simpa using this⟩
 ·obtain ⟨ps,⟨g,t,cs,fuel,p,q,hg,_,hv,_⟩,_⟩:=h1
  obtain rfl := Option.some.inj ((show Tryz.prog.globalNamed "math/bits.deBruijn64tab" = some 10 by kernel_rfl).symm.trans hg)
  unfold World.var? at hv
  rw[hg] at hv
  simp only[Option.bind_some] at hv
  rcases Nat.lt_or_ge 10 W.heap.size with hh | hh
  ·exact hh
  ·rw[Array.getElem?_eq_none hh] at hv
   cases hv

noncomputable def wit (os:Os) (args:Array Value):World:=(World.doorLaid Tryz.prog 87 os).forCall (fun _ _=>0) ⟨#[],args,[]⟩
theorem wit_vars (os:Os) (args:Array Value):(wit os args).variablesRefB Tryz.prog=true:=by kernel_rfl
theorem wit_rest (os:Os) (args:Array Value):((wit os args).heap.toList.drop Tryz.prog.globals.size).take ((begin Tryz.prog (fun _ _=>0) default).world.heap.size - Tryz.prog.globals.size) =
   (begin Tryz.prog (fun _ _=>0) default).world.heap.toList.drop Tryz.prog.globals.size:=by kernel_rfl
end Go.Proofs.YtjonaidancomgaaGreatDoor

namespace Go.Proofs.YtjonaidancomgaaGreatDoor
open Go.RowKit Go.WideShapes Go.ChangeShapes Go.Deep


section
variable {H : Type} {enc : TypeId × Value → H} {P : Program} {w : World} {base : Nat} {spare : Nat → Bool} {held : Bool}
end

theorem add_none (b o j:Nat):(⟨b,o,none⟩:Addr).add j=⟨b,o+j,none⟩:=by unfold Addr.add;split <;> simp_all
theorem cell_spot {w:World} {a:Addr} {v:Value} (h:w.cell? a=some v):a.spot=none:=by
 unfold World.cell? at h
 split at h
 ·split at h
  ·cases h
  ·rename_i h2;simpa using h2
 ·cases h

section
variable {H : Type} {enc : TypeId × Value → H}
structure Byts (w : World) (B : Nat) (A : Option Addr) (n : Nat) : Prop where
 at_:∀ k,k < n→∃ b o z,A=some ⟨b,o,none⟩∧b < B∧w.cell? ⟨b,o+k,none⟩=some (.int .u8 (z:Nat))∧z < 256
 len:n≤140737488351232
end
theorem Byts.below {w w':World} {B B':Nat} {A:Option Addr} {n:Nat} (h:Byts w B A n) (hb:Below B' w w') (hB:B≤B'):Byts w' B A n:=
 ⟨fun k hk=>by
  obtain ⟨b,o,z,e,hlt,hc,hz⟩:=h.at_ k hk
  exact ⟨b,o,z,e,hlt,(hb.cell (p:=⟨b,o+k,none⟩) (show b < B' by omega)).trans hc,hz⟩,h.len⟩
end Go.Proofs.YtjonaidancomgaaGreatDoor

namespace Go.Proofs.YtjonaidancomgaaGreatDoor
open Go.ChangeShapes Go.WideShapes Go.ChangeAt Go.RowKit Go.WideMaps Go.ChangeMaps

set_option maxRecDepth 100000 in
theorem glob_of_laid {nm:String} {gi:Nat} {ws:List (List UInt8)} {d:DataW Unit} {r:List (String × DataW Unit)} {W:World} (hgi:Tryz.prog.globalNamed nm=some gi) (hty:(Tryz.prog.globals[gi]?).map (·.type)=some 105) (hne:0 < ws.length) (hd0:d = .slice (ws.map fun x=>.lit (.string x)) [])
  (h:laidMet Tryz.prog ((nm,d)::r) W):GlobAt W W.heap.size gi ws:=by
 obtain ⟨ps,⟨g,t,cs,fuel,p,q,hg,ht,hv,hd,_⟩,_⟩:=h
 obtain rfl:=Option.some.inj (hgi.symm.trans hg)
 obtain rfl:=Option.some.inj (hty.symm.trans ht)
 subst hd0
 rcases open_strings Tryz.underlying105 Tryz.underlying9 (by kernel_rfl) hd with ⟨_,hx⟩ | ⟨a,len,cap,ss,hcs,_,hl,hm,hz,hx,hc,_⟩
 ·cases hx
 ·simp only[Prod.mk.injEq,DataW.slice.injEq] at hx
  obtain ⟨⟨hx1,hx2⟩,_⟩:=hx
  have hx2':ss.drop len = []:=by
   unfold strs at hx2
   exact List.map_eq_nil_iff.1 hx2.symm
  have h1:ss.take len=ss:=by
   have:=List.take_append_drop len ss
   rw[hx2',List.append_nil] at this
   exact this
  have hss:ss.map (·.data.toList)=ws:=by
   rw[h1] at hx1
   unfold strs at hx1
   have h2:(ws.map fun x=>(DataW.lit (.string x):DataW Unit))=(ss.map (·.data.toList)).map fun x=>DataW.lit (.string x):=by
    rw[hx1,List.map_map];rfl
   have hinj:∀ (l l':List (List UInt8)),(l.map fun x=>(DataW.lit (.string x):DataW Unit))=l'.map (fun x=>DataW.lit (.string x))→l=l':=by
    intro l
    induction l with
    | nil=>intro l' h;cases l' with | nil=>rfl | cons a b=>simp at h
    | cons a b ih=>
     intro l' h
     cases l' with
     | nil=>simp at h
     | cons a' b'=>
      simp only[List.map_cons,List.cons.injEq,DataW.lit.injEq,Lit.string.injEq] at h
      rw[h.1,ih b' h.2]
   exact (hinj _ _ h2).symm
  have hlss:ss.length=ws.length:=by
   have:=congrArg List.length hss
   rwa [List.length_map] at this
  rw[if_pos rfl] at hz
  have hlen:len=ws.length:=by
   have:=congrArg List.length hx2'
   rw[List.length_drop] at this
   simp only[List.length_nil] at this
   omega
  have h0:=hc 0 (by omega)
  have hsp:a.spot=none:=cell_spot (show W.cell? a=_ from h0)
  obtain ⟨ab,ao,asp⟩:=a
  simp only at hsp
  subst hsp
  have hcell:W.cell? ⟨gi,0,none⟩=some (.slice (some ⟨ab,ao,none⟩) ws.length cap):=by
   have:=World.var?_cell hg hv 0
   rw[Array.eq_one_of_toList hcs,hlen] at this
   simpa using this
  have hin:∀ (k o:Nat) (v:Value),W.cell? ⟨k,o,none⟩=some v→k < W.heap.size:=fun k o v hk=>by
   rcases Nat.lt_or_ge k W.heap.size with h | h
   ·exact h
   ·unfold World.cell? at hk
    simp only[Array.getElem?_eq_none h] at hk
    cases hk
  refine ⟨ab,ao,cap,hcell,hin _ _ _ hcell,hin ab ao _ (show W.cell? ⟨ab,ao,none⟩=_ from h0),fun i x hx=>?_⟩
  have hi:i < ss.length:=by
   have:=(List.getElem?_eq_some_iff.1 hx).1
   omega
  have h1:=hc i hi
  rw[add_none] at h1
  rw[h1]
  rw[←hss,List.getElem?_map,List.getElem?_eq_getElem hi] at hx
  simp only[Option.map_some,Option.some.injEq] at hx
  have h2:ss.getD i ByteArray.empty=ss[i]:=by simp [List.getD,List.getElem?_eq_getElem hi]
  rw[h2,←hx]
  unfold strV
  rw[Lx.bs_of]
set_option maxRecDepth 100000 in
theorem wit_metS (os:Os) (args:Array Value):laidMetH Tryz.prog Rows.syntaxPlacesRow.laid (wit os args).memory:=
 laidMetH_of_parts3 (fuel:=8) (laidMet_of_run' 8 (by kernel_rfl) (by kernel_rfl)) (by kernel_rfl) (by kernel_rfl)
theorem envs_of_laid {W:World} (h:laidMet Tryz.prog Rows.syntaxPlacesRow.laid W):EnvS W.heap.size W:=by
 have he:=env_of_laid rfl h
 have h5:=h.tail.tail.tail.tail.tail
 exact ⟨he,Nat.le_refl _,by have:=he.size;omega,
  glob_of_laid (nm := "sizar/syntax.ruleWords") (by kernel_rfl) (by kernel_rfl) (by decide) rfl h5,
  glob_of_laid (nm := "sizar/syntax.kindWords") (by kernel_rfl) (by kernel_rfl) (by decide) rfl h5.tail,
  glob_of_laid (nm := "sizar/syntax.whenWords") (by kernel_rfl) (by kernel_rfl) (by decide) rfl h5.tail.tail,
  glob_of_laid (nm := "sizar/syntax.actionWords") (by kernel_rfl) (by kernel_rfl) (by decide) rfl h5.tail.tail.tail,
  glob_of_laid (nm := "sizar/syntax.repeatWords") (by kernel_rfl) (by kernel_rfl) (by decide) rfl h5.tail.tail.tail.tail⟩
end Go.Proofs.YtjonaidancomgaaGreatDoor
