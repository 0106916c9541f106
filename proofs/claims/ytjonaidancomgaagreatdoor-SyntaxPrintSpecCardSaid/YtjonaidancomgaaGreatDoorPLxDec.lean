/- Parts of the proof, joined into one text: q06, XT, q07, XU, XV, XW. -/
import Derived.Test.YtjonaidancomgaaGreatDoorPSxPut
import Derived.Laws.IdiomStrings
import Derived.Test.YtjonaidancomgaaGreatDoorPSxVal
import Derived.Test.YtjonaidancomgaaGreatDoorPSxIsC
import Derived.Test.YtjonaidancomgaaGreatDoorPSxTkE
import Derived.Test.YtjonaidancomgaaGreatDoorPSxTkK
import Derived.Test.YtjonaidancomgaaGreatDoorPSxEqk
import Derived.Test.YtjonaidancomgaaGreatDoorPSxSmg
import Derived.Test.YtjonaidancomgaaGreatDoorPSxFewW
import Derived.Test.YtjonaidancomgaaGreatDoorCards
import Derived.Test.YtjonaidancomgaaGreatDoorTie
import Derived.Test.YtjonaidancomgaaGreatDoorPShelf
import Derived.WalkKit
import Derived.ProofKit
import Derived.LaidMore
import Derived.OpenShut
import Derived.Below
import Derived.ChangeSame
import Derived.Stop.Joined
import Derived.Stop.LaidErr
import Derived.Lib.LaidTab
import Derived.Deep.DeepHandedRow
import Derived.Deep.DeepWitnessRowRef
import Derived.Deep.Slices
import Derived.Deep.Fields
import Derived.Test.YtjonaidancomgaaGreatDoorPSxOk
import Derived.SliceStrings
set_option maxHeartbeats 16000000
set_option maxRecDepth 20000
namespace Go.Proofs.YtjonaidancomgaaGreatDoor
open Go.RowKit
theorem one_byte (W:World) (x:Int) (h0:0≤x) (hx:x < 256):(convert 221 9 (.slice (some ⟨W.heap.size,0,none⟩) 1 1)).run Tryz.prog (W.alloc (.cells #[.int .u8 x] 5)) = .ok (.string (Lx.bs [UInt8.ofNat x.toNat])) (W.alloc (.cells #[.int .u8 x] 5)):=by
 refine run_convert_bytes_back (P:=Tryz.prog) _ 221 9 5 ⟨W.heap.size,0,none⟩ 1 [UInt8.ofNat x.toNat] Tryz.underlying221 Tryz.underlying5 Tryz.underlying9 ?_;intro j hj;have:j=0:=by simpa using hj
 subst this;show (W.alloc _).cell? ⟨W.heap.size,0,none⟩=_;rw[World.cell?_alloc_mark];simp;omega
def Lx.dg (m:Nat):UInt8:=UInt8.ofNat (48+m % 10)
theorem Lx.su {m:Nat} (h:m < 10):Lib.decDigits m = [Lx.dg m]:=by rw [Lib.decDigits,dif_pos h];unfold Lx.dg;rw[Nat.mod_eq_of_lt h]
theorem Lx.sw {m:Nat} (h:¬ m < 10):Lib.decDigits m=Lib.decDigits (m / 10)++[Lx.dg m]:=by rw [Lib.decDigits,dif_neg h];rfl
theorem Gz (W:World) (m:Nat):(convert 221 9 (.slice (some ⟨W.heap.size,0,none⟩) 1 1)).run Tryz.prog (W.alloc (.cells #[.int .u8 (48+(m:Int) % 10)] 5)) = .ok (.string (Lx.bs [Lx.dg m])) (W.alloc (.cells #[.int .u8 (48+(m:Int) % 10)] 5)):=by
 rw[one_byte W _ (by omega) (by omega)];have:((48:Int)+(m:Int) % 10).toNat=48+m % 10:=by omega
 rw[this];rfl
theorem DU (W:World) (m:Nat):(convert 221 9 (.slice (some ⟨W.heap.size,0,none⟩) 1 1)).run Tryz.prog (W.alloc (.cells #[.int .u8 (48+(m:Int) / 10 % 10)] 5)) = .ok (.string (Lx.bs [Lx.dg (m / 10)])) (W.alloc (.cells #[.int .u8 (48+(m:Int) / 10 % 10)] 5)):=by
 rw[one_byte W _ (by omega) (by omega)];have:((48:Int)+(m:Int) / 10 % 10).toNat=48+m / 10 % 10:=by omega
 rw[this];rfl
theorem Lx.wH (a b:List UInt8):Lx.bs a++Lx.bs b=Lx.bs (a++b):=by
 apply ByteArray.ext;simp[Lx.bs]
theorem Lx.OW (a b:List UInt8):Lx.bs a++(⟨#[32]⟩:ByteArray)++Lx.bs b=Lx.bs (a++32::b):=by
 show Lx.bs a++Lx.bs [32]++Lx.bs b=_;rw[Lx.wH,Lx.wH,List.append_assoc];rfl
theorem Jm (n:Nat) (w:World) (hn:n≤1099511627776) :
  Calls Tryz.prog 139 #[.int .i64 n] w fun e w'=>e = .returned (.string (Lx.bs (Lib.decDigits n)))∧Below w.heap.size w w':=by
 have hdl:=Lx.kV n hn;have HN:=Lh hn;have HD:=Lh hdl;clear hn hdl;go_enter Tryz.func139,Tryz.ntmps139;go_wp2;rw[Gz];go_wp2
 go_loopw [0,3] (fun i s wr=>∃ (m:Nat) (x:List UInt8),m≤n∧i = .int .i64 m∧s = .string (Lx.bs (Lx.dg m::x))∧(Lib.decDigits n=if m < 10 then Lx.dg m::x else Lib.decDigits (m / 10)++Lx.dg m::x)∧Below w.heap.size w wr)
  (fun i _ _=>(intOf i).toNat)
 case atStart=>
  refine ⟨n,[],Nat.le_refl _,rfl,rfl,?_,(Below.refl _ _).alloc (Nat.le_refl _) _⟩
  split
  ·rename_i h;rw[Lx.su h]
  ·rename_i h;rw[Lx.sw h]
 case round=>
  obtain ⟨m,x,hm,rfl,rfl,hx,hbel⟩:=hrel;have hwr:=hbel.size;have kW:=Lh hbel;clear hbel;have hmb:m≤1099511627776:=Nat.le_trans hm HN.out;have hxl:x.length≤13:=by
   have:=HD.out;rw[hx] at this
   split at this <;> simp at this <;> omega
  have hsz:(Lx.bs (Lx.dg m::x)).size=x.length+1:=by rw [Lx.jc];rfl
  obtain ⟨S,hS⟩:∃ S,S=Lx.bs (Lx.dg m::x):=⟨_,rfl⟩
  rw[←hS] at hsz ⊢;have HX:=Lh hx;have HS:=Lh hS;clear hx hS
  by_cases h10:m < 10
  ·go_wp2;go_ret;have:=HX.out;rw[if_pos h10] at this;refine ⟨?_,kW.out⟩;rw[HS.out,this];rfl
  ·have hdl:=Lx.jc [Lx.dg (m / 10)];go_wp2;rw[DU];go_wp2
   go_roundw
   case rel=>
    refine ⟨m / 10,Lx.dg m::x,by omega,by go_num,?_,?_,?_⟩
    ·rw[HS.out,Lx.wH];rfl
    ·rw[HX.out,if_neg h10]
     split
     ·rename_i h;rw[Lx.su h];rfl
     ·rename_i h;rw[Lx.sw h,List.append_assoc];rfl
    ·exact kW.out.trans ((Below.refl _ _).alloc hwr _)
   case measure=>simp [intOf];omega
theorem Lx.uH:∀ (xs:List (List UInt8)) (x:List UInt8),Lx.dB (xs++[x])=if xs = [] then x else Lx.dB xs++32::x
 | [],x=>rfl
 | [y],x=>rfl
 | y::z::r,x=>by
  have:=Lx.uH (z::r) x;rw[if_neg (by simp)] at this ⊢;show y++32::Lx.dB (z::r++[x])=_;rw[this];simp[Lx.dB]
def Lx.pre (l:List Lx.Tok) (k:Nat):List UInt8:=Lx.dB ((l.take k).map Lx.Tok.out)
theorem Lx.Jo {l:List Lx.Tok} {k:Nat} {t:Lx.Tok} (h:l[k]?=some t):Lx.pre l (k+1)=if k=0 then t.out else Lx.pre l k++32::t.out:=by
 unfold Lx.pre;rw[List.take_add_one,h];have:((l.take k).map Lx.Tok.out = [])↔k=0:=by
  have hk:=(List.getElem?_eq_some_iff.1 h).1;rw[List.map_eq_nil_iff];constructor
  ·intro e;have:=congrArg List.length e;rw[List.length_take] at this;simp only[List.length_nil] at this;omega
  ·rintro rfl;rfl
 simp only[Option.toList_some,List.map_append,List.map_cons,List.map_nil,Lx.uH,this]
theorem Lx.Mq {l:List Lx.Tok} {k:Nat} (h:∀ (j:Nat) (t:Lx.Tok),j < k→l[j]?=some t→Lx.valid t=true) (hk:k≤l.length):(Lx.pre l k).length≤33*l.length:=by
 unfold Lx.pre;have:=Lx.qV ((l.take k).map Lx.Tok.out) (fun x hx=>by
  obtain ⟨t,ht,rfl⟩:=List.mem_map.1 hx;obtain ⟨j,hj⟩:=List.mem_iff_getElem?.1 ht;have hjk:j < k:=by
   have:=(List.getElem?_eq_some_iff.1 hj).1;rw[List.length_take] at this;omega
  rw[List.getElem?_take_of_lt hjk] at hj;exact Lx.tQ (h j t hjk hj))
 rw[List.length_map,List.length_take] at this;omega
theorem Tq (A:Option Addr) (c:Nat) (l:List Lx.Tok) (w:World) (h:iw w w.heap.size A l) (hl:l.length≤65536) :
  Calls Tryz.prog 55 #[.slice A l.length c] w (wI l w):=by
 go_enter Tryz.func55,Tryz.ntmps55;go_wp2
 go_loopw [4,5] (fun s i wr=>∃ (k:Nat),k≤l.length∧i = .int .i64 k∧s = .string (Lx.bs (Lx.pre l k))∧(∀ (j:Nat) (t:Lx.Tok),j < k→l[j]?=some t→Lx.valid t=true)∧Below w.heap.size w wr)
  (fun _ i _=>l.length - (intOf i).toNat)
 case atStart=>exact ⟨0,by omega,rfl,rfl,fun j t hj=>absurd hj (by omega),Below.refl _ _⟩
 case round=>
  obtain ⟨k,hk,rfl,rfl,hh,hbel⟩:=hrel;have H:=h.below hbel (Nat.le_refl _);have hwr:=hbel.size;have hpl:=Lx.Mq hh hk;have hps:=Lx.jc (Lx.pre l k);obtain ⟨S,hS⟩:∃ S,S=Lx.bs (Lx.pre l k):=⟨_,rfl⟩
  rw[←hS] at hps ⊢;have Hh:=Lh hh;have kW:=Lh hbel;have HS:=Lh hS;clear hh hbel hS
  by_cases hlt:k < l.length
  ·obtain ⟨x,hx⟩:∃ x,l[k]?=some x:=⟨_,List.getElem?_eq_getElem (by omega)⟩
   obtain ⟨b,o,rfl,hb,h4⟩:=H.at_ k x hx;have hxl:=h.texts x (List.mem_of_getElem? hx);obtain ⟨p1,p2,p3,p4⟩:=h4;have hval:=fun W=>PW x.kind x.n x.pos (Lx.bs x.text) W (by rw [Lx.jc];unfold maxLen;omega);rw[Lx.aK] at hval;have Hx:=Lh hx;have HH:=Lh H;clear hx H;cases hs:Lx.valid x
   ·rw[hs] at hval;have wJ:=Lh hval;have Hs:=Lh hs;clear hval hs;go_wp2_with fail;refine (wJ.out _).mono ?_;rintro e w1 ⟨rfl,hb1⟩;have Hb1:=Lh hb1;clear hb1;go_wp2_with fail;go_ret2;refine ⟨kW.out.trans (Hb1.out.mono (by omega)),?_⟩;rw[Lx.yV Hx.out Hs.out];rfl
   ·rw[hs] at hval;have hol:=Lx.tQ hs;have hnext:=Lx.Jo Hx.out;have Mr:∀ (j:Nat) (t:Lx.Tok),j < k+1→l[j]?=some t→Lx.valid t=true:=fun j t hj ht=>by
     by_cases e:j=k
     ·subst e;rw[Hx.out] at ht;injection ht with ht;rw[←ht];exact hs
     ·exact Hh.out j t (by omega) ht
    have wJ:=Lh hval;have Hs:=Lh hs;have Hn:=Lh hnext;have Wv:=Lh Mr;clear hval hs hnext Mr;go_wp2_with fail;refine (wJ.out _).mono ?_;rintro e w1 ⟨rfl,hb1⟩;have q1:=hb1.cell (p:=⟨b,o+k*4,none⟩) (show b < wr.heap.size by omega);have q2:=hb1.cell (p:=⟨b,o+k*4+1,none⟩) (show b < wr.heap.size by omega);have q3:=hb1.cell (p:=⟨b,o+k*4+2,none⟩) (show b < wr.heap.size by omega);rw[p1] at q1;rw[p2] at q2;rw[p3] at q3;have hw1:=hb1.size;have Hb1:=Lh hb1;clear hb1 p1 p2 p3 p4
    by_cases h2:x.kind=2
    ·obtain ⟨hn0,hn1⟩:=Lx.tT Hs.out h2;have h2':(x.kind == 2)=true:=beq_iff_eq.2 h2;obtain ⟨u,hu⟩:=Int.eq_ofNat_of_zero_le hn0;have hdec:=fun W=>Jm u W (by omega);have hout:x.out=Lib.decDigits u:=by unfold Lx.Tok.out;rw[if_pos h2,hu];rfl
     rw[←hout] at hdec;have hu':((u:Nat):Int)=x.n:=hu.symm;rw[hu'] at hdec;have hos:=Lx.jc x.out;have Tt:=Lh hdec;clear hdec hout hu hu' h2
     by_cases hk0:k=0
     ·have hk0':k < 1:=by omega
      have nE:=Lh (Hn.out.trans (if_pos hk0));have H0:=Lh hk0;clear hk0;go_wp2_with fail;refine (Tt.out _).mono ?_;rintro e w2 ⟨rfl,hb2⟩;have Hb2:=Lh hb2;clear hb2;go_wp2_with fail
      go_roundw
      case rel=>exact ⟨k+1,by omega,by go_num,by rw [nE.out,HS.out,H0.out,Lx.wH];rfl,Wv.out,(kW.out.trans (Hb1.out.mono hwr)).trans (Hb2.out.mono (Nat.le_trans hwr hw1))⟩
      case measure=>simp [intOf];omega
     ·have hk0':0 < k:=by omega
      have nE:=Lh (Hn.out.trans (if_neg hk0));have H0:=Lh hk0;clear hk0;go_wp2_with fail;refine (Tt.out _).mono ?_;rintro e w2 ⟨rfl,hb2⟩;have Hb2:=Lh hb2;clear hb2;go_wp2_with fail
      go_roundw
      case rel=>exact ⟨k+1,by omega,by go_num,by rw [nE.out,HS.out,Lx.OW],Wv.out,(kW.out.trans (Hb1.out.mono hwr)).trans (Hb2.out.mono (Nat.le_trans hwr hw1))⟩
      case measure=>simp [intOf];omega
    ·have h2':(x.kind == 2)=false:=beq_eq_false_iff_ne.2 h2;have hout:x.out=x.text:=by unfold Lx.Tok.out;rw[if_neg h2]
     have hos:=Lx.jc x.text;rw[hout] at hol;have Ms:=Lh hout;clear hout h2
     by_cases hk0:k=0
     ·have hk0':k < 1:=by omega
      have nE:=Lh (Hn.out.trans (if_pos hk0));have H0:=Lh hk0;clear hk0;go_wp2_with fail
      go_roundw
      case rel=>exact ⟨k+1,by omega,by go_num,by rw [nE.out,HS.out,H0.out,Ms.out,Lx.wH];rfl,Wv.out,kW.out.trans (Hb1.out.mono hwr)⟩
      case measure=>simp [intOf];omega
     ·have hk0':0 < k:=by omega
      have nE:=Lh (Hn.out.trans (if_neg hk0));have H0:=Lh hk0;clear hk0;go_wp2_with fail
      go_roundw
      case rel=>exact ⟨k+1,by omega,by go_num,by rw [nE.out,HS.out,Ms.out,Lx.OW],Wv.out,kW.out.trans (Hb1.out.mono hwr)⟩
      case measure=>simp [intOf];omega
  ·obtain rfl:k=l.length:=by omega
   have htx:=Lx.yX fun j t hj=>Hh.out j t (List.getElem?_eq_some_iff.1 hj).1 hj;have hpre:Lx.pre l l.length=Lx.dB (l.map Lx.Tok.out):=by unfold Lx.pre;rw[List.take_length]
   have XY:=Lh htx;have BL:=Lh hpre;clear htx hpre;go_wp2_with fail;go_ret2;refine ⟨kW.out,?_⟩;rw[XY.out,HS.out,BL.out];rfl
end Go.Proofs.YtjonaidancomgaaGreatDoor
namespace Go.Proofs.YtjonaidancomgaaGreatDoor
open Go.RowKit
theorem Fj {l:List Lx.Tok} {A:Option Addr} {n c:Nat} {W V w:World} (h:TS W V l A n c w) (hv:Sx.Vs l) (hl:l.length≤60000):Calls Tryz.prog 55 #[.slice A n c] w (kF (Lx.dB (l.map Lx.Tok.out)) 0 w):=by
 obtain ⟨h1,rfl,-,-⟩:=h;refine (Tq A c l w (wM h1 (by omega) fun t ht=>Sx.lQ (hv t ht)) (by omega)).mono fun e w' h=>?_;unfold wI at h;rw[hv.text] at h;exact ⟨h.2,h.1⟩
theorem Mt (x:Sx.dh) (cs:List Value) (w:World) (hat:bE w (Old w) x cs) (hf:Sx.few x=true):Calls Tryz.prog 21 #[.agg cs.toArray] w (kF (Sx.mG x).1 (Sx.mG x).2 w):=by
 obtain ⟨p,hp⟩:∃ p,p=Sx.mG x:=⟨_,rfl⟩
 rw[←hp];have HP:=Lh hp;clear hp;obtain ⟨W,hW⟩:∃ W,W=w.alloc (.cells cs.toArray 30):=⟨_,rfl⟩
 have hbw:Below w.heap.size w W:=by rw [hW];exact (Below.refl _ _).alloc (Nat.le_refl _) _
 have hbx:aC W w.heap.size 30 cs.toArray:=by rw [hW];exact aC.new _ _ _
 have K:=Lh (PX x W cs (bE.keep (aG hbw) hat));have HA:=Lh (fun w' (h:Below w.heap.size w w')=>bE.keep (aG h) hat);obtain ⟨a0,m0,e0,a1,m1,e1,a2,m2,e2,a3,m3,e3,a4,m4,e4,a5,m5,e5,a6,m6,e6,rfl⟩:=pW hat;have HB:=Lh hbw;have HX:=Lh hbx;have HF:=Lh hf;obtain ⟨x0,x1,x2,x3,x4,x5,x6,xz⟩:=bJ hbx;clear hat hbw hbx hf;go_enter Tryz.func21,Tryz.ntmps21;go_upto_region 1 with fail;rw[←hW];clear hW;go_wp2_with fail;refine K.out.mono ?_;rintro e w1 ⟨rfl,hb⟩;have HB1:=Lh (HB.out.trans (hb.mono HB.out.size));clear x0 x1 x2 x3 x4 x5 x6
 obtain ⟨x0,x1,x2,x3,x4,x5,x6,xy⟩:=bJ (HX.out.below hb xz);clear hb;cases hk:Sx.eX x with
 | false=>
  obtain rfl:p=([],100):=by rw [HP.out];unfold Sx.mG;rw[hk];rfl
  go_wp2_with fail;go_ret2;exact ⟨rfl,HB1.out⟩
 | true=>
  obtain rfl:p=(Lx.dB ((Sx.gQ x).map Lx.Tok.out),0):=by rw [HP.out];unfold Sx.mG;rw[hk];rfl
  have HK:=Lh hk;clear hk K;go_wp2_with fail;refine (Jp x w1 _ (HA.out w1 HB1.out) HK.out HF.out).mono ?_;rintro e w2 ⟨A,n,c,rfl,ht⟩;have HT:=Lh ht;clear ht;go_wp2_with fail;refine (Fj HT.out (Sx.Ae HK.out) (Sx.qW HF.out)).mono ?_;rintro e w3 ⟨rfl,hb⟩;have HB3:=Lh (HB1.out.trans ((HT.out.aY.trans (hb.mono HT.out.aY.size)).mono HB1.out.size));clear hb;go_wp2_with fail;go_ret2;exact ⟨rfl,HB3.out⟩
theorem PY (r:Sx.Rule) (cs:List Value) (w:World) (h:aB w (Old w) r cs) (hf:Sx.iQ r=true):Calls Tryz.prog 23 #[.agg cs.toArray] w (kF (Sx.mH r).1 (Sx.mH r).2 w):=by
 obtain ⟨p,hp⟩:∃ p,p=Sx.mH r:=⟨_,rfl⟩
 rw[←hp];have HP:=Lh hp;clear hp;have HA:=Lh (fun w' (hb:Below w.heap.size w w')=>cu hb h);obtain ⟨i0,i1,s2,i3,i4,A5,n5,c5,rfl⟩:=bG h;obtain ⟨W,hW⟩:∃ W,W=w.alloc (.cells #[.int .i64 i0,.int .i64 i1,.string s2,.int .i64 i3,.int .i64 i4,.slice A5 n5 c5] 38):=⟨_,rfl⟩
 have hbw:Below w.heap.size w W:=by rw [hW];exact (Below.refl _ _).alloc (Nat.le_refl _) _
 have hbx:aC W w.heap.size 38 #[.int .i64 i0,.int .i64 i1,.string s2,.int .i64 i3,.int .i64 i4,.slice A5 n5 c5]:=by rw [hW];exact aC.new _ _ _
 have K:=Lh (vU 16 1 (by decide) (by decide) r W _ (HA.out W hbw));have HB:=Lh hbw;have HX:=Lh hbx;have HF:=Lh hf;obtain ⟨x0,x1,x2,x3,x4,x5,xz⟩:=aQ hbx;clear h hbw hbx hf;go_enter Tryz.func23,Tryz.ntmps23;go_upto_region 1 with fail;rw[←hW];clear hW;go_wp2_with fail;refine K.out.mono ?_;rintro e w1 ⟨rfl,hb⟩;have HB1:=Lh (HB.out.trans (hb.mono HB.out.size));clear x0 x1 x2 x3 x4 x5;obtain ⟨x0,x1,x2,x3,x4,x5,xy⟩:=aQ (HX.out.below hb xz);clear hb;cases hk:Sx.aO 16 r with
 | false=>
  obtain rfl:p=([],100):=by rw [HP.out];unfold Sx.mH;rw[hk];rfl
  go_wp2_with fail;go_ret2;exact ⟨rfl,HB1.out⟩
 | true=>
  obtain rfl:p=(Lx.dB ((Sx.aF r).map Lx.Tok.out),0):=by rw [HP.out];unfold Sx.mH;rw[hk];rfl
  have HK:=Lh hk;have hl:(Sx.aF r).length≤60000:=Nat.le_trans (Sx.mZ HF.out) (by omega);clear hk K;go_wp2_with fail;refine (wN 16 r HK.out hl w1 _ (HA.out w1 HB1.out)).mono ?_;rintro e w2 ⟨A,n,c,rfl,ht⟩;have HT:=Lh ht;clear ht;go_wp2_with fail;refine (Fj HT.out (Sx.pX 16 r HK.out) hl).mono ?_;rintro e w3 ⟨rfl,hb⟩;have HB3:=Lh (HB1.out.trans ((HT.out.aY.trans (hb.mono HT.out.aY.size)).mono HB1.out.size));clear hb;go_wp2_with fail;go_ret2;exact ⟨rfl,HB3.out⟩
theorem DV (N:Nat) (a b:Sx.dh) (r:Sx.Rule) (la lb lr:List Value) (w:World) (he:d9 N w) (ha:bE w (Old w) a la) (hb:bE w (Old w) b lb) (hr:aB w (Old w) r lr):Calls Tryz.prog 5 #[.agg la.toArray,.agg lb.toArray,.agg lr.toArray] w (BM w):=by
 obtain ⟨Tv,Tw,Tx,Tz,TA,TB,TD,TF,TG,TH,TI,TJ,TK,TL,TM,TN,TP,TQ,TT,TU,TV,rfl⟩:=pW ha;obtain ⟨TW,TY,Ua,Ub,Uc,Ud,Ue,Uf,Ug,Uh,Ui,Uj,Uk,Ul,Um,Un,Uo,Uq,Ur,Us,Ut,rfl⟩:=pW hb;obtain ⟨r0,r1,r2,r3,r4,rA,rn,rc,rfl⟩:=bG hr
 obtain ⟨W,hW⟩:∃ W,W=((w.alloc (.cells #[.slice Tv Tw Tx,.slice Tz TA TB,.slice TD TF TG,.slice TH TI TJ,.slice TK TL TM,.slice TN TP TQ,.slice TT TU TV] 30)).alloc (.cells #[.slice TW TY Ua,.slice Ub Uc Ud,.slice Ue Uf Ug,.slice Uh Ui Uj,.slice Uk Ul Um,.slice Un Uo Uq,.slice Ur Us Ut] 30)).alloc (.cells #[.int .i64 r0,.int .i64 r1,.string r2,.int .i64 r3,.int .i64 r4,.slice rA rn rc] 38):=⟨_,rfl⟩
 have hbw:Below w.heap.size w W:=by rw [hW];exact (((Below.refl _ _).alloc (Nat.le_refl _) _).alloc (by simp) _).alloc (by simp;omega) _
 have e0:aC W w.heap.size 30 #[.slice Tv Tw Tx,.slice Tz TA TB,.slice TD TF TG,.slice TH TI TJ,.slice TK TL TM,.slice TN TP TQ,.slice TT TU TV]:=by rw [hW];exact ((aC.new _ _ _).alloc _).alloc _
 have e1:aC W (w.heap.size+1) 30 #[.slice TW TY Ua,.slice Ub Uc Ud,.slice Ue Uf Ug,.slice Uh Ui Uj,.slice Uk Ul Um,.slice Un Uo Uq,.slice Ur Us Ut]:=by rw [hW];exact (aC.aZ _ _ (by simp)).alloc _
 have e2:aC W (w.heap.size+2) 38 #[.int .i64 r0,.int .i64 r1,.string r2,.int .i64 r3,.int .i64 r4,.slice rA rn rc]:=by rw [hW];exact aC.aZ _ _ (by simp)
 have CA:=Lh (fun W' (h:Below W.heap.size W W')=>bE.keep (aG (hbw.trans (h.mono hbw.size))) ha);have CB:=Lh (fun W' (h:Below W.heap.size W W')=>bE.keep (aG (hbw.trans (h.mono hbw.size))) hb);have CR:=Lh (fun W' (h:Below W.heap.size W W')=>cu (hbw.trans (h.mono hbw.size)) hr);have E0:=Lh (he.next hbw);have BW:=Lh hbw;have P0:=Lh e0;have P1:=Lh e1;have P2:=Lh e2;have z2:=e2.lt
 have aX:Hid (∀ w':World,Below W.heap.size W w'→w'.cell? ⟨w.heap.size,0,none⟩=some (.slice Tv Tw Tx)∧w'.cell? ⟨w.heap.size,1,none⟩=some (.slice Tz TA TB)∧w'.cell? ⟨w.heap.size,2,none⟩=some (.slice TD TF TG)∧w'.cell? ⟨w.heap.size,3,none⟩=some (.slice TH TI TJ)∧w'.cell? ⟨w.heap.size,4,none⟩=some (.slice TK TL TM)∧w'.cell? ⟨w.heap.size,5,none⟩=some (.slice TN TP TQ)∧w'.cell? ⟨w.heap.size,6,none⟩=some (.slice TT TU TV)∧w'.cell? ⟨w.heap.size+1,0,none⟩=some (.slice TW TY Ua)∧w'.cell? ⟨w.heap.size+1,1,none⟩=some (.slice Ub Uc Ud)∧w'.cell? ⟨w.heap.size+1,2,none⟩=some (.slice Ue Uf Ug)∧w'.cell? ⟨w.heap.size+1,3,none⟩=some (.slice Uh Ui Uj)∧w'.cell? ⟨w.heap.size+1,4,none⟩=some (.slice Uk Ul Um)∧w'.cell? ⟨w.heap.size+1,5,none⟩=some (.slice Un Uo Uq)∧w'.cell? ⟨w.heap.size+1,6,none⟩=some (.slice Ur Us Ut)∧w'.cell? ⟨w.heap.size+2,0,none⟩=some (.int .i64 r0)∧w'.cell? ⟨w.heap.size+2,1,none⟩=some (.int .i64 r1)∧w'.cell? ⟨w.heap.size+2,2,none⟩=some (.string r2)∧w'.cell? ⟨w.heap.size+2,3,none⟩=some (.int .i64 r3)∧w'.cell? ⟨w.heap.size+2,4,none⟩=some (.int .i64 r4)∧w'.cell? ⟨w.heap.size+2,5,none⟩=some (.slice rA rn rc)):=Lh (fun w' hb=>by
  obtain ⟨x0,x1,x2,x3,x4,x5,x6,_⟩:=bJ (P0.out.below hb P0.out.lt);obtain ⟨y0,y1,y2,y3,y4,y5,y6,_⟩:=bJ (P1.out.below hb P1.out.lt);obtain ⟨u0,u1,u2,u3,u4,u5,_⟩:=aQ (P2.out.below hb P2.out.lt);exact ⟨x0,x1,x2,x3,x4,x5,x6,y0,y1,y2,y3,y4,y5,y6,u0,u1,u2,u3,u4,u5⟩)
 clear ha hb hr he hbw e0 e1 e2;go_enter Tryz.func5,Tryz.ntmps5;go_upto_region 1 with fail;rw[←hW];clear hW;go_wp2_with fail;refine (Uu N W E0.out).mono ?_;rintro e w1 ⟨rfl,b1⟩;have B1:=Lh b1;clear b1;obtain ⟨x0,x1,x2,x3,x4,x5,x6,x7,x8,x9,x10,kG,kH,kI,mI,lS,GA,GD,x18,GH⟩:=aX.out w1 B1.out;cases hfa:Sx.few a with
 | false=>
  go_wp2_with fail;refine (Mv a w1 _ (CA.out w1 B1.out)).mono ?_;rw[hfa];rintro e w2 ⟨rfl,b2⟩;have B2:=Lh (B1.out.trans (b2.mono B1.out.size));clear b2;go_wp2_with fail;go_ret;exact ⟨rfl,BW.out.trans (B2.out.mono BW.out.size)⟩
 | true=>
 have Hfa:=Lh hfa;go_wp2_with fail;refine (Mv a w1 _ (CA.out w1 B1.out)).mono ?_;rw[hfa];rintro e w2 ⟨rfl,b2⟩;have B2:=Lh (B1.out.trans (b2.mono B1.out.size));clear b2 hfa x0 x1 x2 x3 x4 x5 x6 x7 x8 x9 x10 kG kH kI mI lS GA GD x18 GH;obtain ⟨x0,x1,x2,x3,x4,x5,x6,x7,x8,x9,x10,kG,kH,kI,mI,lS,GA,GD,x18,GH⟩:=aX.out w2 B2.out;cases Ww:Sx.few b with
 | false=>
  go_wp2_with fail;refine (Mv b w2 _ (CB.out w2 B2.out)).mono ?_;rw[Ww];rintro e w3 ⟨rfl,b2⟩;have B3:=Lh (B2.out.trans (b2.mono B2.out.size));clear b2;go_wp2_with fail;go_ret;exact ⟨rfl,BW.out.trans (B3.out.mono BW.out.size)⟩
 | true=>
 have Hfb:=Lh Ww;go_wp2_with fail;refine (Mv b w2 _ (CB.out w2 B2.out)).mono ?_;rw[Ww];rintro e w3 ⟨rfl,b2⟩;have B3:=Lh (B2.out.trans (b2.mono B2.out.size));clear b2 Ww x0 x1 x2 x3 x4 x5 x6 x7 x8 x9 x10 kG kH kI mI lS GA GD x18 GH;obtain ⟨x0,x1,x2,x3,x4,x5,x6,x7,x8,x9,x10,kG,kH,kI,mI,lS,GA,GD,x18,GH⟩:=aX.out w3 B3.out;cases hfr:Sx.iQ r with
 | false=>
  go_wp2_with fail;refine (pY r w3 _ (CR.out w3 B3.out)).mono ?_;rw[hfr];rintro e w4 ⟨rfl,b2⟩;have B4:=Lh (B3.out.trans (b2.mono B3.out.size));clear b2;go_wp2_with fail;go_ret;exact ⟨rfl,BW.out.trans (B4.out.mono BW.out.size)⟩
 | true=>
 have Hfr:=Lh hfr;go_wp2_with fail;refine (pY r w3 _ (CR.out w3 B3.out)).mono ?_;rw[hfr];rintro e w4 ⟨rfl,b2⟩;have B4:=Lh (B3.out.trans (b2.mono B3.out.size));clear b2 hfr x0 x1 x2 x3 x4 x5 x6 x7 x8 x9 x10 kG kH kI mI lS GA GD x18 GH;obtain ⟨s1,hs1⟩:∃ s,s=(Sx.mG a).1:=⟨_,rfl⟩
 obtain ⟨e1,he1⟩:∃ e,e=(Sx.mG a).2:=⟨_,rfl⟩
 obtain ⟨s2,hs2⟩:∃ s,s=(Sx.mH r).1:=⟨_,rfl⟩
 obtain ⟨e2,he2⟩:∃ e,e=(Sx.mH r).2:=⟨_,rfl⟩
 have K1:=Lh (fun w' h=>Mw N a _ w' (E0.out.next h) (CA.out w' h) Hfa.out);have K2:=Lh (fun w' h=>Mt a _ w' (CA.out w' h) Hfa.out);have K3:=Lh (fun w' h=>PZ N r _ w' (E0.out.next h) (CR.out w' h) Hfr.out);have K4:=Lh (fun w' h=>PY r _ w' (CR.out w' h) Hfr.out);rw[←hs1,←he1] at K1 K2;rw[←hs2,←he2] at K3 K4;clear hs1 he1 hs2 he2;obtain ⟨x0,x1,x2,x3,x4,x5,x6,x7,x8,x9,x10,kG,kH,kI,mI,lS,GA,GD,x18,GH⟩:=aX.out w4 B4.out;go_wp2_with fail;refine (K1.out w4 B4.out).mono ?_;rintro e w5 ⟨rfl,b2⟩;have B5:=Lh (B4.out.trans (b2.mono B4.out.size))
 clear b2 x0 x1 x2 x3 x4 x5 x6 x7 x8 x9 x10 kG kH kI mI lS GA GD x18 GH;obtain ⟨x0,x1,x2,x3,x4,x5,x6,x7,x8,x9,x10,kG,kH,kI,mI,lS,GA,GD,x18,GH⟩:=aX.out w5 B5.out;go_wp2_with fail;refine (K2.out w5 B5.out).mono ?_;rintro e w6 ⟨rfl,b2⟩;have B6:=Lh (B5.out.trans (b2.mono B5.out.size));clear b2 x0 x1 x2 x3 x4 x5 x6 x7 x8 x9 x10 kG kH kI mI lS GA GD x18 GH;obtain ⟨x0,x1,x2,x3,x4,x5,x6,x7,x8,x9,x10,kG,kH,kI,mI,lS,GA,GD,x18,GH⟩:=aX.out w6 B6.out;go_wp2_with fail;refine (K3.out w6 B6.out).mono ?_;rintro e w7 ⟨rfl,b2⟩;have B7:=Lh (B6.out.trans (b2.mono B6.out.size))
 clear b2 x0 x1 x2 x3 x4 x5 x6 x7 x8 x9 x10 kG kH kI mI lS GA GD x18 GH;obtain ⟨x0,x1,x2,x3,x4,x5,x6,x7,x8,x9,x10,kG,kH,kI,mI,lS,GA,GD,x18,GH⟩:=aX.out w7 B7.out;go_wp2_with fail;refine (K4.out w7 B7.out).mono ?_;rintro e w8 ⟨rfl,b2⟩;have B8:=Lh (B7.out.trans (b2.mono B7.out.size));clear b2 x0 x1 x2 x3 x4 x5 x6 x7 x8 x9 x10 kG kH kI mI lS GA GD x18 GH;obtain ⟨q,hq⟩:∃ q,q=decide (a=b):=⟨_,rfl⟩
 have KA:=Lh (fun w' (h:Below W.heap.size W w')=>DW a b w' _ _ (CA.out w' h) (CB.out w' h));have KR:=Lh (fun w' (h:Below W.heap.size W w')=>Jq a b w' _ _ (CA.out w' h) (CB.out w' h));have KS:=Lh (fun w' (h:Below W.heap.size W w')=>DW a a w' _ _ (CA.out w' h) (CA.out w' h));rw[←hq] at KA KR;rw[decide_eq_true rfl] at KS
 have BN:Hid (∀ w':World,Below W.heap.size W w'→w'.cell? ⟨w.heap.size,0,none⟩=some (.slice Tv Tw Tx)∧w'.cell? ⟨w.heap.size,1,none⟩=some (.slice Tz TA TB)∧w'.cell? ⟨w.heap.size,2,none⟩=some (.slice TD TF TG)∧w'.cell? ⟨w.heap.size,3,none⟩=some (.slice TH TI TJ)∧w'.cell? ⟨w.heap.size,4,none⟩=some (.slice TK TL TM)∧w'.cell? ⟨w.heap.size,5,none⟩=some (.slice TN TP TQ)∧w'.cell? ⟨w.heap.size,6,none⟩=some (.slice TT TU TV)∧w'.cell? ⟨w.heap.size+1,0,none⟩=some (.slice TW TY Ua)∧w'.cell? ⟨w.heap.size+1,1,none⟩=some (.slice Ub Uc Ud)∧w'.cell? ⟨w.heap.size+1,2,none⟩=some (.slice Ue Uf Ug)∧w'.cell? ⟨w.heap.size+1,3,none⟩=some (.slice Uh Ui Uj)∧w'.cell? ⟨w.heap.size+1,4,none⟩=some (.slice Uk Ul Um)∧w'.cell? ⟨w.heap.size+1,5,none⟩=some (.slice Un Uo Uq)∧w'.cell? ⟨w.heap.size+1,6,none⟩=some (.slice Ur Us Ut)):=Lh (fun w' hb=>by
  obtain ⟨x0,x1,x2,x3,x4,x5,x6,x7,x8,x9,x10,kG,kH,kI,-⟩:=aX.out w' hb;exact ⟨x0,x1,x2,x3,x4,x5,x6,x7,x8,x9,x10,kG,kH,kI⟩)
 have hs1:((Lx.bs s1).toList == (Lx.bs s1).toList)=true:=by simp
 have hs2:((Lx.bs s2).toList == (Lx.bs s2).toList)=true:=by simp
 have he1:(e1 == e1)=true:=by simp
 have he2:(e2 == e2)=true:=by simp
 have hqq:(q == q)=true:=by simp
 obtain ⟨x0,x1,x2,x3,x4,x5,x6,x7,x8,x9,x10,kG,kH,kI⟩:=BN.out w8 B8.out;have z8:=B8.out.size;clear hq;go_wp2_with fail
 go_region_held_law (fun w':World=>w'.cell? ⟨w.heap.size,0,none⟩=some (.slice Tv Tw Tx)∧w'.cell? ⟨w.heap.size,1,none⟩=some (.slice Tz TA TB)∧w'.cell? ⟨w.heap.size,2,none⟩=some (.slice TD TF TG)∧w'.cell? ⟨w.heap.size,3,none⟩=some (.slice TH TI TJ)∧w'.cell? ⟨w.heap.size,4,none⟩=some (.slice TK TL TM)∧w'.cell? ⟨w.heap.size,5,none⟩=some (.slice TN TP TQ)∧w'.cell? ⟨w.heap.size,6,none⟩=some (.slice TT TU TV)∧w'.cell? ⟨w.heap.size+1,0,none⟩=some (.slice TW TY Ua)∧w'.cell? ⟨w.heap.size+1,1,none⟩=some (.slice Ub Uc Ud)∧w'.cell? ⟨w.heap.size+1,2,none⟩=some (.slice Ue Uf Ug)∧w'.cell? ⟨w.heap.size+1,3,none⟩=some (.slice Uh Ui Uj)∧w'.cell? ⟨w.heap.size+1,4,none⟩=some (.slice Uk Ul Um)∧w'.cell? ⟨w.heap.size+1,5,none⟩=some (.slice Un Uo Uq)∧w'.cell? ⟨w.heap.size+1,6,none⟩=some (.slice Ur Us Ut)) (first | exact BN.out _ B8.out.drew | go_keep) (first
  | (go_at_call 24;refine (KS.out _ OX.out).mono ?_;rintro e w20 ⟨rfl,hb⟩;have Uv:=bT OX hb;obtain ⟨x0,x1,x2,x3,x4,x5,x6,x7,x8,x9,x10,kG,kH,kI⟩:=BN.out _ Uv.out;clear hb)
  | (go_at_call 14;refine (KR.out _ OY.out).mono ?_;rintro e w20 ⟨rfl,hb⟩;have OX:=bT OY hb;obtain ⟨x0,x1,x2,x3,x4,x5,x6,x7,x8,x9,x10,kG,kH,kI⟩:=BN.out _ OX.out;clear hb)
  | (go_at_call 24;refine (KA.out _ B8.out.drew).mono ?_;rintro e w20 ⟨rfl,hb⟩;have OY:=bT (Lh B8.out.drew) hb;obtain ⟨x0,x1,x2,x3,x4,x5,x6,x7,x8,x9,x10,kG,kH,kI⟩:=BN.out _ OY.out;clear hb))
 all_goals (try go_wp2_with fail)
 all_goals go_ret
 all_goals exact ⟨aj (by simp),BW.out.trans (Uv.out.mono BW.out.size)⟩
end Go.Proofs.YtjonaidancomgaaGreatDoor
namespace Go.Proofs.YtjonaidancomgaaGreatDoor
open Go.RowKit Go.WideShapes Go.ChangeShapes
set_option maxRecDepth 100000
section
variable {H : Type} {enc : TypeId × Value → H} {P : Program}
theorem yB {f:Func} {s:ChangeSpec} {apart fresh handsOn again:Bool} {W W':World} {args:Array Value} {v:Value} {ds gs:List (DataW H)} {before pa pv:List MemPlace}
  (hW:DataW.Whole enc P f.params.toList s.vars apart W args.toList ds gs before)
  (hres:∀ (b:Nat) (sp:Nat→Bool) (hd:Bool),DataW.TrodAll enc P W' b sp hd f.resultTypes.toList (v.resultList f.resultTypes.size) (s.fn H (ds++gs)).results [])
  (hargs:∀ sp:Nat→Bool,(∀ p∈before,sp p.block=true)→DataW.TrodAll enc P W' 0 sp true f.params.toList args.toList (s.fn H (ds++gs)).args pa)
  (hvars:∀ sp:Nat→Bool,(∀ p∈before,sp p.block=true)→DataW.TrodVars enc P W' sp s.vars (s.fn H (ds++gs)).vars pv)
  (hps:before=pa++pv) (hb:Below W.heap.size W W')
  (hok:∀ (j:Nat) (t:TypeId) (r:Value),f.resultTypes[j]?=some t→(v.resultList f.resultTypes.size)[j]?=some r→Value.okWide P W' .any 0 t r) :
  s.post enc P f apart fresh handsOn again W args v W':=by
 have hlt:∀ p∈before,p.block < W.heap.size:=fun p hp=>hW.lt p hp;have hold:∀ p∈before,(fun b=>decide (b < W.heap.size)) p.block=true:=fun p hp=>by simpa using hlt p hp
 refine ⟨ds,gs,before,[],pa,pv,hW,hres _ _ _,hargs _ hold,hvars _ hold,World.keptBut_mono (fun p hp=>⟨hp,?_⟩) (hb.frame (·∈before)),fun _=>?_⟩
 ·rw[hps,List.mem_append] at hp;exact Or.inr hp
 ·obtain ⟨_,_,_,_,_,hz,hn⟩:=hW;refine ⟨hok,_,_,([]++pa)++pv,⟨[]++pa,pv,trodAll_append (hargs _ (fun _ _=>rfl)) (hres _ _ _),hvars _ (fun _ _=>rfl),rfl,?_,?_⟩,?_⟩
  ·intro b off hp;have hin:MemPlace.cell b off∈before:=by rw [hps];simpa using hp
   rw[hb.frozen (hlt _ hin)];exact hz b off hin
  ·intro ha;have:=hn ha;rw[hps] at this;simpa using this
  ·intro p hp _;rw[hps];simpa using hp
end
theorem own:ownKnob Tryz.prog.godebug=none:=by kernel_rfl
theorem Fp : "*" ++ "errors.errorString" = "*errors.errorString" := by decide
theorem P9 (u : TypeId) (h : Tryz.prog.typeName? 3 u = some "*errors.errorString") : u = 272 :=
 typeName_ptr_named (nm := "errors.errorString") (by rw [Fp]; kernel_rfl) (by kernel_rfl) (by decide) u (by rw [Fp]; exact h)
theorem BO {x y z:DataW Unit} {text:List UInt8} {r:List (String × DataW Unit)} {W:World} (hz:z=Lib.tabData .u64 Lib.pow10Tab)
  (h : laidMet Tryz.prog (("math/bits.deBruijn32tab", x) :: ("math/bits.deBruijn64tab", y) :: ("internal/strconv.uint64pow10", z) :: ("strconv.ErrRange", .iface "*errors.errorString" (.ptr (.agg [.lit (.string text)]))) :: r) W) : Env W := by
 subst hz;have h1:=h.tail;have h2:=h1.tail;have h3:=h2.tail;refine ⟨?_,?_,?_⟩
 ·have ht:=Lib.tabIs_of_head (P:=Tryz.prog) (g:=8) (t:=266) (e:=229) (n:=20) (by kernel_rfl) (by kernel_rfl) Tryz.underlying266 Tryz.underlying229 (by kernel_rfl) (by kernel_rfl) h2;unfold Lib.TabIs World.var? at ht;rw [show Tryz.prog.globalNamed "internal/strconv.uint64pow10" = some 8 by kernel_rfl] at ht
  simp only[Option.bind_some] at ht
  split at ht
  ·rename_i cs t fz hh;cases ht;exact ⟨t,fz,hh⟩
  ·cases ht
 ·obtain ⟨a,s,hv,_⟩:=laid_sentinel h3 (g:=6) (ti:=204) (by kernel_rfl) (by kernel_rfl) Tryz.underlying204 P9 Tryz.underlying272 Tryz.underlying274 rfl rfl Tryz.underlying9 (by kernel_rfl) (by kernel_rfl);have := World.var?_cell (show Tryz.prog.globalNamed "strconv.ErrRange" = some 6 by kernel_rfl) hv 0
  exact ⟨_,_,by simpa using this⟩
 ·obtain ⟨ps,⟨g,t,cs,fuel,p,q,hg,_,hv,_⟩,_⟩:=h1;obtain rfl := Option.some.inj ((show Tryz.prog.globalNamed "math/bits.deBruijn64tab" = some 10 by kernel_rfl).symm.trans hg)
  unfold World.var? at hv;rw[hg] at hv;simp only[Option.bind_some] at hv
  rcases Nat.lt_or_ge 10 W.heap.size with hh | hh
  ·exact hh
  ·rw[Array.getElem?_eq_none hh] at hv;cases hv
noncomputable def XZ (os:Os) (args:Array Value):World:=(World.doorLaid Tryz.prog 87 os).forCall (fun _ _=>0) ⟨#[],args,[]⟩
theorem Jr (os:Os) (args:Array Value):(XZ os args).variablesRefB Tryz.prog=true:=by kernel_rfl
theorem Js (os:Os) (args:Array Value):((XZ os args).heap.toList.drop Tryz.prog.globals.size).take ((begin Tryz.prog (fun _ _=>0) default).world.heap.size - Tryz.prog.globals.size) =
   (begin Tryz.prog (fun _ _=>0) default).world.heap.toList.drop Tryz.prog.globals.size:=by kernel_rfl
end Go.Proofs.YtjonaidancomgaaGreatDoor
namespace Go.Proofs.YtjonaidancomgaaGreatDoor
open Go.RowKit Go.WideShapes Go.ChangeShapes Go.Deep
section
variable {H : Type} {enc : TypeId × Value → H} {P : Program} {w : World} {base : Nat} {spare : Nat → Bool} {held : Bool}
end
theorem oG (b o j:Nat):(⟨b,o,none⟩:Addr).add j=⟨b,o+j,none⟩:=by unfold Addr.add;split <;> simp_all
theorem cell_spot {w:World} {a:Addr} {v:Value} (h:w.cell? a=some v):a.spot=none:=by
 unfold World.cell? at h
 split at h
 ·split at h
  ·cases h
  ·rename_i h2;simpa using h2
 ·cases h
section
variable {H : Type} {enc : TypeId × Value → H}
structure Qa (w : World) (B : Nat) (A : Option Addr) (n : Nat) : Prop where
 at_:∀ k,k < n→∃ b o z,A=some ⟨b,o,none⟩∧b < B∧w.cell? ⟨b,o+k,none⟩=some (.int .u8 (z:Nat))∧z < 256
 len:n≤140737488351232
end
theorem Qa.below {w w':World} {B B':Nat} {A:Option Addr} {n:Nat} (h:Qa w B A n) (hb:Below B' w w') (hB:B≤B'):Qa w' B A n:=
 ⟨fun k hk=>by
  obtain ⟨b,o,z,e,hlt,hc,hz⟩:=h.at_ k hk;exact ⟨b,o,z,e,hlt,(hb.cell (p:=⟨b,o+k,none⟩) (show b < B' by omega)).trans hc,hz⟩,h.len⟩
end Go.Proofs.YtjonaidancomgaaGreatDoor
namespace Go.Proofs.YtjonaidancomgaaGreatDoor
open Go.ChangeShapes Go.WideShapes Go.ChangeAt Go.RowKit Go.WideMaps Go.ChangeMaps
set_option maxRecDepth 100000 in
theorem jd {nm:String} {gi:Nat} {ws:List (List UInt8)} {d:DataW Unit} {r:List (String × DataW Unit)} {W:World} (hgi:Tryz.prog.globalNamed nm=some gi) (hty:(Tryz.prog.globals[gi]?).map (·.type)=some 105) (hne:0 < ws.length) (hd0:d = .slice (ws.map fun x=>.lit (.string x)) [])
  (h:laidMet Tryz.prog ((nm,d)::r) W):kX W W.heap.size gi ws:=by
 obtain ⟨ps,⟨g,t,cs,fuel,p,q,hg,ht,hv,hd,_⟩,_⟩:=h;obtain rfl:=Option.some.inj (hgi.symm.trans hg);obtain rfl:=Option.some.inj (hty.symm.trans ht);subst hd0
 rcases open_strings Tryz.underlying105 Tryz.underlying9 (by kernel_rfl) hd with ⟨_,hx⟩ | ⟨a,len,cap,ss,hcs,_,hl,hm,hz,hx,hc,_⟩
 ·cases hx
 ·simp only[Prod.mk.injEq,DataW.slice.injEq] at hx;obtain ⟨⟨hx1,hx2⟩,_⟩:=hx;have Uw:ss.drop len = []:=by
   unfold strs at hx2;exact List.map_eq_nil_iff.1 hx2.symm
  have h1:ss.take len=ss:=by
   have:=List.take_append_drop len ss;rw[Uw,List.append_nil] at this;exact this
  have hss:ss.map (·.data.toList)=ws:=by
   rw[h1] at hx1;unfold strs at hx1;have h2:(ws.map fun x=>(DataW.lit (.string x):DataW Unit))=(ss.map (·.data.toList)).map fun x=>DataW.lit (.string x):=by
    rw[hx1,List.map_map];rfl
   have hinj:∀ (l l':List (List UInt8)),(l.map fun x=>(DataW.lit (.string x):DataW Unit))=l'.map (fun x=>DataW.lit (.string x))→l=l':=by
    intro l
    induction l with
    | nil=>intro l' h;cases l' with | nil=>rfl | cons a b=>simp at h
    | cons a b ih=>
     intro l' h;cases l' with
     | nil=>simp at h
     | cons a' b'=>
      simp only[List.map_cons,List.cons.injEq,DataW.lit.injEq,Lit.string.injEq] at h;rw[h.1,ih b' h.2]
   exact (hinj _ _ h2).symm
  have q1Z:ss.length=ws.length:=by
   have:=congrArg List.length hss
   rwa [List.length_map] at this
  rw[if_pos rfl] at hz;have hlen:len=ws.length:=by
   have:=congrArg List.length Uw;rw[List.length_drop] at this;simp only[List.length_nil] at this;omega
  have h0:=hc 0 (by omega);have hsp:a.spot=none:=cell_spot (show W.cell? a=_ from h0);obtain ⟨ab,ao,asp⟩:=a;simp only at hsp;subst hsp;have hcell:W.cell? ⟨gi,0,none⟩=some (.slice (some ⟨ab,ao,none⟩) ws.length cap):=by
   have:=World.var?_cell hg hv 0;rw[Array.eq_one_of_toList hcs,hlen] at this;simpa using this
  have hin:∀ (k o:Nat) (v:Value),W.cell? ⟨k,o,none⟩=some v→k < W.heap.size:=fun k o v hk=>by
   rcases Nat.lt_or_ge k W.heap.size with h | h
   ·exact h
   ·unfold World.cell? at hk;simp only[Array.getElem?_eq_none h] at hk;cases hk
  refine ⟨ab,ao,cap,hcell,hin _ _ _ hcell,hin ab ao _ (show W.cell? ⟨ab,ao,none⟩=_ from h0),fun i x hx=>?_⟩;have hi:i < ss.length:=by
   have:=(List.getElem?_eq_some_iff.1 hx).1;omega
  have h1:=hc i hi;rw[oG] at h1;rw[h1];rw[←hss,List.getElem?_map,List.getElem?_eq_getElem hi] at hx;simp only[Option.map_some,Option.some.injEq] at hx;have h2:ss.getD i ByteArray.empty=ss[i]:=by simp [List.getD,List.getElem?_eq_getElem hi]
  rw[h2,←hx];unfold bB;rw[Lx.BP]
set_option maxRecDepth 100000 in
theorem Jt (os:Os) (args:Array Value):laidMetH Tryz.prog Rows.syntaxPlacesRow.laid (XZ os args).memory:=
 laidMetH_of_parts3 (fuel:=8) (laidMet_of_run' 8 (by kernel_rfl) (by kernel_rfl)) (by kernel_rfl) (by kernel_rfl)
theorem Ag {W:World} (h:laidMet Tryz.prog Rows.syntaxPlacesRow.laid W):d9 W.heap.size W:=by
 have he:=BO rfl h;have h5:=h.tail.tail.tail.tail.tail;exact ⟨he,Nat.le_refl _,by have:=he.size;omega,
  jd (nm := "sizar/syntax.ruleWords") (by kernel_rfl) (by kernel_rfl) (by decide) rfl h5,
  jd (nm := "sizar/syntax.kindWords") (by kernel_rfl) (by kernel_rfl) (by decide) rfl h5.tail,
  jd (nm := "sizar/syntax.whenWords") (by kernel_rfl) (by kernel_rfl) (by decide) rfl h5.tail.tail,
  jd (nm := "sizar/syntax.actionWords") (by kernel_rfl) (by kernel_rfl) (by decide) rfl h5.tail.tail.tail,
  jd (nm := "sizar/syntax.repeatWords") (by kernel_rfl) (by kernel_rfl) (by decide) rfl h5.tail.tail.tail.tail⟩
end Go.Proofs.YtjonaidancomgaaGreatDoor
