/- Parts of the proof, joined into one text: q1o, WZ. -/
import Derived.Test.YtjonaidancomgaaGreatDoorPSxEqh
import Derived.Test.YtjonaidancomgaaGreatDoorPSxEqf
import Derived.Test.YtjonaidancomgaaGreatDoorPSxRd
import Derived.Test.YtjonaidancomgaaGreatDoorPLxI
import Derived.Defers
import Derived.Recover
import Derived.Laws.EntriesVeiled
set_option maxHeartbeats 8000000
set_option maxRecDepth 20000
namespace Go.Proofs.YtjonaidancomgaaGreatDoor
open Go.RowKit
theorem YP (x y:Sx.bL) (w:World):(binOp .eql 75 (.agg #[.int .i64 x.num,.int .i64 x.den]) (.agg #[.int .i64 y.num,.int .i64 y.den])).run Tryz.prog w = .ok (.bool (x.num == y.num && x.den == y.den)) w:=by
 have h:(Op.equal 75 (.agg #[.int .i64 x.num,.int .i64 x.den]) (.agg #[.int .i64 y.num,.int .i64 y.den])).run Tryz.prog w = .ok (x.num == y.num && x.den == y.den) w:=AX 9998 w x y;simp only[binOp];simp[h]
theorem NQ (cr gr Ii SX:Int) (ho ho':Bool) (nm nm':List UInt8) (A A' B B':Option Addr) (m c m' c' k d k' d':Nat) (b1 b2:Bool) (w:World) (h1:∀ W,Below w.heap.size w W→Calls Tryz.prog 64 #[.slice A m c,.slice A' m' c'] W (ak b1 W)) (h2:∀ W,Below w.heap.size w W→Calls Tryz.prog 65 #[.slice B k d,.slice B' k' d'] W (ak b2 W)) :
  Calls Tryz.prog 63 #[.agg #[.string (Lx.bs nm),.int .i64 cr,.int .i64 gr,.bool ho,.slice A m c,.slice B k d],.agg #[.string (Lx.bs nm'),.int .i64 Ii,.int .i64 SX,.bool ho',.slice A' m' c',.slice B' k' d']] w (ak ((nm == nm') && (cr == Ii) && (gr == SX) && (ho == ho') && b1 && b2) w):=by
 obtain ⟨R,hR⟩:∃ R:Bool,R=((nm == nm') && (cr == Ii) && (gr == SX) && (ho == ho') && b1 && b2):=⟨_,rfl⟩
 rw[←hR];obtain ⟨W,hW⟩:∃ W,W=(w.alloc (.cells #[.string (Lx.bs nm),.int .i64 cr,.int .i64 gr,.bool ho,.slice A m c,.slice B k d] 108)).alloc (.cells #[.string (Lx.bs nm'),.int .i64 Ii,.int .i64 SX,.bool ho',.slice A' m' c',.slice B' k' d'] 108):=⟨_,rfl⟩
 have hbW:Below w.heap.size w W:=by rw [hW];exact ((Below.refl _ _).alloc (Nat.le_refl _) _).alloc (by simp) _
 have e0:aC W w.heap.size 108 #[.string (Lx.bs nm),.int .i64 cr,.int .i64 gr,.bool ho,.slice A m c,.slice B k d]:=by rw [hW];exact (aC.new w _ _).alloc _
 have f0:aC W (w.heap.size+1) 108 #[.string (Lx.bs nm'),.int .i64 Ii,.int .i64 SX,.bool ho',.slice A' m' c',.slice B' k' d']:=by rw [hW];exact aC.aZ _ _ (by simp)
 have HB0:=Lh hbW;have E0:=Lh e0;have F0:=Lh f0;clear hbW e0 f0;have hbs:((Lx.bs nm).toList == (Lx.bs nm').toList)=(nm == nm'):=by rw [ByteArray.toList_eq,ByteArray.toList_eq,Lx.aK,Lx.aK]
 have K4:=Lh (h1);have K5:=Lh (h2);go_enter Tryz.func63,Tryz.ntmps63;cases q0:(nm == nm') with
 | false=>
  rw[q0] at hbs hR;have HR:Hid (R=false):=Lh (by rw [hR];simp);clear hR;go_wp2_with fail;go_ret;exact ⟨aj HR.out.symm,(by have h:=HB0.out;rw[hW] at h;exact h)⟩
 | true=>
 rw[q0] at hbs hR;cases q1:(cr == Ii) with
 | false=>
  rw[q1] at hR;have HR:Hid (R=false):=Lh (by rw [hR];simp);clear hR;go_wp2_with fail;go_ret;exact ⟨aj HR.out.symm,(by have h:=HB0.out;rw[hW] at h;exact h)⟩
 | true=>
 rw[q1] at hR;cases q2:(gr == SX) with
 | false=>
  rw[q2] at hR;have HR:Hid (R=false):=Lh (by rw [hR];simp);clear hR;go_wp2_with fail;go_ret;exact ⟨aj HR.out.symm,(by have h:=HB0.out;rw[hW] at h;exact h)⟩
 | true=>
 rw[q2] at hR;cases q3:(ho == ho') with
 | false=>
  rw[q3] at hR;have HR:Hid (R=false):=Lh (by rw [hR];simp);clear hR;go_wp2_with fail;go_ret;exact ⟨aj HR.out.symm,(by have h:=HB0.out;rw[hW] at h;exact h)⟩
 | true=>
 rw[q3] at hR;go_wp2_with fail;rw[←hW];refine (K4.out _ HB0.out).mono ?_;rintro e w1 ⟨rfl,hb⟩;have HB1:=Lh (HB0.out.trans (hb.mono HB0.out.size));have y:=E0.out.below hb E0.out.lt;have y':=F0.out.below hb F0.out.lt;have E1:=Lh y;have F1:=Lh y';have x0:=y.cell 0;have x1:=y.cell 1;have x2:=y.cell 2;have x3:=y.cell 3;have x4:=y.cell 4;have x5:=y.cell 5;have r0:=y'.cell 0;have r1:=y'.cell 1;have r2:=y'.cell 2;have r3:=y'.cell 3;have r4:=y'.cell 4;have r5:=y'.cell 5;simp at x0 r0 x1 r1 x2 r2 x3 r3 x4 r4 x5 r5;have z1:=y'.lt;clear hb y y';cases q4:b1 with
 | false=>
  rw[q4] at hR;have HR:Hid (R=false):=Lh (by rw [hR];simp);clear hR;go_wp2_with fail;go_ret;exact ⟨aj HR.out.symm,HB1.out⟩
 | true=>
 rw[q4] at hR;clear q4;go_wp2_with fail;refine (K5.out _ HB1.out).mono ?_;rintro e w2 ⟨rfl,hb⟩;have HB2:=Lh (HB1.out.trans (hb.mono HB1.out.size));have y:=E1.out.below hb E1.out.lt;have y':=F1.out.below hb F1.out.lt;have E2:=Lh y;have F2:=Lh y';have x0:=y.cell 0;have x1:=y.cell 1;have x2:=y.cell 2;have x3:=y.cell 3;have x4:=y.cell 4;have x5:=y.cell 5;have r0:=y'.cell 0;have r1:=y'.cell 1;have r2:=y'.cell 2;have r3:=y'.cell 3;have r4:=y'.cell 4;have r5:=y'.cell 5;simp at x0 r0 x1 r1 x2 r2 x3 r3 x4 r4 x5 r5;have z2:=y'.lt;clear hb y y';have HR:Hid (R=(b2)):=Lh (by rw [hR];simp);clear hR
 go_wp2_with fail;go_ret;exact ⟨aj HR.out.symm,HB2.out⟩
theorem QL (x y:Sx.iK) (w:World) (ca cb:List Value) (ha:bW w (Old w) x ca) (hb:bW w (Old w) y cb):Calls Tryz.prog 63 #[.agg ca.toArray,.agg cb.toArray] w (ak (decide (x=y)) w):=by
 obtain ⟨A,c,B,d,rfl,_,r1,r2⟩:=ha;obtain ⟨A',c',B',d',rfl,_,r1',r2'⟩:=hb;have e:decide (x=y)=((x.name == y.name) && (x.aU == y.aU) && (x.gX == y.gX) && (x.home == y.home) && decide (x.names=y.names) && decide (x.froms=y.froms)):=by
  cases x;cases y;rw[Bool.eq_iff_iff];simp[and_assoc]
 rw[e];exact NQ _ _ _ _ _ _ _ _ _ _ _ _ _ _ _ _ _ _ _ _ _ _ w (fun W hb=>NK _ _ _ _ _ _ W (Row.old (P:=qM) r1 hb) (Row.old (P:=qM) r1' hb)) (fun W hb=>NM _ _ _ _ _ _ W (Row.old (P:=lT aT) r2 hb) (Row.old (P:=lT aT) r2' hb))
theorem NS (no us ea mn md no' us' SY QM md':Int) (nm nm':List UInt8) (A A':Option Addr) (m c m' c' bx:Nat) (b1:Bool) (w:World) (hx:aC w bx 123 #[.func (.func 63) #[] #[]]) (h1:∀ W,Below w.heap.size w W→Calls Tryz.prog 67 #[.slice A m c,.slice A' m' c',.func (.func 63) #[] #[]] W (ak b1 W)) :
  Calls Tryz.prog 66 #[.agg #[.string (Lx.bs nm),.int .i64 no,.int .i64 us,.int .i64 ea,.int .i64 mn,.int .i64 md,.slice A m c],.agg #[.string (Lx.bs nm'),.int .i64 no',.int .i64 us',.int .i64 SY,.int .i64 QM,.int .i64 md',.slice A' m' c'],.pointer (some ⟨bx,0,none⟩)] w (ak ((nm == nm') && (no == no') && (us == us') && (ea == SY) && (mn == QM && md == md') && b1) w):=by
 obtain ⟨R,hR⟩:∃ R:Bool,R=((nm == nm') && (no == no') && (us == us') && (ea == SY) && (mn == QM && md == md') && b1):=⟨_,rfl⟩
 rw[←hR];obtain ⟨W,hW⟩:∃ W,W=(w.alloc (.cells #[.string (Lx.bs nm),.int .i64 no,.int .i64 us,.int .i64 ea,.int .i64 mn,.int .i64 md,.slice A m c] 78)).alloc (.cells #[.string (Lx.bs nm'),.int .i64 no',.int .i64 us',.int .i64 SY,.int .i64 QM,.int .i64 md',.slice A' m' c'] 78):=⟨_,rfl⟩
 have hbW:Below w.heap.size w W:=by rw [hW];exact ((Below.refl _ _).alloc (Nat.le_refl _) _).alloc (by simp) _
 have e0:aC W w.heap.size 78 #[.string (Lx.bs nm),.int .i64 no,.int .i64 us,.int .i64 ea,.int .i64 mn,.int .i64 md,.slice A m c]:=by rw [hW];exact (aC.new w _ _).alloc _
 have f0:aC W (w.heap.size+1) 78 #[.string (Lx.bs nm'),.int .i64 no',.int .i64 us',.int .i64 SY,.int .i64 QM,.int .i64 md',.slice A' m' c']:=by rw [hW];exact aC.aZ _ _ (by simp)
 have HB0:=Lh hbW;have E0:=Lh e0;have F0:=Lh f0;clear hbW e0 f0;have hbs:((Lx.bs nm).toList == (Lx.bs nm').toList)=(nm == nm'):=by rw [ByteArray.toList_eq,ByteArray.toList_eq,Lx.aK,Lx.aK]
 have hrt:=YP ⟨mn,md⟩ ⟨QM,md'⟩;have hxl:=hx.lt;have hx0:=hx.cell 0;simp at hx0;have K5:=Lh (h1);go_enter Tryz.func66,Tryz.ntmps66;cases q0:(nm == nm') with
 | false=>
  rw[q0] at hbs hR;have HR:Hid (R=false):=Lh (by rw [hR];simp);clear hR;go_wp2_with fail;go_ret;exact ⟨aj HR.out.symm,(by have h:=HB0.out;rw[hW] at h;exact h)⟩
 | true=>
 rw[q0] at hbs hR;cases q1:(no == no') with
 | false=>
  rw[q1] at hR;have HR:Hid (R=false):=Lh (by rw [hR];simp);clear hR;go_wp2_with fail;go_ret;exact ⟨aj HR.out.symm,(by have h:=HB0.out;rw[hW] at h;exact h)⟩
 | true=>
 rw[q1] at hR;cases q2:(us == us') with
 | false=>
  rw[q2] at hR;have HR:Hid (R=false):=Lh (by rw [hR];simp);clear hR;go_wp2_with fail;go_ret;exact ⟨aj HR.out.symm,(by have h:=HB0.out;rw[hW] at h;exact h)⟩
 | true=>
 rw[q2] at hR;cases q3:(ea == SY) with
 | false=>
  rw[q3] at hR;have HR:Hid (R=false):=Lh (by rw [hR];simp);clear hR;go_wp2_with fail;go_ret;exact ⟨aj HR.out.symm,(by have h:=HB0.out;rw[hW] at h;exact h)⟩
 | true=>
 rw[q3] at hR;cases q4:(mn == QM && md == md') with
 | false=>
  rw[q4] at hR;have HR:Hid (R=false):=Lh (by rw [hR];simp);clear hR;go_wp2_with fail;go_ret;exact ⟨aj HR.out.symm,(by have h:=HB0.out;rw[hW] at h;exact h)⟩
 | true=>
 rw[q4] at hR;go_wp2_with fail;rw[←hW];refine (K5.out _ HB0.out).mono ?_;rintro e w1 ⟨rfl,hb⟩;have HB1:=Lh (HB0.out.trans (hb.mono HB0.out.size));have y:=E0.out.below hb E0.out.lt;have y':=F0.out.below hb F0.out.lt;have E1:=Lh y;have F1:=Lh y';have x0:=y.cell 0;have x1:=y.cell 1;have x2:=y.cell 2;have x3:=y.cell 3;have x4:=y.cell 4;have x5:=y.cell 5;have x6:=y.cell 6;have r0:=y'.cell 0;have r1:=y'.cell 1;have r2:=y'.cell 2;have r3:=y'.cell 3;have r4:=y'.cell 4;have r5:=y'.cell 5;have r6:=y'.cell 6;simp at x0 r0 x1 r1 x2 r2 x3 r3 x4 r4 x5 r5 x6 r6;have z1:=y'.lt;clear hb y y'
 have HR:Hid (R=(b1)):=Lh (by rw [hR];simp);clear hR;go_wp2_with fail;go_ret;exact ⟨aj HR.out.symm,HB1.out⟩
theorem QN (x y:Sx.Prog) (bx:Nat) (w:World) (ca cb:List Value) (hx:aC w bx 123 #[.func (.func 63) #[] #[]]) (ha:bS w (Old w) x ca) (hb:bS w (Old w) y cb):Calls Tryz.prog 66 #[.agg ca.toArray,.agg cb.toArray,.pointer (some ⟨bx,0,none⟩)] w (ak (decide (x=y)) w):=by
 obtain ⟨A,c,rfl,_,r1⟩:=ha;obtain ⟨A',c',rfl,_,r1'⟩:=hb;have e:decide (x=y)=((x.name == y.name) && (x.number == y.number) && (x.uses == y.uses) && (x.gD == y.gD) && (x.mean.num == y.mean.num && x.mean.den == y.mean.den) && decide (x.reqs=y.reqs)):=by
  obtain ⟨a1,a2,a3,a4,⟨a5,a6⟩,a7⟩:=x;obtain ⟨b1,b2,b3,b4,⟨b5,b6⟩,b7⟩:=y;rw[Bool.eq_iff_iff];simp[and_assoc]
 rw[e];exact NS _ _ _ _ _ _ _ _ _ _ _ _ _ _ _ _ _ _ bx _ w hx fun W hb=>NP _ _ _ _ _ _ W (r1.keep (P':=bW W (Old W)) (aG hb) fun _ _ _ h=>jF hb h) (r1'.keep (P':=bW W (Old W)) (aG hb) fun _ _ _ h=>jF hb h) fun x _ y _ ca cb W' _ h1 h2=>QL x y W' ca cb h1 h2
theorem DW (a b:Sx.dh) (w:World) (ca cb:List Value) (ha:bE w (Old w) a ca) (hb:bE w (Old w) b cb) :
  Calls Tryz.prog 24 #[.agg ca.toArray,.agg cb.toArray] w (ak (decide (a=b)) w):=by
 obtain ⟨l0,l1,l2,l3,l4,l5,l6⟩:=a;obtain ⟨k0,k1,k2,k3,k4,k5,k6⟩:=b;obtain ⟨A0,c0,A1,c1,A2,c2,A3,c3,A4,c4,A5,c5,A6,c6,rfl,a0,a1,a2,a3,a4,a5,a6⟩:=ha;obtain ⟨B0,d0,B1,d1,B2,d2,B3,d3,B4,d4,B5,d5,B6,d6,rfl,b0,b1,b2,b3,b4,b5,b6⟩:=hb;obtain ⟨R,hR⟩:∃ R,R=decide ((⟨l0,l1,l2,l3,l4,l5,l6⟩:Sx.dh)=⟨k0,k1,k2,k3,k4,k5,k6⟩):=⟨_,rfl⟩
 rw[←hR];simp only[Sx.dh.mk.injEq] at hR;simp only at a0 a1 a2 a3 a4 a5 a6 b0 b1 b2 b3 b4 b5 b6 ⊢;have K0:=Lh (fun (W:World) (hb:Below w.heap.size w W)=>EA A0 B0 c0 d0 l0 k0 W (a0.keep (P':=aV W (Old W)) (aG hb) fun _ _ _ h=>fZ hb h) (b0.keep (P':=aV W (Old W)) (aG hb) fun _ _ _ h=>fZ hb h) fun x _ y _ ca cb W' _ h1 h2=>Cx x y W' ca cb h1 h2);have K1:=Lh (fun (W:World) (hb:Below w.heap.size w W)=>Kt A1 B1 c1 d1 l1 k1 W (Row.old (P:=fq) a1 hb) (Row.old (P:=fq) b1 hb))
 have K2:=Lh (fun (W:World) (hb:Below w.heap.size w W) (hx:aC W (w.heap.size+2) 123 #[.func (.func 63) #[] #[]])=>Ku (w.heap.size+2) A2 B2 c2 d2 l2 k2 W (a2.keep (P':=bS W (Old W)) (aG hb) fun _ _ _ h=>iy hb h) (b2.keep (P':=bS W (Old W)) (aG hb) fun _ _ _ h=>iy hb h) fun x _ y _ ca cb W' hb' h1 h2=>QN x y _ W' ca cb (hx.below hb' hx.lt) h1 h2);have K3:=Lh (fun (W:World) (hb:Below w.heap.size w W)=>FN A3 B3 c3 d3 l3 k3 W (Row.old (P:=eu) a3 hb) (Row.old (P:=eu) b3 hb))
 have K4:=Lh (fun (W:World) (hb:Below w.heap.size w W)=>NJ A4 B4 c4 d4 l4 k4 W (Row.old (P:=gG) a4 hb) (Row.old (P:=gG) b4 hb));have K5:=Lh (fun (W:World) (hb:Below w.heap.size w W)=>FN A5 B5 c5 d5 l5 k5 W (Row.old (P:=eu) a5 hb) (Row.old (P:=eu) b5 hb));have K6:=Lh (fun (W:World) (hb:Below w.heap.size w W)=>EB A6 B6 c6 d6 l6 k6 W (Row.old (P:=bH) a6 hb) (Row.old (P:=bH) b6 hb));obtain ⟨n0,hn0⟩:∃ n,n=l0.length:=⟨_,rfl⟩
 obtain ⟨m0,hm0⟩:∃ m,m=k0.length:=⟨_,rfl⟩
 rw[←hn0,←hm0] at K0 ⊢;obtain ⟨n1,hn1⟩:∃ n,n=l1.length:=⟨_,rfl⟩
 obtain ⟨m1,hm1⟩:∃ m,m=k1.length:=⟨_,rfl⟩
 rw[←hn1,←hm1] at K1 ⊢;obtain ⟨n2,hn2⟩:∃ n,n=l2.length:=⟨_,rfl⟩
 obtain ⟨m2,hm2⟩:∃ m,m=k2.length:=⟨_,rfl⟩
 rw[←hn2,←hm2] at K2 ⊢;obtain ⟨n3,rH⟩:∃ n,n=l3.length:=⟨_,rfl⟩
 obtain ⟨m3,S9⟩:∃ m,m=k3.length:=⟨_,rfl⟩
 rw[←rH,←S9] at K3 ⊢;obtain ⟨n4,uS⟩:∃ n,n=l4.length:=⟨_,rfl⟩
 obtain ⟨m4,Ta⟩:∃ m,m=k4.length:=⟨_,rfl⟩
 rw[←uS,←Ta] at K4 ⊢;obtain ⟨n5,uT⟩:∃ n,n=l5.length:=⟨_,rfl⟩
 obtain ⟨m5,Tc⟩:∃ m,m=k5.length:=⟨_,rfl⟩
 rw[←uT,←Tc] at K5 ⊢;obtain ⟨n6,uU⟩:∃ n,n=l6.length:=⟨_,rfl⟩
 obtain ⟨m6,Td⟩:∃ m,m=k6.length:=⟨_,rfl⟩
 rw[←uU,←Td] at K6 ⊢;obtain ⟨r0,hr0⟩:∃ r,r=decide (l0=k0):=⟨_,rfl⟩
 rw[←hr0] at K0;obtain ⟨r1,hr1⟩:∃ r,r=decide (l1=k1):=⟨_,rfl⟩
 rw[←hr1] at K1;obtain ⟨r2,hr2⟩:∃ r,r=decide (l2=k2):=⟨_,rfl⟩
 rw[←hr2] at K2;obtain ⟨r3,hr3⟩:∃ r,r=decide (l3=k3):=⟨_,rfl⟩
 rw[←hr3] at K3;obtain ⟨r4,hr4⟩:∃ r,r=decide (l4=k4):=⟨_,rfl⟩
 rw[←hr4] at K4;obtain ⟨r5,YQ⟩:∃ r,r=decide (l5=k5):=⟨_,rfl⟩
 rw[←YQ] at K5;obtain ⟨r6,YR⟩:∃ r,r=decide (l6=k6):=⟨_,rfl⟩
 rw[←YR] at K6;have hR2:R=(r0 && r1 && r2 && r3 && r4 && r5 && r6):=by
  rw[hR,hr0,hr1,hr2,hr3,hr4,YQ,YR,Bool.eq_iff_iff];simp[and_assoc]
 obtain ⟨W,hW⟩:∃ W,W=(((w.alloc (.cells #[.slice A0 n0 c0,.slice A1 n1 c1,.slice A2 n2 c2,.slice A3 n3 c3,.slice A4 n4 c4,.slice A5 n5 c5,.slice A6 n6 c6] 30)).alloc (.cells #[.slice B0 m0 d0,.slice B1 m1 d1,.slice B2 m2 d2,.slice B3 m3 d3,.slice B4 m4 d4,.slice B5 m5 d5,.slice B6 m6 d6] 30)).alloc (.cells #[.func (.func 63) #[] #[]] 123)):=⟨_,rfl⟩
 have hbW:Below w.heap.size w W:=by rw [hW];exact (((Below.refl _ _).alloc (Nat.le_refl _) _).alloc (by simp) _).alloc (by simp;omega) _
 have e0:aC W w.heap.size 30 #[.slice A0 n0 c0,.slice A1 n1 c1,.slice A2 n2 c2,.slice A3 n3 c3,.slice A4 n4 c4,.slice A5 n5 c5,.slice A6 n6 c6]:=by rw [hW];exact ((aC.new w _ _).alloc _).alloc _
 have f0:aC W (w.heap.size+1) 30 #[.slice B0 m0 d0,.slice B1 m1 d1,.slice B2 m2 d2,.slice B3 m3 d3,.slice B4 m4 d4,.slice B5 m5 d5,.slice B6 m6 d6]:=by rw [hW];exact (aC.aZ _ _ (by simp)).alloc _
 have g0:aC W (w.heap.size+2) 123 #[.func (.func 63) #[] #[]]:=by rw [hW];exact aC.aZ _ _ (by simp)
 have HB0:=Lh hbW;have E0:=Lh e0;have F0:=Lh f0;have G0:=Lh g0;have HR:=Lh hR2;clear hbW e0 f0 g0 hR hR2 a0 b0 a1 b1 a2 b2 a3 b3 a4 b4 a5 b5 a6 b6 hn0 hm0 hr0 hn1 hm1 hr1 hn2 hm2 hr2 rH S9 hr3 uS Ta hr4 uT Tc YQ uU Td YR;go_enter Tryz.func24,Tryz.ntmps24;go_wp2_with fail;rw[←hW];refine (K0.out _ HB0.out).mono ?_;rintro e w1 ⟨rfl,hb⟩;have HB1:=Lh (HB0.out.trans (hb.mono HB0.out.size));have E1:=Lh (E0.out.below hb E0.out.lt);have F1:=Lh (F0.out.below hb F0.out.lt);have G1:=Lh (G0.out.below hb G0.out.lt)
 obtain ⟨x0,x1,x2,x3,x4,x5,x6,_⟩:=bJ E1.out;obtain ⟨y0,y1,y2,y3,y4,y5,y6,z1⟩:=bJ F1.out;have gz:=G1.out.lt;have g0:=G1.out.cell 0;simp at g0;clear hb;cases r0 with
 | false=>
  have HF:Hid (R=false):=Lh (by rw [HR.out];simp);go_wp2_with fail;go_ret;exact ⟨aj HF.out.symm,HB1.out⟩
 | true=>
 go_wp2_with fail;refine (K1.out _ HB1.out).mono ?_;rintro e w2 ⟨rfl,hb⟩;have HB2:=Lh (HB1.out.trans (hb.mono HB1.out.size));have E2:=Lh (E1.out.below hb E1.out.lt);have F2:=Lh (F1.out.below hb F1.out.lt);have G2:=Lh (G1.out.below hb G1.out.lt);clear x0 x1 x2 x3 x4 x5 x6 y0 y1 y2 y3 y4 y5 y6 gz g0;obtain ⟨x0,x1,x2,x3,x4,x5,x6,_⟩:=bJ E2.out;obtain ⟨y0,y1,y2,y3,y4,y5,y6,z2⟩:=bJ F2.out;have gz:=G2.out.lt;have g0:=G2.out.cell 0;simp at g0;clear hb;cases r1 with
 | false=>
  have HF:Hid (R=false):=Lh (by rw [HR.out];simp);go_wp2_with fail;go_ret;exact ⟨aj HF.out.symm,HB2.out⟩
 | true=>
 go_wp2_with fail;refine (K2.out _ HB2.out G2.out).mono ?_;rintro e w3 ⟨rfl,hb⟩;have HB3:=Lh (HB2.out.trans (hb.mono HB2.out.size));have E3:=Lh (E2.out.below hb E2.out.lt);have F3:=Lh (F2.out.below hb F2.out.lt);have G3:=Lh (G2.out.below hb G2.out.lt);clear x0 x1 x2 x3 x4 x5 x6 y0 y1 y2 y3 y4 y5 y6 gz g0;obtain ⟨x0,x1,x2,x3,x4,x5,x6,_⟩:=bJ E3.out;obtain ⟨y0,y1,y2,y3,y4,y5,y6,z3⟩:=bJ F3.out;have gz:=G3.out.lt;have g0:=G3.out.cell 0;simp at g0;clear hb;cases r2 with
 | false=>
  have HF:Hid (R=false):=Lh (by rw [HR.out];simp);go_wp2_with fail;go_ret;exact ⟨aj HF.out.symm,HB3.out⟩
 | true=>
 go_wp2_with fail;refine (K3.out _ HB3.out).mono ?_;rintro e w4 ⟨rfl,hb⟩;have oP:=Lh (HB3.out.trans (hb.mono HB3.out.size));have E4:=Lh (E3.out.below hb E3.out.lt);have F4:=Lh (F3.out.below hb F3.out.lt);have G4:=Lh (G3.out.below hb G3.out.lt);clear x0 x1 x2 x3 x4 x5 x6 y0 y1 y2 y3 y4 y5 y6 gz g0;obtain ⟨x0,x1,x2,x3,x4,x5,x6,_⟩:=bJ E4.out;obtain ⟨y0,y1,y2,y3,y4,y5,y6,z4⟩:=bJ F4.out;have gz:=G4.out.lt;have g0:=G4.out.cell 0;simp at g0;clear hb;cases r3 with
 | false=>
  have HF:Hid (R=false):=Lh (by rw [HR.out];simp);go_wp2_with fail;go_ret;exact ⟨aj HF.out.symm,oP.out⟩
 | true=>
 go_wp2_with fail;refine (K4.out _ oP.out).mono ?_;rintro e w5 ⟨rfl,hb⟩;have rY:=Lh (oP.out.trans (hb.mono oP.out.size));have E5:=Lh (E4.out.below hb E4.out.lt);have F5:=Lh (F4.out.below hb F4.out.lt);have G5:=Lh (G4.out.below hb G4.out.lt);clear x0 x1 x2 x3 x4 x5 x6 y0 y1 y2 y3 y4 y5 y6 gz g0;obtain ⟨x0,x1,x2,x3,x4,x5,x6,_⟩:=bJ E5.out;obtain ⟨y0,y1,y2,y3,y4,y5,y6,z5⟩:=bJ F5.out;have gz:=G5.out.lt;have g0:=G5.out.cell 0;simp at g0;clear hb;cases r4 with
 | false=>
  have HF:Hid (R=false):=Lh (by rw [HR.out];simp);go_wp2_with fail;go_ret;exact ⟨aj HF.out.symm,rY.out⟩
 | true=>
 go_wp2_with fail;refine (K5.out _ rY.out).mono ?_;rintro e w6 ⟨rfl,hb⟩;have yQ:=Lh (rY.out.trans (hb.mono rY.out.size));have E6:=Lh (E5.out.below hb E5.out.lt);have F6:=Lh (F5.out.below hb F5.out.lt);have G6:=Lh (G5.out.below hb G5.out.lt);clear x0 x1 x2 x3 x4 x5 x6 y0 y1 y2 y3 y4 y5 y6 gz g0;obtain ⟨x0,x1,x2,x3,x4,x5,x6,_⟩:=bJ E6.out;obtain ⟨y0,y1,y2,y3,y4,y5,y6,z6⟩:=bJ F6.out;have gz:=G6.out.lt;have g0:=G6.out.cell 0;simp at g0;clear hb;cases r5 with
 | false=>
  have HF:Hid (R=false):=Lh (by rw [HR.out];simp);go_wp2_with fail;go_ret;exact ⟨aj HF.out.symm,yQ.out⟩
 | true=>
 go_wp2_with fail;refine (K6.out _ yQ.out).mono ?_;rintro e w7 ⟨rfl,hb⟩;have LZ:=Lh (yQ.out.trans (hb.mono yQ.out.size));have HF:Hid (R=r6):=Lh (by rw [HR.out];simp);go_wp2_with fail;go_ret;exact ⟨aj HF.out.symm,LZ.out⟩
theorem oo (p x:Int) (w:World):(Instr.typeAssert (.iface 141 (.agg #[.int .i64 p,.int .i64 x])) 20 141 true).run Tryz.prog w = .ok (.tuple #[.agg #[.int .i64 p,.int .i64 x],.bool true]) w:=by kernel_rfl
theorem yR (p q r:Addr) (w:World) :
  CallsD Tryz.prog 82 #[.pointer (some p),.pointer (some q),.pointer (some r)] .returning w fun e u' w'=>e = .returned (.tuple #[])∧u' = .returning∧w'=w:=by
 refine callsD_of_wpS Tryz.func82 rfl fun c₀ cs hu=>?_;apply wpS_seq;apply wpS_region;simp[wpOpsS,go_sem,recoverD,hu,Tryz.ntmps82,Exit.thenS,Array.replicate_succ];refine wpS_of_wp ?_;go_wp2;cases c₀
 simp_all [bodyPostS,results,Tryz.results82]
theorem Ij (N:Nat) (p x:Int) (cq:Array Value) (x1 x2:Value) (hcq:cq.size=7) (w:World) (h0:aC w N 30 cq) (h1:aC w (N+1) 3 #[x1]) (h2:aC w (N+2) 31 #[x2]) :
  CallsD Tryz.prog 82 #[.pointer (some ⟨N,0,none⟩),.pointer (some ⟨N+1,0,none⟩),.pointer (some ⟨N+2,0,none⟩)] (.panicking [{ v:=.iface 141 (.agg #[.int .i64 p,.int .i64 x]),recovered:=false }]) w fun e u' w'=>
   e = .returned (.tuple #[])∧u' = .panicking [{ v:=.iface 141 (.agg #[.int .i64 p,.int .i64 x]),recovered:=true }]∧aC w' N 30 #[.slice none 0 0,.slice none 0 0,.slice none 0 0,.slice none 0 0,.slice none 0 0,.slice none 0 0,.slice none 0 0]∧aC w' (N+1) 3 #[.int .i64 p]∧aC w' (N+2) 31 #[.int .i64 x]∧Below N w w':=by
 obtain ⟨y0,y1,y2,y3,y4,y5,y6,rfl⟩:∃ y0 y1 y2 y3 y4 y5 y6,cq=#[y0,y1,y2,y3,y4,y5,y6]:=by
  obtain ⟨l⟩:=cq
  match l,hcq with
  | [y0,y1,y2,y3,y4,y5,y6],_=>exact ⟨y0,y1,y2,y3,y4,y5,y6,rfl⟩
 refine callsD_of_wpS Tryz.func82 rfl fun c₀ cs hu=>?_;apply wpS_seq;apply wpS_region;simp[wpOpsS,go_sem,recoverD,hu,Tryz.ntmps82,Exit.thenS,Array.replicate_succ];refine wpS_of_wp ?_;have l2:=h2.lt;have Wy:=oo;go_wp2;clear Wy hcq hu;obtain ⟨W0,hW0⟩:∃ W0,W0=w.alloc (Obj.cells #[Value.int IntKind.i64 p,Value.int IntKind.i64 x] 141):=⟨_,rfl⟩
 rw[←hW0];have Vl:aC W0 w.heap.size 141 #[.int .i64 p,.int .i64 x]:=by rw [hW0];exact aC.new _ _ _
 have hsz0:W0.heap.size=w.heap.size+1:=by rw [hW0];simp
 obtain ⟨W,hW⟩:∃ W,W=W0.alloc (Obj.cells #[.slice none 0 0,.slice none 0 0,.slice none 0 0,.slice none 0 0,.slice none 0 0,.slice none 0 0,.slice none 0 0] 30):=⟨_,rfl⟩
 first
  | rw [←hW]
  | rw [show (w.heap.size+1)=W0.heap.size from hsz0.symm,←hW]
 have rJ:aC W N 30 #[y0,y1,y2,y3,y4,y5,y6]:=by rw [hW,hW0];exact (h0.alloc _).alloc _
 have h1a:aC W (N+1) 3 #[x1]:=by rw [hW,hW0];exact (h1.alloc _).alloc _
 have NT:aC W (N+2) 31 #[x2]:=by rw [hW,hW0];exact (h2.alloc _).alloc _
 have QO:aC W w.heap.size 141 #[.int .i64 p,.int .i64 x]:=by rw [hW];exact Vl.alloc _
 have DR:aC W (w.heap.size+1) 30 #[.slice none 0 0,.slice none 0 0,.slice none 0 0,.slice none 0 0,.slice none 0 0,.slice none 0 0,.slice none 0 0]:=by rw [hW];exact aC.aZ _ _ hsz0
 have hbel:Below N w W:=by rw [hW,hW0];exact ((Below.refl _ _).alloc (by omega) _).alloc (by simp;omega) _
 have c0:=rJ.cell 0;have c1:=rJ.cell 1;have c2:=rJ.cell 2;have c3:=rJ.cell 3;have c4:=rJ.cell 4;have c5:=rJ.cell 5;have c6:=rJ.cell 6;have e1:=h1a.cell 0;have e2:=NT.cell 0;have f0:=rJ.free 0;have f1:=rJ.free 1;have f2:=rJ.free 2;have f3:=rJ.free 3;have f4:=rJ.free 4;have f5:=rJ.free 5;have f6:=rJ.free 6;have g1:=h1a.free 0;have g2:=NT.free 0;have k0:=QO.cell 0;have k1:=QO.cell 1;have m0:=DR.cell 0;have m1:=DR.cell 1;have m2:=DR.cell 2;have m3:=DR.cell 3;have m4:=DR.cell 4;have m5:=DR.cell 5;have m6:=DR.cell 6;have hne0:w.heap.size≠N:=by omega
 have hne1:w.heap.size≠N+1:=by omega
 have hne2:w.heap.size≠N+2:=by omega
 have YS:w.heap.size+1≠N:=by omega
 simp at c0 c1 c2 c3 c4 c5 c6 e1 e2 k0 k1 m0 m1 m2 m3 m4 m5 m6;have H0:=Lh rJ;have H1:=Lh h1a;have H2:=Lh NT;have HB:=Lh hbel;clear hW hW0 Vl h0 h1 h2 rJ h1a NT QO DR hbel
 have HFin:Hid (aC (((((((((W.setCell ⟨N,0,none⟩ (.slice none 0 0)).setCell ⟨N,1,none⟩ (.slice none 0 0)).setCell ⟨N,2,none⟩ (.slice none 0 0)).setCell ⟨N,3,none⟩ (.slice none 0 0)).setCell ⟨N,4,none⟩ (.slice none 0 0)).setCell ⟨N,5,none⟩ (.slice none 0 0)).setCell ⟨N,6,none⟩ (.slice none 0 0)).setCell ⟨N+1,0,none⟩ (.int .i64 p)).setCell ⟨N+2,0,none⟩ (.int .i64 x)).drew N 30 #[.slice none 0 0,.slice none 0 0,.slice none 0 0,.slice none 0 0,.slice none 0 0,.slice none 0 0,.slice none 0 0]∧aC (((((((((W.setCell ⟨N,0,none⟩ (.slice none 0 0)).setCell ⟨N,1,none⟩ (.slice none 0 0)).setCell ⟨N,2,none⟩ (.slice none 0 0)).setCell ⟨N,3,none⟩ (.slice none 0 0)).setCell ⟨N,4,none⟩ (.slice none 0 0)).setCell ⟨N,5,none⟩ (.slice none 0 0)).setCell ⟨N,6,none⟩ (.slice none 0 0)).setCell ⟨N+1,0,none⟩ (.int .i64 p)).setCell ⟨N+2,0,none⟩ (.int .i64 x)).drew (N+1) 3 #[.int .i64 p]∧aC (((((((((W.setCell ⟨N,0,none⟩ (.slice none 0 0)).setCell ⟨N,1,none⟩ (.slice none 0 0)).setCell ⟨N,2,none⟩ (.slice none 0 0)).setCell ⟨N,3,none⟩ (.slice none 0 0)).setCell ⟨N,4,none⟩ (.slice none 0 0)).setCell ⟨N,5,none⟩ (.slice none 0 0)).setCell ⟨N,6,none⟩ (.slice none 0 0)).setCell ⟨N+1,0,none⟩ (.int .i64 p)).setCell ⟨N+2,0,none⟩ (.int .i64 x)).drew (N+2) 31 #[.int .i64 x]∧Below N w (((((((((W.setCell ⟨N,0,none⟩ (.slice none 0 0)).setCell ⟨N,1,none⟩ (.slice none 0 0)).setCell ⟨N,2,none⟩ (.slice none 0 0)).setCell ⟨N,3,none⟩ (.slice none 0 0)).setCell ⟨N,4,none⟩ (.slice none 0 0)).setCell ⟨N,5,none⟩ (.slice none 0 0)).setCell ⟨N,6,none⟩ (.slice none 0 0)).setCell ⟨N+1,0,none⟩ (.int .i64 p)).setCell ⟨N+2,0,none⟩ (.int .i64 x)).drew):=Lh (by
  refine ⟨?_,?_,?_,?_⟩
  ·have:=((((((((((H0.out).set 0 (.slice none 0 0)).set 1 (.slice none 0 0)).set 2 (.slice none 0 0)).set 3 (.slice none 0 0)).set 4 (.slice none 0 0)).set 5 (.slice none 0 0)).set 6 (.slice none 0 0)).far (p:=⟨N+1,0,none⟩) (by simp) (.int .i64 p)).far (p:=⟨N+2,0,none⟩) (by simp) (.int .i64 x)).drew;simpa using this
  ·have:=((((((((((H1.out).far (p:=⟨N,0,none⟩) (by simp) (.slice none 0 0)).far (p:=⟨N,1,none⟩) (by simp) (.slice none 0 0)).far (p:=⟨N,2,none⟩) (by simp) (.slice none 0 0)).far (p:=⟨N,3,none⟩) (by simp) (.slice none 0 0)).far (p:=⟨N,4,none⟩) (by simp) (.slice none 0 0)).far (p:=⟨N,5,none⟩) (by simp) (.slice none 0 0)).far (p:=⟨N,6,none⟩) (by simp) (.slice none 0 0)).set 0 (.int .i64 p)).far (p:=⟨N+2,0,none⟩) (by simp) (.int .i64 x)).drew;simpa using this
  ·have:=((((((((((H2.out).far (p:=⟨N,0,none⟩) (by simp) (.slice none 0 0)).far (p:=⟨N,1,none⟩) (by simp) (.slice none 0 0)).far (p:=⟨N,2,none⟩) (by simp) (.slice none 0 0)).far (p:=⟨N,3,none⟩) (by simp) (.slice none 0 0)).far (p:=⟨N,4,none⟩) (by simp) (.slice none 0 0)).far (p:=⟨N,5,none⟩) (by simp) (.slice none 0 0)).far (p:=⟨N,6,none⟩) (by simp) (.slice none 0 0)).far (p:=⟨N+1,0,none⟩) (by simp) (.int .i64 p)).set 0 (.int .i64 x)).drew;simpa using this
  ·exact ((((((((((HB.out).setCell (p:=⟨N,0,none⟩) (Nat.le_refl _) _).setCell (p:=⟨N,1,none⟩) (Nat.le_refl _) _).setCell (p:=⟨N,2,none⟩) (Nat.le_refl _) _).setCell (p:=⟨N,3,none⟩) (Nat.le_refl _) _).setCell (p:=⟨N,4,none⟩) (Nat.le_refl _) _).setCell (p:=⟨N,5,none⟩) (Nat.le_refl _) _).setCell (p:=⟨N,6,none⟩) (Nat.le_refl _) _).setCell (p:=⟨N+1,0,none⟩) (show N≤N+1 by omega) _).setCell (p:=⟨N+2,0,none⟩) (show N≤N+2 by omega) _).drew)
 go_region
 all_goals exact ⟨rfl,_,rfl,.tuple #[],by simp [results,Tryz.results82],rfl,rfl,HFin.out⟩
theorem xH (p q r:Addr) (w:World) :
  CallsD Tryz.prog 106 #[.pointer (some p),.pointer (some q),.pointer (some r)] .returning w fun e u' w'=>e = .returned (.tuple #[])∧u' = .returning∧w'=w:=by
 refine callsD_of_wpS Tryz.func106 rfl fun c₀ cs hu=>?_;apply wpS_seq;apply wpS_region;simp[wpOpsS,go_sem,recoverD,hu,Tryz.ntmps106,Exit.thenS,Array.replicate_succ];refine wpS_of_wp ?_;go_wp2;cases c₀
 simp_all [bodyPostS,results,Tryz.results106]
theorem EC (N:Nat) (p x:Int) (cq:Array Value) (x1 x2:Value) (hcq:cq.size=6) (w:World) (h0:aC w N 38 cq) (h1:aC w (N+1) 3 #[x1]) (h2:aC w (N+2) 31 #[x2]) :
  CallsD Tryz.prog 106 #[.pointer (some ⟨N,0,none⟩),.pointer (some ⟨N+1,0,none⟩),.pointer (some ⟨N+2,0,none⟩)] (.panicking [{ v:=.iface 141 (.agg #[.int .i64 p,.int .i64 x]),recovered:=false }]) w fun e u' w'=>
   e = .returned (.tuple #[])∧u' = .panicking [{ v:=.iface 141 (.agg #[.int .i64 p,.int .i64 x]),recovered:=true }]∧aC w' N 38 #[.int .i64 0,.int .i64 0,.string ⟨#[]⟩,.int .i64 0,.int .i64 0,.slice none 0 0]∧aC w' (N+1) 3 #[.int .i64 p]∧aC w' (N+2) 31 #[.int .i64 x]∧Below N w w':=by
 obtain ⟨y0,y1,y2,y3,y4,y5,rfl⟩:∃ y0 y1 y2 y3 y4 y5,cq=#[y0,y1,y2,y3,y4,y5]:=by
  obtain ⟨l⟩:=cq
  match l,hcq with
  | [y0,y1,y2,y3,y4,y5],_=>exact ⟨y0,y1,y2,y3,y4,y5,rfl⟩
 refine callsD_of_wpS Tryz.func106 rfl fun c₀ cs hu=>?_;apply wpS_seq;apply wpS_region;simp[wpOpsS,go_sem,recoverD,hu,Tryz.ntmps106,Exit.thenS,Array.replicate_succ];refine wpS_of_wp ?_;have l2:=h2.lt;have Wy:=oo;go_wp2;clear Wy hcq hu;obtain ⟨W0,hW0⟩:∃ W0,W0=w.alloc (Obj.cells #[Value.int IntKind.i64 p,Value.int IntKind.i64 x] 141):=⟨_,rfl⟩
 rw[←hW0];have Vl:aC W0 w.heap.size 141 #[.int .i64 p,.int .i64 x]:=by rw [hW0];exact aC.new _ _ _
 have hsz0:W0.heap.size=w.heap.size+1:=by rw [hW0];simp
 obtain ⟨W,hW⟩:∃ W,W=W0.alloc (Obj.cells #[.int .i64 0,.int .i64 0,.string ⟨#[]⟩,.int .i64 0,.int .i64 0,.slice none 0 0] 38):=⟨_,rfl⟩
 first
  | rw [←hW]
  | rw [show (w.heap.size+1)=W0.heap.size from hsz0.symm,←hW]
 have rJ:aC W N 38 #[y0,y1,y2,y3,y4,y5]:=by rw [hW,hW0];exact (h0.alloc _).alloc _
 have h1a:aC W (N+1) 3 #[x1]:=by rw [hW,hW0];exact (h1.alloc _).alloc _
 have NT:aC W (N+2) 31 #[x2]:=by rw [hW,hW0];exact (h2.alloc _).alloc _
 have QO:aC W w.heap.size 141 #[.int .i64 p,.int .i64 x]:=by rw [hW];exact Vl.alloc _
 have DR:aC W (w.heap.size+1) 38 #[.int .i64 0,.int .i64 0,.string ⟨#[]⟩,.int .i64 0,.int .i64 0,.slice none 0 0]:=by rw [hW];exact aC.aZ _ _ hsz0
 have hbel:Below N w W:=by rw [hW,hW0];exact ((Below.refl _ _).alloc (by omega) _).alloc (by simp;omega) _
 have c0:=rJ.cell 0;have c1:=rJ.cell 1;have c2:=rJ.cell 2;have c3:=rJ.cell 3;have c4:=rJ.cell 4;have c5:=rJ.cell 5;have e1:=h1a.cell 0;have e2:=NT.cell 0;have f0:=rJ.free 0;have f1:=rJ.free 1;have f2:=rJ.free 2;have f3:=rJ.free 3;have f4:=rJ.free 4;have f5:=rJ.free 5;have g1:=h1a.free 0;have g2:=NT.free 0;have k0:=QO.cell 0;have k1:=QO.cell 1;have m0:=DR.cell 0;have m1:=DR.cell 1;have m2:=DR.cell 2;have m3:=DR.cell 3;have m4:=DR.cell 4;have m5:=DR.cell 5;have hne0:w.heap.size≠N:=by omega
 have hne1:w.heap.size≠N+1:=by omega
 have hne2:w.heap.size≠N+2:=by omega
 have YS:w.heap.size+1≠N:=by omega
 simp at c0 c1 c2 c3 c4 c5 e1 e2 k0 k1 m0 m1 m2 m3 m4 m5;have H0:=Lh rJ;have H1:=Lh h1a;have H2:=Lh NT;have HB:=Lh hbel;clear hW hW0 Vl h0 h1 h2 rJ h1a NT QO DR hbel
 have HFin:Hid (aC ((((((((W.setCell ⟨N,0,none⟩ (.int .i64 0)).setCell ⟨N,1,none⟩ (.int .i64 0)).setCell ⟨N,2,none⟩ (.string ⟨#[]⟩)).setCell ⟨N,3,none⟩ (.int .i64 0)).setCell ⟨N,4,none⟩ (.int .i64 0)).setCell ⟨N,5,none⟩ (.slice none 0 0)).setCell ⟨N+1,0,none⟩ (.int .i64 p)).setCell ⟨N+2,0,none⟩ (.int .i64 x)).drew N 38 #[.int .i64 0,.int .i64 0,.string ⟨#[]⟩,.int .i64 0,.int .i64 0,.slice none 0 0]∧aC ((((((((W.setCell ⟨N,0,none⟩ (.int .i64 0)).setCell ⟨N,1,none⟩ (.int .i64 0)).setCell ⟨N,2,none⟩ (.string ⟨#[]⟩)).setCell ⟨N,3,none⟩ (.int .i64 0)).setCell ⟨N,4,none⟩ (.int .i64 0)).setCell ⟨N,5,none⟩ (.slice none 0 0)).setCell ⟨N+1,0,none⟩ (.int .i64 p)).setCell ⟨N+2,0,none⟩ (.int .i64 x)).drew (N+1) 3 #[.int .i64 p]∧aC ((((((((W.setCell ⟨N,0,none⟩ (.int .i64 0)).setCell ⟨N,1,none⟩ (.int .i64 0)).setCell ⟨N,2,none⟩ (.string ⟨#[]⟩)).setCell ⟨N,3,none⟩ (.int .i64 0)).setCell ⟨N,4,none⟩ (.int .i64 0)).setCell ⟨N,5,none⟩ (.slice none 0 0)).setCell ⟨N+1,0,none⟩ (.int .i64 p)).setCell ⟨N+2,0,none⟩ (.int .i64 x)).drew (N+2) 31 #[.int .i64 x]∧Below N w ((((((((W.setCell ⟨N,0,none⟩ (.int .i64 0)).setCell ⟨N,1,none⟩ (.int .i64 0)).setCell ⟨N,2,none⟩ (.string ⟨#[]⟩)).setCell ⟨N,3,none⟩ (.int .i64 0)).setCell ⟨N,4,none⟩ (.int .i64 0)).setCell ⟨N,5,none⟩ (.slice none 0 0)).setCell ⟨N+1,0,none⟩ (.int .i64 p)).setCell ⟨N+2,0,none⟩ (.int .i64 x)).drew):=Lh (by
  refine ⟨?_,?_,?_,?_⟩
  ·have:=(((((((((H0.out).set 0 (.int .i64 0)).set 1 (.int .i64 0)).set 2 (.string ⟨#[]⟩)).set 3 (.int .i64 0)).set 4 (.int .i64 0)).set 5 (.slice none 0 0)).far (p:=⟨N+1,0,none⟩) (by simp) (.int .i64 p)).far (p:=⟨N+2,0,none⟩) (by simp) (.int .i64 x)).drew;simpa using this
  ·have:=(((((((((H1.out).far (p:=⟨N,0,none⟩) (by simp) (.int .i64 0)).far (p:=⟨N,1,none⟩) (by simp) (.int .i64 0)).far (p:=⟨N,2,none⟩) (by simp) (.string ⟨#[]⟩)).far (p:=⟨N,3,none⟩) (by simp) (.int .i64 0)).far (p:=⟨N,4,none⟩) (by simp) (.int .i64 0)).far (p:=⟨N,5,none⟩) (by simp) (.slice none 0 0)).set 0 (.int .i64 p)).far (p:=⟨N+2,0,none⟩) (by simp) (.int .i64 x)).drew;simpa using this
  ·have:=(((((((((H2.out).far (p:=⟨N,0,none⟩) (by simp) (.int .i64 0)).far (p:=⟨N,1,none⟩) (by simp) (.int .i64 0)).far (p:=⟨N,2,none⟩) (by simp) (.string ⟨#[]⟩)).far (p:=⟨N,3,none⟩) (by simp) (.int .i64 0)).far (p:=⟨N,4,none⟩) (by simp) (.int .i64 0)).far (p:=⟨N,5,none⟩) (by simp) (.slice none 0 0)).far (p:=⟨N+1,0,none⟩) (by simp) (.int .i64 p)).set 0 (.int .i64 x)).drew;simpa using this
  ·exact (((((((((HB.out).setCell (p:=⟨N,0,none⟩) (Nat.le_refl _) _).setCell (p:=⟨N,1,none⟩) (Nat.le_refl _) _).setCell (p:=⟨N,2,none⟩) (Nat.le_refl _) _).setCell (p:=⟨N,3,none⟩) (Nat.le_refl _) _).setCell (p:=⟨N,4,none⟩) (Nat.le_refl _) _).setCell (p:=⟨N,5,none⟩) (Nat.le_refl _) _).setCell (p:=⟨N+1,0,none⟩) (show N≤N+1 by omega) _).setCell (p:=⟨N+2,0,none⟩) (show N≤N+2 by omega) _).drew)
 go_region
 all_goals exact ⟨rfl,_,rfl,.tuple #[],by simp [results,Tryz.results106],rfl,rfl,HFin.out⟩
end Go.Proofs.YtjonaidancomgaaGreatDoor
