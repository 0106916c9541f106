/- Parts of the proof, joined into one text: q2h, q1g, q1h, YL, q1i, q1j, q1k, YM. -/
import Derived.Test.YtjonaidancomgaaGreatDoorPLxPlain
namespace Go.Proofs.YtjonaidancomgaaGreatDoor.Sx
mutual
def jw:Rule→Rule→Bool
 | .mk o c n x d ks,.mk o' c' n' x' d' ks'=>o == o' && (c == c' && (n == n' && (x == x' && (d == d' && gZ ks ks'))))
def gZ:List Rule→List Rule→Bool
 | [],[]=>true
 | a::as,b::bs=>jw a b && gZ as bs
 | _,_=>false
end
mutual
theorem jB:∀ (a b:Rule),jw a b=true↔a=b
 | .mk o c n x d ks,.mk o' c' n' x' d' ks'=>by
  rw[jw];simp only[Bool.and_eq_true,beq_iff_eq,Rule.mk.injEq,lX ks ks']
theorem lX:∀ (as bs:List Rule),gZ as bs=true↔as=bs
 | [],[]=>by simp [gZ]
 | [],b::bs=>by simp [gZ]
 | a::as,[]=>by simp [gZ]
 | a::as,b::bs=>by simp [gZ,jB a b,lX as bs]
end
theorem uJ:∀ {as bs:List Rule},as.length≠bs.length→gZ as bs=false
 | [],[],h=>absurd rfl h
 | [],b::bs,_=>by simp [gZ]
 | a::as,[],_=>by simp [gZ]
 | a::as,b::bs,h=>by
  rw[gZ,uJ (fun e=>h (by simp [e]))];simp
theorem Ec {as bs:List Rule} {i:Nat} {a b:Rule} (ha:as[i]?=some a) (hb:bs[i]?=some b) (h:jw a b=false):gZ as bs=false:=by
 cases he:gZ as bs with
 | false=>rfl
 | true=>
  have:=(lX as bs).1 he;rw[this,hb] at ha;injection ha with ha;rw[(jB a b).2 ha.symm] at h;cases h
theorem BX {as bs:List Rule} (hl:as.length=bs.length) (h:∀ (i:Nat) a b,as[i]?=some a→bs[i]?=some b→jw a b=true):gZ as bs=true:=by
 rw[lX];refine List.ext_getElem? fun i=>?_
 rcases Nat.lt_or_ge i as.length with hi | hi
 ·have h1:=List.getElem?_eq_getElem hi;have h2:=List.getElem?_eq_getElem (l:=bs) (i:=i) (by omega);rw[h1,h2,(jB _ _).1 (h i _ _ h1 h2)]
 ·rw[List.getElem?_eq_none hi,List.getElem?_eq_none (by omega)]
theorem BU {op co:Int} {nm:List UInt8} {n d:Int} {ks:List Rule} {x:Rule} {i:Nat} (h:ks[i]?=some x):SizeOf.sizeOf x < SizeOf.sizeOf (Rule.mk op co nm n d ks):=by
 have h1:=List.sizeOf_lt_of_mem (List.mem_of_getElem? h);simp;omega
end Go.Proofs.YtjonaidancomgaaGreatDoor.Sx
namespace Go.Proofs.YtjonaidancomgaaGreatDoor.Sx
open Lx (Tok)
def jZ {α:Type} (k:Nat) (l:List Tok) (r:R α):Prop:=∀ a r',r = .ok a r'→r'.length+k≤l.length
theorem jZ.bind {α β:Type} {k j:Nat} {l:List Tok} {r:R α} {f:α→List Tok→R β} (h:jZ k l r) (hf:∀ a l',jZ j l' (f a l')):jZ (k+j) l (r.bind f):=by
 intro b r' e;cases hr:r with
 | bad p x=>rw [hr] at e;cases e
 | ok a l'=>
  rw[hr] at e;have h1:=h a l' hr;have h2:=hf a l' b r' e;omega
theorem jZ.mono {α:Type} {k j:Nat} {l:List Tok} {r:R α} (h:jZ k l r) (hj:j≤k):jZ j l r:=fun a r' e=>by have:=h a r' e;omega
theorem jZ.ok {α:Type} (a:α) (l:List Tok):jZ 0 l (R.ok a l):=fun b r' e=>by injection e with _ e;subst e;omega
theorem jZ.fail {α:Type} (last:Int) (l0:List Tok) (e:Int) (k:Nat) (l:List Tok):jZ k l (Sx.fail last l0 e:R α):=fun a r' h=>by unfold Sx.fail at h;cases h
section
variable (last : Int)
theorem eT {k:Int} {x:List UInt8} {l:List Tok} (h:hit k x l=true):l.tail.length+1=l.length:=by
 cases l with
 | nil=>cases h
 | cons t r=>simp
theorem bK (k:Int) (x:List UInt8) (l:List Tok):jZ 1 l (need last k x l):=by
 unfold need
 split
 ·rename_i h;intro a r' e;injection e with _ e;subst e;have:=eT h;omega
 ·exact .fail _ _ _ _ _
theorem iC (l:List Tok):jZ 1 l (name last l):=by
 unfold name
 split
 ·split
  ·intro a r' e;injection e with _ e;subst e;simp
  ·exact .fail _ _ _ _ _
 ·exact .fail _ _ _ _ _
theorem bD (lo hi:Int) (l:List Tok):jZ 1 l (number last lo hi l):=by
 unfold number
 split
 ·split
  ·intro a r' e;injection e with _ e;subst e;simp
  ·exact .fail _ _ _ _ _
 ·exact .fail _ _ _ _ _
theorem lF (l:List Tok):jZ 3 l (ratio last l):=(bD last _ _ l).bind (j:=2) fun _ l=>(bK last _ _ l).bind (j:=1) fun _ l=>(bD last _ _ l).bind (j:=0) fun _ l=>.ok _ l
theorem zw {α:Type} {k:Int} {x:List UInt8} {l:List Tok} {r:R α} {j:Nat} (h:hit k x l=true) (hr:jZ j l.tail r):jZ (j+1) l r:=fun a r' e=>by
 have h1:=eT h;have h2:=hr a r' e;omega
theorem lG (l:List Tok):jZ 1 l (ref last l):=by
 unfold ref
 split
 ·rename_i h;exact (zw h ((bD last _ _ _).bind (j:=0) fun _ l=>.ok _ l)).mono (by omega)
 ·exact (iC last l).bind (j:=0) fun _ l=>.ok _ l
theorem zx {ws:List (List UInt8)} {l:List Tok} {i:Nat} (h:find ws l=some i):l.tail.length+1=l.length:=by
 unfold find at h;obtain ⟨hlt,hh,_⟩:=List.findIdx?_eq_some_iff_getElem.1 h;exact eT hh
theorem jC (ws:List (List UInt8)) (l:List Tok):jZ 1 l (oneOf last ws l):=by
 unfold oneOf
 split
 ·rename_i i h;intro a r' e;injection e with _ e;subst e;have:=zx h;omega
 ·exact .fail _ _ _ _ _
theorem uo {f:Nat→List Tok→R Rule} (hf:∀ b l,jZ 1 l (f b l)):∀ (fuel:Nat) (ks:List Rule) (l:List Tok),jZ 0 l (kids last f fuel ks l)
 | 0,ks,l=>.ok _ _
 | fuel+1,ks,l=>by
  unfold kids
  split
  ·rename_i h;exact (zw h (.ok _ _)).mono (by omega)
  ·exact ((hf _ l).bind (j:=1) fun _ l=>(bK last _ _ l).bind (j:=0) fun _ l=>uo hf fuel _ l).mono (by omega)
theorem Hw {f:Nat→List Tok→R Rule} (hf:∀ b l,jZ 1 l (f b l)) (op:Int) (l:List Tok):jZ 0 l (cB last f op l):=by
 unfold cB
 split
 ·exact ((hf 0 l).bind (j:=0) fun _ l=>.ok _ l).mono (by omega)
 split
 ·exact ((lG last l).bind (j:=1) fun _ l=>(bD last _ _ l).bind (j:=0) fun _ l=>.ok _ l).mono (by omega)
 split
 ·exact ((lG last l).bind (j:=1) fun _ l=>(bD last _ _ l).bind (j:=0) fun _ l=>.ok _ l).mono (by omega)
 split
 ·exact ((bD last _ _ l).bind (j:=0) fun _ l=>.ok _ l).mono (by omega)
 split
 ·exact ((lF last l).bind (j:=0) fun _ l=>.ok _ l).mono (by omega)
 split
 ·exact ((lG last l).bind (j:=0) fun _ l=>.ok _ l).mono (by omega)
 split
 ·exact ((bD last _ _ l).bind (j:=1) fun _ l=>(bK last _ _ l).bind (j:=0) fun _ l=>(uo last hf _ _ l).bind (j:=0) fun _ l=>.ok _ l).mono (by omega)
 ·exact ((bK last _ _ l).bind (j:=0) fun _ l=>(uo last hf _ _ l).bind (j:=0) fun _ l=>.ok _ l).mono (by omega)
theorem kT:∀ (k b:Nat) (l:List Tok),jZ 1 l (rule last k b l)
 | 0,b,l=>by
  unfold rule;exact (jC last _ l).bind (j:=0) fun _ _=>.fail _ _ _ _ _
 | k+1,b,l=>by
  unfold rule;refine (jC last _ l).bind (j:=0) fun i r=>?_
  split
  ·exact .fail _ _ _ _ _
  ·exact Hw last (kT k) _ r
end
def Ends {α:Type} (last:Int) (r:R α):Prop:=r = .bad last 100∨∃ x,r = .ok x []
structure dY {α : Type} (F : Int → List Tok → R α) : Prop where
 ok:∀ last l x r,F last l = .ok x r→∃ a,l=a++r∧∀ last' d b,r=d++b→F last' (a++d) = .ok x d
 bad:∀ last l p e,F last l = .bad p e→∃ a b,l=a++b∧p=front last b∧(e=100∨e=2∧b≠[])∧∀ last',Ends last' (F last' a)
 nil:∀ last,Ends last (F last [])
theorem dY.bind {α β:Type} {F:Int→List Tok→R α} {G:Int→α→List Tok→R β} (hF:dY F) (hG:∀ x,dY fun last l=>G last x l):dY fun last l=>(F last l).bind (G last) where
 ok:=fun last l x r h=>by
  cases hr:F last l with
  | bad p e=>rw [hr] at h;cases h
  | ok y r2=>
   rw[hr] at h;obtain ⟨a1,e1,k1⟩:=hF.ok last l y r2 hr;obtain ⟨a2,e2,k2⟩:=(hG y).ok last r2 x r h;refine ⟨a1++a2,by rw [e1,e2,List.append_assoc],fun last' d b hd=>?_⟩;have h1:=k1 last' (a2++d) b (by rw [e2,hd,List.append_assoc]);show (F last' (a1++a2++d)).bind (G last')=_;rw[List.append_assoc,h1];exact k2 last' d b hd
 bad:=fun last l p e h=>by
  cases hr:F last l with
  | bad p' e'=>
   rw[hr] at h;have h':(R.bad p' e':R β) = .bad p e:=h;injection h' with h1 h2;subst h1;subst h2;obtain ⟨a,b,k1,k2,k3,k4⟩:=hF.bad last l _ _ hr;refine ⟨a,b,k1,k2,k3,fun last'=>?_⟩;show Ends last' ((F last' a).bind (G last'))
   rcases k4 last' with h5 | ⟨x,h5⟩
   ·rw[h5];exact .inl rfl
   ·rw[h5];exact (hG x).nil last'
  | ok y r2=>
   rw[hr] at h;obtain ⟨a1,e1,k1⟩:=hF.ok last l y r2 hr;obtain ⟨a,b,k2,k3,k4,k5⟩:=(hG y).bad last r2 p e h;refine ⟨a1++a,b,by rw [e1,k2,List.append_assoc],k3,k4,fun last'=>?_⟩;show Ends last' ((F last' (a1++a)).bind (G last'));rw[k1 last' a b k2];exact k5 last'
 nil:=fun last=>by
  show Ends last ((F last []).bind (G last))
  rcases hF.nil last with h5 | ⟨x,h5⟩
  ·rw[h5];exact .inl rfl
  ·rw[h5];exact (hG x).nil last
theorem dY.pure {α:Type} (x:α):dY fun _ l=>R.ok x l where
 ok:=fun last l y r h=>by
  injection h with h1 h2;subst h1;subst h2;exact ⟨[],rfl,fun last' d b hd=>rfl⟩
 bad:=fun last l p e h=>by cases h
 nil:=fun last=>.inr ⟨x,rfl⟩
theorem dY.limit {α β:Type} (f:Tok→Option α) (P:α→Bool) (G:Int→α→List Tok→R β) (H:Int→List Tok→R β) (h0:∀ last,H last [] = .bad last 100)
  (h1:∀ last t r,f t=none→H last (t::r) = .bad t.pos 100) (h2:∀ last t r i,f t=some i→P i=true→H last (t::r) = .bad t.pos 2) (h3:∀ last t r i,f t=some i→P i=false→H last (t::r)=G last i r)
  (hG:∀ i,dY fun last l=>G last i l):dY H where
 ok:=fun last l y r h=>by
  cases l with
  | nil=>rw [h0] at h;cases h
  | cons t l=>
   cases hf:f t with
   | none=>rw [h1 _ _ _ hf] at h;cases h
   | some i=>
    cases hP:P i with
    | true=>rw [h2 _ _ _ i hf hP] at h;cases h
    | false=>
     rw[h3 _ _ _ i hf hP] at h;obtain ⟨a,k1,k2⟩:=(hG i).ok last l y r h;refine ⟨t::a,by rw [k1];rfl,fun last' d b hd=>?_⟩;show H last' (t::(a++d))=_;rw[h3 _ _ _ i hf hP];exact k2 last' d b hd
 bad:=fun last l p e h=>by
  cases l with
  | nil=>
   rw[h0] at h;injection h with ha hb;subst ha;subst hb;exact ⟨[],[],rfl,rfl,.inl rfl,fun last'=>.inl (h0 last')⟩
  | cons t l=>
   cases hf:f t with
   | none=>
    rw[h1 _ _ _ hf] at h;injection h with ha hb;subst ha;subst hb;exact ⟨[],t::l,rfl,rfl,.inl rfl,fun last'=>.inl (h0 last')⟩
   | some i=>
    cases hP:P i with
    | true=>
     rw[h2 _ _ _ i hf hP] at h;injection h with ha hb;subst ha;subst hb;exact ⟨[],t::l,rfl,rfl,.inr ⟨rfl,by simp⟩,fun last'=>.inl (h0 last')⟩
    | false=>
     rw[h3 _ _ _ i hf hP] at h;obtain ⟨a,b,k1,k2,k3,k4⟩:=(hG i).bad last l p e h;refine ⟨t::a,b,by rw [k1];rfl,k2,k3,fun last'=>?_⟩;rw[h3 _ _ _ i hf hP];exact k4 last'
 nil:=fun last=>.inl (h0 last)
theorem dY.one {α:Type} (f:Tok→Option α) (F:Int→List Tok→R α) (h0:∀ last,F last [] = .bad last 100) (h1:∀ last t r,f t=none→F last (t::r) = .bad t.pos 100) (h3:∀ last t r i,f t=some i→F last (t::r) = .ok i r):dY F:=
 dY.limit f (fun _=>false) (fun _ i l=>.ok i l) F h0 h1 (fun _ _ _ _ _ h=>by cases h) (fun last t r i h _=>h3 last t r i h) (fun i=>dY.pure i)
theorem FH {k:Int} {x:List UInt8} {l m b:List Tok} (h:l=m++b) (hh:hit k x l=false):hit k x m=false:=by
 cases m with
 | nil=>rfl
 | cons t m=>subst h;exact hh
theorem dY.hit {α:Type} (k:Int) (x:List UInt8) {F G:Int→List Tok→R α} (hF:dY F) (hG:dY G):dY fun last l=>if hit k x l=true then F last l.tail else G last l where
 ok:=fun last l y r h=>by
  cases hh:Sx.hit k x l with
  | false=>
   rw[hh,if_neg (by simp)] at h;obtain ⟨a,k1,k2⟩:=hG.ok last l y r h;refine ⟨a,k1,fun last' d b hd=>?_⟩;show (if Sx.hit k x (a++d)=true then _ else _)=_;rw[FH (b:=b) (by rw [k1,hd,List.append_assoc]) hh,if_neg (by simp)];exact k2 last' d b hd
  | true=>
   rw[hh,if_pos rfl] at h;cases l with
   | nil=>cases hh
   | cons t l=>
    obtain ⟨a,k1,k2⟩:=hF.ok last l y r h;refine ⟨t::a,by rw [k1];rfl,fun last' d b hd=>?_⟩;show (if Sx.hit k x (t::(a++d))=true then F last' (a++d) else _)=_;rw[if_pos (show Sx.hit k x (t::(a++d))=true from hh)];exact k2 last' d b hd
 bad:=fun last l p e h=>by
  cases hh:Sx.hit k x l with
  | false=>
   rw[hh,if_neg (by simp)] at h;obtain ⟨a,b,k1,k2,k3,k4⟩:=hG.bad last l p e h;refine ⟨a,b,k1,k2,k3,fun last'=>?_⟩;show Ends last' (if Sx.hit k x a=true then _ else _);rw[FH k1 hh,if_neg (by simp)];exact k4 last'
  | true=>
   rw[hh,if_pos rfl] at h;cases l with
   | nil=>cases hh
   | cons t l=>
    obtain ⟨a,b,k1,k2,k3,k4⟩:=hF.bad last l p e h;refine ⟨t::a,b,by rw [k1];rfl,k2,k3,fun last'=>?_⟩;show Ends last' (if Sx.hit k x (t::a)=true then F last' a else _);rw[if_pos (show Sx.hit k x (t::a)=true from hh)];exact k4 last'
 nil:=fun last=>hG.nil last
theorem dY.fuel {α:Type} (c:Nat) {F:Int→Nat→List Tok→R α} (hF:∀ f,dY fun last l=>F last f l)
  (hf:∀ last f g l,l.length+c≤f→l.length+c≤g→F last f l=F last g l):dY fun last l=>F last (l.length+c) l where
 ok:=fun last l x r h=>by
  obtain ⟨a,k1,k2⟩:=(hF _).ok last l x r h;refine ⟨a,k1,fun last' d b hd=>?_⟩;show F last' ((a++d).length+c) (a++d)=_;rw[hf last' ((a++d).length+c) (l.length+c) (a++d) (Nat.le_refl _) (by rw [k1,hd];simp)];exact k2 last' d b hd
 bad:=fun last l p e h=>by
  obtain ⟨a,b,k1,k2,k3,k4⟩:=(hF _).bad last l p e h;refine ⟨a,b,k1,k2,k3,fun last'=>?_⟩;show Ends last' (F last' (a.length+c) a);rw[hf last' (a.length+c) (l.length+c) a (Nat.le_refl _) (by rw [k1];simp)];exact k4 last'
 nil:=fun last=>(hF _).nil last
theorem zA (k:Int) (x:List UInt8):dY fun last l=>need last k x l:=
 dY.one (fun t=>if t.kind == k && t.text == x then some () else none) _ (fun last=>rfl)
  (fun last t r h=>by
   have:(t.kind == k && t.text == x)=false:=by
    cases hc:(t.kind == k && t.text == x) with
    | false=>rfl
    | true=>simp [hc] at h
   unfold need Sx.hit;simp only[this];rfl)
  (fun last t r i h=>by
   have:(t.kind == k && t.text == x)=true:=by
    cases hc:(t.kind == k && t.text == x) with
    | true=>rfl
    | false=>simp [hc] at h
   unfold need Sx.hit;simp only[this];rfl)
theorem HY (x:List UInt8):dY fun last l=>word last x l:=zA 1 x
theorem zB (c:UInt8):dY fun last l=>sign last c l:=zA 3 [c]
theorem zC:dY fun last l=>name last l:=
 dY.one (fun t=>if t.kind=1 then some t.text else none) _ (fun last=>rfl)
  (fun last t r h=>by
   have:¬ t.kind=1:=fun e=>by simp [e] at h
   simp only[name,if_neg this];rfl)
  (fun last t r i h=>by
   by_cases hc:t.kind=1
   ·simp only[if_pos hc,Option.some.injEq] at h;subst h;simp only[name,if_pos hc]
   ·simp[hc] at h)
theorem oU (lo hi:Int):dY fun last l=>number last lo hi l:=
 dY.one (fun t=>if t.kind=2∧lo≤t.n∧t.n≤hi then some t.n else none) _ (fun last=>rfl)
  (fun last t r h=>by
   have:¬ (t.kind=2∧lo≤t.n∧t.n≤hi):=fun e=>by simp [e] at h
   simp only[number,if_neg this];rfl)
  (fun last t r i h=>by
   by_cases hc:t.kind=2∧lo≤t.n∧t.n≤hi
   ·simp only[if_pos hc,Option.some.injEq] at h;subst h;simp only[number,if_pos hc]
   ·simp[hc] at h)
theorem Kk:dY fun last l=>ref last l:=
 dY.hit 3 [35] (dY.bind (G:=fun _ n l=>.ok (([]:List UInt8),n) l) (oU _ _) fun _n=>dY.pure _) (dY.bind (G:=fun _ s l=>.ok (s,(0:Int)) l) zC fun _s=>dY.pure _)
def oW (ws:List (List UInt8)) (t:Tok):Option Nat:=ws.findIdx? fun w=>t.kind == 1 && t.text == w
theorem Ia (ws:List (List UInt8)) (t:Tok) (r:List Tok):find ws (t::r)=oW ws t:=rfl
theorem dY.shrinks {α:Type} {F:Int→List Tok→R α} (h:dY F) {last:Int} {l:List Tok} {x:α} {r:List Tok} (e:F last l = .ok x r):r.length≤l.length:=by
 obtain ⟨a,k,_⟩:=h.ok last l x r e;rw[k];simp
theorem xB:∀ (f:Nat) (rs:List (List UInt8 × Int)),dY fun last l=>refs last f rs l
 | 0,rs=>dY.pure rs
 | f+1,rs=>dY.bind (G:=fun last r l=>if hit 3 [44] l=true then refs last f (rs++[r]) l.tail else .ok (rs++[r]) l) Kk fun r=>dY.hit 3 [44] (F:=fun last l=>refs last f (rs++[r]) l) (xB f (rs++[r])) (dY.pure _)
theorem zD (last:Int):∀ (n m:Nat) (rs:List (List UInt8 × Int)) (l:List Tok),l.length+1≤n→l.length+1≤m→refs last n rs l=refs last m rs l
 | 0,_,_,l,h,_=>by omega
 | n+1,0,_,l,_,h=>by omega
 | n+1,m+1,rs,l,hn,hm=>by
  unfold refs;cases h1:ref last l with
  | bad p e=>rfl
  | ok k l1=>
   have e1:=lG last _ _ _ h1;simp only[R.bind];cases hh:Sx.hit 3 [44] l1 with
   | false=>rfl
   | true=>
    have e2:=eT hh;simp only[if_true];exact zD last n m _ _ (by omega) (by omega)
theorem Ib:dY fun last l=>refs last l.length.succ [] l:=
 dY.fuel 1 (F:=fun last n l=>refs last n [] l) (fun n=>xB n []) (fun last n m l h1 h2=>zD last n m [] l h1 h2)
theorem Hu:dY fun last l=>take last l:=by
 have h:(fun (last:Int) (l:List Tok)=>take last l)=fun last l=>(name last l).bind fun nm l=>(number last 1 10000 l).bind fun cr l=>(word last ku l).bind fun _ l=>(refs last l.length.succ [] l).bind fun rs l=>
   (if hit 1 vX l=true then number last 0 12 l.tail else .ok 1 l).bind fun g l=>if hit 1 dV l=true then (sign last 59 l.tail).bind fun _ l=>.ok (⟨nm,cr,g,true,rs.map (·.1),rs.map (·.2)⟩:iK) l else (sign last 59 l).bind fun _ l=>.ok (⟨nm,cr,g,false,rs.map (·.1),rs.map (·.2)⟩:iK) l:=by
  funext last l
  unfold take
  congr 1;funext nm l
  congr 1;funext cr l
  congr 1;funext _ l
  congr 1;funext rs l
  congr 1;funext g l
  cases Sx.hit 1 dV l <;> rfl
 rw[h];exact dY.bind (G:=fun last nm l=>(number last 1 10000 l).bind fun cr l=>(word last ku l).bind fun _ l=>(refs last l.length.succ [] l).bind fun rs l=>
   (if hit 1 vX l=true then number last 0 12 l.tail else .ok 1 l).bind fun g l=>if hit 1 dV l=true then (sign last 59 l.tail).bind fun _ l=>.ok (⟨nm,cr,g,true,rs.map (·.1),rs.map (·.2)⟩:iK) l else (sign last 59 l).bind fun _ l=>.ok (⟨nm,cr,g,false,rs.map (·.1),rs.map (·.2)⟩:iK) l) zC fun nm=>
  dY.bind (G:=fun last cr l=>(word last ku l).bind fun _ l=>(refs last l.length.succ [] l).bind fun rs l=>
   (if hit 1 vX l=true then number last 0 12 l.tail else .ok 1 l).bind fun g l=>if hit 1 dV l=true then (sign last 59 l.tail).bind fun _ l=>.ok (⟨nm,cr,g,true,rs.map (·.1),rs.map (·.2)⟩:iK) l else (sign last 59 l).bind fun _ l=>.ok (⟨nm,cr,g,false,rs.map (·.1),rs.map (·.2)⟩:iK) l) (oU _ _) fun cr=>
  dY.bind (G:=fun last _ l=>(refs last l.length.succ [] l).bind fun rs l=>
   (if hit 1 vX l=true then number last 0 12 l.tail else .ok 1 l).bind fun g l=>if hit 1 dV l=true then (sign last 59 l.tail).bind fun _ l=>.ok (⟨nm,cr,g,true,rs.map (·.1),rs.map (·.2)⟩:iK) l else (sign last 59 l).bind fun _ l=>.ok (⟨nm,cr,g,false,rs.map (·.1),rs.map (·.2)⟩:iK) l) (HY _) fun _=>
  dY.bind (G:=fun last rs l=>(if hit 1 vX l=true then number last 0 12 l.tail else .ok 1 l).bind fun g l=>if hit 1 dV l=true then (sign last 59 l.tail).bind fun _ l=>.ok (⟨nm,cr,g,true,rs.map (·.1),rs.map (·.2)⟩:iK) l else (sign last 59 l).bind fun _ l=>.ok (⟨nm,cr,g,false,rs.map (·.1),rs.map (·.2)⟩:iK) l) Ib fun rs=>
  dY.bind (G:=fun last g l=>if hit 1 dV l=true then (sign last 59 l.tail).bind fun _ l=>.ok (⟨nm,cr,g,true,rs.map (·.1),rs.map (·.2)⟩:iK) l else (sign last 59 l).bind fun _ l=>.ok (⟨nm,cr,g,false,rs.map (·.1),rs.map (·.2)⟩:iK) l) (dY.hit 1 vX (F:=fun last l=>number last 0 12 l) (oU _ _) (dY.pure 1)) fun g=>
  dY.hit 1 dV (F:=fun last l=>(sign last 59 l).bind fun _ l=>.ok (⟨nm,cr,g,true,rs.map (·.1),rs.map (·.2)⟩:iK) l) (dY.bind (zB _) fun _=>dY.pure _) (dY.bind (zB _) fun _=>dY.pure _)
def dx (last:Int) (w:List UInt8) (c:dh) (l:List Tok):R dh:=
 if w=fJ then (course last l).bind fun x l=>.ok { c with courses:=c.courses++[x] } l
 else if w=oh then (same last l).bind fun x l=>.ok { c with same:=c.same++[x] } l
 else if w=bR then (fE last l).bind fun x l=>.ok { c with aS:=c.aS++[x] } l
 else if w=dM then (standing last l).bind fun x l=>.ok { c with classes:=c.classes++[x] } l
 else if w=cK then (standing last l).bind fun x l=>.ok { c with aJ:=c.aJ++[x] } l
 else if w=vG then (Ar last l).bind fun x l=>.ok { c with bZ:=c.bZ++[x] } l
 else (clause last l).bind fun x l=>.ok { c with clauses:=c.clauses++[x] } l
def ig (w:List UInt8):Bool:=w=fJ || w=oh || w=bR || w=dM || w=cK || w=vG || w=om
theorem uq (last:Int) (w:List UInt8) (c:dh) (l:List Tok):define last w c l=if ig w=true then some (dx last w c l) else none:=by
 by_cases h1:w=fJ
 ·have hd:ig w=true:=by unfold ig;simp[h1]
  unfold define dx;simp only[if_pos hd,if_pos h1]
 by_cases h2:w=oh
 ·have hd:ig w=true:=by unfold ig;simp[h2]
  unfold define dx;simp only[if_pos hd,if_neg h1,if_pos h2]
 by_cases h3:w=bR
 ·have hd:ig w=true:=by unfold ig;simp[h3]
  unfold define dx;simp only[if_pos hd,if_neg h1,if_neg h2,if_pos h3]
 by_cases h4:w=dM
 ·have hd:ig w=true:=by unfold ig;simp[h4]
  unfold define dx;simp only[if_pos hd,if_neg h1,if_neg h2,if_neg h3,if_pos h4]
 by_cases h5:w=cK
 ·have hd:ig w=true:=by unfold ig;simp[h5]
  unfold define dx;simp only[if_pos hd,if_neg h1,if_neg h2,if_neg h3,if_neg h4,if_pos h5]
 by_cases h6:w=vG
 ·have hd:ig w=true:=by unfold ig;simp[h6]
  unfold define dx;simp only[if_pos hd,if_neg h1,if_neg h2,if_neg h3,if_neg h4,if_neg h5,if_pos h6]
 by_cases h7:w=om
 ·have hd:ig w=true:=by unfold ig;simp[h7]
  unfold define dx;simp only[if_pos hd,if_neg h1,if_neg h2,if_neg h3,if_neg h4,if_neg h5,if_neg h6,if_pos h7]
 have hd:¬ ig w=true:=by unfold ig;simp[h1,h2,h3,h4,h5,h6,h7]
 unfold define;simp only[if_neg hd,if_neg h1,if_neg h2,if_neg h3,if_neg h4,if_neg h5,if_neg h6,if_neg h7]
def vJ (t:Tok):Option (List UInt8):=if t.kind=1∧ig t.text=true then some t.text else none
theorem qx {last:Int} {f:Nat} {c:dh} {t:Tok} {r:List Tok} (h:vJ t=none):defs last (f+1) c (t::r) = .bad t.pos 100:=by
 unfold vJ at h;unfold defs;simp only[uq]
 by_cases hk:t.kind=1
 ·cases hd:ig t.text with
  | true=>simp [hk,hd] at h
  | false=>rw [if_pos hk];rfl
 ·rw[if_neg hk];rfl
theorem qy {last:Int} {f:Nat} {c:dh} {t:Tok} {r:List Tok} {w:List UInt8} (h:vJ t=some w):defs last (f+1) c (t::r)=(dx last w c r).bind fun c l=>defs last f c l:=by
 unfold vJ at h;rw[defs];simp only[uq]
 by_cases hk:t.kind=1∧ig t.text=true
 ·rw[if_pos hk] at h;injection h with h;rw[if_pos hk.1,if_pos hk.2,h]
 ·rw[if_neg hk] at h;cases h
def core (t:Tok):Int × List UInt8 × Int:=(t.kind,t.text,t.n)
def dK (l m:List Tok):Prop:=l.map core=m.map core
theorem dK.refl (l:List Tok):dK l l:=rfl
theorem dK.symm {l m:List Tok} (h:dK l m):dK m l:=Eq.symm h
theorem dK.trans {l m n:List Tok} (h:dK l m) (k:dK m n):dK l n:=Eq.trans h k
theorem dK.length {l m:List Tok} (h:dK l m):l.length=m.length:=by have:=congrArg List.length h;simpa using this
theorem dK.app {l m l' m':List Tok} (h:dK l m) (k:dK l' m'):dK (l++l') (m++m'):=by unfold dK at *;simp[h,k]
theorem dK.nil {l:List Tok} (h:dK l []):l = []:=List.eq_nil_of_length_eq_zero h.length
theorem dK.cons {l r:List Tok} {t:Tok} (h:dK l (t::r)):∃ u s,l=u::s∧u.kind=t.kind∧u.text=t.text∧u.n=t.n∧dK s r:=by
 cases l with
 | nil=>cases h
 | cons u s=>
  unfold dK core at h;simp only[List.map_cons,List.cons.injEq,Prod.mk.injEq] at h;exact ⟨u,s,rfl,h.1.1,h.1.2.1,h.1.2.2,h.2⟩
def Jj {α:Type} (F:Int→List Tok→R α):Prop:=∀ last l x r,F last l = .ok x r→∀ last' l' m,dK l' (l++m)→∃ r',F last' l' = .ok x r'∧dK r' (r++m)
def yM {α:Type} (F:Int→List Tok→R α):Prop:=∀ last l x r,F last l = .ok x r→r≠[]→∀ last' l' m,dK l' (l++m)→∃ r',F last' l' = .ok x r'∧dK r' (r++m)
def Ct {α:Type} (F:Int→List Tok→R α):Prop:=∀ last x r,F last []≠.ok x r
theorem Jj.pure {α:Type} (x:α):Jj fun _ l=>R.ok x l:=fun last l y r h last' l' m hm=>by
 injection h with h1 h2;subst h1;subst h2;exact ⟨l',rfl,hm⟩
theorem bind_ok {α β:Type} {r:R α} {f:α→List Tok→R β} {x:β} {l:List Tok} (h:r.bind f = .ok x l):∃ y l1,r = .ok y l1∧f y l1 = .ok x l:=by
 cases r with
 | bad p e=>cases h
 | ok y l1=>exact ⟨y,l1,rfl,h⟩
theorem Jj.bind {α β:Type} {F:Int→List Tok→R α} {G:Int→α→List Tok→R β} (hF:Jj F) (hG:∀ x,Jj fun last l=>G last x l):Jj fun last l=>(F last l).bind (G last):=fun last l x r h last' l' m hm=>by
 obtain ⟨y,l1,h1,h2⟩:=bind_ok h;obtain ⟨r1,k1,k2⟩:=hF last l y l1 h1 last' l' m hm;obtain ⟨r2,k3,k4⟩:=hG y last l1 x r h2 last' r1 m k2;exact ⟨r2,by show (F last' l').bind (G last')=_;rw[k1];exact k3,k4⟩
theorem yM.bind {α β:Type} {F:Int→List Tok→R α} {G:Int→α→List Tok→R β} (hF:yM F) (hG:∀ x,yM fun last l=>G last x l) (hn:∀ x,dY fun last l=>G last x l):yM fun last l=>(F last l).bind (G last):=fun last l x r h hr last' l' m hm=>by
 obtain ⟨y,l1,h1,h2⟩:=bind_ok h;have hl1:l1≠[]:=fun e=>by
  subst e;have:r.length≤([]:List Tok).length:=(hn y).shrinks h2;exact hr (List.eq_nil_of_length_eq_zero (Nat.le_zero.1 this))
 obtain ⟨r1,k1,k2⟩:=hF last l y l1 h1 hl1 last' l' m hm;obtain ⟨r2,k3,k4⟩:=hG y last l1 x r h2 hr last' r1 m k2;exact ⟨r2,by show (F last' l').bind (G last')=_;rw[k1];exact k3,k4⟩
theorem yM.then {α β:Type} {F:Int→List Tok→R α} {G:Int→α→List Tok→R β} (hF:yM F) (hG:∀ x,Jj fun last l=>G last x l) (hn:∀ x,Ct fun last l=>G last x l):Jj fun last l=>(F last l).bind (G last):=fun last l x r h last' l' m hm=>by
 obtain ⟨y,l1,h1,h2⟩:=bind_ok h;have hl1:l1≠[]:=fun e=>by subst e;exact hn y last x r h2
 obtain ⟨r1,k1,k2⟩:=hF last l y l1 h1 hl1 last' l' m hm;obtain ⟨r2,k3,k4⟩:=hG y last l1 x r h2 last' r1 m k2;exact ⟨r2,by show (F last' l').bind (G last')=_;rw[k1];exact k3,k4⟩
theorem Ct.bind {α β:Type} {F:Int→List Tok→R α} (G:Int→α→List Tok→R β) (h:Ct F):Ct fun last l=>(F last l).bind (G last):=fun last x r e=>by
 obtain ⟨y,l1,h1,_⟩:=bind_ok e;exact h last y l1 h1
theorem lY {k:Int} {x:List UInt8} {l l':List Tok} (h:dK l' l):hit k x l'=hit k x l:=by
 cases l with
 | nil=>rw [h.nil]
 | cons t r=>
  obtain ⟨u,s,rfl,h1,h2,_,_⟩:=h.cons;show (u.kind == k && u.text == x)=(t.kind == k && t.text == x);rw[h1,h2]
theorem FI {k:Int} {x:List UInt8} {l m:List Tok} (hl:l≠[]):hit k x (l++m)=hit k x l:=by
 cases l with
 | nil=>exact absurd rfl hl
 | cons t r=>rfl
theorem dK.tail {l l':List Tok} (h:dK l' l):dK l'.tail l.tail:=by
 cases l with
 | nil=>rw [h.nil];rfl
 | cons t r=>obtain ⟨u,s,rfl,_,_,_,h4⟩:=h.cons;exact h4
theorem Jj.hit {α:Type} (k:Int) (x:List UInt8) {F G:Int→List Tok→R α} (hF:Jj F) (hG:Jj G) (hn:Ct G):Jj fun last l=>if hit k x l=true then F last l.tail else G last l:=fun last l y r h last' l' m hm=>by
 have hl:l≠[]:=fun e=>by subst e;exact hn last y r h
 have hh:Sx.hit k x l'=Sx.hit k x l:=(lY hm).trans (FI hl);show ∃ r',(if Sx.hit k x l'=true then F last' l'.tail else G last' l') = .ok y r'∧_;replace h:(if Sx.hit k x l=true then F last l.tail else G last l) = .ok y r:=h;rw[hh];cases hc:Sx.hit k x l with
 | true=>
  rw[hc,if_pos rfl] at h;rw[if_pos rfl];refine hF last l.tail y r h last' l'.tail m ?_;have:=hm.tail;cases l with
  | nil=>exact absurd rfl hl
  | cons t l=>exact this
 | false=>
  rw[hc,if_neg (by simp)] at h;rw[if_neg (by simp)];exact hG last l y r h last' l' m hm
theorem yM.hit {α:Type} (k:Int) (x:List UInt8) {F G:Int→List Tok→R α} (hF:yM F) (hG:yM G) (hn:dY G):yM fun last l=>if hit k x l=true then F last l.tail else G last l:=fun last l y r h hr last' l' m hm=>by
 have hl:l≠[]:=fun e=>by
  subst e;have:r.length≤([]:List Tok).length:=hn.shrinks h;exact hr (List.eq_nil_of_length_eq_zero (Nat.le_zero.1 this))
 have hh:Sx.hit k x l'=Sx.hit k x l:=(lY hm).trans (FI hl);show ∃ r',(if Sx.hit k x l'=true then F last' l'.tail else G last' l') = .ok y r'∧_;replace h:(if Sx.hit k x l=true then F last l.tail else G last l) = .ok y r:=h;rw[hh];cases hc:Sx.hit k x l with
 | true=>
  rw[hc,if_pos rfl] at h;rw[if_pos rfl];refine hF last l.tail y r h hr last' l'.tail m ?_;have:=hm.tail;cases l with
  | nil=>exact absurd rfl hl
  | cons t l=>exact this
 | false=>
  rw[hc,if_neg (by simp)] at h;rw[if_neg (by simp)];exact hG last l y r h hr last' l' m hm
theorem Ic (ws:List (List UInt8)) {u t:Tok} (h1:u.kind=t.kind) (h2:u.text=t.text):oW ws u=oW ws t:=by unfold oW;rw[h1,h2]
def dh.app (a b:dh):dh:=⟨a.courses++b.courses,a.same++b.same,a.aS++b.aS,a.classes++b.classes,a.bZ++b.bZ,a.aJ++b.aJ,a.clauses++b.clauses⟩
def R.map {α β:Type} (f:α→β) (r:R α):R β:=r.bind fun a l=>.ok (f a) l
end Go.Proofs.YtjonaidancomgaaGreatDoor.Sx
namespace Go.Proofs.YtjonaidancomgaaGreatDoor.Lx
theorem Kl {p:UInt8→Bool} {a b:List UInt8} (h:(a.takeWhile p).length < a.length∨b.takeWhile p = []∨((a++b).takeWhile p).length≤a.length):(a++b).takeWhile p=a.takeWhile p:=by
 rw[List.takeWhile_append] at h ⊢
 split
 ·rename_i he;rw[if_pos he] at h;have ha:a.takeWhile p=a:=(List.takeWhile_prefix p).eq_of_length he
  rcases h with h | h | h
  ·omega
  ·rw[h,List.append_nil,ha]
  ·rw[List.length_append] at h;have:b.takeWhile p = []:=List.eq_nil_of_length_eq_zero (by omega);rw[this,List.append_nil,ha]
 ·rfl
def Step.ext:Step→Nat
 | .skip k=>k
 | .tok _ k=>k
 | .err=>0
end Go.Proofs.YtjonaidancomgaaGreatDoor.Lx
namespace Go.Proofs.YtjonaidancomgaaGreatDoor.Sx
open Lx (Tok)
def Sf {α:Type} (l:List Tok) (r:R α):Prop:=∀ a r',r = .ok a r'→∃ p,l=p++r'
theorem Sf.ok {α:Type} (a:α) (l:List Tok):Sf l (R.ok a l):=fun b r' e=>by injection e with _ e;exact ⟨[],e⟩
theorem Sf.fail {α:Type} (last:Int) (l0:List Tok) (e:Int) (l:List Tok):Sf l (Sx.fail last l0 e:R α):=fun a r' h=>by unfold Sx.fail at h;cases h
theorem Sf.bind {α β:Type} {l:List Tok} {r:R α} {f:α→List Tok→R β} (h:Sf l r) (hf:∀ a l',Sf l' (f a l')):Sf l (r.bind f):=by
 intro b r' e;cases hr:r with
 | bad p x=>rw [hr] at e;cases e
 | ok a l'=>
  rw[hr] at e;obtain ⟨p,rfl⟩:=h a l' hr;obtain ⟨q,rfl⟩:=hf a l' b r' e;exact ⟨p++q,by simp⟩
theorem Sf.tail {α:Type} {l:List Tok} {r:R α} (h:Sf l.tail r):Sf l r:=fun a r' e=>by
 obtain ⟨p,hp⟩:=h a r' e;cases l with
 | nil=>exact ⟨p,hp⟩
 | cons t l=>exact ⟨t::p,congrArg (t :: ·) hp⟩
theorem fK (last k:Int) (x:List UInt8) (l:List Tok):Sf l (need last k x l):=by
 unfold need
 split
 ·exact .tail (.ok _ _)
 ·exact .fail _ _ _ _
theorem jH (last:Int) (l:List Tok):Sf l (name last l):=by
 unfold name
 split
 ·split
  ·exact .tail (.ok _ _)
  ·exact .fail _ _ _ _
 ·exact .fail _ _ _ _
theorem eG (last lo hi:Int) (l:List Tok):Sf l (number last lo hi l):=by
 unfold number
 split
 ·split
  ·exact .tail (.ok _ _)
  ·exact .fail _ _ _ _
 ·exact .fail _ _ _ _
theorem xC (last:Int) (l:List Tok):Sf l (ratio last l):=by
 unfold ratio sign
 repeat (first | exact .ok _ _ | exact .fail _ _ _ _ | exact fK _ _ _ _ | exact jH _ _ | exact eG _ _ _ _ | refine .bind ?_ fun _ _=>?_ | split)
theorem Ez (last:Int) (l:List Tok):Sf l (ref last l):=by
 unfold ref
 split
 ·exact .tail (.bind (eG _ _ _ _) fun _ _=>.ok _ _)
 ·exact .bind (jH _ _) fun _ _=>.ok _ _
theorem oZ (last:Int) (ws:List (List UInt8)) (l:List Tok):Sf l (oneOf last ws l):=by
 unfold oneOf
 split
 ·exact .tail (.ok _ _)
 ·exact .fail _ _ _ _
theorem FJ (last:Int) {f:Nat→List Tok→R Rule} (hf:∀ b l,Sf l (f b l)):∀ (n:Nat) (ks:List Rule) (l:List Tok),Sf l (kids last f n ks l)
 | 0,ks,l=>.ok _ _
 | n+1,ks,l=>by
  unfold kids
  split
  ·exact .tail (.ok _ _)
  ·exact .bind (hf _ _) fun _ _=>.bind (fK _ _ _ _) fun _ _=>FJ last hf n _ _
theorem Nu (last:Int) {f:Nat→List Tok→R Rule} (hf:∀ b l,Sf l (f b l)) (op:Int) (l:List Tok):Sf l (cB last f op l):=by
 unfold cB sign
 repeat (first | exact .ok _ _ | exact .fail _ _ _ _ | exact fK _ _ _ _ | exact jH _ _ | exact eG _ _ _ _ | exact hf _ _ | exact Ez _ _ | exact xC _ _ | exact FJ last hf _ _ _ | refine .bind ?_ fun _ _=>?_ | split)
theorem vZ (last:Int):∀ (k b:Nat) (l:List Tok),Sf l (rule last k b l)
 | 0,b,l=>.bind (oZ _ _ _) fun _ _=>.fail _ _ _ _
 | k+1,b,l=>by
  unfold rule;refine .bind (oZ _ _ _) fun i r=>?_
  split
  ·exact .fail _ _ _ _
  ·exact Nu last (vZ last k) _ r
theorem xD (last:Int) {α:Type} (w:List UInt8) {f:List Tok→R α} (hf:∀ l,Sf l (f l)) (d:α) (l:List Tok):Sf l (opt last w f d l):=by
 unfold opt
 split
 ·exact .tail (.bind (hf _) fun _ _=>.bind (fK _ _ _ _) fun _ _=>.ok _ _)
 ·exact .ok _ _
theorem Ie (last:Int) (l:List Tok):Sf l (course last l):=by
 unfold course;refine .bind (eG _ _ _ _) fun _ _=>.bind (jH _ _) fun _ _=>.bind (eG _ _ _ _) fun _ l=>?_;have h:∀ (rp:Int) (l':List Tok) (nm:List UInt8) (no cr:Int),Sf l' ((sign last 123 l').bind fun _ l=>(opt last je (rule last 16 0) (.mk 1 0 [] 0 0 []) l).bind fun nd l=>(opt last lN (rule last 16 0) (.mk 2 0 [] 0 0 []) l).bind fun br l=>(sign last 125 l).bind fun _ l=>.ok (⟨nm,no,cr,rp,nd,br⟩:Course) l):=fun rp l' nm no cr=>
  .bind (fK _ _ _ _) fun _ _=>.bind (xD last _ (vZ last 16 0) _ _) fun _ _=>.bind (xD last _ (vZ last 16 0) _ _) fun _ _=>.bind (fK _ _ _ _) fun _ _=>.ok _ _
 split
 ·exact .tail (h _ _ _ _ _)
 ·exact h _ _ _ _ _
theorem Nw (last:Int) (l:List Tok):Sf l (same last l):=by
 unfold same sign
 repeat (first | exact .ok _ _ | exact .fail _ _ _ _ | exact fK _ _ _ _ | exact jH _ _ | exact eG _ _ _ _ | exact Ez _ _ | refine .bind ?_ fun _ _=>?_ | split)
theorem FK (last:Int):∀ (n:Nat) (rs:List (List UInt8 × Int)) (l:List Tok),Sf l (refs last n rs l)
 | 0,rs,l=>.ok _ _
 | n+1,rs,l=>by
  unfold refs;refine .bind (Ez _ _) fun _ _=>?_
  split
  ·exact .tail (FK last n _ _)
  ·exact .ok _ _
theorem Ny (last:Int) (l:List Tok):Sf l (take last l):=by
 unfold take;refine .bind (jH _ _) fun _ _=>.bind (eG _ _ _ _) fun _ _=>.bind (fK _ _ _ _) fun _ _=>.bind (FK _ _ _ _) fun _ l=>.bind ?_ fun _ l=>?_
 ·split
  ·exact .tail (eG _ _ _ _)
  ·exact .ok _ _
 ·dsimp only
  split
  ·exact .tail (.bind (fK _ _ _ _) fun _ _=>.ok _ _)
  ·exact .bind (fK _ _ _ _) fun _ _=>.ok _ _
theorem Cu (last:Int):∀ (n:Nat) (qs:List iK) (l:List Tok),Sf l (takes last n qs l)
 | 0,qs,l=>.ok _ _
 | n+1,qs,l=>by
  unfold takes
  split
  ·split
   ·exact .fail _ _ _ _
   ·exact .tail (.bind (Ny _ _) fun _ _=>Cu last n _ _)
  ·exact .ok _ _
theorem AP (last:Int) (l:List Tok):Sf l (fE last l):=
 .bind (eG _ _ _ _) fun _ _=>.bind (jH _ _) fun _ _=>.bind (fK _ _ _ _) fun _ _=>.bind (xD last _ (eG _ _ _) _ _) fun _ _=>.bind (xD last _ (eG _ _ _) _ _) fun _ _=>.bind (xD last _ (xC _) _ _) fun _ _=>.bind (Cu _ _ _ _) fun _ _=>.bind (fK _ _ _ _) fun _ _=>.ok _ _
theorem Cv (last:Int) (l:List Tok):Sf l (standing last l):=
 .bind (jH _ _) fun _ _=>.bind (eG _ _ _ _) fun _ _=>.bind (fK _ _ _ _) fun _ _=>.bind (xC _ _) fun _ _=>.bind (fK _ _ _ _) fun _ _=>.ok _ _
theorem QJ (last:Int) (l:List Tok):Sf l (Ar last l):=.bind (jH _ _) fun _ _=>.bind (eG _ _ _ _) fun _ _=>.bind (fK _ _ _ _) fun _ _=>.ok _ _
theorem Ig (last:Int) (l:List Tok):Sf l (clause last l):=
 .bind (oZ _ _ _) fun _ _=>.bind (oZ _ _ _) fun _ _=>.bind (oZ _ _ _) fun _ _=>.bind (fK _ _ _ _) fun _ _=>.bind (eG _ _ _ _) fun _ _=>.bind (fK _ _ _ _) fun _ _=>.ok _ _
theorem zF (last:Int) (w:List UInt8) (c:dh) (l:List Tok):Sf l (dx last w c l):=by
 unfold dx
 repeat (first | exact .ok _ _ | exact .fail _ _ _ _ | exact fK _ _ _ _ | exact jH _ _ | exact eG _ _ _ _ | exact Ie _ _ | exact Nw _ _ | exact AP _ _ | exact Cv _ _ | exact QJ _ _ | exact Ig _ _ | refine .bind ?_ fun _ _=>?_ | split)
theorem yH {last:Int} {w:List UInt8} {c c':dh} {l r:List Tok} (h:dx last w c l = .ok c' r):r.length≤l.length:=by
 obtain ⟨p,rfl⟩:=zF last w c l _ _ h;simp
theorem FL (last:Int):∀ (n:Nat) (c:dh) (l:List Tok),Sf l (defs last n c l)
 | 0,c,l=>.ok _ _
 | n+1,c,l=>by
  unfold defs
  split
  ·exact .ok _ _
  ·split
   ·rw[uq]
    split
    ·rename_i x h
     split at h
     ·injection h with h;rw[←h];exact .tail (.bind (zF _ _ _ _) fun _ _=>FL last n _ _)
     ·cases h
    ·exact .fail _ _ _ _
   ·exact .fail _ _ _ _
theorem AU (last:Int) (l:List Tok):Sf l (cZ last l):=FL last _ _ _
def R.void {α:Type} (r:R α):R Unit:=match r with | .ok _ l=>.ok () l | .bad p e=>.bad p e
def R.Val {α:Type} (r:R α) (a:α):Prop:=∀ x l,r = .ok x l→x=a
def go {α:Type} (s:R Unit) (f:List Tok→R α):R α:=match s with | .ok _ l=>f l | .bad p e=>.bad p e
section
variable {α β : Type} {s : R Unit} {a : α}
theorem Nz (s:R Unit) (f:List Tok→R α) (g:α→List Tok→R β):(go s f).bind g=go s fun l=>(f l).bind g:=by cases s <;> rfl
theorem R.Val.next {r:R α} (h:r.Val a) (g:α→List Tok→R β):r.bind g=go r.void (g a):=by
 cases r with
 | ok x l=>obtain rfl:=h x l rfl;rfl
 | bad p e=>rfl
theorem R.Val.step {f:List Tok→R α} (h:(go s f).Val a) (g:α→List Tok→R β):go s (fun l=>(f l).bind g)=go (go s f).void (g a):=by rw [←Nz,h.next]
theorem R.Val.aM (p e:Int) (a:α):R.Val (.bad p e) a:=fun x l h=>by cases h
theorem R.Val.sU (a:α) (l:List Tok):R.Val (.ok a l) a:=fun x r h=>by injection h with h _;exact h.symm
theorem R.Val.done (s:R Unit) (a:α):(go s fun l=>.ok a l).Val a:=by
 cases s with
 | ok u l=>exact .sU a l
 | bad p e=>exact .aM p e a
theorem R.Val.map {r:R α} (h:r.Val a) (f:α→β):(r.bind fun x l=>.ok (f x) l).Val (f a):=by
 rw[h.next];exact .done _ _
end
end Go.Proofs.YtjonaidancomgaaGreatDoor.Sx
