/- Parts of the proof, joined into one text: SxLen, SxCut, SxCutB, LxExt. -/
import Derived.Test.YtjonaidancomgaaGreatDoorPLxPlain

namespace Go.Proofs.YtjonaidancomgaaGreatDoor.Sx
open Lx (Tok)

def Eats {α:Type} (k:Nat) (l:List Tok) (r:R α):Prop:=∀ a r',r = .ok a r'→r'.length+k≤l.length
theorem Eats.bind {α β:Type} {k j:Nat} {l:List Tok} {r:R α} {f:α→List Tok→R β} (h:Eats k l r) (hf:∀ a l',Eats j l' (f a l')):Eats (k+j) l (r.bind f):=by
 intro b r' e
 cases hr:r with
 | bad p x=>rw [hr] at e;cases e
 | ok a l'=>
  rw[hr] at e
  have h1:=h a l' hr
  have h2:=hf a l' b r' e
  omega
theorem Eats.mono {α:Type} {k j:Nat} {l:List Tok} {r:R α} (h:Eats k l r) (hj:j≤k):Eats j l r:=fun a r' e=>by have:=h a r' e;omega
theorem Eats.ok {α:Type} (a:α) (l:List Tok):Eats 0 l (R.ok a l):=fun b r' e=>by injection e with _ e;subst e;omega
theorem Eats.fail {α:Type} (last:Int) (l0:List Tok) (e:Int) (k:Nat) (l:List Tok):Eats k l (Sx.fail last l0 e:R α):=fun a r' h=>by unfold Sx.fail at h;cases h
section
variable (last : Int)
theorem hit_tail {k:Int} {x:List UInt8} {l:List Tok} (h:hit k x l=true):l.tail.length+1=l.length:=by
 cases l with
 | nil=>cases h
 | cons t r=>simp
theorem eats_need (k:Int) (x:List UInt8) (l:List Tok):Eats 1 l (need last k x l):=by
 unfold need
 split
 ·rename_i h
  intro a r' e
  injection e with _ e
  subst e
  have:=hit_tail h
  omega
 ·exact .fail _ _ _ _ _
theorem eats_name (l:List Tok):Eats 1 l (name last l):=by
 unfold name
 split
 ·split
  ·intro a r' e
   injection e with _ e
   subst e
   simp
  ·exact .fail _ _ _ _ _
 ·exact .fail _ _ _ _ _
theorem eats_number (lo hi:Int) (l:List Tok):Eats 1 l (number last lo hi l):=by
 unfold number
 split
 ·split
  ·intro a r' e
   injection e with _ e
   subst e
   simp
  ·exact .fail _ _ _ _ _
 ·exact .fail _ _ _ _ _
theorem eats_ratio (l:List Tok):Eats 3 l (ratio last l):=(eats_number last _ _ l).bind (j:=2) fun _ l=>(eats_need last _ _ l).bind (j:=1) fun _ l=>(eats_number last _ _ l).bind (j:=0) fun _ l=>.ok _ l
theorem eats_tail {α:Type} {k:Int} {x:List UInt8} {l:List Tok} {r:R α} {j:Nat} (h:hit k x l=true) (hr:Eats j l.tail r):Eats (j+1) l r:=fun a r' e=>by
 have h1:=hit_tail h
 have h2:=hr a r' e
 omega
theorem eats_ref (l:List Tok):Eats 1 l (ref last l):=by
 unfold ref
 split
 ·rename_i h
  exact (eats_tail h ((eats_number last _ _ _).bind (j:=0) fun _ l=>.ok _ l)).mono (by omega)
 ·exact (eats_name last l).bind (j:=0) fun _ l=>.ok _ l
theorem find_tail {ws:List (List UInt8)} {l:List Tok} {i:Nat} (h:find ws l=some i):l.tail.length+1=l.length:=by
 unfold find at h
 obtain ⟨hlt,hh,_⟩:=List.findIdx?_eq_some_iff_getElem.1 h
 exact hit_tail hh
theorem eats_oneOf (ws:List (List UInt8)) (l:List Tok):Eats 1 l (oneOf last ws l):=by
 unfold oneOf
 split
 ·rename_i i h
  intro a r' e
  injection e with _ e
  subst e
  have:=find_tail h
  omega
 ·exact .fail _ _ _ _ _
theorem eats_kids {f:Nat→List Tok→R Rule} (hf:∀ b l,Eats 1 l (f b l)):∀ (fuel:Nat) (ks:List Rule) (l:List Tok),Eats 0 l (kids last f fuel ks l)
 | 0,ks,l=>.ok _ _
 | fuel+1,ks,l=>by
  unfold kids
  split
  ·rename_i h
   exact (eats_tail h (.ok _ _)).mono (by omega)
  ·exact ((hf _ l).bind (j:=1) fun _ l=>(eats_need last _ _ l).bind (j:=0) fun _ l=>eats_kids hf fuel _ l).mono (by omega)
theorem eats_body {f:Nat→List Tok→R Rule} (hf:∀ b l,Eats 1 l (f b l)) (op:Int) (l:List Tok):Eats 0 l (ruleBody last f op l):=by
 unfold ruleBody
 split
 ·exact ((hf 0 l).bind (j:=0) fun _ l=>.ok _ l).mono (by omega)
 split
 ·exact ((eats_ref last l).bind (j:=1) fun _ l=>(eats_number last _ _ l).bind (j:=0) fun _ l=>.ok _ l).mono (by omega)
 split
 ·exact ((eats_ref last l).bind (j:=1) fun _ l=>(eats_number last _ _ l).bind (j:=0) fun _ l=>.ok _ l).mono (by omega)
 split
 ·exact ((eats_number last _ _ l).bind (j:=0) fun _ l=>.ok _ l).mono (by omega)
 split
 ·exact ((eats_ratio last l).bind (j:=0) fun _ l=>.ok _ l).mono (by omega)
 split
 ·exact ((eats_ref last l).bind (j:=0) fun _ l=>.ok _ l).mono (by omega)
 split
 ·exact ((eats_number last _ _ l).bind (j:=1) fun _ l=>(eats_need last _ _ l).bind (j:=0) fun _ l=>(eats_kids last hf _ _ l).bind (j:=0) fun _ l=>.ok _ l).mono (by omega)
 ·exact ((eats_need last _ _ l).bind (j:=0) fun _ l=>(eats_kids last hf _ _ l).bind (j:=0) fun _ l=>.ok _ l).mono (by omega)
theorem eats_rule:∀ (k b:Nat) (l:List Tok),Eats 1 l (rule last k b l)
 | 0,b,l=>by
  unfold rule
  exact (eats_oneOf last _ l).bind (j:=0) fun _ _=>.fail _ _ _ _ _
 | k+1,b,l=>by
  unfold rule
  refine (eats_oneOf last _ l).bind (j:=0) fun i r=>?_
  split
  ·exact .fail _ _ _ _ _
  ·exact eats_body last (eats_rule k) _ r
end
end Go.Proofs.YtjonaidancomgaaGreatDoor.Sx

namespace Go.Proofs.YtjonaidancomgaaGreatDoor.Sx
open Lx (Tok)

def Ends {α:Type} (last:Int) (r:R α):Prop:=r = .bad last 100∨∃ x,r = .ok x []
structure Cuts {α : Type} (F : Int → List Tok → R α) : Prop where
 ok:∀ last l x r,F last l = .ok x r→∃ a,l=a++r∧∀ last' d b,r=d++b→F last' (a++d) = .ok x d
 bad:∀ last l p e,F last l = .bad p e→∃ a b,l=a++b∧p=front last b∧(e=100∨e=2∧b≠[])∧∀ last',Ends last' (F last' a)
 nil:∀ last,Ends last (F last [])
theorem Cuts.bind {α β:Type} {F:Int→List Tok→R α} {G:Int→α→List Tok→R β} (hF:Cuts F) (hG:∀ x,Cuts fun last l=>G last x l):Cuts fun last l=>(F last l).bind (G last) where
 ok:=fun last l x r h=>by
  cases hr:F last l with
  | bad p e=>rw [hr] at h;cases h
  | ok y r2=>
   rw[hr] at h
   obtain ⟨a1,e1,k1⟩:=hF.ok last l y r2 hr
   obtain ⟨a2,e2,k2⟩:=(hG y).ok last r2 x r h
   refine ⟨a1++a2,by rw [e1,e2,List.append_assoc],fun last' d b hd=>?_⟩
   have h1:=k1 last' (a2++d) b (by rw [e2,hd,List.append_assoc])
   show (F last' (a1++a2++d)).bind (G last')=_
   rw[List.append_assoc,h1]
   exact k2 last' d b hd
 bad:=fun last l p e h=>by
  cases hr:F last l with
  | bad p' e'=>
   rw[hr] at h
   have h':(R.bad p' e':R β) = .bad p e:=h
   injection h' with h1 h2
   subst h1;subst h2
   obtain ⟨a,b,k1,k2,k3,k4⟩:=hF.bad last l _ _ hr
   refine ⟨a,b,k1,k2,k3,fun last'=>?_⟩
   show Ends last' ((F last' a).bind (G last'))
   rcases k4 last' with h5 | ⟨x,h5⟩
   ·rw[h5];exact .inl rfl
   ·rw[h5];exact (hG x).nil last'
  | ok y r2=>
   rw[hr] at h
   obtain ⟨a1,e1,k1⟩:=hF.ok last l y r2 hr
   obtain ⟨a,b,k2,k3,k4,k5⟩:=(hG y).bad last r2 p e h
   refine ⟨a1++a,b,by rw [e1,k2,List.append_assoc],k3,k4,fun last'=>?_⟩
   show Ends last' ((F last' (a1++a)).bind (G last'))
   rw[k1 last' a b k2]
   exact k5 last'
 nil:=fun last=>by
  show Ends last ((F last []).bind (G last))
  rcases hF.nil last with h5 | ⟨x,h5⟩
  ·rw[h5];exact .inl rfl
  ·rw[h5];exact (hG x).nil last
theorem Cuts.pure {α:Type} (x:α):Cuts fun _ l=>R.ok x l where
 ok:=fun last l y r h=>by
  injection h with h1 h2
  subst h1;subst h2
  exact ⟨[],rfl,fun last' d b hd=>rfl⟩
 bad:=fun last l p e h=>by cases h
 nil:=fun last=>.inr ⟨x,rfl⟩
theorem Cuts.limit {α β:Type} (f:Tok→Option α) (P:α→Bool) (G:Int→α→List Tok→R β) (H:Int→List Tok→R β) (h0:∀ last,H last [] = .bad last 100)
  (h1:∀ last t r,f t=none→H last (t::r) = .bad t.pos 100) (h2:∀ last t r i,f t=some i→P i=true→H last (t::r) = .bad t.pos 2) (h3:∀ last t r i,f t=some i→P i=false→H last (t::r)=G last i r)
  (hG:∀ i,Cuts fun last l=>G last i l):Cuts H where
 ok:=fun last l y r h=>by
  cases l with
  | nil=>rw [h0] at h;cases h
  | cons t l=>
   cases hf:f t with
   | none=>rw [h1 _ _ _ hf] at h;cases h
   | some i=>
    cases hP:P i with
    | true=>rw [h2 _ _ _ i hf hP] at h;cases h
    | false=>
     rw[h3 _ _ _ i hf hP] at h
     obtain ⟨a,k1,k2⟩:=(hG i).ok last l y r h
     refine ⟨t::a,by rw [k1];rfl,fun last' d b hd=>?_⟩
     show H last' (t::(a++d))=_
     rw[h3 _ _ _ i hf hP]
     exact k2 last' d b hd
 bad:=fun last l p e h=>by
  cases l with
  | nil=>
   rw[h0] at h
   injection h with ha hb
   subst ha;subst hb
   exact ⟨[],[],rfl,rfl,.inl rfl,fun last'=>.inl (h0 last')⟩
  | cons t l=>
   cases hf:f t with
   | none=>
    rw[h1 _ _ _ hf] at h
    injection h with ha hb
    subst ha;subst hb
    exact ⟨[],t::l,rfl,rfl,.inl rfl,fun last'=>.inl (h0 last')⟩
   | some i=>
    cases hP:P i with
    | true=>
     rw[h2 _ _ _ i hf hP] at h
     injection h with ha hb
     subst ha;subst hb
     exact ⟨[],t::l,rfl,rfl,.inr ⟨rfl,by simp⟩,fun last'=>.inl (h0 last')⟩
    | false=>
     rw[h3 _ _ _ i hf hP] at h
     obtain ⟨a,b,k1,k2,k3,k4⟩:=(hG i).bad last l p e h
     refine ⟨t::a,b,by rw [k1];rfl,k2,k3,fun last'=>?_⟩
     rw[h3 _ _ _ i hf hP]
     exact k4 last'
 nil:=fun last=>.inl (h0 last)
theorem Cuts.one {α:Type} (f:Tok→Option α) (F:Int→List Tok→R α) (h0:∀ last,F last [] = .bad last 100) (h1:∀ last t r,f t=none→F last (t::r) = .bad t.pos 100) (h3:∀ last t r i,f t=some i→F last (t::r) = .ok i r):Cuts F:=
 Cuts.limit f (fun _=>false) (fun _ i l=>.ok i l) F h0 h1 (fun _ _ _ _ _ h=>by cases h) (fun last t r i h _=>h3 last t r i h) (fun i=>Cuts.pure i)
theorem hit_pre {k:Int} {x:List UInt8} {l m b:List Tok} (h:l=m++b) (hh:hit k x l=false):hit k x m=false:=by
 cases m with
 | nil=>rfl
 | cons t m=>subst h;exact hh
theorem Cuts.hit {α:Type} (k:Int) (x:List UInt8) {F G:Int→List Tok→R α} (hF:Cuts F) (hG:Cuts G):Cuts fun last l=>if hit k x l=true then F last l.tail else G last l where
 ok:=fun last l y r h=>by
  cases hh:Sx.hit k x l with
  | false=>
   rw[hh,if_neg (by simp)] at h
   obtain ⟨a,k1,k2⟩:=hG.ok last l y r h
   refine ⟨a,k1,fun last' d b hd=>?_⟩
   show (if Sx.hit k x (a++d)=true then _ else _)=_
   rw[hit_pre (b:=b) (by rw [k1,hd,List.append_assoc]) hh,if_neg (by simp)]
   exact k2 last' d b hd
  | true=>
   rw[hh,if_pos rfl] at h
   cases l with
   | nil=>cases hh
   | cons t l=>
    obtain ⟨a,k1,k2⟩:=hF.ok last l y r h
    refine ⟨t::a,by rw [k1];rfl,fun last' d b hd=>?_⟩
    show (if Sx.hit k x (t::(a++d))=true then F last' (a++d) else _)=_
    rw[if_pos (show Sx.hit k x (t::(a++d))=true from hh)]
    exact k2 last' d b hd
 bad:=fun last l p e h=>by
  cases hh:Sx.hit k x l with
  | false=>
   rw[hh,if_neg (by simp)] at h
   obtain ⟨a,b,k1,k2,k3,k4⟩:=hG.bad last l p e h
   refine ⟨a,b,k1,k2,k3,fun last'=>?_⟩
   show Ends last' (if Sx.hit k x a=true then _ else _)
   rw[hit_pre k1 hh,if_neg (by simp)]
   exact k4 last'
  | true=>
   rw[hh,if_pos rfl] at h
   cases l with
   | nil=>cases hh
   | cons t l=>
    obtain ⟨a,b,k1,k2,k3,k4⟩:=hF.bad last l p e h
    refine ⟨t::a,b,by rw [k1];rfl,k2,k3,fun last'=>?_⟩
    show Ends last' (if Sx.hit k x (t::a)=true then F last' a else _)
    rw[if_pos (show Sx.hit k x (t::a)=true from hh)]
    exact k4 last'
 nil:=fun last=>hG.nil last
theorem Cuts.ite {α:Type} (p:Prop) [Decidable p] {F G:Int→List Tok→R α} (hF:Cuts F) (hG:Cuts G):Cuts fun last l=>if p then F last l else G last l:=by
 by_cases h:p
 ·simp only[if_pos h];exact hF
 ·simp only[if_neg h];exact hG
theorem cuts_full {α:Type} (k:Int) (x:List UInt8) (q:α):Cuts fun last l=>if hit k x l=true then (fail last l 2:R α) else .ok q l where
 ok:=fun last l y r h=>by
  cases hh:Sx.hit k x l with
  | true=>rw [hh,if_pos rfl] at h;unfold fail at h;cases h
  | false=>
   rw[hh,if_neg (by simp)] at h
   injection h with h1 h2
   subst h1;subst h2
   refine ⟨[],rfl,fun last' d b hd=>?_⟩
   show (if Sx.hit k x d=true then _ else _)=_
   rw[hit_pre hd hh,if_neg (by simp)]
   rfl
 bad:=fun last l p e h=>by
  cases hh:Sx.hit k x l with
  | true=>
   rw[hh,if_pos rfl] at h
   unfold fail at h
   injection h with h1 h2
   subst h1;subst h2
   exact ⟨[],l,rfl,rfl,.inr ⟨rfl,fun e=>by rw [e] at hh;cases hh⟩,fun last'=>.inr ⟨q,rfl⟩⟩
  | false=>rw [hh,if_neg (by simp)] at h;cases h
 nil:=fun last=>.inr ⟨q,rfl⟩
theorem Cuts.fuel {α:Type} (c:Nat) {F:Int→Nat→List Tok→R α} (hF:∀ f,Cuts fun last l=>F last f l)
  (hf:∀ last f g l,l.length+c≤f→l.length+c≤g→F last f l=F last g l):Cuts fun last l=>F last (l.length+c) l where
 ok:=fun last l x r h=>by
  obtain ⟨a,k1,k2⟩:=(hF _).ok last l x r h
  refine ⟨a,k1,fun last' d b hd=>?_⟩
  show F last' ((a++d).length+c) (a++d)=_
  rw[hf last' ((a++d).length+c) (l.length+c) (a++d) (Nat.le_refl _) (by rw [k1,hd];simp)]
  exact k2 last' d b hd
 bad:=fun last l p e h=>by
  obtain ⟨a,b,k1,k2,k3,k4⟩:=(hF _).bad last l p e h
  refine ⟨a,b,k1,k2,k3,fun last'=>?_⟩
  show Ends last' (F last' (a.length+c) a)
  rw[hf last' (a.length+c) (l.length+c) a (Nat.le_refl _) (by rw [k1];simp)]
  exact k4 last'
 nil:=fun last=>(hF _).nil last
theorem cuts_need (k:Int) (x:List UInt8):Cuts fun last l=>need last k x l:=
 Cuts.one (fun t=>if t.kind == k && t.text == x then some () else none) _ (fun last=>rfl)
  (fun last t r h=>by
   have:(t.kind == k && t.text == x)=false:=by
    cases hc:(t.kind == k && t.text == x) with
    | false=>rfl
    | true=>simp [hc] at h
   unfold need Sx.hit
   simp only[this]
   rfl)
  (fun last t r i h=>by
   have:(t.kind == k && t.text == x)=true:=by
    cases hc:(t.kind == k && t.text == x) with
    | true=>rfl
    | false=>simp [hc] at h
   unfold need Sx.hit
   simp only[this]
   rfl)
theorem cuts_word (x:List UInt8):Cuts fun last l=>word last x l:=cuts_need 1 x
theorem cuts_sign (c:UInt8):Cuts fun last l=>sign last c l:=cuts_need 3 [c]
theorem cuts_name:Cuts fun last l=>name last l:=
 Cuts.one (fun t=>if t.kind=1 then some t.text else none) _ (fun last=>rfl)
  (fun last t r h=>by
   have:¬ t.kind=1:=fun e=>by simp [e] at h
   simp only[name,if_neg this];rfl)
  (fun last t r i h=>by
   by_cases hc:t.kind=1
   ·simp only[if_pos hc,Option.some.injEq] at h;subst h;simp only[name,if_pos hc]
   ·simp[hc] at h)
theorem cuts_number (lo hi:Int):Cuts fun last l=>number last lo hi l:=
 Cuts.one (fun t=>if t.kind=2∧lo≤t.n∧t.n≤hi then some t.n else none) _ (fun last=>rfl)
  (fun last t r h=>by
   have:¬ (t.kind=2∧lo≤t.n∧t.n≤hi):=fun e=>by simp [e] at h
   simp only[number,if_neg this];rfl)
  (fun last t r i h=>by
   by_cases hc:t.kind=2∧lo≤t.n∧t.n≤hi
   ·simp only[if_pos hc,Option.some.injEq] at h;subst h;simp only[number,if_pos hc]
   ·simp[hc] at h)
theorem cuts_ratio:Cuts fun last l=>ratio last l:=
 Cuts.bind (cuts_number _ _) fun _n=>Cuts.bind (cuts_sign _) fun _=>Cuts.bind (cuts_number _ _) fun _d=>Cuts.pure _
theorem cuts_ref:Cuts fun last l=>ref last l:=
 Cuts.hit 3 [35] (Cuts.bind (G:=fun _ n l=>.ok (([]:List UInt8),n) l) (cuts_number _ _) fun _n=>Cuts.pure _) (Cuts.bind (G:=fun _ s l=>.ok (s,(0:Int)) l) cuts_name fun _s=>Cuts.pure _)
def findT (ws:List (List UInt8)) (t:Tok):Option Nat:=ws.findIdx? fun w=>t.kind == 1 && t.text == w
theorem find_cons (ws:List (List UInt8)) (t:Tok) (r:List Tok):find ws (t::r)=findT ws t:=rfl
theorem find_nil (ws:List (List UInt8)):find ws []=none:=by
 unfold find
 rw[List.findIdx?_eq_none_iff]
 intro x _
 rfl
theorem cuts_oneOf (ws:List (List UInt8)):Cuts fun last l=>oneOf last ws l:=
 Cuts.one (fun t=>(findT ws t).map fun i=>(i:Int)) _ (fun last=>by unfold oneOf;rw[find_nil];rfl)
  (fun last t r h=>by
   unfold oneOf
   rw[find_cons]
   cases hf:findT ws t with
   | none=>rfl
   | some i=>rw [hf] at h;cases h)
  (fun last t r i h=>by
   unfold oneOf
   rw[find_cons]
   cases hf:findT ws t with
   | none=>rw [hf] at h;cases h
   | some j=>rw [hf] at h;simp at h;subst h;rfl)
theorem cuts_opt {α:Type} (w:List UInt8) {f:Int→List Tok→R α} (d:α) (hf:Cuts f):Cuts fun last l=>opt last w (f last) d l:=
 Cuts.hit 1 w (Cuts.bind (G:=fun last a l=>(sign last 59 l).bind fun _ l=>.ok a l) hf fun a=>Cuts.bind (cuts_sign _) fun _=>Cuts.pure a) (Cuts.pure d)
theorem cuts_kidsF {f:Int→Nat→List Tok→R Rule} (hf:∀ b,Cuts fun last l=>f last b l):∀ (n:Nat) (ks:List Rule),Cuts fun last l=>kids last (f last) n ks l
 | 0,ks=>Cuts.pure ks
 | n+1,ks=>Cuts.hit 3 [125] (Cuts.pure ks) (Cuts.bind (G:=fun last k l=>(sign last 59 l).bind fun _ l=>kids last (f last) n (ks++[k]) l) (hf ks.length) fun k=>Cuts.bind (cuts_sign _) fun _=>cuts_kidsF hf n (ks++[k]))
theorem kids_fuel {last:Int} {f:Nat→List Tok→R Rule} (hf:∀ b l,Eats 1 l (f b l)):∀ (n m:Nat) (ks:List Rule) (l:List Tok),l.length+1≤n→l.length+1≤m→kids last f n ks l=kids last f m ks l
 | 0,_,_,l,h,_=>by omega
 | n+1,0,_,l,_,h=>by omega
 | n+1,m+1,ks,l,hn,hm=>by
  unfold kids
  cases hh:Sx.hit 3 [125] l with
  | true=>rfl
  | false=>
   rw[if_neg (by simp),if_neg (by simp)]
   cases h1:f ks.length l with
   | bad p e=>rfl
   | ok k l1=>
    have e1:=hf _ _ _ _ h1
    simp only[R.bind]
    cases h2:sign last 59 l1 with
    | bad p e=>rfl
    | ok u l2=>
     have e2:=eats_need last _ _ _ _ _ h2
     simp only
     exact kids_fuel hf n m _ l2 (by omega) (by omega)
theorem cuts_kids {f:Int→Nat→List Tok→R Rule} (hf:∀ b,Cuts fun last l=>f last b l) (he:∀ last b l,Eats 1 l (f last b l)):Cuts fun last l=>kids last (f last) l.length.succ [] l:=
 Cuts.fuel 1 (F:=fun last n l=>kids last (f last) n [] l) (fun n=>cuts_kidsF hf n []) (fun last n m l h1 h2=>kids_fuel (he last) n m [] l h1 h2)
theorem cuts_body {f:Int→Nat→List Tok→R Rule} (hf:∀ b,Cuts fun last l=>f last b l) (he:∀ last b l,Eats 1 l (f last b l)) (op:Int):Cuts fun last l=>ruleBody last (f last) op l:=by
 refine Cuts.ite _ (Cuts.bind (hf 0) fun k=>Cuts.pure _) ?_
 refine Cuts.ite _ (Cuts.bind (G:=fun last s l=>(number last 0 12 l).bind fun n l=>.ok (Rule.mk 5 s.2 s.1 n 0 []) l) cuts_ref fun s=>Cuts.bind (cuts_number _ _) fun n=>Cuts.pure _) ?_
 refine Cuts.ite _ (Cuts.bind (G:=fun last s l=>(number last 1 100 l).bind fun n l=>.ok (Rule.mk 6 s.2 s.1 n 0 []) l) cuts_ref fun s=>Cuts.bind (cuts_number _ _) fun n=>Cuts.pure _) ?_
 refine Cuts.ite _ (Cuts.bind (cuts_number _ _) fun n=>Cuts.pure _) ?_
 refine Cuts.ite _ (Cuts.bind cuts_ratio fun n=>Cuts.pure _) ?_
 refine Cuts.ite _ (Cuts.bind cuts_ref fun n=>Cuts.pure _) ?_
 refine Cuts.ite _ (Cuts.bind (G:=fun last n l=>(sign last 123 l).bind fun _ l=>(kids last (f last) l.length.succ [] l).bind fun ks l=>.ok (Rule.mk 3 0 [] n 0 ks) l) (cuts_number _ _) fun n=>Cuts.bind (G:=fun last _ l=>(kids last (f last) l.length.succ [] l).bind fun ks l=>.ok (Rule.mk 3 0 [] n 0 ks) l) (cuts_sign _) fun _=>Cuts.bind (cuts_kids hf he) fun ks=>Cuts.pure _) ?_
 exact Cuts.bind (G:=fun last _ l=>(kids last (f last) l.length.succ [] l).bind fun ks l=>.ok (Rule.mk op 0 [] 0 0 ks) l) (cuts_sign _) fun _=>Cuts.bind (cuts_kids hf he) fun ks=>Cuts.pure _
theorem cuts_rule:∀ (k b:Nat),Cuts fun last l=>rule last k b l
 | 0,b=>by
  refine Cuts.limit (findT ruleWords) (fun _=>true) (fun _ _ l=>.ok Rule.zero l) _ (fun last=>?_) (fun last t r h=>?_) (fun last t r i h _=>?_) (fun last t r i h hP=>by cases hP) (fun i=>Cuts.pure _)
  ·unfold rule oneOf;rw[find_nil];rfl
  ·unfold rule oneOf;rw[find_cons,h];rfl
  ·unfold rule oneOf;rw[find_cons,h];rfl
 | k+1,b=>by
  refine Cuts.limit (findT ruleWords) (fun i=>decide (b=200∨((i:Int)+1=4∧k=0))) (fun last i l=>ruleBody last (rule last k) ((i:Int)+1) l) _ (fun last=>?_) (fun last t r h=>?_) (fun last t r i h hP=>?_) (fun last t r i h hP=>?_) (fun i=>cuts_body (fun b=>cuts_rule k b) (fun last b l=>eats_rule last k b l) _)
  ·unfold rule oneOf;rw[find_nil];rfl
  ·unfold rule oneOf;rw[find_cons,h];rfl
  ·unfold rule oneOf;rw[find_cons,h];simp only[R.bind];rw[if_pos (by simpa using hP)];rfl
  ·unfold rule oneOf;rw[find_cons,h];simp only[R.bind];rw[if_neg (by simpa using hP)];rfl
end Go.Proofs.YtjonaidancomgaaGreatDoor.Sx

namespace Go.Proofs.YtjonaidancomgaaGreatDoor.Sx
open Lx (Tok)

theorem find_pre {ws:List (List UInt8)} {l m b:List Tok} (h:l=m++b) (hh:find ws l=none):find ws m=none:=by
 cases m with
 | nil=>exact find_nil ws
 | cons t m=>subst h;exact hh
theorem Cuts.found {α:Type} (ws:List (List UInt8)) {G:Int→Int→List Tok→R α} (hG:∀ i,Cuts fun last l=>G last i l):Cuts fun last l=>match find ws l with | some i=>G last (i:Int) l.tail | none=>G last 0 l where
 ok:=fun last l y r h=>by
  cases hh:find ws l with
  | none=>
   rw[hh] at h
   obtain ⟨a,k1,k2⟩:=(hG 0).ok last l y r h
   refine ⟨a,k1,fun last' d b hd=>?_⟩
   show (match find ws (a++d) with | some i=>_ | none=>_)=_
   rw[find_pre (b:=b) (by rw [k1,hd,List.append_assoc]) hh]
   exact k2 last' d b hd
  | some i=>
   rw[hh] at h
   cases l with
   | nil=>rw [find_nil] at hh;cases hh
   | cons t l=>
    obtain ⟨a,k1,k2⟩:=(hG i).ok last l y r h
    refine ⟨t::a,by rw [k1];rfl,fun last' d b hd=>?_⟩
    show (match find ws (t::(a++d)) with | some i=>G last' (i:Int) (a++d) | none=>_)=_
    rw[show find ws (t::(a++d))=some i from hh]
    exact k2 last' d b hd
 bad:=fun last l p e h=>by
  cases hh:find ws l with
  | none=>
   rw[hh] at h
   obtain ⟨a,b,k1,k2,k3,k4⟩:=(hG 0).bad last l p e h
   refine ⟨a,b,k1,k2,k3,fun last'=>?_⟩
   show Ends last' (match find ws a with | some i=>_ | none=>_)
   rw[find_pre k1 hh]
   exact k4 last'
  | some i=>
   rw[hh] at h
   cases l with
   | nil=>rw [find_nil] at hh;cases hh
   | cons t l=>
    obtain ⟨a,b,k1,k2,k3,k4⟩:=(hG i).bad last l p e h
    refine ⟨t::a,b,by rw [k1];rfl,k2,k3,fun last'=>?_⟩
    show Ends last' (match find ws (t::a) with | some i=>G last' (i:Int) a | none=>_)
    rw[show find ws (t::a)=some i from hh]
    exact k4 last'
 nil:=fun last=>by rw [find_nil];exact (hG 0).nil last
theorem Cuts.shrinks {α:Type} {F:Int→List Tok→R α} (h:Cuts F) {last:Int} {l:List Tok} {x:α} {r:List Tok} (e:F last l = .ok x r):r.length≤l.length:=by
 obtain ⟨a,k,_⟩:=h.ok last l x r e
 rw[k];simp
theorem cuts_course:Cuts fun last l=>course last l:=by
 have h:(fun (last:Int) (l:List Tok)=>course last l)=fun last l=>(number last 0 4095 l).bind fun no l=>(name last l).bind fun nm l=>(number last 1 60 l).bind fun cr l=>
   match find repeatWords l with
   | some i=>(sign last 123 l.tail).bind fun _ l=>(opt last wNeed (rule last 16 0) (Rule.mk 1 0 [] 0 0 []) l).bind fun nd l=>(opt last wBar (rule last 16 0) (Rule.mk 2 0 [] 0 0 []) l).bind fun br l=>(sign last 125 l).bind fun _ l=>.ok (Course.mk nm no cr (i:Int) nd br) l
   | none=>(sign last 123 l).bind fun _ l=>(opt last wNeed (rule last 16 0) (Rule.mk 1 0 [] 0 0 []) l).bind fun nd l=>(opt last wBar (rule last 16 0) (Rule.mk 2 0 [] 0 0 []) l).bind fun br l=>(sign last 125 l).bind fun _ l=>.ok (Course.mk nm no cr 0 nd br) l:=by
  funext last l
  unfold course
  congr 1;funext no l
  congr 1;funext nm l
  congr 1;funext cr l
  cases find repeatWords l <;> rfl
 rw[h]
 refine Cuts.bind (G:=fun last no l=>(name last l).bind fun nm l=>(number last 1 60 l).bind fun cr l=>
   match find repeatWords l with
   | some i=>(sign last 123 l.tail).bind fun _ l=>(opt last wNeed (rule last 16 0) (Rule.mk 1 0 [] 0 0 []) l).bind fun nd l=>(opt last wBar (rule last 16 0) (Rule.mk 2 0 [] 0 0 []) l).bind fun br l=>(sign last 125 l).bind fun _ l=>.ok (Course.mk nm no cr (i:Int) nd br) l
   | none=>(sign last 123 l).bind fun _ l=>(opt last wNeed (rule last 16 0) (Rule.mk 1 0 [] 0 0 []) l).bind fun nd l=>(opt last wBar (rule last 16 0) (Rule.mk 2 0 [] 0 0 []) l).bind fun br l=>(sign last 125 l).bind fun _ l=>.ok (Course.mk nm no cr 0 nd br) l) (cuts_number _ _) fun no=>?_
 refine Cuts.bind (G:=fun last nm l=>(number last 1 60 l).bind fun cr l=>
   match find repeatWords l with
   | some i=>(sign last 123 l.tail).bind fun _ l=>(opt last wNeed (rule last 16 0) (Rule.mk 1 0 [] 0 0 []) l).bind fun nd l=>(opt last wBar (rule last 16 0) (Rule.mk 2 0 [] 0 0 []) l).bind fun br l=>(sign last 125 l).bind fun _ l=>.ok (Course.mk nm no cr (i:Int) nd br) l
   | none=>(sign last 123 l).bind fun _ l=>(opt last wNeed (rule last 16 0) (Rule.mk 1 0 [] 0 0 []) l).bind fun nd l=>(opt last wBar (rule last 16 0) (Rule.mk 2 0 [] 0 0 []) l).bind fun br l=>(sign last 125 l).bind fun _ l=>.ok (Course.mk nm no cr 0 nd br) l) cuts_name fun nm=>?_
 refine Cuts.bind (G:=fun last cr l=>
   match find repeatWords l with
   | some i=>(sign last 123 l.tail).bind fun _ l=>(opt last wNeed (rule last 16 0) (Rule.mk 1 0 [] 0 0 []) l).bind fun nd l=>(opt last wBar (rule last 16 0) (Rule.mk 2 0 [] 0 0 []) l).bind fun br l=>(sign last 125 l).bind fun _ l=>.ok (Course.mk nm no cr (i:Int) nd br) l
   | none=>(sign last 123 l).bind fun _ l=>(opt last wNeed (rule last 16 0) (Rule.mk 1 0 [] 0 0 []) l).bind fun nd l=>(opt last wBar (rule last 16 0) (Rule.mk 2 0 [] 0 0 []) l).bind fun br l=>(sign last 125 l).bind fun _ l=>.ok (Course.mk nm no cr 0 nd br) l) (cuts_number _ _) fun cr=>?_
 exact Cuts.found repeatWords (G:=fun last i l=>(sign last 123 l).bind fun _ l=>(opt last wNeed (rule last 16 0) (Rule.mk 1 0 [] 0 0 []) l).bind fun nd l=>(opt last wBar (rule last 16 0) (Rule.mk 2 0 [] 0 0 []) l).bind fun br l=>(sign last 125 l).bind fun _ l=>.ok (Course.mk nm no cr i nd br) l) fun i=>
  Cuts.bind (G:=fun last _ l=>(opt last wNeed (rule last 16 0) (Rule.mk 1 0 [] 0 0 []) l).bind fun nd l=>(opt last wBar (rule last 16 0) (Rule.mk 2 0 [] 0 0 []) l).bind fun br l=>(sign last 125 l).bind fun _ l=>.ok (Course.mk nm no cr i nd br) l) (cuts_sign _) fun _=>
  Cuts.bind (G:=fun last nd l=>(opt last wBar (rule last 16 0) (Rule.mk 2 0 [] 0 0 []) l).bind fun br l=>(sign last 125 l).bind fun _ l=>.ok (Course.mk nm no cr i nd br) l) (cuts_opt wNeed _ (cuts_rule 16 0)) fun nd=>
  Cuts.bind (G:=fun last br l=>(sign last 125 l).bind fun _ l=>.ok (Course.mk nm no cr i nd br) l) (cuts_opt wBar _ (cuts_rule 16 0)) fun br=>
  Cuts.bind (G:=fun _ _ l=>.ok (Course.mk nm no cr i nd br) l) (cuts_sign _) fun _=>Cuts.pure _
theorem cuts_same:Cuts fun last l=>same last l:=
 Cuts.bind (G:=fun last (a:List UInt8 × Int) l=>(sign last 61 l).bind fun _ l=>(ref last l).bind fun b l=>(sign last 59 l).bind fun _ l=>.ok (⟨a.1,b.1,a.2,b.2⟩:Pair) l) cuts_ref fun a=>
 Cuts.bind (G:=fun last _ l=>(ref last l).bind fun b l=>(sign last 59 l).bind fun _ l=>.ok (⟨a.1,b.1,a.2,b.2⟩:Pair) l) (cuts_sign _) fun _=>
 Cuts.bind (G:=fun last (b:List UInt8 × Int) l=>(sign last 59 l).bind fun _ l=>.ok (⟨a.1,b.1,a.2,b.2⟩:Pair) l) cuts_ref fun _b=>Cuts.bind (cuts_sign _) fun _=>Cuts.pure _
theorem cuts_refsF:∀ (f:Nat) (rs:List (List UInt8 × Int)),Cuts fun last l=>refs last f rs l
 | 0,rs=>Cuts.pure rs
 | f+1,rs=>Cuts.bind (G:=fun last r l=>if hit 3 [44] l=true then refs last f (rs++[r]) l.tail else .ok (rs++[r]) l) cuts_ref fun r=>Cuts.hit 3 [44] (F:=fun last l=>refs last f (rs++[r]) l) (cuts_refsF f (rs++[r])) (Cuts.pure _)
theorem refs_fuel (last:Int):∀ (n m:Nat) (rs:List (List UInt8 × Int)) (l:List Tok),l.length+1≤n→l.length+1≤m→refs last n rs l=refs last m rs l
 | 0,_,_,l,h,_=>by omega
 | n+1,0,_,l,_,h=>by omega
 | n+1,m+1,rs,l,hn,hm=>by
  unfold refs
  cases h1:ref last l with
  | bad p e=>rfl
  | ok k l1=>
   have e1:=eats_ref last _ _ _ h1
   simp only[R.bind]
   cases hh:Sx.hit 3 [44] l1 with
   | false=>rfl
   | true=>
    have e2:=hit_tail hh
    simp only[if_true]
    exact refs_fuel last n m _ _ (by omega) (by omega)
theorem cuts_refs:Cuts fun last l=>refs last l.length.succ [] l:=
 Cuts.fuel 1 (F:=fun last n l=>refs last n [] l) (fun n=>cuts_refsF n []) (fun last n m l h1 h2=>refs_fuel last n m [] l h1 h2)
theorem cuts_take:Cuts fun last l=>take last l:=by
 have h:(fun (last:Int) (l:List Tok)=>take last l)=fun last l=>(name last l).bind fun nm l=>(number last 1 10000 l).bind fun cr l=>(word last wFrom l).bind fun _ l=>(refs last l.length.succ [] l).bind fun rs l=>
   (if hit 1 wAt l=true then number last 0 12 l.tail else .ok 1 l).bind fun g l=>if hit 1 wHome l=true then (sign last 59 l.tail).bind fun _ l=>.ok (⟨nm,cr,g,true,rs.map (·.1),rs.map (·.2)⟩:Req) l else (sign last 59 l).bind fun _ l=>.ok (⟨nm,cr,g,false,rs.map (·.1),rs.map (·.2)⟩:Req) l:=by
  funext last l
  unfold take
  congr 1;funext nm l
  congr 1;funext cr l
  congr 1;funext _ l
  congr 1;funext rs l
  congr 1;funext g l
  cases Sx.hit 1 wHome l <;> rfl
 rw[h]
 exact Cuts.bind (G:=fun last nm l=>(number last 1 10000 l).bind fun cr l=>(word last wFrom l).bind fun _ l=>(refs last l.length.succ [] l).bind fun rs l=>
   (if hit 1 wAt l=true then number last 0 12 l.tail else .ok 1 l).bind fun g l=>if hit 1 wHome l=true then (sign last 59 l.tail).bind fun _ l=>.ok (⟨nm,cr,g,true,rs.map (·.1),rs.map (·.2)⟩:Req) l else (sign last 59 l).bind fun _ l=>.ok (⟨nm,cr,g,false,rs.map (·.1),rs.map (·.2)⟩:Req) l) cuts_name fun nm=>
  Cuts.bind (G:=fun last cr l=>(word last wFrom l).bind fun _ l=>(refs last l.length.succ [] l).bind fun rs l=>
   (if hit 1 wAt l=true then number last 0 12 l.tail else .ok 1 l).bind fun g l=>if hit 1 wHome l=true then (sign last 59 l.tail).bind fun _ l=>.ok (⟨nm,cr,g,true,rs.map (·.1),rs.map (·.2)⟩:Req) l else (sign last 59 l).bind fun _ l=>.ok (⟨nm,cr,g,false,rs.map (·.1),rs.map (·.2)⟩:Req) l) (cuts_number _ _) fun cr=>
  Cuts.bind (G:=fun last _ l=>(refs last l.length.succ [] l).bind fun rs l=>
   (if hit 1 wAt l=true then number last 0 12 l.tail else .ok 1 l).bind fun g l=>if hit 1 wHome l=true then (sign last 59 l.tail).bind fun _ l=>.ok (⟨nm,cr,g,true,rs.map (·.1),rs.map (·.2)⟩:Req) l else (sign last 59 l).bind fun _ l=>.ok (⟨nm,cr,g,false,rs.map (·.1),rs.map (·.2)⟩:Req) l) (cuts_word _) fun _=>
  Cuts.bind (G:=fun last rs l=>(if hit 1 wAt l=true then number last 0 12 l.tail else .ok 1 l).bind fun g l=>if hit 1 wHome l=true then (sign last 59 l.tail).bind fun _ l=>.ok (⟨nm,cr,g,true,rs.map (·.1),rs.map (·.2)⟩:Req) l else (sign last 59 l).bind fun _ l=>.ok (⟨nm,cr,g,false,rs.map (·.1),rs.map (·.2)⟩:Req) l) cuts_refs fun rs=>
  Cuts.bind (G:=fun last g l=>if hit 1 wHome l=true then (sign last 59 l.tail).bind fun _ l=>.ok (⟨nm,cr,g,true,rs.map (·.1),rs.map (·.2)⟩:Req) l else (sign last 59 l).bind fun _ l=>.ok (⟨nm,cr,g,false,rs.map (·.1),rs.map (·.2)⟩:Req) l) (Cuts.hit 1 wAt (F:=fun last l=>number last 0 12 l) (cuts_number _ _) (Cuts.pure 1)) fun g=>
  Cuts.hit 1 wHome (F:=fun last l=>(sign last 59 l).bind fun _ l=>.ok (⟨nm,cr,g,true,rs.map (·.1),rs.map (·.2)⟩:Req) l) (Cuts.bind (cuts_sign _) fun _=>Cuts.pure _) (Cuts.bind (cuts_sign _) fun _=>Cuts.pure _)
theorem cuts_takesF:∀ (f:Nat) (qs:List Req),Cuts fun last l=>takes last f qs l
 | 0,qs=>Cuts.pure qs
 | f+1,qs=>by
  by_cases h:qs.length=64
  ·have e:(fun (last:Int) (l:List Tok)=>takes last (f+1) qs l)=fun last l=>if hit 1 wTake l=true then (fail last l 2:R (List Req)) else .ok qs l:=by
    funext last l
    rw[takes,if_pos h]
   rw[e]
   exact cuts_full 1 wTake qs
  ·have e:(fun (last:Int) (l:List Tok)=>takes last (f+1) qs l)=fun last l=>if hit 1 wTake l=true then (fun last l=>(take last l).bind fun q l=>takes last f (qs++[q]) l) last l.tail else .ok qs l:=by
    funext last l
    rw[takes,if_neg h]
   rw[e]
   exact Cuts.hit 1 wTake (F:=fun last l=>(take last l).bind fun q l=>takes last f (qs++[q]) l) (Cuts.bind (G:=fun last q l=>takes last f (qs++[q]) l) cuts_take fun q=>cuts_takesF f (qs++[q])) (Cuts.pure qs)
theorem takes_fuel (last:Int):∀ (n m:Nat) (qs:List Req) (l:List Tok),l.length+1≤n→l.length+1≤m→takes last n qs l=takes last m qs l
 | 0,_,_,l,h,_=>by omega
 | n+1,0,_,l,_,h=>by omega
 | n+1,m+1,qs,l,hn,hm=>by
  unfold takes
  cases hh:Sx.hit 1 wTake l with
  | false=>rfl
  | true=>
   have e2:=hit_tail hh
   simp only[if_true]
   split
   ·rfl
   ·cases h1:take last l.tail with
    | bad p e=>rfl
    | ok k l1=>
     have e1:=cuts_take.shrinks h1
     simp only[R.bind]
     exact takes_fuel last n m _ _ (by omega) (by omega)
theorem cuts_takes:Cuts fun last l=>takes last l.length.succ [] l:=
 Cuts.fuel 1 (F:=fun last n l=>takes last n [] l) (fun n=>cuts_takesF n []) (fun last n m l h1 h2=>takes_fuel last n m [] l h1 h2)
theorem cuts_programme:Cuts fun last l=>programme last l:=
 Cuts.bind (G:=fun last no l=>(name last l).bind fun nm l=>(sign last 123 l).bind fun _ l=>(opt last wUses (number last 1 4) 1 l).bind fun us l=>(opt last wEarn (number last 0 10000) 0 l).bind fun ea l=>(opt last wMean (ratio last) ⟨0,1⟩ l).bind fun me l=>(takes last l.length.succ [] l).bind fun qs l=>(sign last 125 l).bind fun _ l=>.ok (⟨nm,no,us,ea,me,qs⟩:Prog) l) (cuts_number _ _) fun no=>
 Cuts.bind (G:=fun last nm l=>(sign last 123 l).bind fun _ l=>(opt last wUses (number last 1 4) 1 l).bind fun us l=>(opt last wEarn (number last 0 10000) 0 l).bind fun ea l=>(opt last wMean (ratio last) ⟨0,1⟩ l).bind fun me l=>(takes last l.length.succ [] l).bind fun qs l=>(sign last 125 l).bind fun _ l=>.ok (⟨nm,no,us,ea,me,qs⟩:Prog) l) cuts_name fun nm=>
 Cuts.bind (G:=fun last _ l=>(opt last wUses (number last 1 4) 1 l).bind fun us l=>(opt last wEarn (number last 0 10000) 0 l).bind fun ea l=>(opt last wMean (ratio last) ⟨0,1⟩ l).bind fun me l=>(takes last l.length.succ [] l).bind fun qs l=>(sign last 125 l).bind fun _ l=>.ok (⟨nm,no,us,ea,me,qs⟩:Prog) l) (cuts_sign _) fun _=>
 Cuts.bind (G:=fun last us l=>(opt last wEarn (number last 0 10000) 0 l).bind fun ea l=>(opt last wMean (ratio last) ⟨0,1⟩ l).bind fun me l=>(takes last l.length.succ [] l).bind fun qs l=>(sign last 125 l).bind fun _ l=>.ok (⟨nm,no,us,ea,me,qs⟩:Prog) l) (cuts_opt wUses _ (cuts_number _ _)) fun us=>
 Cuts.bind (G:=fun last ea l=>(opt last wMean (ratio last) ⟨0,1⟩ l).bind fun me l=>(takes last l.length.succ [] l).bind fun qs l=>(sign last 125 l).bind fun _ l=>.ok (⟨nm,no,us,ea,me,qs⟩:Prog) l) (cuts_opt wEarn _ (cuts_number _ _)) fun ea=>
 Cuts.bind (G:=fun last me l=>(takes last l.length.succ [] l).bind fun qs l=>(sign last 125 l).bind fun _ l=>.ok (⟨nm,no,us,ea,me,qs⟩:Prog) l) (cuts_opt wMean _ cuts_ratio) fun me=>
 Cuts.bind (G:=fun last qs l=>(sign last 125 l).bind fun _ l=>.ok (⟨nm,no,us,ea,me,qs⟩:Prog) l) cuts_takes fun _qs=>Cuts.bind (cuts_sign _) fun _=>Cuts.pure _
theorem cuts_standing:Cuts fun last l=>standing last l:=
 Cuts.bind (G:=fun last nm l=>(number last 0 10000 l).bind fun ea l=>(word last wMean l).bind fun _ l=>(ratio last l).bind fun me l=>(sign last 59 l).bind fun _ l=>.ok (⟨nm,ea,me⟩:Cls) l) cuts_name fun nm=>
 Cuts.bind (G:=fun last ea l=>(word last wMean l).bind fun _ l=>(ratio last l).bind fun me l=>(sign last 59 l).bind fun _ l=>.ok (⟨nm,ea,me⟩:Cls) l) (cuts_number _ _) fun ea=>
 Cuts.bind (G:=fun last _ l=>(ratio last l).bind fun me l=>(sign last 59 l).bind fun _ l=>.ok (⟨nm,ea,me⟩:Cls) l) (cuts_word _) fun _=>
 Cuts.bind (G:=fun last me l=>(sign last 59 l).bind fun _ l=>.ok (⟨nm,ea,me⟩:Cls) l) cuts_ratio fun _me=>Cuts.bind (cuts_sign _) fun _=>Cuts.pure _
theorem cuts_fee:Cuts fun last l=>fee last l:=
 Cuts.bind (G:=fun last nm l=>(number last 0 10000 l).bind fun cr l=>(sign last 59 l).bind fun _ l=>.ok (⟨nm,cr⟩:Fee) l) cuts_name fun nm=>
 Cuts.bind (G:=fun last cr l=>(sign last 59 l).bind fun _ l=>.ok (⟨nm,cr⟩:Fee) l) (cuts_number _ _) fun _cr=>Cuts.bind (cuts_sign _) fun _=>Cuts.pure _
theorem cuts_clause:Cuts fun last l=>clause last l:=
 Cuts.bind (G:=fun last k l=>(oneOf last whenWords l).bind fun w l=>(oneOf last actionWords l).bind fun a l=>(word last wUntil l).bind fun _ l=>(number last 0 12 l).bind fun u l=>(sign last 59 l).bind fun _ l=>.ok (⟨k+1,w,a+1,u⟩:Clause) l) (cuts_oneOf _) fun k=>
 Cuts.bind (G:=fun last w l=>(oneOf last actionWords l).bind fun a l=>(word last wUntil l).bind fun _ l=>(number last 0 12 l).bind fun u l=>(sign last 59 l).bind fun _ l=>.ok (⟨k+1,w,a+1,u⟩:Clause) l) (cuts_oneOf _) fun w=>
 Cuts.bind (G:=fun last a l=>(word last wUntil l).bind fun _ l=>(number last 0 12 l).bind fun u l=>(sign last 59 l).bind fun _ l=>.ok (⟨k+1,w,a+1,u⟩:Clause) l) (cuts_oneOf _) fun a=>
 Cuts.bind (G:=fun last _ l=>(number last 0 12 l).bind fun u l=>(sign last 59 l).bind fun _ l=>.ok (⟨k+1,w,a+1,u⟩:Clause) l) (cuts_word _) fun _=>
 Cuts.bind (G:=fun last u l=>(sign last 59 l).bind fun _ l=>.ok (⟨k+1,w,a+1,u⟩:Clause) l) (cuts_number _ _) fun _u=>Cuts.bind (cuts_sign _) fun _=>Cuts.pure _
def defineR (last:Int) (w:List UInt8) (c:Cat) (l:List Tok):R Cat:=
 if w=wCourse then (course last l).bind fun x l=>.ok { c with courses:=c.courses++[x] } l
 else if w=wSame then (same last l).bind fun x l=>.ok { c with same:=c.same++[x] } l
 else if w=wProgramme then (programme last l).bind fun x l=>.ok { c with progs:=c.progs++[x] } l
 else if w=wClass then (standing last l).bind fun x l=>.ok { c with classes:=c.classes++[x] } l
 else if w=wHonour then (standing last l).bind fun x l=>.ok { c with honours:=c.honours++[x] } l
 else if w=wFee then (fee last l).bind fun x l=>.ok { c with fees:=c.fees++[x] } l
 else (clause last l).bind fun x l=>.ok { c with clauses:=c.clauses++[x] } l
def isDef (w:List UInt8):Bool:=w=wCourse || w=wSame || w=wProgramme || w=wClass || w=wHonour || w=wFee || w=wWhen
theorem define_eq (last:Int) (w:List UInt8) (c:Cat) (l:List Tok):define last w c l=if isDef w=true then some (defineR last w c l) else none:=by
 by_cases h1:w=wCourse
 ·have hd:isDef w=true:=by unfold isDef;simp[h1]
  unfold define defineR
  simp only[if_pos hd,if_pos h1]
 by_cases h2:w=wSame
 ·have hd:isDef w=true:=by unfold isDef;simp[h2]
  unfold define defineR
  simp only[if_pos hd,if_neg h1,if_pos h2]
 by_cases h3:w=wProgramme
 ·have hd:isDef w=true:=by unfold isDef;simp[h3]
  unfold define defineR
  simp only[if_pos hd,if_neg h1,if_neg h2,if_pos h3]
 by_cases h4:w=wClass
 ·have hd:isDef w=true:=by unfold isDef;simp[h4]
  unfold define defineR
  simp only[if_pos hd,if_neg h1,if_neg h2,if_neg h3,if_pos h4]
 by_cases h5:w=wHonour
 ·have hd:isDef w=true:=by unfold isDef;simp[h5]
  unfold define defineR
  simp only[if_pos hd,if_neg h1,if_neg h2,if_neg h3,if_neg h4,if_pos h5]
 by_cases h6:w=wFee
 ·have hd:isDef w=true:=by unfold isDef;simp[h6]
  unfold define defineR
  simp only[if_pos hd,if_neg h1,if_neg h2,if_neg h3,if_neg h4,if_neg h5,if_pos h6]
 by_cases h7:w=wWhen
 ·have hd:isDef w=true:=by unfold isDef;simp[h7]
  unfold define defineR
  simp only[if_pos hd,if_neg h1,if_neg h2,if_neg h3,if_neg h4,if_neg h5,if_neg h6,if_pos h7]
 have hd:¬ isDef w=true:=by unfold isDef;simp[h1,h2,h3,h4,h5,h6,h7]
 unfold define
 simp only[if_neg hd,if_neg h1,if_neg h2,if_neg h3,if_neg h4,if_neg h5,if_neg h6,if_neg h7]
theorem cuts_define (w:List UInt8) (c:Cat):Cuts fun last l=>defineR last w c l:=by
 refine Cuts.ite _ (Cuts.bind cuts_course fun _=>Cuts.pure _) ?_
 refine Cuts.ite _ (Cuts.bind cuts_same fun _=>Cuts.pure _) ?_
 refine Cuts.ite _ (Cuts.bind cuts_programme fun _=>Cuts.pure _) ?_
 refine Cuts.ite _ (Cuts.bind cuts_standing fun _=>Cuts.pure _) ?_
 refine Cuts.ite _ (Cuts.bind cuts_standing fun _=>Cuts.pure _) ?_
 refine Cuts.ite _ (Cuts.bind cuts_fee fun _=>Cuts.pure _) ?_
 exact Cuts.bind cuts_clause fun _=>Cuts.pure _
def defT (t:Tok):Option (List UInt8):=if t.kind=1∧isDef t.text=true then some t.text else none
theorem defs_none {last:Int} {f:Nat} {c:Cat} {t:Tok} {r:List Tok} (h:defT t=none):defs last (f+1) c (t::r) = .bad t.pos 100:=by
 unfold defT at h
 unfold defs
 simp only[define_eq]
 by_cases hk:t.kind=1
 ·cases hd:isDef t.text with
  | true=>simp [hk,hd] at h
  | false=>rw [if_pos hk];rfl
 ·rw[if_neg hk];rfl
theorem defs_some {last:Int} {f:Nat} {c:Cat} {t:Tok} {r:List Tok} {w:List UInt8} (h:defT t=some w):defs last (f+1) c (t::r)=(defineR last w c r).bind fun c l=>defs last f c l:=by
 unfold defT at h
 rw[defs]
 simp only[define_eq]
 by_cases hk:t.kind=1∧isDef t.text=true
 ·rw[if_pos hk] at h
  injection h with h
  rw[if_pos hk.1,if_pos hk.2,h]
 ·rw[if_neg hk] at h;cases h
theorem cuts_defsF:∀ (f:Nat) (c:Cat),Cuts fun last l=>defs last f c l
 | 0,c=>Cuts.pure c
 | f+1,c=>by
  have hG:∀ w,Cuts fun last l=>(defineR last w c l).bind fun c l=>defs last f c l:=fun w=>Cuts.bind (G:=fun last c l=>defs last f c l) (cuts_define w c) fun c=>cuts_defsF f c
  refine ⟨fun last l x r h=>?_,fun last l p e h=>?_,fun last=>.inr ⟨c,by simp [defs]⟩⟩
  ·cases l with
   | nil=>
    simp[defs] at h
    obtain ⟨rfl,rfl⟩:=h
    refine ⟨[],rfl,fun last' d b hd=>?_⟩
    have:=(List.append_eq_nil_iff.1 hd.symm).1
    subst this
    simp[defs]
   | cons t l=>
    cases hf:defT t with
    | none=>rw [defs_none hf] at h;cases h
    | some w=>
     rw[defs_some hf] at h
     obtain ⟨a,k1,k2⟩:=(hG w).ok last l x r h
     refine ⟨t::a,by rw [k1];rfl,fun last' d b hd=>?_⟩
     show defs last' (f+1) c (t::(a++d))=_
     rw[defs_some hf]
     exact k2 last' d b hd
  ·cases l with
   | nil=>simp [defs] at h
   | cons t l=>
    cases hf:defT t with
    | none=>
     rw[defs_none hf] at h
     injection h with ha hb
     subst ha;subst hb
     exact ⟨[],t::l,rfl,rfl,.inl rfl,fun last'=>.inr ⟨c,by simp [defs]⟩⟩
    | some w=>
     rw[defs_some hf] at h
     obtain ⟨a,b,k1,k2,k3,k4⟩:=(hG w).bad last l p e h
     refine ⟨t::a,b,by rw [k1];rfl,k2,k3,fun last'=>?_⟩
     rw[defs_some hf]
     exact k4 last'
theorem defs_fuel (last:Int):∀ (n m:Nat) (c:Cat) (l:List Tok),l.length+0≤n→l.length+0≤m→defs last n c l=defs last m c l
 | 0,0,c,l,_,_=>rfl
 | 0,m+1,c,l,h,_=>by
  have:l = []:=List.eq_nil_of_length_eq_zero (by omega)
  subst this;simp[defs]
 | n+1,0,c,l,_,h=>by
  have:l = []:=List.eq_nil_of_length_eq_zero (by omega)
  subst this;simp[defs]
 | n+1,m+1,c,l,hn,hm=>by
  cases l with
  | nil=>simp [defs]
  | cons t l=>
   cases hf:defT t with
   | none=>rw [defs_none hf,defs_none hf]
   | some w=>
    rw[defs_some hf,defs_some hf]
    cases h1:defineR last w c l with
    | bad p e=>rfl
    | ok c1 l1=>
     have e1:=(cuts_define w c).shrinks h1
     simp only[R.bind]
     simp at hn hm
     exact defs_fuel last n m c1 l1 (by omega) (by omega)
theorem cuts_catalogue:Cuts fun last l=>catalogue last l:=
 Cuts.fuel 0 (F:=fun last n l=>defs last n Cat.none l) (fun n=>cuts_defsF n Cat.none) (fun last n m l h1 h2=>defs_fuel last n m Cat.none l h1 h2)
end Go.Proofs.YtjonaidancomgaaGreatDoor.Sx

namespace Go.Proofs.YtjonaidancomgaaGreatDoor.Lx

theorem comment_len {c:UInt8} {r:List UInt8} (h:comment (c::r)=true):2≤((c::r).takeWhile (· != 10)).length:=by
 match r with
 | []=>simp [comment] at h
 | d::r=>
  simp[comment] at h
  obtain ⟨rfl,rfl⟩:=h
  simp

end Go.Proofs.YtjonaidancomgaaGreatDoor.Lx
