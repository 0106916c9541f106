/- Parts of the proof, joined into one text: SxEq, SxExt, RpSpec. -/
import Derived.Test.YtjonaidancomgaaGreatDoorPLxPlain
import Derived.Test.YtjonaidancomgaaGreatDoorPSxLen

namespace Go.Proofs.YtjonaidancomgaaGreatDoor.Sx

mutual
def ruleEq:Rule→Rule→Bool
 | .mk o c n x d ks,.mk o' c' n' x' d' ks'=>o == o' && (c == c' && (n == n' && (x == x' && (d == d' && rulesEq ks ks'))))
def rulesEq:List Rule→List Rule→Bool
 | [],[]=>true
 | a::as,b::bs=>ruleEq a b && rulesEq as bs
 | _,_=>false
end
mutual
theorem ruleEq_iff:∀ (a b:Rule),ruleEq a b=true↔a=b
 | .mk o c n x d ks,.mk o' c' n' x' d' ks'=>by
  rw[ruleEq]
  simp only[Bool.and_eq_true,beq_iff_eq,Rule.mk.injEq,rulesEq_iff ks ks']
theorem rulesEq_iff:∀ (as bs:List Rule),rulesEq as bs=true↔as=bs
 | [],[]=>by simp [rulesEq]
 | [],b::bs=>by simp [rulesEq]
 | a::as,[]=>by simp [rulesEq]
 | a::as,b::bs=>by simp [rulesEq,ruleEq_iff a b,rulesEq_iff as bs]
end
theorem rulesEq_len:∀ {as bs:List Rule},as.length≠bs.length→rulesEq as bs=false
 | [],[],h=>absurd rfl h
 | [],b::bs,_=>by simp [rulesEq]
 | a::as,[],_=>by simp [rulesEq]
 | a::as,b::bs,h=>by
  rw[rulesEq,rulesEq_len (fun e=>h (by simp [e]))]
  simp
theorem rulesEq_no {as bs:List Rule} {i:Nat} {a b:Rule} (ha:as[i]?=some a) (hb:bs[i]?=some b) (h:ruleEq a b=false):rulesEq as bs=false:=by
 cases he:rulesEq as bs with
 | false=>rfl
 | true=>
  have:=(rulesEq_iff as bs).1 he
  rw[this,hb] at ha
  injection ha with ha
  rw[(ruleEq_iff a b).2 ha.symm] at h
  cases h
theorem rulesEq_all {as bs:List Rule} (hl:as.length=bs.length) (h:∀ (i:Nat) a b,as[i]?=some a→bs[i]?=some b→ruleEq a b=true):rulesEq as bs=true:=by
 rw[rulesEq_iff]
 refine List.ext_getElem? fun i=>?_
 rcases Nat.lt_or_ge i as.length with hi | hi
 ·have h1:=List.getElem?_eq_getElem hi
  have h2:=List.getElem?_eq_getElem (l:=bs) (i:=i) (by omega)
  rw[h1,h2,(ruleEq_iff _ _).1 (h i _ _ h1 h2)]
 ·rw[List.getElem?_eq_none hi,List.getElem?_eq_none (by omega)]
theorem kid_size {op co:Int} {nm:List UInt8} {n d:Int} {ks:List Rule} {x:Rule} {i:Nat} (h:ks[i]?=some x):SizeOf.sizeOf x < SizeOf.sizeOf (Rule.mk op co nm n d ks):=by
 have h1:=List.sizeOf_lt_of_mem (List.mem_of_getElem? h)
 simp
 omega
end Go.Proofs.YtjonaidancomgaaGreatDoor.Sx

namespace Go.Proofs.YtjonaidancomgaaGreatDoor.Sx
open Lx (Tok)

def core (t:Tok):Int × List UInt8 × Int:=(t.kind,t.text,t.n)
def Sim (l m:List Tok):Prop:=l.map core=m.map core
theorem Sim.refl (l:List Tok):Sim l l:=rfl
theorem Sim.symm {l m:List Tok} (h:Sim l m):Sim m l:=Eq.symm h
theorem Sim.trans {l m n:List Tok} (h:Sim l m) (k:Sim m n):Sim l n:=Eq.trans h k
theorem Sim.length {l m:List Tok} (h:Sim l m):l.length=m.length:=by have:=congrArg List.length h;simpa using this
theorem Sim.app {l m l' m':List Tok} (h:Sim l m) (k:Sim l' m'):Sim (l++l') (m++m'):=by unfold Sim at *;simp[h,k]
theorem Sim.nil {l:List Tok} (h:Sim l []):l = []:=List.eq_nil_of_length_eq_zero h.length
theorem Sim.cons {l r:List Tok} {t:Tok} (h:Sim l (t::r)):∃ u s,l=u::s∧u.kind=t.kind∧u.text=t.text∧u.n=t.n∧Sim s r:=by
 cases l with
 | nil=>cases h
 | cons u s=>
  unfold Sim core at h
  simp only[List.map_cons,List.cons.injEq,Prod.mk.injEq] at h
  exact ⟨u,s,rfl,h.1.1,h.1.2.1,h.1.2.2,h.2⟩
def Mov {α:Type} (F:Int→List Tok→R α):Prop:=∀ last l x r,F last l = .ok x r→∀ last' l' m,Sim l' (l++m)→∃ r',F last' l' = .ok x r'∧Sim r' (r++m)
def MovW {α:Type} (F:Int→List Tok→R α):Prop:=∀ last l x r,F last l = .ok x r→r≠[]→∀ last' l' m,Sim l' (l++m)→∃ r',F last' l' = .ok x r'∧Sim r' (r++m)
def Wants {α:Type} (F:Int→List Tok→R α):Prop:=∀ last x r,F last []≠.ok x r
theorem Mov.pure {α:Type} (x:α):Mov fun _ l=>R.ok x l:=fun last l y r h last' l' m hm=>by
 injection h with h1 h2
 subst h1;subst h2
 exact ⟨l',rfl,hm⟩
theorem bind_ok {α β:Type} {r:R α} {f:α→List Tok→R β} {x:β} {l:List Tok} (h:r.bind f = .ok x l):∃ y l1,r = .ok y l1∧f y l1 = .ok x l:=by
 cases r with
 | bad p e=>cases h
 | ok y l1=>exact ⟨y,l1,rfl,h⟩
theorem Mov.bind {α β:Type} {F:Int→List Tok→R α} {G:Int→α→List Tok→R β} (hF:Mov F) (hG:∀ x,Mov fun last l=>G last x l):Mov fun last l=>(F last l).bind (G last):=fun last l x r h last' l' m hm=>by
 obtain ⟨y,l1,h1,h2⟩:=bind_ok h
 obtain ⟨r1,k1,k2⟩:=hF last l y l1 h1 last' l' m hm
 obtain ⟨r2,k3,k4⟩:=hG y last l1 x r h2 last' r1 m k2
 exact ⟨r2,by show (F last' l').bind (G last')=_;rw[k1];exact k3,k4⟩
theorem MovW.bind {α β:Type} {F:Int→List Tok→R α} {G:Int→α→List Tok→R β} (hF:MovW F) (hG:∀ x,MovW fun last l=>G last x l) (hn:∀ x,Cuts fun last l=>G last x l):MovW fun last l=>(F last l).bind (G last):=fun last l x r h hr last' l' m hm=>by
 obtain ⟨y,l1,h1,h2⟩:=bind_ok h
 have hl1:l1≠[]:=fun e=>by
  subst e
  have:r.length≤([]:List Tok).length:=(hn y).shrinks h2
  exact hr (List.eq_nil_of_length_eq_zero (Nat.le_zero.1 this))
 obtain ⟨r1,k1,k2⟩:=hF last l y l1 h1 hl1 last' l' m hm
 obtain ⟨r2,k3,k4⟩:=hG y last l1 x r h2 hr last' r1 m k2
 exact ⟨r2,by show (F last' l').bind (G last')=_;rw[k1];exact k3,k4⟩
theorem MovW.then {α β:Type} {F:Int→List Tok→R α} {G:Int→α→List Tok→R β} (hF:MovW F) (hG:∀ x,Mov fun last l=>G last x l) (hn:∀ x,Wants fun last l=>G last x l):Mov fun last l=>(F last l).bind (G last):=fun last l x r h last' l' m hm=>by
 obtain ⟨y,l1,h1,h2⟩:=bind_ok h
 have hl1:l1≠[]:=fun e=>by subst e;exact hn y last x r h2
 obtain ⟨r1,k1,k2⟩:=hF last l y l1 h1 hl1 last' l' m hm
 obtain ⟨r2,k3,k4⟩:=hG y last l1 x r h2 last' r1 m k2
 exact ⟨r2,by show (F last' l').bind (G last')=_;rw[k1];exact k3,k4⟩
theorem Wants.bind {α β:Type} {F:Int→List Tok→R α} (G:Int→α→List Tok→R β) (h:Wants F):Wants fun last l=>(F last l).bind (G last):=fun last x r e=>by
 obtain ⟨y,l1,h1,_⟩:=bind_ok e
 exact h last y l1 h1
theorem hit_sim {k:Int} {x:List UInt8} {l l':List Tok} (h:Sim l' l):hit k x l'=hit k x l:=by
 cases l with
 | nil=>rw [h.nil]
 | cons t r=>
  obtain ⟨u,s,rfl,h1,h2,_,_⟩:=h.cons
  show (u.kind == k && u.text == x)=(t.kind == k && t.text == x)
  rw[h1,h2]
theorem hit_app {k:Int} {x:List UInt8} {l m:List Tok} (hl:l≠[]):hit k x (l++m)=hit k x l:=by
 cases l with
 | nil=>exact absurd rfl hl
 | cons t r=>rfl
theorem Sim.tail {l l':List Tok} (h:Sim l' l):Sim l'.tail l.tail:=by
 cases l with
 | nil=>rw [h.nil];rfl
 | cons t r=>obtain ⟨u,s,rfl,_,_,_,h4⟩:=h.cons;exact h4
theorem Mov.hit {α:Type} (k:Int) (x:List UInt8) {F G:Int→List Tok→R α} (hF:Mov F) (hG:Mov G) (hn:Wants G):Mov fun last l=>if hit k x l=true then F last l.tail else G last l:=fun last l y r h last' l' m hm=>by
 have hl:l≠[]:=fun e=>by subst e;exact hn last y r h
 have hh:Sx.hit k x l'=Sx.hit k x l:=(hit_sim hm).trans (hit_app hl)
 show ∃ r',(if Sx.hit k x l'=true then F last' l'.tail else G last' l') = .ok y r'∧_
 replace h:(if Sx.hit k x l=true then F last l.tail else G last l) = .ok y r:=h
 rw[hh]
 cases hc:Sx.hit k x l with
 | true=>
  rw[hc,if_pos rfl] at h
  rw[if_pos rfl]
  refine hF last l.tail y r h last' l'.tail m ?_
  have:=hm.tail
  cases l with
  | nil=>exact absurd rfl hl
  | cons t l=>exact this
 | false=>
  rw[hc,if_neg (by simp)] at h
  rw[if_neg (by simp)]
  exact hG last l y r h last' l' m hm
theorem MovW.hit {α:Type} (k:Int) (x:List UInt8) {F G:Int→List Tok→R α} (hF:MovW F) (hG:MovW G) (hn:Cuts G):MovW fun last l=>if hit k x l=true then F last l.tail else G last l:=fun last l y r h hr last' l' m hm=>by
 have hl:l≠[]:=fun e=>by
  subst e
  have:r.length≤([]:List Tok).length:=hn.shrinks h
  exact hr (List.eq_nil_of_length_eq_zero (Nat.le_zero.1 this))
 have hh:Sx.hit k x l'=Sx.hit k x l:=(hit_sim hm).trans (hit_app hl)
 show ∃ r',(if Sx.hit k x l'=true then F last' l'.tail else G last' l') = .ok y r'∧_
 replace h:(if Sx.hit k x l=true then F last l.tail else G last l) = .ok y r:=h
 rw[hh]
 cases hc:Sx.hit k x l with
 | true=>
  rw[hc,if_pos rfl] at h
  rw[if_pos rfl]
  refine hF last l.tail y r h hr last' l'.tail m ?_
  have:=hm.tail
  cases l with
  | nil=>exact absurd rfl hl
  | cons t l=>exact this
 | false=>
  rw[hc,if_neg (by simp)] at h
  rw[if_neg (by simp)]
  exact hG last l y r h hr last' l' m hm
theorem Mov.ite {α:Type} (p:Prop) [Decidable p] {F G:Int→List Tok→R α} (hF:Mov F) (hG:Mov G):Mov fun last l=>if p then F last l else G last l:=by
 by_cases h:p
 ·simp only[if_pos h];exact hF
 ·simp only[if_neg h];exact hG
def Cat.app (a b:Cat):Cat:=⟨a.courses++b.courses,a.same++b.same,a.progs++b.progs,a.classes++b.classes,a.fees++b.fees,a.honours++b.honours,a.clauses++b.clauses⟩
def R.map {α β:Type} (f:α→β) (r:R α):R β:=r.bind fun a l=>.ok (f a) l
end Go.Proofs.YtjonaidancomgaaGreatDoor.Sx

namespace Go.Proofs.YtjonaidancomgaaGreatDoor.Sx
open Lx (Tok)

def R.void {α:Type} (r:R α):R Unit:=match r with | .ok _ l=>.ok () l | .bad p e=>.bad p e
def R.Val {α:Type} (r:R α) (a:α):Prop:=∀ x l,r = .ok x l→x=a
def go {α:Type} (s:R Unit) (f:List Tok→R α):R α:=match s with | .ok _ l=>f l | .bad p e=>.bad p e
def R.hits (s:R Unit) (k:Int) (x:List UInt8):Bool:=match s with | .ok _ l=>hit k x l | .bad _ _=>false
section
variable {α β : Type} {s : R Unit} {a : α}
theorem goOk (l:List Tok) (f:List Tok→R α):go (.ok () l) f=f l:=rfl
theorem go_bind (s:R Unit) (f:List Tok→R α) (g:α→List Tok→R β):(go s f).bind g=go s fun l=>(f l).bind g:=by cases s <;> rfl
theorem R.Val.next {r:R α} (h:r.Val a) (g:α→List Tok→R β):r.bind g=go r.void (g a):=by
 cases r with
 | ok x l=>obtain rfl:=h x l rfl;rfl
 | bad p e=>rfl
theorem R.Val.step {f:List Tok→R α} (h:(go s f).Val a) (g:α→List Tok→R β):go s (fun l=>(f l).bind g)=go (go s f).void (g a):=by rw [←go_bind,h.next]
theorem R.Val.of_bad (p e:Int) (a:α):R.Val (.bad p e) a:=fun x l h=>by cases h
theorem R.Val.of_ok (a:α) (l:List Tok):R.Val (.ok a l) a:=fun x r h=>by injection h with h _;exact h.symm
theorem R.Val.done (s:R Unit) (a:α):(go s fun l=>.ok a l).Val a:=by
 cases s with
 | ok u l=>exact .of_ok a l
 | bad p e=>exact .of_bad p e a
theorem void_done (s:R Unit) (a:α):(go s fun l=>R.ok a l).void=s:=by cases s <;> rfl
theorem R.Val.map {r:R α} (h:r.Val a) (f:α→β):(r.bind fun x l=>.ok (f x) l).Val (f a):=by
 rw[h.next];exact .done _ _
theorem void_map (r:R α) (f:α→List Tok→β):(r.bind fun x l=>R.ok (f x l) l).void=r.void:=by cases r <;> rfl
theorem hits_need (s:R Unit) {last k:Int} {x:List UInt8} (h:s.hits k x=true):∃ l,s = .ok () l∧hit k x l=true∧go s (need last k x) = .ok () l.tail:=by
 cases s with
 | bad p e=>cases h
 | ok u l=>
  have h':hit k x l=true:=h
  exact ⟨l,rfl,h',by show need last k x l=_;unfold need;rw[if_pos h']⟩
theorem hits_not {k:Int} {x:List UInt8} (h:s.hits k x=false):(∃ p e,s = .bad p e)∨∃ l,s = .ok () l∧hit k x l=false:=by
 cases s with
 | bad p e=>exact .inl ⟨p,e,rfl⟩
 | ok u l=>exact .inr ⟨l,rfl,h⟩
theorem go_need_no {last k:Int} {x:List UInt8} (h:s.hits k x=false):go s (need last k x)=go s fun l=>fail last l 100:=by
 rcases hits_not h with ⟨p,e,rfl⟩ | ⟨l,rfl,h1⟩
 ·rfl
 ·show need last k x l=_;unfold need;rw[h1];rfl
end
end Go.Proofs.YtjonaidancomgaaGreatDoor.Sx
