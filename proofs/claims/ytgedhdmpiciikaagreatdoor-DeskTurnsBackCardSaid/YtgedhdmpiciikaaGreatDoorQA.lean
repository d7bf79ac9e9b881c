/- Part of the proof that this claim's law answers true, whatever its arguments. Condition: the laid variables hold what their initialisers lay (the card ties that to the program's text). -/
import Derived.Tactics2
import Derived.WalkKit
import Derived.Laws.Cells
import Derived.KernelRfl
import Derived.WideLaws
import Derived.Laws.Unary
import Derived.Maps.AppendAt
import Derived.Laws.AppendOwnNone
import Derived.Laws.Slices
set_option linter.unusedVariables false
set_option linter.unusedSimpArgs false
namespace Go.GW
open Go
abbrev Fr:=List (Nat×Value)
def lk:Fr→Nat→Option Value
  | [],_=>none
  | (k,v)::l,t=>bif Nat.beq t k then some v else lk l t
def evs (l:Fr):Operand→Option Value
  | .tmp t=>lk l t
  | .const v=>some v
  | .global g=>some (.pointer (some ⟨g,0,none⟩))
  | .func f=>some (.func (.func f) #[] #[])
structure Dm where
  sz:Nat
  df:List Deferred
structure Ag (n:Dm) (l:Fr) (a:Act):Prop where
  size:a.tmps.size=n.sz
  defers:a.defers=n.df
  get: ∀t v,lk l t=some v→a.tmps.getD t undef=v
theorem Ag.eval {n:Dm} {l:Fr} {a:Act} (h:Ag n l a) {x:Operand} {v:Value} (hx:evs l x=some v):a.eval x=v:=by
  cases x with
  | tmp t=>exact h.get t v hx
  | const c=>exact Option.some.inj hx
  | global g=>exact Option.some.inj hx
  | func f=>exact Option.some.inj hx
theorem Qz (l:Fr) (k t:Nat) (v:Value):lk ((k,v)::l) t=if t=k then some v else lk l t:=by
  show (bif Nat.beq t k then some v else lk l t)=_
  by_cases h:t=k
  · subst h;simp
  · have:Nat.beq t k=false:=by
      cases hh:Nat.beq t k with
      | false=>rfl
      | true=>exact absurd (Nat.eq_of_beq_eq_true hh) h
    rw [this,if_neg h];rfl
theorem Ag.put {n:Dm} {l:Fr} {a:Act} (h:Ag n l a) {d:Nat} (hd:d<n.sz) (v:Value):Ag n ((d,v)::l) (a.put (some d) v):=by
  refine ⟨by simp [Act.put,h.size],h.defers,fun t u ht=> ?_⟩
  rw [Qz] at ht
  simp only [Act.put,Array.getD_eq_getD_getElem?,Array.getElem?_setIfInBounds]
  by_cases e:t=d
  · subst e
    rw [if_pos rfl] at ht
    rw [if_pos rfl]
    have:t<a.tmps.size:=by rw [h.size];exact hd
    simp [this];exact Option.some.inj ht
  · rw [if_neg e] at ht
    rw [if_neg (fun q=>e q.symm)]
    simpa [Array.getD_eq_getD_getElem?] using h.get t u ht
theorem Ag.putN {n:Dm} {l:Fr} {a:Act} (h:Ag n l a) (v:Value):Ag n l (a.put none v):=h
def Sub (l' l:Fr):Prop:= ∀p∈l',lk l p.1=some p.2
theorem Sub.nil (l:Fr):Sub [] l:=fun _ h=>by cases h
theorem Sub.cons {l' l:Fr} {k:Nat} {v:Value} (h:lk l k=some v) (hs:Sub l' l):Sub ((k,v)::l') l:=fun p hp=>by
  rcases List.mem_cons.1 hp with rfl | hp
  · exact h
  · exact hs p hp
theorem ZZ: ∀ {l:Fr} {t:Nat} {v:Value},lk l t=some v→(t,v)∈l
  | [],t,v,h=>by simp [lk] at h
  | (k,u)::l,t,v,h=>by
    rw [Qz] at h
    by_cases e:t=k
    · rw [if_pos e] at h;cases h;subst e;exact List.mem_cons_self
    · rw [if_neg e] at h;exact List.mem_cons_of_mem _ (ZZ h)
theorem Ag.sub {n:Dm} {l l':Fr} {a:Act} (h:Ag n l a) (hs:Sub l' l):Ag n l' a:=
  ⟨h.size,h.defers,fun t v ht=>h.get t v (hs _ (ZZ ht))⟩
abbrev Part:=List (Nat×Obj)
structure Fact where
  holds:(Nat→Prop)→World→Prop
  stable: ∀ {Z Z':Nat→Prop} {w w':World},(∀b,Z b→Z' b)→(∀b,Z b→w'.heap[b]? =w.heap[b]?)→w'.os=w.os→w'.tape=w.tape→w'.output=w.output→holds Z w→holds Z' w'
structure St (Z:Nat→Prop) (w:World) (Ps:List Part) (As:List Fact):Prop where
  zlt: ∀b,Z b→b<w.heap.size
  own: ∀q∈Ps.flatten,w.heap[q.1]? =some q.2∧ ¬Z q.1
  nodup:(Ps.flatten.map Prod.fst).Nodup
  facts: ∀A∈As,A.holds Z w
theorem St.drew {Z:Nat→Prop} {w:World} {Ps:List Part} {As:List Fact} (h:St Z w Ps As) (n:Nat):St Z { w with drawn:=n } Ps As:=
  ⟨h.zlt,h.own,h.nodup,fun A hA=>A.stable (w:=w) (w':= { w with drawn:=n }) (fun _ hb=>hb) (fun _ _=>rfl) rfl rfl rfl (h.facts A hA)⟩
theorem St.subFacts {Z:Nat→Prop} {w:World} {Ps:List Part} {As As':List Fact} (h:St Z w Ps As) (hs: ∀A∈As',A∈As):St Z w Ps As':=
  ⟨h.zlt,h.own,h.nodup,fun A hA=>h.facts A (hs A hA)⟩
theorem St.addFact {Z:Nat→Prop} {w:World} {Ps:List Part} {As:List Fact} (h:St Z w Ps As) {A:Fact} (hA:A.holds Z w):St Z w Ps (A::As):=
  ⟨h.zlt,h.own,h.nodup,fun B hB=>by rcases List.mem_cons.1 hB with rfl | hB;exact hA;exact h.facts B hB⟩
theorem YN {α:Type} : ∀ {l l':List (List α)},l'.Sublist l→l'.flatten.Sublist l.flatten
  | _,_, .slnil=>List.Sublist.refl _
  | _,_, .cons a h=>by rw [List.flatten_cons];exact (YN h).trans (List.sublist_append_right _ _)
  | _,_, .cons_cons a h=>by rw [List.flatten_cons,List.flatten_cons];exact List.Sublist.append (List.Sublist.refl _) (YN h)
theorem St.subParts {Z:Nat→Prop} {w:World} {Ps Ps':List Part} {As:List Fact} (h:St Z w Ps As) (hs:Ps'.Sublist Ps):St Z w Ps' As:=by
  have h1:=YN hs
  exact ⟨h.zlt,fun q hq=>h.own q (h1.subset hq),(h1.map Prod.fst).nodup h.nodup,h.facts⟩
theorem St.permParts {Z:Nat→Prop} {w:World} {Ps Ps':List Part} {As:List Fact} (h:St Z w Ps As) (hp:Ps'.flatten.Perm Ps.flatten):St Z w Ps' As:=
  ⟨h.zlt,fun q hq=>h.own q (hp.subset hq),(hp.map Prod.fst).nodup_iff.2 h.nodup,h.facts⟩
abbrev Post:=Exit→Fr→List Part→List Fact→Prop
abbrev Nx:=Fr→List Part→List Fact→Prop
def liftN (n:Dm) (K:Nx):Act→World→Prop:=fun a w=> ∃l Z Ps As,Ag n l a∧St Z w Ps As∧K l Ps As
def liftP (n:Dm) (R:Post):Exit→Act→World→Prop:=fun e a w=> ∃l Z Ps As,Ag n l a∧St Z w Ps As∧R e l Ps As
def VO (K:Nx) (R:Post):Post:=fun e l Ps As=>match e with | .normal=>K l Ps As | e=>R e l Ps As
def Vy (id:Nat) (R:Post):Post:=fun e l Ps As=>match e with
  | .exit id'=>if id'=id then R .normal l Ps As else R (.exit id') l Ps As
  | e=>R e l Ps As
section
variable {P:Program} {n:Dm} {R:Post} {l:Fr} {Ps:List Part} {As:List Fact}
def WC (P:Program) (n:Dm) (c:Code) (R:Post) (l:Fr) (Ps:List Part) (As:List Fact):Prop:=
  ∀Z w a,St Z w Ps As→Ag n l a→c.wp P (liftP n R) a w
theorem WC.mono {c:Code} {R':Post} (h:WC P n c R l Ps As) (hr: ∀e l Ps As,R e l Ps As→R' e l Ps As):WC P n c R' l Ps As:=
  fun Z w a hs ha=>wp_mono (h Z w a hs ha) fun e a w ⟨l,Z,Ps,As,h1,h2,h3⟩=>⟨l,Z,Ps,As,h1,h2,hr _ _ _ _ h3⟩
theorem Jc {x y:Code} (h:WC P n x (VO (WC P n y R) R) l Ps As):WC P n (.seq x y) R l Ps As:=by
  intro Z w a hs ha
  refine wp_seq (wp_mono (h Z w a hs ha) ?_)
  rintro e a w ⟨l,Z,Ps,As,h1,h2,h3⟩
  cases e with
  | normal=>exact h3 Z w a h2 h1
  | _=>exact ⟨l,Z,Ps,As,h1,h2,h3⟩
theorem Jp (h:R .normal l Ps As):WC P n .skip R l Ps As:=fun Z w a hs ha=>wp_skip ⟨l,Z,Ps,As,ha,hs,h⟩
theorem Jo (h:R .ret l Ps As):WC P n .ret R l Ps As:=fun Z w a hs ha=>wp_ret ⟨l,Z,Ps,As,ha,hs,h⟩
theorem Kk {id:Nat} (h:R (.exit id) l Ps As):WC P n (.exit id) R l Ps As:=fun Z w a hs ha=>wp_exit ⟨l,Z,Ps,As,ha,hs,h⟩
theorem JE {id:Nat} {c:Code} (h:WC P n c (Vy id R) l Ps As):WC P n (.block id c) R l Ps As:=by
  intro Z w a hs ha
  refine wp_block (wp_mono (h Z w a hs ha) ?_)
  rintro e a w ⟨l,Z,Ps,As,h1,h2,h3⟩
  cases e with
  | exit id'=>
    unfold Vy at h3
    unfold Exit.inBlock
    by_cases hid:id'=id
    · simp only [hid,if_true] at h3 ⊢;exact ⟨l,Z,Ps,As,h1,h2,h3⟩
    · simp only [hid,if_false] at h3 ⊢;exact ⟨l,Z,Ps,As,h1,h2,h3⟩
  | _=>exact ⟨l,Z,Ps,As,h1,h2,h3⟩
theorem Jy {c:Operand} {x y:Code} {b:Bool} (hc:evs l c=some (.bool b)) (h1:b=true→WC P n x R l Ps As) (h2:b=false→WC P n y R l Ps As):WC P n (.cond c x y) R l Ps As:=by
  intro Z w a hs ha
  refine wp_cond_split (ha.eval hc) (fun hb=>h1 hb Z w a hs ha) (fun hb=>h2 hb Z w a hs ha)
theorem J1 {c:Operand} {x y:Code} {b:Bool} (hc:evs l c=some (.bool b)) (hb:b=true) (h:WC P n x R l Ps As):WC P n (.cond c x y) R l Ps As:=
  Jy hc (fun _=>h) (fun h'=>by rw [hb] at h';cases h')
theorem Jv {c:Operand} {x y:Code} {b:Bool} (hc:evs l c=some (.bool b)) (hb:b=false) (h:WC P n y R l Ps As):WC P n (.cond c x y) R l Ps As:=
  Jy hc (fun h'=>by rw [hb] at h';cases h') (fun _=>h)
theorem Jbr {c:Code} (K:Nx) (h1:WC P n c (VO K R) l Ps As) {d:Code} (h2: ∀l Ps As,K l Ps As→WC P n d R l Ps As):WC P n (.seq c d) R l Ps As:=
  Jc (h1.mono fun e l Ps As h=>by cases e<;>first | exact h2 _ _ _ h | exact h)
theorem Hw {c:Code} {l':Fr} {Ps':List Part} {As':List Fact} (hl:Sub l' l) (hp:Ps'.Sublist Ps) (ha: ∀A∈As',A∈As) (h:WC P n c R l' Ps' As'):WC P n c R l Ps As:=
  fun Z w a hs hg=>h Z w a ((hs.subParts hp).subFacts ha) (hg.sub hl)
theorem JF {c:Code} (l':Fr) (hl:Sub l' l) (h:WC P n c R l' Ps As):WC P n c R l Ps As:=
  fun Z w a hs hg=>h Z w a hs (hg.sub hl)
theorem Jbq {α:Type} (μ:α→Nat) (I:α→Fr→List Part→List Fact→Prop) {c:Code} (x:α) (h0:I x l Ps As)
    (round: ∀x l Ps As,I x l Ps As→WC P n c (VO (fun l' Ps' As'=> ∃x',μ x'<μ x∧I x' l' Ps' As') R) l Ps As):WC P n (.loop c) R l Ps As:=by
  intro Z w a hs ha b k cs
  have key: ∀m x l Ps As Z w a,μ x=m→I x l Ps As→St Z w Ps As→Ag n l a→
      ∃e a' w',liftP n R e a' w'∧Arrives P (lone (b.at a (.code c:: .inLoop c::k)) cs w) b k cs e a' w':=by
    intro m
    induction m using Nat.strongRecOn with
    | _ m ih=>
      intro x l Ps As Z w a hm hI hs ha
      obtain ⟨e,a₁,w₁,hq,harr⟩:=round x l Ps As hI Z w a hs ha b (.inLoop c::k) cs
      obtain ⟨l1,Z1,Ps1,As1,g1,g2,g3⟩:=hq
      cases e with
      | normal=>
        obtain ⟨x',hlt,hI'⟩:=g3
        obtain ⟨e₂,a₂,w₂,hq₂,harr₂⟩:=ih (μ x') (hm ▸ hlt) x' l1 Ps1 As1 Z1 w₁ a₁ rfl hI' g2 g1
        exact ⟨e₂,a₂,w₂,hq₂, .of_steps (Steps.trans harr (.one step_inLoop)) harr₂⟩
      | exit id=>exact ⟨_,a₁,w₁,⟨l1,Z1,Ps1,As1,g1,g2,g3⟩, .pass (x:= .inLoop c) rfl (fun _ _=> .inl (by simp)) harr⟩
      | goto l=>exact ⟨_,a₁,w₁,⟨l1,Z1,Ps1,As1,g1,g2,g3⟩, .pass (x:= .inLoop c) rfl (fun _ _=> .inl (by simp)) harr⟩
      | ret=>exact ⟨_,a₁,w₁,⟨l1,Z1,Ps1,As1,g1,g2,g3⟩, .pass (x:= .inLoop c) rfl (fun _ _=> .inl (by simp)) harr⟩
      | panic ch=>exact ⟨_,a₁,w₁,⟨l1,Z1,Ps1,As1,g1,g2,g3⟩, .pass (x:= .inLoop c) rfl (fun _ _=> .inl (by simp)) harr⟩
      | outgrown=>exact ⟨_,a₁,w₁,⟨l1,Z1,Ps1,As1,g1,g2,g3⟩, .pass (x:= .inLoop c) rfl (fun _ _=> .inl (by simp)) harr⟩
  obtain ⟨e,a',w',hq,harr⟩:=key _ x l Ps As Z w a rfl h0 hs ha
  exact ⟨e,a',w',hq, .of_steps (.one step_loop) harr⟩
def WL (P:Program) (n:Dm) (ops:Array Oper) (R:Post) (rest:List Oper) (l:Fr) (Ps:List Part) (As:List Fact):Prop:=
  ∀Z w a,St Z w Ps As→Ag n l a→wpList P ops (liftP n R) rest a w
def QR (P:Program) (l:Fr) (Ps:List Part) (As:List Fact) (o:Oper) (v:Value):Prop:=
  ∀Z w (ρ:Operand→Value),St Z w Ps As→(∀x v,evs l x=some v→ρ x=v)→(execOp ρ o).run P w= .ok (.value v) w
def OW (P:Program) (n:Dm) (R:Post) (l:Fr) (Ps:List Part) (As:List Fact) (o:Oper) (K:Nx):Prop:=
  ∀Z w a,St Z w Ps As→Ag n l a→o.wp P a w (liftN n K) (liftP n R)
variable {ops:Array Oper} {rest:List Oper} {o:Oper}
theorem Ja {id:Nat} {ops:List Oper} (h:WL P n ops.toArray R ops l Ps As):WC P n (.region id ops.toArray false) R l Ps As:=
  fun Z w a hs ha=>wp_region_lit (h Z w a hs ha)
theorem Je (h:R .normal l Ps As):WL P n ops R [] l Ps As:=fun Z w a hs ha=>wpList_nil ⟨l,Z,Ps,As,ha,hs,h⟩
theorem Jg (hg:o.guard=none) (h:OW P n R l Ps As o (WL P n ops R rest)):WL P n ops R (o::rest) l Ps As:=by
  intro Z w a hs ha
  refine wpList_plain hg fun K hK=> ?_
  exact Oper.wp_mono (fun a w ⟨l,Z,Ps,As,h1,h2,h3⟩=>hK a w (h3 Z w a h2 h1)) (h Z w a hs ha)
theorem JQ {d:Nat} {v:Value} {op:Op} {ty:TypeId} {pos:String} {aft:Array Edge} (hq:QR P l Ps As ⟨some d,op,ty,pos,aft,none⟩ v) (hd:d<n.sz) (h:WL P n ops R rest ((d,v)::l) Ps As):WL P n ops R (⟨some d,op,ty,pos,aft,none⟩::rest) l Ps As:=by
  intro Z w a hs ha
  refine wpList_plain rfl fun K hK=> ?_
  unfold Oper.wp
  rw [hq Z w a.eval hs fun x v hx=>ha.eval hx]
  exact hK _ _ (h Z w _ hs (ha.put hd v))
theorem YO {ops:Array Oper} {a:Act} (ha:Ag n l a) {j t:Nat} {ot:Oper} {b:Bool} (hj:ops[j]? =some ot) (hd:ot.dst=some t) (hv:lk l t=some (.bool b)):yielded ops a.tmps j=some b:=by
  have h1:=ha.get t _ hv
  unfold yielded
  rw [hj]
  simp only [Option.bind_some,hd]
  rw [Array.getD_eq_getD_getElem?] at h1
  cases h2:a.tmps[t]? with
  | none=>rw [h2] at h1;simp [undef] at h1
  | some u=>rw [h2] at h1;simp at h1;subst h1;rfl
theorem yielded_undef {ops:Array Oper} {a:Act} (ha:Ag n l a) {j t:Nat} {ot:Oper} (hj:ops[j]? =some ot) (hd:ot.dst=some t) (hv:lk l t=some undef):yielded ops a.tmps j=none:=by
  have h1:=ha.get t _ hv
  unfold yielded
  rw [hj]
  simp only [Option.bind_some,hd]
  rw [Array.getD_eq_getD_getElem?] at h1
  cases h2:a.tmps[t]? with
  | none=>rfl
  | some u=>rw [h2] at h1;simp at h1;subst h1;rfl
theorem XG {d j t:Nat} {v:Value} {op:Op} {ty:TypeId} {pos:String} {aft:Array Edge} {b:Bool} {ot:Oper} (hj:ops[j]? =some ot) (hdt:ot.dst=some t) (hv:lk l t=some (.bool b))
    {b':Bool} (hb:b=b') (hq:QR P l Ps As ⟨some d,op,ty,pos,aft,some (j,b')⟩ v) (hd:d<n.sz) (h:WL P n ops R rest ((d,v)::l) Ps As):WL P n ops R (⟨some d,op,ty,pos,aft,some (j,b')⟩::rest) l Ps As:=by
  intro Z w a hs ha
  refine wpList_step fun K hK=> ?_
  have hy:=YO ha hj hdt hv
  rw [if_pos (by simp [Region.wanted,hy,hb])]
  unfold Oper.wp
  rw [hq Z w a.eval hs fun x v hx=>ha.eval hx]
  exact hK _ _ (h Z w _ hs (ha.put hd v))
theorem Ks {d j t:Nat} {op:Op} {ty:TypeId} {pos:String} {aft:Array Edge} {b:Bool} {ot:Oper} (hj:ops[j]? =some ot) (hdt:ot.dst=some t) (hv:lk l t=some (.bool b))
    {b':Bool} (hb:b=b') (h:OW P n R l Ps As ⟨some d,op,ty,pos,aft,some (j,b')⟩ (WL P n ops R rest)):WL P n ops R (⟨some d,op,ty,pos,aft,some (j,b')⟩::rest) l Ps As:=by
  intro Z w a hs ha
  refine wpList_step fun K hK=> ?_
  have hy:=YO ha hj hdt hv
  rw [if_pos (by simp [Region.wanted,hy,hb])]
  exact Oper.wp_mono (fun a w ⟨l,Z,Ps,As,h1,h2,h3⟩=>hK a w (h3 Z w a h2 h1)) (h Z w a hs ha)
theorem Jck {d j t:Nat} {op:Op} {ty:TypeId} {pos:String} {aft:Array Edge} {b b':Bool} {ot:Oper} (hj:ops[j]? =some ot) (hdt:ot.dst=some t) (hv:lk l t=some (.bool b))
    (hb:b= !b') (hd:d<n.sz) (h:WL P n ops R rest ((d,undef)::l) Ps As):WL P n ops R (⟨some d,op,ty,pos,aft,some (j,b')⟩::rest) l Ps As:=by
  intro Z w a hs ha
  refine wpList_step fun K hK=> ?_
  have hy:=YO ha hj hdt hv
  rw [if_neg (by simp [Region.wanted,hy,hb])]
  exact hK _ _ (h Z w _ hs (ha.put hd undef))
theorem Yo {d j t:Nat} {op:Op} {ty:TypeId} {pos:String} {aft:Array Edge} {b':Bool} {ot:Oper} (hj:ops[j]? =some ot) (hdt:ot.dst=some t) (hv:lk l t=some undef)
    (hd:d<n.sz) (h:WL P n ops R rest ((d,undef)::l) Ps As):WL P n ops R (⟨some d,op,ty,pos,aft,some (j,b')⟩::rest) l Ps As:=by
  intro Z w a hs ha
  refine wpList_step fun K hK=> ?_
  have hy:=yielded_undef ha hj hdt hv
  rw [if_neg (by simp [Region.wanted,hy])]
  exact hK _ _ (h Z w _ hs (ha.put hd undef))
end
inductive RV (P:Program) (l:Fr) (w:World):List ResultVar→List Value→Prop
  | nil:RV P l w [] []
  | tmp {t:Nat} {v:Value} {rs:List ResultVar} {vs:List Value} (h:lk l t=some v) (hr:RV P l w rs vs):RV P l w (.tmp t::rs) (v::vs)
  | cell {t:Nat} {T:TypeId} {a:Addr} {v:Value} {rs:List ResultVar} {vs:List Value} (h:lk l t=some (.pointer (some a))) (hl:(loadVar T a).run P w= .ok v w) (hr:RV P l w rs vs):RV P l w (.cell t T::rs) (v::vs)
def tup:List Value→Value
  | [v] =>v
  | vs=> .tuple vs.toArray
theorem Jcl {P:Program} {l:Fr} {w:World} {a:Act} {n:Dm} (ha:Ag n l a) {rs:List ResultVar} {vs:List Value} (h:RV P l w rs vs)
    (f:ResultVar→Sem Value) (h1: ∀t,f (.tmp t)=pure (a.tmps.getD t undef)) (h2: ∀b T,f (.cell b T)=(do loadVar T (←asAddr (a.tmps.getD b undef)))):
    (rs.mapM f).run P w= .ok vs w:=by
  induction h with
  | nil=>rfl
  | tmp h hr ih=>
    rw [List.mapM_cons,h1]
    simp only [Sem.run_bind,Sem.run_pure,Result.andThen_ok,ih,ha.get _ _ h]
  | cell h hl hr ih=>
    rw [List.mapM_cons,h2,ha.get _ _ h]
    have h9: ∀(q:Addr) w,(asAddr (Value.pointer (some q))).run P w= .ok q w:=fun _ _=>rfl
    simp only [Sem.run_bind,Sem.run_pure,Result.andThen_ok,h9,hl,ih]
theorem Y4 {P:Program} {l:Fr} {w:World} {a:Act} {n:Dm} {fn:Func} (ha:Ag n l a) {vs:List Value} (h:RV P l w fn.results.toList vs):
    (results fn a.tmps).run P w= .ok (tup vs) w:=by
  unfold results
  rw [Sem.run_bind,Array.mapM_eq_mapM_toList,Sem.run_map,Jcl ha h _ (fun _=>rfl) (fun _ _=>rfl)]
  simp only [Result.andThen_ok,Sem.run_pure]
  congr 1
  unfold tup
  rcases vs with _ | ⟨v,_ | ⟨u,r⟩⟩<;>simp
structure Enters (P:Program) (k:FuncId) (c:Code) (rs:List ResultVar) (n:Nat):Prop where
  ex : ∃ fn, P.funcs[k]? = some fn ∧ fn.body = some c ∧ fn.results.toList = rs ∧ fn.ntmps = n ∧ (fn.name == "runtime.NumGoroutine") = false
def argsFr:List Value→Nat→Fr
  | [],_=> []
  | v::vs,k=>(k,v)::argsFr vs (k+1)
theorem lk_argsFr: ∀(vs:List Value) (k t:Nat) (v:Value),lk (argsFr vs k) t=some v→k≤t∧vs[t-k]? =some v
  | [],k,t,v,h=>by simp [argsFr,lk] at h
  | u::vs,k,t,v,h=>by
    unfold argsFr at h
    rw [Qz] at h
    by_cases e:t=k
    · rw [if_pos e] at h;subst e;simp;exact Option.some.inj h
    · rw [if_neg e] at h
      obtain ⟨h1,h2⟩:=lk_argsFr vs (k+1) t v h
      refine ⟨by omega,?_⟩
      have:t-k=(t-(k+1))+1:=by omega
      rw [this];simpa using h2
structure Sp (P:Program) (k:FuncId) (args:List Value) (Lin:List Part) (pre:List Fact) (res:Value→List Part→List Fact→Prop):Prop where
  enters: ∃c rs n,Enters P k c rs n
  calls: ∀Z w Ps As,St Z w (Lin++Ps) (pre++As)→Calls P k args.toArray w fun e w'=> ∃v,e= .returned v∧ ∃Z' Lo fs,res v Lo fs∧St Z' w' (Lo++Ps) (fs++(pre++As))
def fin (P:Program) (rs:List ResultVar) (res:Value→List Part→List Fact→Prop) (Ps:List Part) (As:List Fact):Post:=fun e l Ps' As'=>match e with
  | .normal | .ret=> ∃vs Lo fs,(∀Z w,St Z w Ps' As'→RV P l w rs vs)∧res (tup vs) Lo fs∧(∀Z w,St Z w Ps' As'→ ∃Z',St Z' w (Lo++Ps) (fs++As))
  | _=>False
theorem Sp.of {P:Program} {k:FuncId} {args:List Value} {Lin:List Part} {pre:List Fact} {res:Value→List Part→List Fact→Prop} {c:Code} {rs:List ResultVar} {n:Nat}
    (he:Enters P k c rs n) (hn:args.length≤n) (h: ∀Ps As,WC P ⟨n,[]⟩ c (fin P rs res Ps (pre++As)) (argsFr args 0) (Lin++Ps) (pre++As)):Sp P k args Lin pre res:=by
  refine ⟨⟨c,rs,n,he⟩,fun Z w Ps As hs=> ?_⟩
  obtain ⟨fn,h1,h2,h3,h4,h5⟩:=he.ex
  refine calls_of_wp h1 h2 (wp_mono (h Ps As Z w _ hs ⟨?_,rfl,?_⟩) ?_)
  · simp [h4];omega
  · intro t v ht
    obtain ⟨_,h7⟩:=lk_argsFr args 0 t v ht
    have h8:t<args.length:=by
      rcases Nat.lt_or_ge t args.length with h | h
      · exact h
      · simp [List.getElem?_eq_none h] at h7
    simp only [Nat.sub_zero] at h7
    rw [Array.getD_eq_getD_getElem?,Array.getElem?_append_left (by simpa using h8)]
    simp [h7]
  · rintro e a w' ⟨l,Z',Ps',As',g1,g2,g3⟩
    cases e with
    | normal=>
      obtain ⟨vs,Lo,fs,k1,k2,k3⟩:=g3
      obtain ⟨Z2,k4⟩:=k3 Z' w' g2
      exact ⟨g1.defers,tup vs,Y4 g1 (h3 ▸ k1 Z' w' g2),_,rfl,Z2,Lo,fs,k2,k4⟩
    | ret=>
      obtain ⟨vs,Lo,fs,k1,k2,k3⟩:=g3
      obtain ⟨Z2,k4⟩:=k3 Z' w' g2
      exact ⟨g1.defers,tup vs,Y4 g1 (h3 ▸ k1 Z' w' g2),_,rfl,Z2,Lo,fs,k2,k4⟩
    | _=>exact g3.elim
theorem Sp.mono {P:Program} {k:FuncId} {args:List Value} {Lin:List Part} {pre:List Fact} {res res':Value→List Part→List Fact→Prop} (h:Sp P k args Lin pre res) (hr: ∀v Lo fs,res v Lo fs→res' v Lo fs):Sp P k args Lin pre res':=
  ⟨h.enters,fun Z w Ps As hs=>(h.calls Z w Ps As hs).mono fun e w' ⟨v,he,Z',Lo,fs,h1,h2⟩=>⟨v,he,Z',Lo,fs,hr _ _ _ h1,h2⟩⟩
section
variable {P:Program} {n:Dm} {R:Post} {l:Fr} {Ps:List Part} {As:List Fact}
inductive Evs (l:Fr):List Operand→List Value→Prop
  | nil:Evs l [] []
  | cons {x:Operand} {v:Value} {xs:List Operand} {vs:List Value} (h:evs l x=some v) (hr:Evs l xs vs):Evs l (x::xs) (v::vs)
theorem Evs.map {l:Fr} {xs:List Operand} {vs:List Value} (h:Evs l xs vs) {ρ:Operand→Value} (hρ: ∀x v,evs l x=some v→ρ x=v):xs.map ρ=vs:=by
  induction h with
  | nil=>rfl
  | cons h hr ih=>simp [hρ _ _ h,ih]
theorem Qd {k:FuncId} (he: ∃c rs n,Enters P k c rs n) (args:Array Value) (w:World):(callFunc k args).run P w= .ok (.enter k args) w:=by
  obtain ⟨c,rs,n,fn,h1,h2,h3,h4,h5⟩:=he
  have h6 : fn.name ≠ "runtime.NumGoroutine" := by simpa using h5
  simp [callFunc,h1,h6,h2]
theorem XZ {k:FuncId} {d:Nat} {xs:List Operand} {ts:Array TypeId} {ty:TypeId} {pos:String} {aft:Array Edge} {g:Option (Nat×Bool)} {args:List Value} {Lin Ps':List Part} {pre:List Fact} {res:Value→List Part→List Fact→Prop} {K:Nx}
    (hsp:Sp P k args Lin pre res) (hxs:Evs l xs args) (hd:d<n.sz) (hP: ∀ {Z w},St Z w Ps As→St Z w (Lin++Ps') (pre++As))
    (h: ∀v Lo fs,res v Lo fs→K ((d,v)::l) (Lo++Ps') (fs++As)):
    OW P n R l Ps As ⟨some d, .call ⟨.value (.func k),xs.toArray,ts⟩,ty,pos,aft,g⟩ K:=by
  intro Z w a hs ha
  have hrun:(execOp a.eval ⟨some d, .call ⟨.value (.func k),xs.toArray,ts⟩,ty,pos,aft,g⟩).run P w= .ok (.enter k args.toArray) w:=by
    have h1:=hxs.map fun x v hx=>ha.eval hx
    have h2:=Qd hsp.enters args.toArray w
    simp only [execOp,resolve,Deferred.ofValue,invoke,Act.eval,List.map_toArray,h1,Sem.run_bind,Sem.run_pure,Result.andThen_ok]
    simpa using h2
  unfold Oper.wp
  rw [hrun,Oper.upon_enter]
  refine (hsp.calls Z w Ps' As (hP hs)).mono ?_
  rintro e w' ⟨v,rfl,Z',Lo,fs,h1,h2⟩
  refine ⟨(d,v)::l,Z',Lo++Ps',fs++As,ha.put hd v,h2.subFacts ?_,h v Lo fs h1⟩
  intro A hA
  rcases List.mem_append.1 hA with h | h
  · exact List.mem_append.2 (.inl h)
  · exact List.mem_append.2 (.inr (List.mem_append.2 (.inr h)))
end
def agg? :TypeDesc→Bool
  | .struct _ | .array _ _=>true
  | _=>false
def ti (P:Program) (T:TypeId):Option (Option Value×Nat×Nat):=(P.info? T).map fun i=>(i.zero,i.size,i.bytes)
theorem run_underlying' {P:Program} {T:TypeId} {d:TypeDesc} (h:P.underlying T=some d) (w:World):(underlying T).run P w= .ok d w:=run_underlying h w
theorem KO {P:Program} {T:TypeId} {z:Option Value} {sz by_:Nat} (h:ti P T=some (z,sz,by_)) (w:World):(sizeOf T).run P w= .ok sz w:=by
  unfold ti at h
  cases hi:P.info? T with
  | none=>rw [hi] at h;cases h
  | some i=>
    rw [hi] at h
    simp only [Option.map_some,Option.some.injEq,Prod.mk.injEq] at h
    simp [sizeOf,typeInfo,hi,h.2.1]
theorem Y6 {P:Program} {T:TypeId} {z:Value} {sz by_:Nat} (h:ti P T=some (some z,sz,by_)) (w:World):(zeroValue T).run P w= .ok z w:=by
  unfold ti at h
  cases hi:P.info? T with
  | none=>rw [hi] at h;cases h
  | some i=>
    rw [hi] at h
    simp only [Option.map_some,Option.some.injEq,Prod.mk.injEq] at h
    simp [zeroValue,typeInfo,hi,h.1]
theorem VF {P:Program} {T:TypeId} {d:TypeDesc} (h:P.underlying T=some d) (w:World):(isAgg T).run P w= .ok (agg? d) w:=by
  unfold isAgg
  rw [Sem.run_bind,run_underlying h]
  cases d<;>rfl
theorem KT (b o k:Nat):(⟨b,o,none⟩:Addr).add k=⟨b,o+k,none⟩:=by unfold Addr.add;split<;>simp_all
def CellsAt (w:World) (b q:Nat) (cs:List Value):Prop:= ∃full T fr,w.heap[b]? =some (.cells full T fr)∧ ∀j v,cs[j]? =some v→full[q+j]? =some v
theorem CellsAt.cell {w:World} {b q:Nat} {cs:List Value} (h:CellsAt w b q cs) {j:Nat} {v:Value} (hj:cs[j]? =some v):w.cell? ⟨b,q+j,none⟩=some v:=by
  obtain ⟨full,T,fr,h1,h2⟩:=h
  simp [World.cell?,h1,h2 j v hj]
theorem CellsAt.part {w:World} {b q:Nat} {cs cs':List Value} (h:CellsAt w b q cs) (k:Nat) (hc: ∀j v,cs'[j]? =some v→cs[k+j]? =some v):CellsAt w b (q+k) cs':=by
  obtain ⟨full,T,fr,h1,h2⟩:=h
  exact ⟨full,T,fr,h1,fun j v hv=>by rw [Nat.add_assoc];exact h2 _ _ (hc j v hv)⟩
theorem run_loadCells' {P:Program} {w:World} {b q:Nat} {cs:List Value} (h:CellsAt w b q cs):(loadCells ⟨b,q,none⟩ cs.length).run P w= .ok cs.toArray w:=by
  have:=run_loadCells_list (P:=P) (w:=w) ⟨b,q,none⟩ cs (fun j v hv=>by rw [KT];exact h.cell hv)
  simpa using this
theorem QT {P:Program} {w:World} {T:TypeId} {d:TypeDesc} {b q:Nat} {v:Value} (hu:P.underlying T=some d) (hd:agg? d=false) (h:w.cell? ⟨b,q,none⟩=some v):
    (loadVar T ⟨b,q,none⟩).run P w= .ok v w:=by
  unfold loadVar
  rw [Sem.run_bind,VF hu,hd]
  simp [h]
theorem QS {P:Program} {w:World} {T:TypeId} {d:TypeDesc} {b q:Nat} {z:Option Value} {sz by_:Nat} {cs:List Value} (hu:P.underlying T=some d) (hd:agg? d=true) (ht:ti P T=some (z,sz,by_)) (hs:cs.length=sz) (h:CellsAt w b q cs):
    (loadVar T ⟨b,q,none⟩).run P w= .ok (.agg cs.toArray) w:=by
  subst hs
  unfold loadVar
  rw [Sem.run_bind,VF hu,hd]
  simp only [Result.andThen_ok,if_true,Sem.run_bind,KO ht,run_loadCells' h,Sem.run_pure]
abbrev JB (cs:List Value) (T:TypeId):Obj:= .cells cs.toArray T (0,0)
def OwnAt (Ps:List Part) (b:Nat) (o:Obj):Prop:=(b,o)∈Ps.flatten
theorem Jn {b:Nat} {o:Obj} {p:Part} {Ps:List Part} :OwnAt (((b,o)::p)::Ps) b o:=by simp [OwnAt]
theorem Ji {b:Nat} {o:Obj} {p:Part} {Ps:List Part} (h:OwnAt Ps b o):OwnAt (p::Ps) b o:=by
  unfold OwnAt;rw [List.flatten_cons];exact List.mem_append_right _ h
theorem ownI {b:Nat} {o:Obj} {p:Part} {Ps:List Part} (h:(b,o)∈p):OwnAt (p::Ps) b o:=by
  unfold OwnAt;rw [List.flatten_cons];exact List.mem_append_left _ h
theorem St.block {Z:Nat→Prop} {w:World} {Ps:List Part} {As:List Fact} (h:St Z w Ps As) {b:Nat} {o:Obj} (hb:OwnAt Ps b o):w.heap[b]? =some o:=(h.own _ hb).1
theorem St.cells {Z:Nat→Prop} {w:World} {Ps:List Part} {As:List Fact} (h:St Z w Ps As) {b:Nat} {cs:List Value} {T:TypeId} (hb:OwnAt Ps b (JB cs T)):CellsAt w b 0 cs:=
  ⟨_,_,_,h.block hb,fun j v hv=>by simpa using hv⟩
def FzA (b q:Nat) (cs:List Value):Fact where
  holds Z w:=Z b∧CellsAt w b q cs
  stable hz hh _ _ _ h:=⟨hz _ h.1,by
    obtain ⟨full,T,fr,h1,h2⟩:=h.2
    exact ⟨full,T,fr,(hh _ h.1).trans h1,h2⟩⟩
section
variable {P:Program} {l:Fr} {Ps:List Part} {As:List Fact} {d:Option Tmp} {ty:TypeId} {pos:String} {aft:Array Edge} {g:Option (Nat×Bool)}
theorem Jb {x:Operand} {v:Value} (h:evs l x=some v):QR P l Ps As ⟨d, .move x,ty,pos,aft,g⟩ v:=fun Z w ρ hs hρ=>by
  simp only [execOp,hρ _ _ h];rfl
theorem Jd {x:Operand} {v:Value} (h:evs l x=some v):QR P l Ps As ⟨d, .assign x,ty,pos,aft,g⟩ v:=fun Z w ρ hs hρ=>by
  simp only [execOp,hρ _ _ h];rfl
theorem JP {c x y:Operand} {b:Bool} {v:Value} (hc:evs l c=some (.bool b)) (hb:b=true) (h:evs l x=some v):QR P l Ps As ⟨d, .pick c x y,ty,pos,aft,g⟩ v:=fun Z w ρ hs hρ=>by
  simp [execOp,hρ _ _ hc,hρ _ _ h,asBool,hb]
theorem JH {c x y:Operand} {b:Bool} {v:Value} (hc:evs l c=some (.bool b)) (hb:b=false) (h:evs l y=some v):QR P l Ps As ⟨d, .pick c x y,ty,pos,aft,g⟩ v:=fun Z w ρ hs hρ=>by
  simp [execOp,hρ _ _ hc,hρ _ _ h,asBool,hb]
theorem JC {x:Operand} {a:Addr} (h:evs l x=some (.pointer (some a))):QR P l Ps As ⟨d, .nilCheck x,ty,pos,aft,g⟩ (.pointer (some a)):=fun Z w ρ hs hρ=>by
  simp [execOp,hρ _ _ h]
theorem Jh {s:TypeId} {x:Operand} {f b o o':Nat} {fs:Array Field} {fl:Field} {z:Option Value} {sz by_:Nat} (hu:P.underlying s=some (.struct fs)) (hf:fs[f]? =some fl) (ht:ti P fl.type=some (z,sz+1,by_))
    (h:evs l x=some (.pointer (some ⟨b,o,none⟩))) (ho:o+fl.offset=o'):QR P l Ps As ⟨d, .fieldAddr s x f,ty,pos,aft,g⟩ (.pointer (some ⟨b,o',none⟩)):=fun Z w ρ hs hρ=>by
  subst ho
  simp only [execOp,hρ _ _ h,Instr.fieldAt,Instr.sureAddr,fieldPlace,Sem.run_bind,run_underlying hu,Result.andThen_ok,hf,Sem.run_pure,KO ht,KT]
  simp
theorem Jj {T:TypeId} {x:Operand} {dd:TypeDesc} {b o:Nat} {cs:List Value} {v:Value} {T':TypeId} (hu:P.underlying T=some dd) (hd:agg? dd=false) (h:evs l x=some (.pointer (some ⟨b,o,none⟩)))
    (hb:OwnAt Ps b (JB cs T')) (hv:cs[o]? =some v):QR P l Ps As ⟨d, .load T x,ty,pos,aft,g⟩ v:=fun Z w ρ hs hρ=>by
  have h1:=(hs.cells hb).cell hv
  rw [Nat.zero_add] at h1
  simp only [execOp,hρ _ _ h,Instr.loadAt,Instr.sureAddr,Sem.run_bind,Sem.run_pure,Result.andThen_ok,QT hu hd h1]
theorem Jt {T:TypeId} {x:Operand} {dd:TypeDesc} {b o:Nat} {cs vs:List Value} {T':TypeId} {z:Option Value} {sz by_:Nat} (hu:P.underlying T=some dd) (hd:agg? dd=true) (ht:ti P T=some (z,sz,by_)) (h:evs l x=some (.pointer (some ⟨b,o,none⟩)))
    (hb:OwnAt Ps b (JB cs T')) (hv:(cs.drop o).take sz=vs) (hl:vs.length=sz):QR P l Ps As ⟨d, .load T x,ty,pos,aft,g⟩ (.agg vs.toArray):=fun Z w ρ hs hρ=>by
  have h1:CellsAt w b (0+o) vs:=(hs.cells hb).part o (fun j v hj=>by
    rw [←hv,List.getElem?_take] at hj
    split at hj
    · rw [List.getElem?_drop] at hj;exact hj
    · cases hj)
  rw [Nat.zero_add] at h1
  simp only [execOp,hρ _ _ h,Instr.loadAt,Instr.sureAddr,Sem.run_bind,Sem.run_pure,Result.andThen_ok,QS hu hd ht hl h1]
theorem Kb {T:TypeId} {x:Operand} {dd:TypeDesc} {b o q j:Nat} {cs:List Value} {v:Value} (hu:P.underlying T=some dd) (hd:agg? dd=false) (h:evs l x=some (.pointer (some ⟨b,o,none⟩)))
    (hA:FzA b q cs∈As) (ho:o=q+j) (hv:cs[j]? =some v):QR P l Ps As ⟨d, .load T x,ty,pos,aft,g⟩ v:=fun Z w ρ hs hρ=>by
  subst ho
  have h1:=(hs.facts _ hA).2.cell hv
  simp only [execOp,hρ _ _ h,Instr.loadAt,Instr.sureAddr,Sem.run_bind,Sem.run_pure,Result.andThen_ok,QT hu hd h1]
theorem Kq {T:TypeId} {x:Operand} {dd:TypeDesc} {b o q k:Nat} {cs vs:List Value} {z:Option Value} {sz by_:Nat} (hu:P.underlying T=some dd) (hd:agg? dd=true) (ht:ti P T=some (z,sz,by_)) (h:evs l x=some (.pointer (some ⟨b,o,none⟩)))
    (hA:FzA b q cs∈As) (ho:o=q+k) (hv:(cs.drop k).take sz=vs) (hl:vs.length=sz):QR P l Ps As ⟨d, .load T x,ty,pos,aft,g⟩ (.agg vs.toArray):=fun Z w ρ hs hρ=>by
  subst ho
  have h1:CellsAt w b (q+k) vs:=(hs.facts _ hA).2.part k (fun j v hj=>by
    rw [←hv,List.getElem?_take] at hj
    split at hj
    · rw [List.getElem?_drop] at hj;exact hj
    · cases hj)
  simp only [execOp,hρ _ _ h,Instr.loadAt,Instr.sureAddr,Sem.run_bind,Sem.run_pure,Result.andThen_ok,QS hu hd ht hl h1]
theorem Jk {x:Operand} {i:Nat} {vs:List Value} {v:Value} (h:evs l x=some (.tuple vs.toArray)) (hv:vs[i]? =some v):QR P l Ps As ⟨d, .extract x i,ty,pos,aft,g⟩ v:=fun Z w ρ hs hρ=>by
  simp [execOp,hρ _ _ h,Instr.extract,hv]
theorem KL {x:Operand} {t:TypeId} {b:Bool} (h:evs l x=some (.bool b)):QR P l Ps As ⟨d, .unOp .not t x,ty,pos,aft,g⟩ (.bool (!b)):=fun Z w ρ hs hρ=>by
  simp [execOp,hρ _ _ h,Op.unary]
variable {t t2:TypeId} {x y:Operand} {k:IntKind} {a b c:Int}
theorem JU (hx:evs l x=some (.int k a)) (hy:evs l y=some (.int k b)) (hw:k.wrap (a+b)=c):QR P l Ps As ⟨d, .binOp .add t x y t2,ty,pos,aft,g⟩ (.int k c):=fun Z w ρ hs hρ=>by
  subst hw;simp [execOp,hρ _ _ hx,hρ _ _ hy,go_sem,Op.intArith]
theorem KP (hx:evs l x=some (.int k a)) (hy:evs l y=some (.int k b)) (hw:k.wrap (a-b)=c):QR P l Ps As ⟨d, .binOp .sub t x y t2,ty,pos,aft,g⟩ (.int k c):=fun Z w ρ hs hρ=>by
  subst hw;simp [execOp,hρ _ _ hx,hρ _ _ hy,go_sem,Op.intArith]
theorem Jbv (hx:evs l x=some (.int k a)) (hy:evs l y=some (.int k b)) (hw:k.wrap (a*b)=c):QR P l Ps As ⟨d, .binOp .mul t x y t2,ty,pos,aft,g⟩ (.int k c):=fun Z w ρ hs hρ=>by
  subst hw;simp [execOp,hρ _ _ hx,hρ _ _ hy,go_sem,Op.intArith]
theorem Kh (hx:evs l x=some (.int k a)) (hy:evs l y=some (.int k b)):QR P l Ps As ⟨d, .binOp .eql t x y t2,ty,pos,aft,g⟩ (.bool (a==b)):=fun Z w ρ hs hρ=>by
  simp [execOp,hρ _ _ hx,hρ _ _ hy,go_sem]
theorem Kz (hx:evs l x=some (.int k a)) (hy:evs l y=some (.int k b)):QR P l Ps As ⟨d, .binOp .neq t x y t2,ty,pos,aft,g⟩ (.bool (a !=b)):=fun Z w ρ hs hρ=>by
  simp [execOp,hρ _ _ hx,hρ _ _ hy,go_sem]
theorem Km (hx:evs l x=some (.int k a)) (hy:evs l y=some (.int k b)):QR P l Ps As ⟨d, .binOp .lss t x y t2,ty,pos,aft,g⟩ (.bool (decide (a<b))):=fun Z w ρ hs hρ=>by
  simp [execOp,hρ _ _ hx,hρ _ _ hy,go_sem]
theorem YW (hx:evs l x=some (.int k a)) (hy:evs l y=some (.int k b)):QR P l Ps As ⟨d, .binOp .leq t x y t2,ty,pos,aft,g⟩ (.bool (decide (a≤b))):=fun Z w ρ hs hρ=>by
  simp [execOp,hρ _ _ hx,hρ _ _ hy,go_sem]
theorem Kl (hx:evs l x=some (.int k a)) (hy:evs l y=some (.int k b)):QR P l Ps As ⟨d, .binOp .gtr t x y t2,ty,pos,aft,g⟩ (.bool (decide (b<a))):=fun Z w ρ hs hρ=>by
  simp [execOp,hρ _ _ hx,hρ _ _ hy,go_sem]
theorem Yz (hx:evs l x=some (.int k a)) (hy:evs l y=some (.int k b)):QR P l Ps As ⟨d, .binOp .geq t x y t2,ty,pos,aft,g⟩ (.bool (decide (b≤a))):=fun Z w ρ hs hρ=>by
  simp [execOp,hρ _ _ hx,hρ _ _ hy,go_sem]
theorem wr64 {x:Int} (h: -9223372036854775808≤x∧x≤9223372036854775807):IntKind.i64.wrap x=x:=by
  rw [IntKind.wrap_i64];omega
end
theorem alloc_old (w:World) (o:Obj) {b:Nat} (h:b<w.heap.size):(w.alloc o).heap[b]? =w.heap[b]? :=by
  show (w.heap.push o)[b]? =_
  rw [Array.getElem?_push,if_neg (by omega)]
theorem alloc_new (w:World) (o:Obj):(w.alloc o).heap[w.heap.size]? =some o:=by
  show (w.heap.push o)[w.heap.size]? =_
  simp
theorem St.lt {Z:Nat→Prop} {w:World} {Ps:List Part} {As:List Fact} (h:St Z w Ps As) {q:Nat×Obj} (hq:q∈Ps.flatten):q.1<w.heap.size:=
  (Array.getElem?_eq_some_iff.1 (h.own q hq).1).1
theorem St.turn {Z:Nat→Prop} {w w':World} {Ps:List Part} {p p':Part} {As:List Fact} (h:St Z w (p::Ps) As) (os:w'.os=w.os) (tape:w'.tape=w.tape) (output:w'.output=w.output) (size:w.heap.size≤w'.heap.size)
    (hk: ∀b,b<w.heap.size→(∀o,(b,o)∉p)→w'.heap[b]? =w.heap[b]?)
    (hp: ∀q∈p',w'.heap[q.1]? =some q.2∧((∃o,(q.1,o)∈p)∨w.heap.size≤q.1)) (hn:(p'.map Prod.fst).Nodup):St Z w' (p'::Ps) As:=by
  have hz: ∀b,Z b→w'.heap[b]? =w.heap[b]? :=fun b hb=>hk b (h.zlt b hb) fun o ho=>(h.own (b,o) (by simp [ho])).2 hb
  have hnd:=h.nodup
  rw [List.flatten_cons,List.map_append,List.nodup_append] at hnd
  refine ⟨fun b hb=>Nat.lt_of_lt_of_le (h.zlt b hb) size,fun q hq=> ?_,?_,fun A hA=>A.stable (fun _ hb=>hb) hz os tape output (h.facts A hA)⟩
  · rw [List.flatten_cons] at hq
    rcases List.mem_append.1 hq with hq | hq
    · obtain ⟨h1,h2⟩:=hp q hq
      refine ⟨h1,fun hb=> ?_⟩
      rcases h2 with ⟨o,ho⟩ | h2
      · exact (h.own (q.1,o) (by simp [ho])).2 hb
      · exact absurd (h.zlt _ hb) (by omega)
    · have h3:q∈(p::Ps).flatten:=by rw [List.flatten_cons];exact List.mem_append_right _ hq
      obtain ⟨h1,h2⟩:=h.own q h3
      refine ⟨?_,h2⟩
      rw [hk q.1 (h.lt h3) fun o ho=> ?_]
      · exact h1
      · exact hnd.2.2 q.1 (List.mem_map.2 ⟨(q.1,o),ho,rfl⟩) q.1 (List.mem_map.2 ⟨q,hq,rfl⟩) rfl
  · rw [List.flatten_cons,List.map_append,List.nodup_append]
    refine ⟨hn,hnd.2.1,fun a ha b hb e=> ?_⟩
    subst e
    obtain ⟨q,hq,rfl⟩:=List.mem_map.1 ha
    obtain ⟨q2,hq2,e2⟩:=List.mem_map.1 hb
    rcases (hp q hq).2 with ⟨o,ho⟩ | h2
    · exact hnd.2.2 q.1 (List.mem_map.2 ⟨(q.1,o),ho,rfl⟩) q.1 (List.mem_map.2 ⟨q2,hq2,e2⟩) rfl
    · have h3:q2∈(p::Ps).flatten:=by rw [List.flatten_cons];exact List.mem_append_right _ hq2
      have:=h.lt h3
      omega
theorem St.nilPart {Z:Nat→Prop} {w:World} {Ps:List Part} {As:List Fact} (h:St Z w Ps As):St Z w ([] ::Ps) As:=h.permParts (by simp)
theorem St.alloc {Z:Nat→Prop} {w:World} {Ps:List Part} {As:List Fact} (h:St Z w Ps As) (o:Obj):St Z (w.alloc o) ([(w.heap.size,o)] ::Ps) As:=by
  refine h.nilPart.turn rfl rfl rfl (by simp) (fun b hb _=>alloc_old w o hb) (fun q hq=> ?_) (by simp)
  simp only [List.mem_singleton] at hq
  subst hq
  exact ⟨alloc_new w o, .inr (Nat.le_refl _)⟩
theorem St.freeze {Z:Nat→Prop} {w:World} {Ps:List Part} {p:Part} {As:List Fact} (h:St Z w (p::Ps) As):St (fun b=>Z b∨ ∃o,(b,o)∈p) w Ps As:=by
  have hnd:=h.nodup
  rw [List.flatten_cons,List.map_append,List.nodup_append] at hnd
  refine ⟨fun b hb=> ?_,fun q hq=> ?_,hnd.2.1,fun A hA=>A.stable (fun _ hb=> .inl hb) (fun _ _=>rfl) rfl rfl rfl (h.facts A hA)⟩
  · rcases hb with hb | ⟨o,ho⟩
    · exact h.zlt b hb
    · exact h.lt (q:=(b,o)) (by simp [ho])
  · have h3:q∈(p::Ps).flatten:=by rw [List.flatten_cons];exact List.mem_append_right _ hq
    refine ⟨(h.own q h3).1,fun hb=> ?_⟩
    rcases hb with hb | ⟨o,ho⟩
    · exact (h.own q h3).2 hb
    · exact hnd.2.2 q.1 (List.mem_map.2 ⟨(q.1,o),ho,rfl⟩) q.1 (List.mem_map.2 ⟨q,hq,rfl⟩) rfl
inductive SetAt:List Part→Part→Part→List Part→Prop
  | z {p p':Part} {Ps:List Part} :SetAt (p::Ps) p p' (p'::Ps)
  | s {p p' r:Part} {Ps Ps':List Part} (h:SetAt Ps p p' Ps'):SetAt (r::Ps) p p' (r::Ps')
theorem SetAt.perm {Ps Ps':List Part} {p p':Part} (h:SetAt Ps p p' Ps'): ∃Qs,(p::Qs).flatten.Perm Ps.flatten∧Ps'.flatten.Perm (p'::Qs).flatten:=by
  induction h with
  | z=>exact ⟨_,List.Perm.refl _,List.Perm.refl _⟩
  | @s p p' r Ps Ps' h ih=>
    obtain ⟨Qs,h1,h2⟩:=ih
    refine ⟨r::Qs,?_,?_⟩
    · simp only [List.flatten_cons] at h1 ⊢
      have:=(List.perm_append_comm_assoc p r Qs.flatten).trans (h1.append_left r)
      exact this
    · simp only [List.flatten_cons] at h2 ⊢
      exact (h2.append_left r).trans (List.perm_append_comm_assoc r p' Qs.flatten)
theorem St.setAt {Z:Nat→Prop} {w w':World} {Ps Ps':List Part} {p p':Part} {As:List Fact} (h:St Z w Ps As) (hp:SetAt Ps p p' Ps') (k: ∀ {Qs},St Z w (p::Qs) As→St Z w' (p'::Qs) As):St Z w' Ps' As:=by
  obtain ⟨Qs,h1,h2⟩:=hp.perm
  exact (k (h.permParts h1)).permParts h2
inductive DelAt:List Part→Part→List Part→Prop
  | z {p:Part} {Ps:List Part} :DelAt (p::Ps) p Ps
  | s {p r:Part} {Ps Ps':List Part} (h:DelAt Ps p Ps'):DelAt (r::Ps) p (r::Ps')
theorem DelAt.perm {Ps Ps':List Part} {p:Part} (h:DelAt Ps p Ps'):(p::Ps').flatten.Perm Ps.flatten:=by
  induction h with
  | z=>exact List.Perm.refl _
  | @s p r Ps Ps' h ih=>
    simp only [List.flatten_cons] at ih ⊢
    exact (List.perm_append_comm_assoc p r Ps'.flatten).trans (ih.append_left r)
inductive SetL:List Value→Nat→Value→List Value→Prop
  | z {x v:Value} {cs:List Value} :SetL (x::cs) 0 v (v::cs)
  | s {x v:Value} {cs cs':List Value} {k:Nat} (h:SetL cs k v cs'):SetL (x::cs) (k+1) v (x::cs')
theorem SetL.eq {cs cs':List Value} {k:Nat} {v:Value} (h:SetL cs k v cs'):k<cs.length∧cs'=cs.set k v:=by
  induction h with
  | z=>simp
  | s h ih=>obtain ⟨h1,h2⟩:=ih;subst h2;simp;omega
theorem setCell_block {w:World} {b k:Nat} {cs:List Value} {T:TypeId} (h:w.heap[b]? =some (JB cs T)) (v:Value):(w.setCell ⟨b,k,none⟩ v).heap[b]? =some (JB (cs.set k v) T):=by
  simp [World.setCell,h,Array.getElem?_modify,JB]
theorem setCell_other {w:World} {b b' k:Nat} (v:Value) (h:b'≠b):(w.setCell ⟨b,k,none⟩ v).heap[b']? =w.heap[b']? :=by
  simp only [World.setCell,Array.getElem?_modify]
  rw [if_neg (fun e=>h e.symm)]
theorem St.setCell {Z:Nat→Prop} {w:World} {Ps:List Part} {As:List Fact} {b k:Nat} {cs:List Value} {T:TypeId} (h:St Z w ([(b,JB cs T)] ::Ps) As) (v:Value):St Z (w.setCell ⟨b,k,none⟩ v) ([(b,JB (cs.set k v) T)] ::Ps) As:=by
  have hb:w.heap[b]? =some (JB cs T):=(h.own (b,_) (by simp)).1
  refine h.turn rfl rfl rfl (by simp [World.setCell]) (fun b' hb' hn=>setCell_other v (fun e=>hn _ (by subst e;exact List.mem_singleton.2 rfl))) (fun q hq=> ?_) (by simp)
  simp only [List.mem_singleton] at hq
  subst hq
  exact ⟨setCell_block hb v, .inl ⟨JB cs T,List.mem_singleton.2 rfl⟩⟩
theorem QQ {P:Program} {w:World} {b k:Nat} {cs:List Value} {T:TypeId} {v:Value} (h:w.heap[b]? =some (JB cs T)) (hk:k<cs.length) (hv:v.oneCell'=true):(store ⟨b,k,none⟩ v).run P w= .ok () (w.setCell ⟨b,k,none⟩ v):=by
  rw [run_store P w _ v _ hv]
  have h1:w.cell? ⟨b,k,none⟩=some cs[k] :=by simp [World.cell?,h,JB,hk]
  have h2:w.frozen? ⟨b,k,none⟩=false:=by simp [World.frozen?,h,JB]
  rw [h1,h2];rfl
def setAll:List Value→Nat→List Value→List Value
  | cs,_,[] =>cs
  | cs,k,v::vs=>setAll (cs.set k v) (k+1) vs
theorem VQ: ∀(vs cs:List Value) (k:Nat),(setAll cs k vs).length=cs.length
  | [],_,_=>rfl
  | v::vs,cs,k=>by rw [setAll,VQ vs];simp
theorem Qk {P:Program} {b:Nat} {T:TypeId} {Z:Nat→Prop} {Ps:List Part} {As:List Fact} : ∀(vs:List Value) (w:World) (cs:List Value) (o i:Nat),St Z w ([(b,JB cs T)] ::Ps) As→o+i+vs.length≤cs.length→(∀v∈vs,v.oneCell'=true)→
    ∃w',(storeCells ⟨b,o,none⟩ vs i).run P w= .ok () w'∧St Z w' ([(b,JB (setAll cs (o+i) vs) T)] ::Ps) As
  | [],w,cs,o,i,h,_,_=>⟨w,rfl,h⟩
  | v::vs,w,cs,o,i,h,hl,hv=>by
    have hb:w.heap[b]? =some (JB cs T):=(h.own (b,_) (by simp)).1
    simp only [List.length_cons] at hl
    obtain ⟨w',h1,h2⟩:=Qk vs (w.setCell ⟨b,o+i,none⟩ v) (cs.set (o+i) v) o (i+1) (h.setCell v) (by simp;omega) (fun u hu=>hv u (List.mem_cons_of_mem _ hu))
    refine ⟨w',?_,h2⟩
    rw [storeCells,Sem.run_bind,KT,QQ hb (by omega) (hv v List.mem_cons_self)]
    exact h1
section
variable {P:Program} {n:Dm} {R:Post} {l:Fr} {Ps Ps':List Part} {As:List Fact} {ty:TypeId} {pos:String} {aft:Array Edge} {g:Option (Nat×Bool)} {K:Nx}
theorem KU {d:Nat} {o:Oper} (ho:o.dst=some d) (hd:d<n.sz) (h: ∀Z w (ρ:Operand→Value),St Z w Ps As→(∀x v,evs l x=some v→ρ x=v)→ ∃v w' Z' Ps' As',(execOp ρ o).run P w= .ok (.value v) w'∧St Z' w' Ps' As'∧K ((d,v)::l) Ps' As'):OW P n R l Ps As o K:=by
  intro Z w a hs ha
  obtain ⟨v,w',Z',Ps',As',h1,h2,h3⟩:=h Z w a.eval hs fun x v hx=>ha.eval hx
  unfold Oper.wp
  rw [h1]
  exact ⟨(d,v)::l,Z',Ps',As',by rw [ho];exact ha.put hd v,h2,h3⟩
theorem Xf {o:Oper} (ho:o.dst=none) (h: ∀Z w (ρ:Operand→Value),St Z w Ps As→(∀x v,evs l x=some v→ρ x=v)→ ∃w' Z' Ps' As',(execOp ρ o).run P w= .ok .skip w'∧St Z' w' Ps' As'∧K l Ps' As'):OW P n R l Ps As o K:=by
  intro Z w a hs ha
  obtain ⟨w',Z',Ps',As',h1,h2,h3⟩:=h Z w a.eval hs fun x v hx=>ha.eval hx
  unfold Oper.wp
  rw [h1]
  exact ⟨l,Z',Ps',As',by rw [ho];exact ha,h2,h3⟩
theorem J9 {d:Nat} {T:TypeId} {x:Operand} {v:Value} {cs:List Value} (hx:evs l x=some v) (hc:v.cells=cs.toArray) (hd:d<n.sz)
    (h: ∀b,K ((d, .pointer (some ⟨b,0,none⟩))::l) ([(b,JB cs T)] ::Ps) As):OW P n R l Ps As ⟨some d, .box T x,ty,pos,aft,g⟩ K:=
  KU rfl hd fun Z w ρ hs hρ=>⟨_,_,Z,_,As,by simp only [execOp,hρ _ _ hx];rfl,by rw [hc];exact hs.alloc _,h _⟩
theorem Ju {d:Nat} {T:TypeId} {z:Value} {sz by_:Nat} {cs:List Value} (ht:ti P T=some (some z,sz,by_)) (hc:z.cells=cs.toArray) (hd:d<n.sz)
    (h: ∀b,K ((d, .pointer (some ⟨b,0,none⟩))::l) ([(b,JB cs T)] ::Ps) As):OW P n R l Ps As ⟨some d, .alloc T,ty,pos,aft,g⟩ K:=
  KU rfl hd fun Z w ρ hs hρ=>⟨_,_,Z,_,As,by
    simp only [execOp,Instr.alloc,Sem.run_bind,Y6 ht,Result.andThen_ok];rfl,by rw [hc];exact hs.alloc _,h _⟩
theorem JJ {T:TypeId} {x y:Operand} {b o:Nat} {v:Value} {cs cs':List Value} {T':TypeId} {z:Option Value} {by_:Nat} (ht:ti P T=some (z,1,by_)) (hx:evs l x=some (.pointer (some ⟨b,o,none⟩))) (hy:evs l y=some v) (hv:v.oneCell'=true)
    (hc:SetL cs o v cs') (hp:SetAt Ps [(b,JB cs T')] [(b,JB cs' T')] Ps') (h:K l Ps' As):OW P n R l Ps As ⟨none, .store T x y,ty,pos,aft,g⟩ K:=
  Xf rfl fun Z w ρ hs hρ=>by
    obtain ⟨h1,h2⟩:=hc.eq
    have hb:w.heap[b]? =some (JB cs T'):=by
      obtain ⟨Qs,h3,h4⟩:=hp.perm
      exact ((hs.permParts h3).own (b,_) (by simp)).1
    have hcell:v.cells= #[v] :=by cases v<;>first | rfl | (simp [Value.oneCell'] at hv;done)
    refine ⟨w.setCell ⟨b,o,none⟩ v,Z,Ps',As,?_,?_,h⟩
    · simp only [execOp,hρ _ _ hx,hρ _ _ hy,Instr.storeAt,Instr.sureAddr,storeVar,Sem.run_bind,Sem.run_pure,Result.andThen_ok,KO ht,hcell]
      simp [storeCells,KT,QQ hb h1 hv]
    · subst h2;exact hs.setAt hp fun h=>h.setCell v
theorem Jq {T:TypeId} {x y:Operand} {b o sz:Nat} {vs cs cs':List Value} {T':TypeId} {z:Option Value} {by_:Nat} (ht:ti P T=some (z,sz,by_)) (hx:evs l x=some (.pointer (some ⟨b,o,none⟩))) (hy:evs l y=some (.agg vs.toArray)) (hl:vs.length=sz) (hv:vs.all Value.oneCell'=true)
    (hc:setAll cs o vs=cs') (ho:o+vs.length≤cs.length) (hp:SetAt Ps [(b,JB cs T')] [(b,JB cs' T')] Ps') (h:K l Ps' As):OW P n R l Ps As ⟨none, .store T x y,ty,pos,aft,g⟩ K:=
  Xf rfl fun Z w ρ hs hρ=>by
    subst hc
    obtain ⟨Qs,h3,h4⟩:=hp.perm
    obtain ⟨w',h5,h6⟩:=Qk (P:=P) vs w cs o 0 (hs.permParts h3) (by omega) (fun v hv'=>List.all_eq_true.1 hv v hv')
    refine ⟨w',Z,Ps',As,?_,(by simpa using h6:St Z w' ([(b,JB (setAll cs o vs) T')] ::Qs) As).permParts h4,h⟩
    simp only [execOp,hρ _ _ hx,hρ _ _ hy,Instr.storeAt,Instr.sureAddr,storeVar,Sem.run_bind,Sem.run_pure,Result.andThen_ok,KO ht,Value.cells]
    simp only [List.size_toArray,hl,ne_eq,not_true_eq_false,if_false,List.toList_toArray]
    simp [h5]
end
structure De (α:Type) where
  sz:Nat
  rep:(Nat→Prop)→World→α→List Value→Prop
  len: ∀ {Z w x cs},rep Z w x cs→cs.length=sz
  one: ∀ {Z w x cs},rep Z w x cs→cs.all Value.oneCell'=true
  stable: ∀ {x cs} {Z Z':Nat→Prop} {w w':World},(∀b,Z b→Z' b)→(∀b,Z b→w'.heap[b]? =w.heap[b]?)→w'.os=w.os→w'.tape=w.tape→w'.output=w.output→rep Z w x cs→rep Z' w' x cs
inductive Reps {α:Type} (r:α→List Value→Prop):List α→List (List Value)→Prop
  | nil:Reps r [] []
  | cons {x:α} {cs:List Value} {xs:List α} {css:List (List Value)} (h:r x cs) (hr:Reps r xs css):Reps r (x::xs) (cs::css)
section
variable {α:Type} {r r':α→List Value→Prop} {xs ys:List α} {css dss:List (List Value)}
theorem Reps.mono (h:Reps r xs css) (hr: ∀x cs,r x cs→r' x cs):Reps r' xs css:=by
  induction h with
  | nil=>exact .nil
  | cons h _ ih=>exact .cons (hr _ _ h) ih
theorem Reps.length (h:Reps r xs css):css.length=xs.length:=by
  induction h with
  | nil=>rfl
  | cons _ _ ih=>simp [ih]
theorem Reps.append (h:Reps r xs css) (h':Reps r ys dss):Reps r (xs++ys) (css++dss):=by
  induction h with
  | nil=>exact h'
  | cons h _ ih=>exact .cons h ih
theorem Reps.at (h:Reps r xs css): ∀(i:Nat) (x:α),xs[i]? =some x→ ∃cs,css[i]? =some cs∧r x cs:=by
  induction h with
  | nil=>intro i x hi;simp at hi
  | @cons y cs ys css h _ ih=>
    intro i x hi
    cases i with
    | zero=>simp at hi;subst hi;exact ⟨cs,by simp,h⟩
    | succ i=>simpa using ih i x (by simpa using hi)
theorem Reps.set (h:Reps r xs css): ∀(i:Nat) (x:α) (cs:List Value),r x cs→Reps r (xs.set i x) (css.set i cs):=by
  induction h with
  | nil=>intro i x cs hx;simp;exact .nil
  | @cons y ds ys css h hr ih=>
    intro i x cs hx
    cases i with
    | zero=>exact .cons hx hr
    | succ i=>exact .cons h (ih i x cs hx)
theorem Reps.drop (h:Reps r xs css): ∀k,Reps r (xs.drop k) (css.drop k):=by
  induction h with
  | nil=>intro k;simp;exact .nil
  | cons h hr ih=>intro k;cases k with | zero=>exact .cons h hr | succ k=>simpa using ih k
theorem Reps.take (h:Reps r xs css): ∀k,Reps r (xs.take k) (css.take k):=by
  induction h with
  | nil=>intro k;simp;exact .nil
  | cons h hr ih=>intro k;cases k with | zero=>simp;exact .nil | succ k=>simpa using Reps.cons h (ih k)
theorem YJ {sz:Nat} : ∀ {css:List (List Value)},(∀cs∈css,cs.length=sz)→css.flatten.length=css.length*sz
  | [],_=>by simp
  | cs::css,h=>by
    rw [List.flatten_cons,List.length_append,h cs List.mem_cons_self,YJ (fun c hc=>h c (List.mem_cons_of_mem _ hc)),List.length_cons,Nat.add_mul];omega
theorem Ey {sz:Nat} : ∀ {css:List (List Value)} (h: ∀cs∈css,cs.length=sz) (i:Nat) (cs:List Value),css[i]? =some cs→ ∀j v,cs[j]? =some v→css.flatten[i*sz+j]? =some v
  | [],_,i,cs,hi,j,v,hj=>by simp at hi
  | c::css,h,0,cs,hi,j,v,hj=>by
    simp at hi;subst hi
    have hlt:j<c.length:=by
      rcases Nat.lt_or_ge j c.length with h | h
      · exact h
      · simp [List.getElem?_eq_none h] at hj
    rw [List.flatten_cons,Nat.zero_mul,Nat.zero_add,List.getElem?_append_left hlt];exact hj
  | c::css,h,i+1,cs,hi,j,v,hj=>by
    rw [List.flatten_cons,List.getElem?_append_right (by rw [h c List.mem_cons_self,Nat.add_mul];omega),h c List.mem_cons_self]
    have:(i+1)*sz+j-sz=i*sz+j:=by rw [Nat.add_mul];omega
    rw [this]
    exact Ey (fun c hc=>h c (List.mem_cons_of_mem _ hc)) i cs (by simpa using hi) j v hj
theorem VH {sz:Nat} : ∀ {css:List (List Value)} (h: ∀cs∈css,cs.length=sz) (k:Nat),(css.drop k).flatten=css.flatten.drop (k*sz)
  | [],_,k=>by simp
  | c::css,h,0=>by simp
  | c::css,h,k+1=>by
    have h1:c.drop ((k+1)*sz)= [] :=List.drop_eq_nil_of_le (by rw [h c List.mem_cons_self,Nat.add_mul];omega)
    rw [List.drop_succ_cons,VH (fun c hc=>h c (List.mem_cons_of_mem _ hc)),List.flatten_cons,List.drop_append,h1,List.nil_append,h c List.mem_cons_self]
    congr 1;rw [Nat.add_mul];omega
end
theorem Reps.lens {α:Type} {e:De α} {Z:Nat→Prop} {w:World} {xs:List α} {css:List (List Value)} (h:Reps (e.rep Z w) xs css): ∀cs∈css,cs.length=e.sz:=by
  induction h with
  | nil=>intro cs hc;cases hc
  | cons h _ ih=>intro cs hc;rcases List.mem_cons.1 hc with rfl | hc;exact e.len h;exact ih cs hc
theorem Reps.ones {α:Type} {e:De α} {Z:Nat→Prop} {w:World} {xs:List α} {css:List (List Value)} (h:Reps (e.rep Z w) xs css): ∀v∈css.flatten,v.oneCell'=true:=by
  induction h with
  | nil=>intro v hv;simp at hv
  | cons h _ ih=>
    intro v hv
    rw [List.flatten_cons] at hv
    rcases List.mem_append.1 hv with hv | hv
    · exact List.all_eq_true.1 (e.one h) v hv
    · exact ih v hv
def RdS {α:Type} (e:De α) (Z:Nat→Prop) (w:World) (A:Option Addr) (cap:Nat) (xs:List α):Prop:=
  xs.length≤cap∧cap≤maxLen∧((xs= [] ∧(A=none→cap=0))∨ ∃b q css,A=some ⟨b,q,none⟩∧Z b∧Reps (e.rep Z w) xs css∧CellsAt w b q css.flatten)
theorem CellsAt.keep {w w':World} {b q:Nat} {cs:List Value} (h:CellsAt w b q cs) (hh:w'.heap[b]? =w.heap[b]?):CellsAt w' b q cs:=by
  obtain ⟨full,T,fr,h1,h2⟩:=h
  exact ⟨full,T,fr,hh.trans h1,h2⟩
def RdF {α:Type} (e:De α) (A:Option Addr) (cap:Nat) (xs:List α):Fact where
  holds Z w:=RdS e Z w A cap xs
  stable hz hh h1 h2 h3 h:=by
    obtain ⟨g1,g2,g3 | ⟨b,q,css,g3,g4,g5,g6⟩⟩:=h
    · exact ⟨g1,g2, .inl g3⟩
    · exact ⟨g1,g2, .inr ⟨b,q,css,g3,hz _ g4,g5.mono fun x cs=>e.stable hz hh h1 h2 h3,g6.keep (hh _ g4)⟩⟩
def RepsF {α:Type} (e:De α) (xs:List α) (css:List (List Value)):Fact where
  holds Z w:=Reps (e.rep Z w) xs css
  stable hz hh h1 h2 h3 h:=h.mono fun x cs=>e.stable hz hh h1 h2 h3
theorem RdS.nil {α:Type} (e:De α) (Z:Nat→Prop) (w:World):RdS e Z w none 0 [] :=⟨by simp,by simp [maxLen], .inl ⟨rfl,fun _=>rfl⟩⟩
def De.int (k:IntKind):De Int where
  sz:=1
  rep _ _ x cs:=cs= [.int k x]
  len h:=by subst h;rfl
  one h:=by subst h;rfl
  stable _ _ _ _ _ h:=h
def De.str:De ByteArray where
  sz:=1
  rep _ _ x cs:=cs= [.string x]
  len h:=by subst h;rfl
  one h:=by subst h;rfl
  stable _ _ _ _ _ h:=h
def De.sl {α:Type} (e:De α):De (List α) where
  sz:=1
  rep Z w xs cs:= ∃A cap,cs= [.slice A xs.length cap] ∧RdS e Z w A cap xs
  len h:=by obtain ⟨A,cap,rfl,_⟩:=h;rfl
  one h:=by obtain ⟨A,cap,rfl,_⟩:=h;rfl
  stable hz hh h1 h2 h3 h:=by
    obtain ⟨A,cap,g1,g2⟩:=h
    exact ⟨A,cap,g1,(RdF e A cap _).stable hz hh h1 h2 h3 g2⟩
def Row (T:TypeId) (sz:Nat) (v:Value) (n:Nat) (cs:List Value) (p:Part):Prop:=
  cs.length=n*sz∧((v= .slice none 0 0∧n=0∧p= [])∨
    ∃b cap jk,v= .slice (some ⟨b,0,none⟩) n cap∧p= [(b,JB (cs++jk) T)] ∧(cs++jk).length=cap*sz∧n≤cap∧cap≤maxLen)
theorem Row.nil (T:TypeId) (sz:Nat):Row T sz (.slice none 0 0) 0 [] [] :=⟨by simp, .inl ⟨rfl,rfl,rfl⟩⟩
theorem Row.slice {T:TypeId} {sz n:Nat} {v:Value} {cs:List Value} {p:Part} (h:Row T sz v n cs p): ∃A cap,v= .slice A n cap:=by
  rcases h.2 with ⟨rfl,rfl,_⟩ | ⟨b,cap,jk,rfl,_⟩
  · exact ⟨none,0,rfl⟩
  · exact ⟨_,cap,rfl⟩
theorem Row.owns {T:TypeId} {sz n:Nat} {v:Value} {cs:List Value} {p:Part} {Z:Nat→Prop} {w:World} {Ps:List Part} {As:List Fact} (h:Row T sz v n cs p) (hs:St Z w (p::Ps) As):w.ownsRow 0 T sz v n cs:=by
  refine ⟨h.1,?_⟩
  rcases h.2 with ⟨rfl,rfl,_⟩ | ⟨b,cap,jk,rfl,rfl,h1,h2,h3⟩
  · exact .inl ⟨rfl,rfl⟩
  · refine .inr ⟨b,cap,(cs++jk).toArray,rfl,Nat.zero_le _,(hs.own (b,JB (cs++jk) T) (by simp)).1,h2,h3,by simpa using h1,?_⟩
    rw [List.toList_toArray,←h.1,List.take_left]
theorem Row.freeze {α:Type} {e:De α} {T:TypeId} {v:Value} {n:Nat} {p:Part} {css:List (List Value)} {xs:List α} {Z:Nat→Prop} {w:World} {Ps:List Part} {As:List Fact} (h:Row T e.sz v n css.flatten p) (hn:n=xs.length) (hs:St Z w (p::Ps) As) (hr:Reps (e.rep Z w) xs css):
    ∃A cap,v= .slice A xs.length cap∧RdS e (fun b=>Z b∨ ∃o,(b,o)∈p) w A cap xs:=by
  subst hn
  rcases h.2 with ⟨rfl,h1,_⟩ | ⟨b,cap,jk,rfl,rfl,h1,h2,h3⟩
  · have:xs= [] :=List.length_eq_zero_iff.1 h1
    subst this
    exact ⟨none,0,rfl,RdS.nil _ _ _⟩
  · refine ⟨_,cap,rfl,h2,h3, .inr ⟨b,0,css,rfl, .inr ⟨_,List.mem_singleton.2 rfl⟩,hr.mono fun x cs=>e.stable (fun _ hb=> .inl hb) (fun _ _=>rfl) rfl rfl rfl,?_⟩⟩
    refine ⟨_,_,_,(hs.own (b,JB (css.flatten++jk) T) (by simp)).1,fun j u hu=> ?_⟩
    have hlt:j<css.flatten.length:=by
      rcases Nat.lt_or_ge j css.flatten.length with h | h
      · exact h
      · simp [List.getElem?_eq_none h] at hu
    simp only [Nat.zero_add,List.getElem?_toArray]
    rw [List.getElem?_append_left hlt];exact hu
section
variable {P:Program} {n:Dm} {R:Post} {l:Fr} {Ps Ps':List Part} {As:List Fact} {ops:Array Oper} {rest:List Oper} {ty:TypeId} {pos:String} {aft:Array Edge} {g:Option (Nat×Bool)} {K:Nx} {d:Nat}
theorem HY {c:Code} {β:Type} {Fs:β→List Fact} {p:β→Prop} {A:Fact} (hA:A∈As) (hx: ∀Z w,A.holds Z w→ ∃x,p x∧ ∀B∈Fs x,B.holds Z w) (h: ∀x,p x→WC P n c R l Ps (Fs x++As)):WC P n c R l Ps As:=by
  intro Z w a hs ha
  obtain ⟨x,h1,h2⟩:=hx Z w (hs.facts A hA)
  exact h x h1 Z w a ⟨hs.zlt,hs.own,hs.nodup,fun B hB=>by rcases List.mem_append.1 hB with h | h;exact h2 B h;exact hs.facts B h⟩ ha
theorem Jbo {A:Fact} (hA: ∀Z w,St Z w Ps As→A.holds Z w) (h:WL P n ops R rest l Ps (A::As)):WL P n ops R rest l Ps As:=fun Z w a hs ha=>h Z w a (hs.addFact (hA Z w hs)) ha
theorem Ke {c:Code} {A:Fact} (hA: ∀Z w,St Z w Ps As→A.holds Z w) (h:WC P n c R l Ps (A::As)):WC P n c R l Ps As:=fun Z w a hs ha=>h Z w a (hs.addFact (hA Z w hs)) ha
theorem St.freezeRow {α:Type} {e:De α} {T:TypeId} {v:Value} {m:Nat} {p:Part} {css:List (List Value)} {xs:List α} {Z:Nat→Prop} {w:World} (hs:St Z w Ps As) (hp:DelAt Ps p Ps') (h:Row T e.sz v m css.flatten p) (hn:m=xs.length) (hr:RepsF e xs css∈As):
    ∃A cap Z',v= .slice A xs.length cap∧St Z' w Ps' (RdF e A cap xs::As):=by
  have h1:=hs.permParts hp.perm
  obtain ⟨A,cap,h2,h3⟩:=h.freeze hn h1 (hs.facts _ hr)
  exact ⟨A,cap,_,h2,h1.freeze.addFact h3⟩
theorem Ec {α:Type} {e:De α} {T:TypeId} {v:Value} {m:Nat} {p:Part} {css:List (List Value)} {xs:List α} (h:Row T e.sz v m css.flatten p) (hp:DelAt Ps p Ps') (hn:m=xs.length) (hr:RepsF e xs css∈As)
    (hk: ∀A cap,v= .slice A xs.length cap→WL P n ops R rest l Ps' (RdF e A cap xs::As)):WL P n ops R rest l Ps As:=fun Z w a hs ha=>by
  obtain ⟨A,cap,Z',h1,h2⟩:=hs.freezeRow hp h hn hr
  exact hk A cap h1 Z' w a h2 ha
theorem KJ {c:Code} {α:Type} {e:De α} {T:TypeId} {v:Value} {m:Nat} {p:Part} {css:List (List Value)} {xs:List α} (h:Row T e.sz v m css.flatten p) (hp:DelAt Ps p Ps') (hn:m=xs.length) (hr:RepsF e xs css∈As)
    (hk: ∀A cap,v= .slice A xs.length cap→WC P n c R l Ps' (RdF e A cap xs::As)):WC P n c R l Ps As:=fun Z w a hs ha=>by
  obtain ⟨A,cap,Z',h1,h2⟩:=hs.freezeRow hp h hn hr
  exact hk A cap h1 Z' w a h2 ha
theorem VY (h:WL P n ops R rest l ([] ::Ps) As):WL P n ops R rest l Ps As:=fun Z w a hs ha=>h Z w a hs.nilPart ha
theorem Ky {c:Code} (h:WC P n c R l ([] ::Ps) As):WC P n c R l Ps As:=fun Z w a hs ha=>h Z w a hs.nilPart ha
theorem J3 {x:Operand} {T E:TypeId} {A:Option Addr} {m c:Nat} {dd:Option Tmp} (hu:P.underlying T=some (.slice E)) (hx:evs l x=some (.slice A m c)):QR P l Ps As ⟨dd, .call ⟨.builtin .len,#[x],#[T]⟩,ty,pos,aft,g⟩ (.int .i64 m):=fun Z w ρ hs hρ=>by
  simp only [execOp,resolve,invoke,List.map_toArray,List.map_cons,List.map_nil,hρ _ _ hx,Sem.run_bind,Sem.run_pure,Result.andThen_ok]
  show ((do pure (Next.value (←Builtin.len_ #[T] ty #[.slice A m c])):Sem Next)).run P w=_
  simp [Builtin.len_,run_underlying hu,goInt]
theorem Hk {x:Operand} {T:TypeId} {s:ByteArray} {dd:Option Tmp} (hu:P.underlying T=some .string) (hx:evs l x=some (.string s)):QR P l Ps As ⟨dd, .call ⟨.builtin .len,#[x],#[T]⟩,ty,pos,aft,g⟩ (.int .i64 s.size):=fun Z w ρ hs hρ=>by
  simp only [execOp,resolve,invoke,List.map_toArray,List.map_cons,List.map_nil,hρ _ _ hx,Sem.run_bind,Sem.run_pure,Result.andThen_ok]
  show ((do pure (Next.value (←Builtin.len_ #[T] ty #[.string s])):Sem Next)).run P w=_
  simp [Builtin.len_,run_underlying hu,goInt]
theorem Xv {T E:TypeId} {b q len cap:Nat} {i:Int} {z:Option Value} {sz by_:Nat} {w:World} (hu:P.underlying T=some (.slice E)) (ht:ti P E=some (z,sz,by_)) (h0:0≤i) (h1:i<len):(Instr.indexAt T (.slice (some ⟨b,q,none⟩) len cap) (.int .i64 i)).run P w= .ok (.pointer (some ⟨b,q+i.toNat* sz,none⟩)) w:=by
  simp [Instr.indexAt,asIntOf,run_underlying hu,h0,h1,KO ht,KT]
theorem Yf {T E:TypeId} {x ix:Operand} {b o o' len:Nat} {k:IntKind} {i:Int} {z:Option Value} {sz by_:Nat} {dd:Option Tmp} (hu:P.underlying T=some (.array len E)) (ht:ti P E=some (z,sz,by_)) (hx:evs l x=some (.pointer (some ⟨b,o,none⟩))) (hi:evs l ix=some (.int k i)) (h0:0≤i) (h1:i<len) (ho:o+i.toNat* sz=o'):
    QR P l Ps As ⟨dd, .indexAddr T x ix,ty,pos,aft,g⟩ (.pointer (some ⟨b,o',none⟩)):=fun Z w ρ hs hρ=>by
  subst ho
  simp only [execOp,hρ _ _ hx,hρ _ _ hi]
  have:(Instr.indexAt T (.pointer (some ⟨b,o,none⟩)) (.int k i)).run P w= .ok (.pointer (some ⟨b,o+i.toNat* sz,none⟩)) w:=by
    simp [Instr.indexAt,asIntOf,run_underlying hu,Instr.sureAddr,h0,h1,KO ht,KT]
  rw [Sem.run_bind,this];rfl
theorem Yb {T E:TypeId} {x ix:Operand} {b len cap:Nat} {i:Int} {z:Option Value} {sz by_:Nat} {dd:Option Tmp} (hu:P.underlying T=some (.slice E)) (ht:ti P E=some (z,sz,by_)) (hx:evs l x=some (.slice (some ⟨b,0,none⟩) len cap)) (hi:evs l ix=some (.int .i64 i)) (h0:0≤i) (h1:i<len):
    QR P l Ps As ⟨dd, .indexAddr T x ix,ty,pos,aft,g⟩ (.pointer (some ⟨b,i.toNat* sz,none⟩)):=fun Z w ρ hs hρ=>by
  simp only [execOp,hρ _ _ hx,hρ _ _ hi];rw [Sem.run_bind,Xv hu ht h0 h1,Nat.zero_add];rfl
theorem K2 {T:TypeId} {x y:Operand} {b o:Nat} {v:Value} {cs:List Value} {T':TypeId} {z:Option Value} {by_:Nat} (ht:ti P T=some (z,1,by_)) (hx:evs l x=some (.pointer (some ⟨b,o,none⟩))) (hy:evs l y=some v) (hv:v.oneCell'=true)
    (hc:o<cs.length) (hp:SetAt Ps [(b,JB cs T')] [(b,JB (cs.set o v) T')] Ps') (h:K l Ps' As):OW P n R l Ps As ⟨none, .store T x y,ty,pos,aft,g⟩ K:=
  Xf rfl fun Z w ρ hs hρ=>by
    have hb:w.heap[b]? =some (JB cs T'):=by
      obtain ⟨Qs,h3,h4⟩:=hp.perm
      exact ((hs.permParts h3).own (b,_) (by simp)).1
    have hcell:v.cells= #[v] :=by cases v<;>first | rfl | (simp [Value.oneCell'] at hv;done)
    refine ⟨w.setCell ⟨b,o,none⟩ v,Z,Ps',As,?_,hs.setAt hp fun h=>h.setCell v,h⟩
    simp only [execOp,hρ _ _ hx,hρ _ _ hy,Instr.storeAt,Instr.sureAddr,storeVar,Sem.run_bind,Sem.run_pure,Result.andThen_ok,KO ht,hcell]
    simp [storeCells,KT,QQ hb hc hv]
theorem Gj {x y:Operand} {T T2:TypeId} {k:IntKind} {a b:Int} {dd:Option Tmp} (hx:evs l x=some (.int k a)) (hy:evs l y=some (.int k b)):QR P l Ps As ⟨dd, .call ⟨.builtin .min,#[x,y],#[T,T2]⟩,ty,pos,aft,g⟩ (.int k (min a b)):=fun Z w ρ hs hρ=>by
  have h2:Builtin.min2 (.int k a) (.int k b)=pure (.int k (min a b)):=by
    simp only [Builtin.min2];congr 2;omega
  simp only [execOp,resolve,invoke,List.map_toArray,List.map_cons,List.map_nil,hρ _ _ hx,hρ _ _ hy,Sem.run_bind,Sem.run_pure,Result.andThen_ok]
  show ((do pure (Next.value (←Builtin.min_ #[T,T2] ty #[.int k a, .int k b])):Sem Next)).run P w=_
  simp only [Builtin.min_,List.foldlM_cons,List.foldlM_nil,h2,Sem.run_bind,Sem.run_pure,Result.andThen_ok]
theorem VR {x y:Operand} {T T2:TypeId} {k:IntKind} {a b:Int} {dd:Option Tmp} (hx:evs l x=some (.int k a)) (hy:evs l y=some (.int k b)):QR P l Ps As ⟨dd, .call ⟨.builtin .max,#[x,y],#[T,T2]⟩,ty,pos,aft,g⟩ (.int k (max a b)):=fun Z w ρ hs hρ=>by
  have h2:Builtin.max2 (.int k a) (.int k b)=pure (.int k (max a b)):=by
    simp only [Builtin.max2];congr 2;omega
  simp only [execOp,resolve,invoke,List.map_toArray,List.map_cons,List.map_nil,hρ _ _ hx,hρ _ _ hy,Sem.run_bind,Sem.run_pure,Result.andThen_ok]
  show ((do pure (Next.value (←Builtin.max_ #[T,T2] ty #[.int k a, .int k b])):Sem Next)).run P w=_
  simp only [Builtin.max_,List.foldlM_cons,List.foldlM_nil,h2,Sem.run_bind,Sem.run_pure,Result.andThen_ok]
theorem Row.of_owns {T:TypeId} {sz m:Nat} {v v':Value} {cs:List Value} {p:Part} {Z:Nat→Prop} {w w':World} (hs:St Z w (p::Ps) As) {n0:Nat} {cs0:List Value} (hr:Row T sz v n0 cs0 p) (ho:w'.ownsRow 0 T sz v' m cs) (hg:w.grownBy w' v.ownBlock) (hw:v'.ownBlock=v.ownBlock∨v'.ownBlock=some w.heap.size):
    ∃p',Row T sz v' m cs p'∧St Z w' (p'::Ps) As:=by
  have hkeep: ∀b,b<w.heap.size→(∀o,(b,o)∉p)→w'.heap[b]? =w.heap[b]? :=fun b hb hn=>by
    refine hg.block b hb fun e=> ?_
    rcases hr.2 with ⟨rfl,_,_⟩ | ⟨g,cap,jk,rfl,rfl,_⟩
    · simp [Value.ownBlock] at e
    · have e:b=g:=by simpa [Value.ownBlock] using e
      subst e
      exact hn _ (List.mem_singleton.2 rfl)
  rcases ho.2 with ⟨rfl,rfl⟩ | ⟨b,cap,cur,rfl,_,hb,hnc,hcm,hsz,htk⟩
  · refine ⟨[],⟨ho.1, .inl ⟨rfl,rfl,rfl⟩⟩,hs.turn hg.os hg.tape hg.output hg.size hkeep (by simp) (by simp)⟩
  · have hcur:cur.toList=cs++cur.toList.drop (m*sz):=by rw [←htk];exact (List.take_append_drop _ _).symm
    refine ⟨[(b,JB (cs++cur.toList.drop (m*sz)) T)],⟨ho.1, .inr ⟨b,cap,cur.toList.drop (m*sz),rfl,rfl,by rw [←hcur];simpa using hsz,hnc,hcm⟩⟩,?_⟩
    refine hs.turn hg.os hg.tape hg.output hg.size hkeep (fun q hq=> ?_) (by simp)
    simp only [List.mem_singleton] at hq
    subst hq
    refine ⟨by rw [←hcur];simpa [JB] using hb,?_⟩
    rcases hw with hw | hw
    · rcases hr.2 with ⟨rfl,_,_⟩ | ⟨b',cap',jk',rfl,rfl,_⟩
      · simp [Value.ownBlock] at hw
      · have:b=b':=by simpa [Value.ownBlock] using hw
        subst this
        exact .inl ⟨_,List.mem_singleton.2 rfl⟩
    · have:b=w.heap.size:=by simpa [Value.ownBlock] using hw
      exact .inr (by omega)
theorem Ql {T E:TypeId} {zv:Value} {sz by_:Nat} {p:Part} {Z:Nat→Prop} {w:World} (hu:P.underlying T=some (.slice E)) (ht:ti P E=some (some zv,sz,by_)) (hz:zv.cells.size=sz) (hsz:0<sz) (hs:St Z w (p::Ps) As) {v:Value} {k:Nat} {cs:List Value} (hr:Row E sz v k cs p)
    {ad:Addr} {m c:Nat} {news:List Value} (hl:news.length=m*sz) (hn: ∀j u,news[j]? =some u→w.cell? (ad.add j)=some u) (h1: ∀u∈news,u.oneCell'=true) (h63:(k+m)*by_≤140737488355328) (hmx:k+m≤maxLen):
    ∃v' w' p',(Builtin.append_ #[T,T] ty #[v, .slice (some ad) m c]).run P w= .ok v' w'∧Row E sz v' (k+m) (cs++news) p'∧St Z w' (p'::Ps) As:=by
  unfold ti at ht
  cases hi:P.info? E with
  | none=>rw [hi] at ht;cases ht
  | some i=>
    rw [hi] at ht
    simp only [Option.map_some,Option.some.injEq,Prod.mk.injEq] at ht
    obtain ⟨v',w',g1,g2,g3,_,g5⟩:=run_append_own_at (P:=P) w 0 T ty E i zv sz by_ hu hi ht.1 ht.2.1 ht.2.2 hz hsz v k cs (hr.owns hs) ad m c news hl hn h1 hmx h63 (Nat.zero_le _)
    obtain ⟨p',k1,k2⟩:=Row.of_owns hs hr g2 g3 g5
    exact ⟨v',w',p',g1,k1,k2⟩
theorem XH {T E:TypeId} {z:Option Value} {sz by_:Nat} {p:Part} {Z:Nat→Prop} {w:World} (hu:P.underlying T=some (.slice E)) (ht:ti P E=some (z,sz,by_)) (hs:St Z w (p::Ps) As) {v:Value} {k:Nat} {cs:List Value} (hr:Row E sz v k cs p):
    (Builtin.append_ #[T,T] ty #[v, .slice none 0 0]).run P w= .ok v w:=by
  unfold ti at ht
  cases hi:P.info? E with
  | none=>rw [hi] at ht;cases ht
  | some i=>exact run_append_owned_none w 0 T ty E i sz hu hi v k cs (hr.owns hs)
theorem K8 {ρ:Operand→Value} {dd:Option Tmp} {x y:Operand} {T:TypeId} {u v:Value} (hx:ρ x=u) (hy:ρ y=v):execOp ρ ⟨dd, .call ⟨.builtin .append,#[x,y],#[T,T]⟩,ty,pos,aft,g⟩=(do pure (.value (←Builtin.append_ #[T,T] ty #[u,v]))):=by
  simp only [execOp,resolve,invoke,List.map_toArray,List.map_cons,List.map_nil,hx,hy];rfl
theorem KH {T E:TypeId} {x y:Operand} {zv:Value} {sz by_ k b c:Nat} {v:Value} {cs news:List Value} {T':TypeId} {p:Part} {Qs:List Part} (hu:P.underlying T=some (.slice E)) (ht:ti P E=some (some zv,sz,by_)) (hz:zv.cells.size=sz) (hsz:0<sz) (hx:evs l x=some v) (hy:evs l y=some (.slice (some ⟨b,0,none⟩) 1 c))
    (hr:Row E sz v k cs p) (hb:OwnAt Qs b (JB news T')) (hl:news.length=sz) (h1:news.all Value.oneCell'=true) (h63:(k+1)*by_≤140737488355328) (hmx:k+1≤maxLen) (hd:d<n.sz) (hQ:(p::Qs).flatten.Perm Ps.flatten)
    (h: ∀v' p',Row E sz v' (k+1) (cs++news) p'→K ((d,v')::l) (p'::Qs) As):OW P n R l Ps As ⟨some d, .call ⟨.builtin .append,#[x,y],#[T,T]⟩,ty,pos,aft,g⟩ K:=
  KU rfl hd fun Z w ρ hs hρ=>by
    have hs':=hs.permParts hQ
    have hc:CellsAt w b 0 news:=⟨_,_,_,hs'.block (Ji hb),fun j v hv=>by simpa using hv⟩
    obtain ⟨v',w',p',g1,g2,g3⟩:=Ql (ty:=ty) (c:=c) hu ht hz hsz hs' hr (ad:=⟨b,0,none⟩) (m:=1) (news:=news) (by simp [hl]) (fun j u hu=>by rw [KT];exact hc.cell hu) (fun u hu=>List.all_eq_true.1 h1 u hu) h63 hmx
    exact ⟨v',w',Z,_,As,by rw [K8 (hρ _ _ hx) (hρ _ _ hy),Sem.run_bind,g1];rfl,g3,h v' p' g2⟩
theorem YD {α:Type} {e:De α} {T E:TypeId} {x y:Operand} {zv:Value} {by_ k cap:Nat} {A:Option Addr} {v:Value} {cs:List Value} {ys:List α} {p:Part} {Qs:List Part} (hu:P.underlying T=some (.slice E)) (ht:ti P E=some (some zv,e.sz,by_)) (hz:zv.cells.size=e.sz) (hsz:0<e.sz) (hx:evs l x=some v) (hy:evs l y=some (.slice A ys.length cap))
    (hr:Row E e.sz v k cs p) (hA:RdF e A cap ys∈As) (h63:(k+ys.length)*by_≤140737488355328) (hmx:k+ys.length≤maxLen) (hd:d<n.sz) (hQ:(p::Qs).flatten.Perm Ps.flatten)
    (h: ∀v' p' css,Row E e.sz v' (k+ys.length) (cs++css.flatten) p'→K ((d,v')::l) (p'::Qs) (RepsF e ys css::As)):OW P n R l Ps As ⟨some d, .call ⟨.builtin .append,#[x,y],#[T,T]⟩,ty,pos,aft,g⟩ K:=
  KU rfl hd fun Z w ρ hs hρ=>by
    have hs':=hs.permParts hQ
    obtain ⟨g1,g2,⟨rfl,g3⟩ | ⟨b,q,css,rfl,g4,g5,g6⟩⟩:RdS e Z w A cap ys:=hs.facts _ hA
    · have hk:St Z w (p::Qs) (RepsF e [] [] ::As):=hs'.addFact (A:=RepsF e [] []) Reps.nil
      rcases A with _ | ad
      · have:=g3 rfl;subst this
        exact ⟨v,w,Z,_,_,by rw [K8 (hρ _ _ hx) (hρ _ _ hy),Sem.run_bind];erw [XH hu ht hs' hr];rfl,hk,h v p [] (by simpa using hr)⟩
      · obtain ⟨v',w',p',k1,k2,k3⟩:=Ql (ty:=ty) (c:=cap) hu ht hz hsz hk hr (ad:=ad) (m:=0) (news:= []) (by simp) (by simp) (by simp) h63 hmx
        exact ⟨v',w',Z,_,_,by rw [K8 (hρ _ _ hx) (hρ _ _ hy),Sem.run_bind];erw [k1];rfl,k3,h v' p' [] (by simpa using k2)⟩
    · obtain ⟨v',w',p',k1,k2,k3⟩:=Ql (ty:=ty) (c:=cap) hu ht hz hsz (hs'.addFact (A:=RepsF e ys css) g5) hr (ad:=⟨b,q,none⟩) (m:=ys.length) (news:=css.flatten) (by rw [YJ g5.lens,g5.length]) (fun j u hu=>by rw [KT];exact g6.cell hu) (fun u hu=>g5.ones u hu) h63 hmx
      exact ⟨v',w',Z,_,_,by rw [K8 (hρ _ _ hx) (hρ _ _ hy),Sem.run_bind,k1];rfl,k3,h v' p' css k2⟩
theorem G1: ∀(L:List Value) (A:Array Value) (k:Nat),k+L.length≤A.size→(L.zipIdx k).foldl (fun cs (p:Value×Nat)=>cs.setIfInBounds p.2 p.1) A=(A.toList.take k++(L++A.toList.drop (k+L.length))).toArray
  | [],A,k,_=>by simp
  | v::L,A,k,h=>by
    simp only [List.length_cons] at h
    rw [List.zipIdx_cons,List.foldl_cons,G1 L _ (k+1) (by simp;omega)]
    apply Array.ext'
    simp only [Array.toList_setIfInBounds,List.length_cons]
    have hk:k<A.toList.length:=by simp;omega
    rw [List.set_eq_take_append_cons_drop,if_pos hk]
    have e1:(A.toList.take k).length=k:=by simp;omega
    have e5:(A.toList.take k++v::A.toList.drop (k+1)).take (k+1)=A.toList.take k++ [v] :=by
      rw [List.take_append,e1,List.take_of_length_le (by rw [e1];omega),show k+1-k=1 from by omega]
      rfl
    have e6:(A.toList.take k++v::A.toList.drop (k+1)).drop (k+1+L.length)=A.toList.drop (k+(L.length+1)):=by
      rw [List.drop_append,e1,List.drop_eq_nil_of_le (by rw [e1];omega),List.nil_append,show k+1+L.length-k=L.length+1 from by omega,List.drop_succ_cons,List.drop_drop]
      congr 1;omega
    rw [e5,e6]
    simp
theorem Jaa {sz:Nat} {v:Value} {cells:Array Value} (h1:v.cells.size=sz) (h2:cells.size=sz):Instr.fill (fun i=>some (i*sz,sz)) cells [(0,v)] =some v.cells:=by
  unfold Instr.fill
  simp only [Nat.zero_mul,Nat.zero_add,h1,h2,ne_eq,not_true_eq_false,decide_false,Bool.false_or,Nat.lt_irrefl,Instr.fill]
  simp only [gt_iff_lt,Nat.lt_irrefl,decide_false,Bool.false_eq_true,if_false]
  congr 1
  have h3:=G1 v.cells.toList cells 0 (by simp;omega)
  rw [←Array.foldl_toList,Array.toList_zipIdx]
  refine h3.trans ?_
  rw [List.drop_eq_nil_of_le (by simp;omega)]
  simp
theorem KF {T E:TypeId} {zv v:Value} {x:Operand} {sz by_:Nat} {cs:List Value} (hu:P.underlying T=some (.slice E)) (ht:ti P E=some (some zv,sz,by_)) (hsz:0<sz) (hs2:sz≤1000) (hz:zv.cells.size=sz) (hx:evs l x=some v) (hc:v.cells=cs.toArray) (hl:cs.length=sz) (hd:d<n.sz)
    (h: ∀b,K ((d, .slice (some ⟨b,0,none⟩) 1 1)::l) ([(b,JB cs E)] ::Ps) As):OW P n R l Ps As ⟨some d, .buildSlice T 1 #[(0,x)],ty,pos,aft,g⟩ K:=
  KU rfl hd fun Z w ρ hs hρ=>by
    refine ⟨_,w.alloc (JB cs E),Z,_,As,?_,hs.alloc _,h w.heap.size⟩
    have hrun:(Instr.buildSlice T 1 #[(0,v)]).run P w= .ok (.slice (some ⟨w.heap.size,0,none⟩) 1 1) (w.alloc (JB cs E)):=by
      have hcs:v.cells.size=sz:=by rw [hc];simpa using hl
      unfold Instr.buildSlice
      simp only [Sem.run_bind,run_underlying hu,Result.andThen_ok,KO ht]
      rw [if_neg (by simp;omega),if_neg (by omega)]
      simp only [Sem.run_bind,Y6 ht,Result.andThen_ok,Sem.run_pure]
      rw [Jaa hcs (by simp),hc]
      simp only [Sem.run_bind,newRow,run_newObj,Result.andThen_ok,Sem.run_pure]
      rfl
    simp only [execOp,List.map_toArray,List.map_cons,List.map_nil,hρ _ _ hx,Sem.run_bind,hrun];rfl
end
end Go.GW
