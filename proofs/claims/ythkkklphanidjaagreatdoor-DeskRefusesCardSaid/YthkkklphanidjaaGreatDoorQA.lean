/- Part of the proof that this claim's law answers true, whatever its arguments. Condition: the laid variables hold what their initialisers lay (the card ties that to the program's text). -/
import Derived.Tactics2
import Derived.WalkKit
import Derived.Laws.Cells
import Derived.KernelRfl
import Derived.WideLaws
import Derived.Laws.Unary
import Derived.Maps.AppendAt
import Derived.Laws.AppendOwnNone
import Derived.Laws.Slices
import Derived.OrdersHeld
import Derived.Deep.RegionHeld3
import Derived.Laws.BitsLemmas
import Derived.RowKit
import Derived.Laws.StructEq
import Derived.Laws.MakeOwn
import Derived.Maps.RangeRun
import Derived.WideKeyArgs
import Derived.OpenShut
import Derived.SizedLaws
import Derived.ChangeSame
import Derived.Test.YthkkklphanidjaaGreatDoorProg
import Derived.ProofKit
import Derived.Deep.DeepHandedRow
import Derived.Lib.LaidTab
import Derived.LaidHandle
import Derived.Test.YthkkklphanidjaaGreatDoorCards
set_option linter.unusedVariables false
set_option linter.unusedSimpArgs false
open Go.Proofs.Tryz renaming underlying1→Un1,underlying3→Un3,underlying4→Un4,underlying9→Un9,underlying20→Un20,underlying21→Un21,underlying23→Un23,underlying24→Un24,underlying26→Un26,underlying27→Un27,underlying29→Un29,underlying34→Un34,underlying35→Un35,underlying37→Un37,underlying38→Un38,underlying40→Un40,underlying42→Un42,underlying43→Un43,underlying44→Un44,underlying45→Un45,underlying47→Un47,underlying54→Un54,underlying55→Un55,underlying56→Un56,underlying58→Un58,underlying61→Un61,underlying63→Un63,underlying65→Un65,underlying86→Un86,underlying92→Un92,underlying114→Un114,underlying117→Un117,underlying121→Un121,underlying123→Un123,underlying125→Un125,underlying126→Un126,underlying128→Un128,underlying132→Un132,underlying134→Un134,underlying138→Un138,underlying143→Un143,underlying144→Un144,underlying149→Un149,underlying152→Un152,underlying153→Un153,underlying155→Un155,underlying161→Un161,underlying165→Un165,underlying169→Un169,underlying185→Un185,underlying186→Un186,underlying188→Un188,underlying194→Un194,underlying199→Un199,underlying233→Un233
namespace Go.GW
open Go
abbrev Fr:=List (Nat×Value)
def lk:Fr→Nat→Option Value
  | [],_=>none
  | (k,v)::l,t=>bif Nat.beq t k then some v else lk l t
def evs (l:Fr):Operand→Option Value
  | .tmp t=>lk l t
  | .const v=>some v
  | .global g=>some (.pointer (some ⟨g,0,none⟩))
  | .func f=>some (.func (.func f) #[] #[])
structure Dm where
  sz:Nat
  df:List Deferred
structure Ag (n:Dm) (l:Fr) (a:Act):Prop where
  size:a.tmps.size=n.sz
  defers:a.defers=n.df
  get: ∀t v,lk l t=some v→a.tmps.getD t undef=v
theorem Ag.eval {n:Dm} {l:Fr} {a:Act} (h:Ag n l a) {x:Operand} {v:Value} (hx:evs l x=some v):a.eval x=v:=by
  cases x with
  | tmp t=>exact h.get t v hx
  | const c=>exact Option.some.inj hx
  | global g=>exact Option.some.inj hx
  | func f=>exact Option.some.inj hx
theorem YO (l:Fr) (k t:Nat) (v:Value):lk ((k,v)::l) t=if t=k then some v else lk l t:=by
  show (bif Nat.beq t k then some v else lk l t)=_
  by_cases h:t=k
  · subst h;simp
  · have:Nat.beq t k=false:=by
      cases hh:Nat.beq t k with
      | false=>rfl
      | true=>exact absurd (Nat.eq_of_beq_eq_true hh) h
    rw [this,if_neg h];rfl
theorem Ag.put {n:Dm} {l:Fr} {a:Act} (h:Ag n l a) {d:Nat} (hd:d<n.sz) (v:Value):Ag n ((d,v)::l) (a.put (some d) v):=by
  refine ⟨by simp [Act.put,h.size],h.defers,fun t u ht=> ?_⟩
  rw [YO] at ht
  simp only [Act.put,Array.getD_eq_getD_getElem?,Array.getElem?_setIfInBounds]
  by_cases e:t=d
  · subst e
    rw [if_pos rfl] at ht
    rw [if_pos rfl]
    have:t<a.tmps.size:=by rw [h.size];exact hd
    simp [this];exact Option.some.inj ht
  · rw [if_neg e] at ht
    rw [if_neg (fun q=>e q.symm)]
    simpa [Array.getD_eq_getD_getElem?] using h.get t u ht
theorem Ag.putN {n:Dm} {l:Fr} {a:Act} (h:Ag n l a) (v:Value):Ag n l (a.put none v):=h
def Sub (l' l:Fr):Prop:= ∀p∈l',lk l p.1=some p.2
theorem Sub.nil (l:Fr):Sub [] l:=fun _ h=>by cases h
theorem Sub.cons {l' l:Fr} {k:Nat} {v:Value} (h:lk l k=some v) (hs:Sub l' l):Sub ((k,v)::l') l:=fun p hp=>by
  rcases List.mem_cons.1 hp with rfl | hp
  · exact h
  · exact hs p hp
theorem Zq: ∀ {l:Fr} {t:Nat} {v:Value},lk l t=some v→(t,v)∈l
  | [],t,v,h=>by simp [lk] at h
  | (k,u)::l,t,v,h=>by
    rw [YO] at h
    by_cases e:t=k
    · rw [if_pos e] at h;cases h;subst e;exact List.mem_cons_self
    · rw [if_neg e] at h;exact List.mem_cons_of_mem _ (Zq h)
theorem Ag.sub {n:Dm} {l l':Fr} {a:Act} (h:Ag n l a) (hs:Sub l' l):Ag n l' a:=
  ⟨h.size,h.defers,fun t v ht=>h.get t v (hs _ (Zq ht))⟩
abbrev Part:=List (Nat×Obj)
structure Fact where
  holds:(Nat→Prop)→World→Prop
  stable: ∀ {Z Z':Nat→Prop} {w w':World},(∀b,Z b→Z' b)→(∀b,Z b→w'.heap[b]? =w.heap[b]?)→w'.os=w.os→w'.tape=w.tape→w'.output=w.output→holds Z w→holds Z' w'
structure St (Z:Nat→Prop) (w:World) (Ps:List Part) (As:List Fact):Prop where
  zlt: ∀b,Z b→b<w.heap.size
  own: ∀q∈Ps.flatten,w.heap[q.1]? =some q.2∧ ¬Z q.1
  nodup:(Ps.flatten.map Prod.fst).Nodup
  facts: ∀A∈As,A.holds Z w
theorem St.drew {Z:Nat→Prop} {w:World} {Ps:List Part} {As:List Fact} (h:St Z w Ps As) (n:Nat):St Z { w with drawn:=n } Ps As:=
  ⟨h.zlt,h.own,h.nodup,fun A hA=>A.stable (w:=w) (w':= { w with drawn:=n }) (fun _ hb=>hb) (fun _ _=>rfl) rfl rfl rfl (h.facts A hA)⟩
theorem St.subFacts {Z:Nat→Prop} {w:World} {Ps:List Part} {As As':List Fact} (h:St Z w Ps As) (hs: ∀A∈As',A∈As):St Z w Ps As':=
  ⟨h.zlt,h.own,h.nodup,fun A hA=>h.facts A (hs A hA)⟩
theorem St.addFact {Z:Nat→Prop} {w:World} {Ps:List Part} {As:List Fact} (h:St Z w Ps As) {A:Fact} (hA:A.holds Z w):St Z w Ps (A::As):=
  ⟨h.zlt,h.own,h.nodup,fun B hB=>by rcases List.mem_cons.1 hB with rfl | hB;exact hA;exact h.facts B hB⟩
theorem YP {α:Type} : ∀ {l l':List (List α)},l'.Sublist l→l'.flatten.Sublist l.flatten
  | _,_, .slnil=>List.Sublist.refl _
  | _,_, .cons a h=>by rw [List.flatten_cons];exact (YP h).trans (List.sublist_append_right _ _)
  | _,_, .cons_cons a h=>by rw [List.flatten_cons,List.flatten_cons];exact List.Sublist.append (List.Sublist.refl _) (YP h)
theorem St.subParts {Z:Nat→Prop} {w:World} {Ps Ps':List Part} {As:List Fact} (h:St Z w Ps As) (hs:Ps'.Sublist Ps):St Z w Ps' As:=by
  have h1:=YP hs
  exact ⟨h.zlt,fun q hq=>h.own q (h1.subset hq),(h1.map Prod.fst).nodup h.nodup,h.facts⟩
theorem St.permParts {Z:Nat→Prop} {w:World} {Ps Ps':List Part} {As:List Fact} (h:St Z w Ps As) (hp:Ps'.flatten.Perm Ps.flatten):St Z w Ps' As:=
  ⟨h.zlt,fun q hq=>h.own q (hp.subset hq),(hp.map Prod.fst).nodup_iff.2 h.nodup,h.facts⟩
abbrev Post:=Exit→Fr→List Part→List Fact→Prop
abbrev Nx:=Fr→List Part→List Fact→Prop
def liftN (n:Dm) (K:Nx):Act→World→Prop:=fun a w=> ∃l Z Ps As,Ag n l a∧St Z w Ps As∧K l Ps As
def liftP (n:Dm) (R:Post):Exit→Act→World→Prop:=fun e a w=> ∃l Z Ps As,Ag n l a∧St Z w Ps As∧R e l Ps As
def VJ (K:Nx) (R:Post):Post:=fun e l Ps As=>match e with | .normal=>K l Ps As | e=>R e l Ps As
def Va (id:Nat) (R:Post):Post:=fun e l Ps As=>match e with
  | .exit id'=>if id'=id then R .normal l Ps As else R (.exit id') l Ps As
  | e=>R e l Ps As
section
variable {P:Program} {n:Dm} {R:Post} {l:Fr} {Ps:List Part} {As:List Fact}
def WC (P:Program) (n:Dm) (c:Code) (R:Post) (l:Fr) (Ps:List Part) (As:List Fact):Prop:=
  ∀Z w a,St Z w Ps As→Ag n l a→c.wp P (liftP n R) a w
theorem WC.mono {c:Code} {R':Post} (h:WC P n c R l Ps As) (hr: ∀e l Ps As,R e l Ps As→R' e l Ps As):WC P n c R' l Ps As:=
  fun Z w a hs ha=>wp_mono (h Z w a hs ha) fun e a w ⟨l,Z,Ps,As,h1,h2,h3⟩=>⟨l,Z,Ps,As,h1,h2,hr _ _ _ _ h3⟩
theorem Jc {x y:Code} (h:WC P n x (VJ (WC P n y R) R) l Ps As):WC P n (.seq x y) R l Ps As:=by
  intro Z w a hs ha
  refine wp_seq (wp_mono (h Z w a hs ha) ?_)
  rintro e a w ⟨l,Z,Ps,As,h1,h2,h3⟩
  cases e with
  | normal=>exact h3 Z w a h2 h1
  | _=>exact ⟨l,Z,Ps,As,h1,h2,h3⟩
theorem Jp (h:R .normal l Ps As):WC P n .skip R l Ps As:=fun Z w a hs ha=>wp_skip ⟨l,Z,Ps,As,ha,hs,h⟩
theorem Jn (h:R .ret l Ps As):WC P n .ret R l Ps As:=fun Z w a hs ha=>wp_ret ⟨l,Z,Ps,As,ha,hs,h⟩
theorem Kr {id:Nat} (h:R (.exit id) l Ps As):WC P n (.exit id) R l Ps As:=fun Z w a hs ha=>wp_exit ⟨l,Z,Ps,As,ha,hs,h⟩
theorem JO {id:Nat} {c:Code} (h:WC P n c (Va id R) l Ps As):WC P n (.block id c) R l Ps As:=by
  intro Z w a hs ha
  refine wp_block (wp_mono (h Z w a hs ha) ?_)
  rintro e a w ⟨l,Z,Ps,As,h1,h2,h3⟩
  cases e with
  | exit id'=>
    unfold Va at h3
    unfold Exit.inBlock
    by_cases hid:id'=id
    · simp only [hid,if_true] at h3 ⊢;exact ⟨l,Z,Ps,As,h1,h2,h3⟩
    · simp only [hid,if_false] at h3 ⊢;exact ⟨l,Z,Ps,As,h1,h2,h3⟩
  | _=>exact ⟨l,Z,Ps,As,h1,h2,h3⟩
theorem Jy {c:Operand} {x y:Code} {b:Bool} (hc:evs l c=some (.bool b)) (h1:b=true→WC P n x R l Ps As) (h2:b=false→WC P n y R l Ps As):WC P n (.cond c x y) R l Ps As:=by
  intro Z w a hs ha
  refine wp_cond_split (ha.eval hc) (fun hb=>h1 hb Z w a hs ha) (fun hb=>h2 hb Z w a hs ha)
theorem JQ {c:Operand} {x y:Code} {b:Bool} (hc:evs l c=some (.bool b)) (hb:b=true) (h:WC P n x R l Ps As):WC P n (.cond c x y) R l Ps As:=
  Jy hc (fun _=>h) (fun h'=>by rw [hb] at h';cases h')
theorem Jz {c:Operand} {x y:Code} {b:Bool} (hc:evs l c=some (.bool b)) (hb:b=false) (h:WC P n y R l Ps As):WC P n (.cond c x y) R l Ps As:=
  Jy hc (fun h'=>by rw [hb] at h';cases h') (fun _=>h)
theorem Jah {c:Code} (K:Nx) (h1:WC P n c (VJ K R) l Ps As) {d:Code} (h2: ∀l Ps As,K l Ps As→WC P n d R l Ps As):WC P n (.seq c d) R l Ps As:=
  Jc (h1.mono fun e l Ps As h=>by cases e<;>first | exact h2 _ _ _ h | exact h)
theorem E6 {c:Code} {l':Fr} {Ps':List Part} {As':List Fact} (hl:Sub l' l) (hp:Ps'.Sublist Ps) (ha: ∀A∈As',A∈As) (h:WC P n c R l' Ps' As'):WC P n c R l Ps As:=
  fun Z w a hs hg=>h Z w a ((hs.subParts hp).subFacts ha) (hg.sub hl)
theorem JL {c:Code} (l':Fr) (hl:Sub l' l) (h:WC P n c R l' Ps As):WC P n c R l Ps As:=
  fun Z w a hs hg=>h Z w a hs (hg.sub hl)
theorem Jag {α:Type} (μ:α→Nat) (I:α→Fr→List Part→List Fact→Prop) {c:Code} (x:α) (h0:I x l Ps As)
    (round: ∀x l Ps As,I x l Ps As→WC P n c (VJ (fun l' Ps' As'=> ∃x',μ x'<μ x∧I x' l' Ps' As') R) l Ps As):WC P n (.loop c) R l Ps As:=by
  intro Z w a hs ha b k cs
  have key: ∀m x l Ps As Z w a,μ x=m→I x l Ps As→St Z w Ps As→Ag n l a→
      ∃e a' w',liftP n R e a' w'∧Arrives P (lone (b.at a (.code c:: .inLoop c::k)) cs w) b k cs e a' w':=by
    intro m
    induction m using Nat.strongRecOn with
    | _ m ih=>
      intro x l Ps As Z w a hm hI hs ha
      obtain ⟨e,a₁,w₁,hq,harr⟩:=round x l Ps As hI Z w a hs ha b (.inLoop c::k) cs
      obtain ⟨l1,Z1,Ps1,As1,g1,g2,g3⟩:=hq
      cases e with
      | normal=>
        obtain ⟨x',hlt,hI'⟩:=g3
        obtain ⟨e₂,a₂,w₂,hq₂,harr₂⟩:=ih (μ x') (hm ▸ hlt) x' l1 Ps1 As1 Z1 w₁ a₁ rfl hI' g2 g1
        exact ⟨e₂,a₂,w₂,hq₂, .of_steps (Steps.trans harr (.one step_inLoop)) harr₂⟩
      | exit id=>exact ⟨_,a₁,w₁,⟨l1,Z1,Ps1,As1,g1,g2,g3⟩, .pass (x:= .inLoop c) rfl (fun _ _=> .inl (by simp)) harr⟩
      | goto l=>exact ⟨_,a₁,w₁,⟨l1,Z1,Ps1,As1,g1,g2,g3⟩, .pass (x:= .inLoop c) rfl (fun _ _=> .inl (by simp)) harr⟩
      | ret=>exact ⟨_,a₁,w₁,⟨l1,Z1,Ps1,As1,g1,g2,g3⟩, .pass (x:= .inLoop c) rfl (fun _ _=> .inl (by simp)) harr⟩
      | panic ch=>exact ⟨_,a₁,w₁,⟨l1,Z1,Ps1,As1,g1,g2,g3⟩, .pass (x:= .inLoop c) rfl (fun _ _=> .inl (by simp)) harr⟩
      | outgrown=>exact ⟨_,a₁,w₁,⟨l1,Z1,Ps1,As1,g1,g2,g3⟩, .pass (x:= .inLoop c) rfl (fun _ _=> .inl (by simp)) harr⟩
  obtain ⟨e,a',w',hq,harr⟩:=key _ x l Ps As Z w a rfl h0 hs ha
  exact ⟨e,a',w',hq, .of_steps (.one step_loop) harr⟩
def WL (P:Program) (n:Dm) (ops:Array Oper) (R:Post) (rest:List Oper) (l:Fr) (Ps:List Part) (As:List Fact):Prop:=
  ∀Z w a,St Z w Ps As→Ag n l a→wpList P ops (liftP n R) rest a w
def QR (P:Program) (l:Fr) (Ps:List Part) (As:List Fact) (o:Oper) (v:Value):Prop:=
  ∀Z w (ρ:Operand→Value),St Z w Ps As→(∀x v,evs l x=some v→ρ x=v)→(execOp ρ o).run P w= .ok (.value v) w
def OW (P:Program) (n:Dm) (R:Post) (l:Fr) (Ps:List Part) (As:List Fact) (o:Oper) (K:Nx):Prop:=
  ∀Z w a,St Z w Ps As→Ag n l a→o.wp P a w (liftN n K) (liftP n R)
variable {ops:Array Oper} {rest:List Oper} {o:Oper}
theorem Ja {id:Nat} {ops:List Oper} (h:WL P n ops.toArray R ops l Ps As):WC P n (.region id ops.toArray false) R l Ps As:=
  fun Z w a hs ha=>wp_region_lit (h Z w a hs ha)
theorem Je (h:R .normal l Ps As):WL P n ops R [] l Ps As:=fun Z w a hs ha=>wpList_nil ⟨l,Z,Ps,As,ha,hs,h⟩
theorem Jg (hg:o.guard=none) (h:OW P n R l Ps As o (WL P n ops R rest)):WL P n ops R (o::rest) l Ps As:=by
  intro Z w a hs ha
  refine wpList_plain hg fun K hK=> ?_
  exact Oper.wp_mono (fun a w ⟨l,Z,Ps,As,h1,h2,h3⟩=>hK a w (h3 Z w a h2 h1)) (h Z w a hs ha)
theorem JG {d:Nat} {v:Value} {op:Op} {ty:TypeId} {pos:String} {aft:Array Edge} (hq:QR P l Ps As ⟨some d,op,ty,pos,aft,none⟩ v) (hd:d<n.sz) (h:WL P n ops R rest ((d,v)::l) Ps As):WL P n ops R (⟨some d,op,ty,pos,aft,none⟩::rest) l Ps As:=by
  intro Z w a hs ha
  refine wpList_plain rfl fun K hK=> ?_
  unfold Oper.wp
  rw [hq Z w a.eval hs fun x v hx=>ha.eval hx]
  exact hK _ _ (h Z w _ hs (ha.put hd v))
theorem Y4 {ops:Array Oper} {a:Act} (ha:Ag n l a) {j t:Nat} {ot:Oper} {b:Bool} (hj:ops[j]? =some ot) (hd:ot.dst=some t) (hv:lk l t=some (.bool b)):yielded ops a.tmps j=some b:=by
  have h1:=ha.get t _ hv
  unfold yielded
  rw [hj]
  simp only [Option.bind_some,hd]
  rw [Array.getD_eq_getD_getElem?] at h1
  cases h2:a.tmps[t]? with
  | none=>rw [h2] at h1;simp [undef] at h1
  | some u=>rw [h2] at h1;simp at h1;subst h1;rfl
theorem yielded_undef {ops:Array Oper} {a:Act} (ha:Ag n l a) {j t:Nat} {ot:Oper} (hj:ops[j]? =some ot) (hd:ot.dst=some t) (hv:lk l t=some undef):yielded ops a.tmps j=none:=by
  have h1:=ha.get t _ hv
  unfold yielded
  rw [hj]
  simp only [Option.bind_some,hd]
  rw [Array.getD_eq_getD_getElem?] at h1
  cases h2:a.tmps[t]? with
  | none=>rfl
  | some u=>rw [h2] at h1;simp at h1;subst h1;rfl
theorem Yg {d j t:Nat} {v:Value} {op:Op} {ty:TypeId} {pos:String} {aft:Array Edge} {b:Bool} {ot:Oper} (hj:ops[j]? =some ot) (hdt:ot.dst=some t) (hv:lk l t=some (.bool b))
    {b':Bool} (hb:b=b') (hq:QR P l Ps As ⟨some d,op,ty,pos,aft,some (j,b')⟩ v) (hd:d<n.sz) (h:WL P n ops R rest ((d,v)::l) Ps As):WL P n ops R (⟨some d,op,ty,pos,aft,some (j,b')⟩::rest) l Ps As:=by
  intro Z w a hs ha
  refine wpList_step fun K hK=> ?_
  have hy:=Y4 ha hj hdt hv
  rw [if_pos (by simp [Region.wanted,hy,hb])]
  unfold Oper.wp
  rw [hq Z w a.eval hs fun x v hx=>ha.eval hx]
  exact hK _ _ (h Z w _ hs (ha.put hd v))
theorem Kk {d j t:Nat} {op:Op} {ty:TypeId} {pos:String} {aft:Array Edge} {b:Bool} {ot:Oper} (hj:ops[j]? =some ot) (hdt:ot.dst=some t) (hv:lk l t=some (.bool b))
    {b':Bool} (hb:b=b') (h:OW P n R l Ps As ⟨some d,op,ty,pos,aft,some (j,b')⟩ (WL P n ops R rest)):WL P n ops R (⟨some d,op,ty,pos,aft,some (j,b')⟩::rest) l Ps As:=by
  intro Z w a hs ha
  refine wpList_step fun K hK=> ?_
  have hy:=Y4 ha hj hdt hv
  rw [if_pos (by simp [Region.wanted,hy,hb])]
  exact Oper.wp_mono (fun a w ⟨l,Z,Ps,As,h1,h2,h3⟩=>hK a w (h3 Z w a h2 h1)) (h Z w a hs ha)
theorem Vd {d j t:Nat} {op:Op} {ty:TypeId} {pos:String} {aft:Array Edge} {b b':Bool} {ot:Oper} (hj:ops[j]? =some ot) (hdt:ot.dst=some t) (hv:lk l t=some (.bool b))
    (hb:b= !b') (hd:d<n.sz) (h:WL P n ops R rest ((d,undef)::l) Ps As):WL P n ops R (⟨some d,op,ty,pos,aft,some (j,b')⟩::rest) l Ps As:=by
  intro Z w a hs ha
  refine wpList_step fun K hK=> ?_
  have hy:=Y4 ha hj hdt hv
  rw [if_neg (by simp [Region.wanted,hy,hb])]
  exact hK _ _ (h Z w _ hs (ha.put hd undef))
theorem Ys {d j t:Nat} {op:Op} {ty:TypeId} {pos:String} {aft:Array Edge} {b':Bool} {ot:Oper} (hj:ops[j]? =some ot) (hdt:ot.dst=some t) (hv:lk l t=some undef)
    (hd:d<n.sz) (h:WL P n ops R rest ((d,undef)::l) Ps As):WL P n ops R (⟨some d,op,ty,pos,aft,some (j,b')⟩::rest) l Ps As:=by
  intro Z w a hs ha
  refine wpList_step fun K hK=> ?_
  have hy:=yielded_undef ha hj hdt hv
  rw [if_neg (by simp [Region.wanted,hy])]
  exact hK _ _ (h Z w _ hs (ha.put hd undef))
end
inductive RV (P:Program) (l:Fr) (w:World):List ResultVar→List Value→Prop
  | nil:RV P l w [] []
  | tmp {t:Nat} {v:Value} {rs:List ResultVar} {vs:List Value} (h:lk l t=some v) (hr:RV P l w rs vs):RV P l w (.tmp t::rs) (v::vs)
  | cell {t:Nat} {T:TypeId} {a:Addr} {v:Value} {rs:List ResultVar} {vs:List Value} (h:lk l t=some (.pointer (some a))) (hl:(loadVar T a).run P w= .ok v w) (hr:RV P l w rs vs):RV P l w (.cell t T::rs) (v::vs)
def tup:List Value→Value
  | [v] =>v
  | vs=> .tuple vs.toArray
theorem Ja6 {P:Program} {l:Fr} {w:World} {a:Act} {n:Dm} (ha:Ag n l a) {rs:List ResultVar} {vs:List Value} (h:RV P l w rs vs)
    (f:ResultVar→Sem Value) (h1: ∀t,f (.tmp t)=pure (a.tmps.getD t undef)) (h2: ∀b T,f (.cell b T)=(do loadVar T (←asAddr (a.tmps.getD b undef)))):
    (rs.mapM f).run P w= .ok vs w:=by
  induction h with
  | nil=>rfl
  | tmp h hr ih=>
    rw [List.mapM_cons,h1]
    simp only [Sem.run_bind,Sem.run_pure,Result.andThen_ok,ih,ha.get _ _ h]
  | cell h hl hr ih=>
    rw [List.mapM_cons,h2,ha.get _ _ h]
    have h9: ∀(q:Addr) w,(asAddr (Value.pointer (some q))).run P w= .ok q w:=fun _ _=>rfl
    simp only [Sem.run_bind,Sem.run_pure,Result.andThen_ok,h9,hl,ih]
theorem Y7 {P:Program} {l:Fr} {w:World} {a:Act} {n:Dm} {fn:Func} (ha:Ag n l a) {vs:List Value} (h:RV P l w fn.results.toList vs):
    (results fn a.tmps).run P w= .ok (tup vs) w:=by
  unfold results
  rw [Sem.run_bind,Array.mapM_eq_mapM_toList,Sem.run_map,Ja6 ha h _ (fun _=>rfl) (fun _ _=>rfl)]
  simp only [Result.andThen_ok,Sem.run_pure]
  congr 1
  unfold tup
  rcases vs with _ | ⟨v,_ | ⟨u,r⟩⟩<;>simp
structure Enters (P:Program) (k:FuncId) (c:Code) (rs:List ResultVar) (n:Nat):Prop where
  ex : ∃ fn, P.funcs[k]? = some fn ∧ fn.body = some c ∧ fn.results.toList = rs ∧ fn.ntmps = n ∧ (fn.name == "runtime.NumGoroutine") = false
def argsFr:List Value→Nat→Fr
  | [],_=> []
  | v::vs,k=>(k,v)::argsFr vs (k+1)
theorem lk_argsFr: ∀(vs:List Value) (k t:Nat) (v:Value),lk (argsFr vs k) t=some v→k≤t∧vs[t-k]? =some v
  | [],k,t,v,h=>by simp [argsFr,lk] at h
  | u::vs,k,t,v,h=>by
    unfold argsFr at h
    rw [YO] at h
    by_cases e:t=k
    · rw [if_pos e] at h;subst e;simp;exact Option.some.inj h
    · rw [if_neg e] at h
      obtain ⟨h1,h2⟩:=lk_argsFr vs (k+1) t v h
      refine ⟨by omega,?_⟩
      have:t-k=(t-(k+1))+1:=by omega
      rw [this];simpa using h2
structure Sp (P:Program) (k:FuncId) (args:List Value) (Lin:List Part) (pre:List Fact) (res:Value→List Part→List Fact→Prop):Prop where
  enters: ∃c rs n,Enters P k c rs n
  calls: ∀Z w Ps As,St Z w (Lin++Ps) (pre++As)→Calls P k args.toArray w fun e w'=> ∃v,e= .returned v∧ ∃Z' Lo fs,res v Lo fs∧St Z' w' (Lo++Ps) (fs++(pre++As))
def fin (P:Program) (rs:List ResultVar) (res:Value→List Part→List Fact→Prop) (Ps:List Part) (As:List Fact):Post:=fun e l Ps' As'=>match e with
  | .normal | .ret=> ∃vs Lo fs,(∀Z w,St Z w Ps' As'→RV P l w rs vs)∧res (tup vs) Lo fs∧(∀Z w,St Z w Ps' As'→ ∃Z',St Z' w (Lo++Ps) (fs++As))
  | _=>False
theorem Sp.of {P:Program} {k:FuncId} {args:List Value} {Lin:List Part} {pre:List Fact} {res:Value→List Part→List Fact→Prop} {c:Code} {rs:List ResultVar} {n:Nat}
    (he:Enters P k c rs n) (hn:args.length≤n) (h: ∀Ps As,WC P ⟨n,[]⟩ c (fin P rs res Ps (pre++As)) (argsFr args 0) (Lin++Ps) (pre++As)):Sp P k args Lin pre res:=by
  refine ⟨⟨c,rs,n,he⟩,fun Z w Ps As hs=> ?_⟩
  obtain ⟨fn,h1,h2,h3,h4,h5⟩:=he.ex
  refine calls_of_wp h1 h2 (wp_mono (h Ps As Z w _ hs ⟨?_,rfl,?_⟩) ?_)
  · simp [h4];omega
  · intro t v ht
    obtain ⟨_,h7⟩:=lk_argsFr args 0 t v ht
    have h8:t<args.length:=by
      rcases Nat.lt_or_ge t args.length with h | h
      · exact h
      · simp [List.getElem?_eq_none h] at h7
    simp only [Nat.sub_zero] at h7
    rw [Array.getD_eq_getD_getElem?,Array.getElem?_append_left (by simpa using h8)]
    simp [h7]
  · rintro e a w' ⟨l,Z',Ps',As',g1,g2,g3⟩
    cases e with
    | normal=>
      obtain ⟨vs,Lo,fs,k1,k2,k3⟩:=g3
      obtain ⟨Z2,k4⟩:=k3 Z' w' g2
      exact ⟨g1.defers,tup vs,Y7 g1 (h3 ▸ k1 Z' w' g2),_,rfl,Z2,Lo,fs,k2,k4⟩
    | ret=>
      obtain ⟨vs,Lo,fs,k1,k2,k3⟩:=g3
      obtain ⟨Z2,k4⟩:=k3 Z' w' g2
      exact ⟨g1.defers,tup vs,Y7 g1 (h3 ▸ k1 Z' w' g2),_,rfl,Z2,Lo,fs,k2,k4⟩
    | _=>exact g3.elim
theorem Sp.mono {P:Program} {k:FuncId} {args:List Value} {Lin:List Part} {pre:List Fact} {res res':Value→List Part→List Fact→Prop} (h:Sp P k args Lin pre res) (hr: ∀v Lo fs,res v Lo fs→res' v Lo fs):Sp P k args Lin pre res':=
  ⟨h.enters,fun Z w Ps As hs=>(h.calls Z w Ps As hs).mono fun e w' ⟨v,he,Z',Lo,fs,h1,h2⟩=>⟨v,he,Z',Lo,fs,hr _ _ _ h1,h2⟩⟩
section
variable {P:Program} {n:Dm} {R:Post} {l:Fr} {Ps:List Part} {As:List Fact}
inductive Evs (l:Fr):List Operand→List Value→Prop
  | nil:Evs l [] []
  | cons {x:Operand} {v:Value} {xs:List Operand} {vs:List Value} (h:evs l x=some v) (hr:Evs l xs vs):Evs l (x::xs) (v::vs)
theorem Evs.map {l:Fr} {xs:List Operand} {vs:List Value} (h:Evs l xs vs) {ρ:Operand→Value} (hρ: ∀x v,evs l x=some v→ρ x=v):xs.map ρ=vs:=by
  induction h with
  | nil=>rfl
  | cons h hr ih=>simp [hρ _ _ h,ih]
theorem Qj {k:FuncId} (he: ∃c rs n,Enters P k c rs n) (args:Array Value) (w:World):(callFunc k args).run P w= .ok (.enter k args) w:=by
  obtain ⟨c,rs,n,fn,h1,h2,h3,h4,h5⟩:=he
  have h6 : fn.name ≠ "runtime.NumGoroutine" := by simpa using h5
  simp [callFunc,h1,h6,h2]
theorem XJ {k:FuncId} {d:Nat} {xs:List Operand} {ts:Array TypeId} {ty:TypeId} {pos:String} {aft:Array Edge} {g:Option (Nat×Bool)} {args:List Value} {Lin Ps':List Part} {pre:List Fact} {res:Value→List Part→List Fact→Prop} {K:Nx}
    (hsp:Sp P k args Lin pre res) (hxs:Evs l xs args) (hd:d<n.sz) (hP: ∀ {Z w},St Z w Ps As→St Z w (Lin++Ps') (pre++As))
    (h: ∀v Lo fs,res v Lo fs→K ((d,v)::l) (Lo++Ps') (fs++As)):
    OW P n R l Ps As ⟨some d, .call ⟨.value (.func k),xs.toArray,ts⟩,ty,pos,aft,g⟩ K:=by
  intro Z w a hs ha
  have hrun:(execOp a.eval ⟨some d, .call ⟨.value (.func k),xs.toArray,ts⟩,ty,pos,aft,g⟩).run P w= .ok (.enter k args.toArray) w:=by
    have h1:=hxs.map fun x v hx=>ha.eval hx
    have h2:=Qj hsp.enters args.toArray w
    simp only [execOp,resolve,Deferred.ofValue,invoke,Act.eval,List.map_toArray,h1,Sem.run_bind,Sem.run_pure,Result.andThen_ok]
    simpa using h2
  unfold Oper.wp
  rw [hrun,Oper.upon_enter]
  refine (hsp.calls Z w Ps' As (hP hs)).mono ?_
  rintro e w' ⟨v,rfl,Z',Lo,fs,h1,h2⟩
  refine ⟨(d,v)::l,Z',Lo++Ps',fs++As,ha.put hd v,h2.subFacts ?_,h v Lo fs h1⟩
  intro A hA
  rcases List.mem_append.1 hA with h | h
  · exact List.mem_append.2 (.inl h)
  · exact List.mem_append.2 (.inr (List.mem_append.2 (.inr h)))
end
def agg? :TypeDesc→Bool
  | .struct _ | .array _ _=>true
  | _=>false
def ti (P:Program) (T:TypeId):Option (Option Value×Nat×Nat):=(P.info? T).map fun i=>(i.zero,i.size,i.bytes)
theorem run_underlying' {P:Program} {T:TypeId} {d:TypeDesc} (h:P.underlying T=some d) (w:World):(underlying T).run P w= .ok d w:=run_underlying h w
theorem KU {P:Program} {T:TypeId} {z:Option Value} {sz by_:Nat} (h:ti P T=some (z,sz,by_)) (w:World):(sizeOf T).run P w= .ok sz w:=by
  unfold ti at h
  cases hi:P.info? T with
  | none=>rw [hi] at h;cases h
  | some i=>
    rw [hi] at h
    simp only [Option.map_some,Option.some.injEq,Prod.mk.injEq] at h
    simp [sizeOf,typeInfo,hi,h.2.1]
theorem Qa {P:Program} {T:TypeId} {z:Value} {sz by_:Nat} (h:ti P T=some (some z,sz,by_)) (w:World):(zeroValue T).run P w= .ok z w:=by
  unfold ti at h
  cases hi:P.info? T with
  | none=>rw [hi] at h;cases h
  | some i=>
    rw [hi] at h
    simp only [Option.map_some,Option.some.injEq,Prod.mk.injEq] at h
    simp [zeroValue,typeInfo,hi,h.1]
theorem VB {P:Program} {T:TypeId} {d:TypeDesc} (h:P.underlying T=some d) (w:World):(isAgg T).run P w= .ok (agg? d) w:=by
  unfold isAgg
  rw [Sem.run_bind,run_underlying h]
  cases d<;>rfl
theorem KZ (b o k:Nat):(⟨b,o,none⟩:Addr).add k=⟨b,o+k,none⟩:=by unfold Addr.add;split<;>simp_all
def CellsAt (w:World) (b q:Nat) (cs:List Value):Prop:= ∃full T fr,w.heap[b]? =some (.cells full T fr)∧ ∀j v,cs[j]? =some v→full[q+j]? =some v
theorem CellsAt.cell {w:World} {b q:Nat} {cs:List Value} (h:CellsAt w b q cs) {j:Nat} {v:Value} (hj:cs[j]? =some v):w.cell? ⟨b,q+j,none⟩=some v:=by
  obtain ⟨full,T,fr,h1,h2⟩:=h
  simp [World.cell?,h1,h2 j v hj]
theorem CellsAt.part {w:World} {b q:Nat} {cs cs':List Value} (h:CellsAt w b q cs) (k:Nat) (hc: ∀j v,cs'[j]? =some v→cs[k+j]? =some v):CellsAt w b (q+k) cs':=by
  obtain ⟨full,T,fr,h1,h2⟩:=h
  exact ⟨full,T,fr,h1,fun j v hv=>by rw [Nat.add_assoc];exact h2 _ _ (hc j v hv)⟩
theorem run_loadCells' {P:Program} {w:World} {b q:Nat} {cs:List Value} (h:CellsAt w b q cs):(loadCells ⟨b,q,none⟩ cs.length).run P w= .ok cs.toArray w:=by
  have:=run_loadCells_list (P:=P) (w:=w) ⟨b,q,none⟩ cs (fun j v hv=>by rw [KZ];exact h.cell hv)
  simpa using this
theorem QT {P:Program} {w:World} {T:TypeId} {d:TypeDesc} {b q:Nat} {v:Value} (hu:P.underlying T=some d) (hd:agg? d=false) (h:w.cell? ⟨b,q,none⟩=some v):
    (loadVar T ⟨b,q,none⟩).run P w= .ok v w:=by
  unfold loadVar
  rw [Sem.run_bind,VB hu,hd]
  simp [h]
theorem QS {P:Program} {w:World} {T:TypeId} {d:TypeDesc} {b q:Nat} {z:Option Value} {sz by_:Nat} {cs:List Value} (hu:P.underlying T=some d) (hd:agg? d=true) (ht:ti P T=some (z,sz,by_)) (hs:cs.length=sz) (h:CellsAt w b q cs):
    (loadVar T ⟨b,q,none⟩).run P w= .ok (.agg cs.toArray) w:=by
  subst hs
  unfold loadVar
  rw [Sem.run_bind,VB hu,hd]
  simp only [Result.andThen_ok,if_true,Sem.run_bind,KU ht,run_loadCells' h,Sem.run_pure]
abbrev JD (cs:List Value) (T:TypeId):Obj:= .cells cs.toArray T (0,0)
def OwnAt (Ps:List Part) (b:Nat) (o:Obj):Prop:=(b,o)∈Ps.flatten
theorem Jm {b:Nat} {o:Obj} {p:Part} {Ps:List Part} :OwnAt (((b,o)::p)::Ps) b o:=by simp [OwnAt]
theorem Ji {b:Nat} {o:Obj} {p:Part} {Ps:List Part} (h:OwnAt Ps b o):OwnAt (p::Ps) b o:=by
  unfold OwnAt;rw [List.flatten_cons];exact List.mem_append_right _ h
theorem ownI {b:Nat} {o:Obj} {p:Part} {Ps:List Part} (h:(b,o)∈p):OwnAt (p::Ps) b o:=by
  unfold OwnAt;rw [List.flatten_cons];exact List.mem_append_left _ h
theorem St.block {Z:Nat→Prop} {w:World} {Ps:List Part} {As:List Fact} (h:St Z w Ps As) {b:Nat} {o:Obj} (hb:OwnAt Ps b o):w.heap[b]? =some o:=(h.own _ hb).1
theorem St.cells {Z:Nat→Prop} {w:World} {Ps:List Part} {As:List Fact} (h:St Z w Ps As) {b:Nat} {cs:List Value} {T:TypeId} (hb:OwnAt Ps b (JD cs T)):CellsAt w b 0 cs:=
  ⟨_,_,_,h.block hb,fun j v hv=>by simpa using hv⟩
def FzA (b q:Nat) (cs:List Value):Fact where
  holds Z w:=Z b∧CellsAt w b q cs
  stable hz hh _ _ _ h:=⟨hz _ h.1,by
    obtain ⟨full,T,fr,h1,h2⟩:=h.2
    exact ⟨full,T,fr,(hh _ h.1).trans h1,h2⟩⟩
section
variable {P:Program} {l:Fr} {Ps:List Part} {As:List Fact} {d:Option Tmp} {ty:TypeId} {pos:String} {aft:Array Edge} {g:Option (Nat×Bool)}
theorem Jb {x:Operand} {v:Value} (h:evs l x=some v):QR P l Ps As ⟨d, .move x,ty,pos,aft,g⟩ v:=fun Z w ρ hs hρ=>by
  simp only [execOp,hρ _ _ h];rfl
theorem Jd {x:Operand} {v:Value} (h:evs l x=some v):QR P l Ps As ⟨d, .assign x,ty,pos,aft,g⟩ v:=fun Z w ρ hs hρ=>by
  simp only [execOp,hρ _ _ h];rfl
theorem JH {c x y:Operand} {b:Bool} {v:Value} (hc:evs l c=some (.bool b)) (hb:b=true) (h:evs l x=some v):QR P l Ps As ⟨d, .pick c x y,ty,pos,aft,g⟩ v:=fun Z w ρ hs hρ=>by
  simp [execOp,hρ _ _ hc,hρ _ _ h,asBool,hb]
theorem JA {c x y:Operand} {b:Bool} {v:Value} (hc:evs l c=some (.bool b)) (hb:b=false) (h:evs l y=some v):QR P l Ps As ⟨d, .pick c x y,ty,pos,aft,g⟩ v:=fun Z w ρ hs hρ=>by
  simp [execOp,hρ _ _ hc,hρ _ _ h,asBool,hb]
theorem JB {x:Operand} {a:Addr} (h:evs l x=some (.pointer (some a))):QR P l Ps As ⟨d, .nilCheck x,ty,pos,aft,g⟩ (.pointer (some a)):=fun Z w ρ hs hρ=>by
  simp [execOp,hρ _ _ h]
theorem Jh {s:TypeId} {x:Operand} {f b o o':Nat} {fs:Array Field} {fl:Field} {z:Option Value} {sz by_:Nat} (hu:P.underlying s=some (.struct fs)) (hf:fs[f]? =some fl) (ht:ti P fl.type=some (z,sz+1,by_))
    (h:evs l x=some (.pointer (some ⟨b,o,none⟩))) (ho:o+fl.offset=o'):QR P l Ps As ⟨d, .fieldAddr s x f,ty,pos,aft,g⟩ (.pointer (some ⟨b,o',none⟩)):=fun Z w ρ hs hρ=>by
  subst ho
  simp only [execOp,hρ _ _ h,Instr.fieldAt,Instr.sureAddr,fieldPlace,Sem.run_bind,run_underlying hu,Result.andThen_ok,hf,Sem.run_pure,KU ht,KZ]
  simp
theorem Jj {T:TypeId} {x:Operand} {dd:TypeDesc} {b o:Nat} {cs:List Value} {v:Value} {T':TypeId} (hu:P.underlying T=some dd) (hd:agg? dd=false) (h:evs l x=some (.pointer (some ⟨b,o,none⟩)))
    (hb:OwnAt Ps b (JD cs T')) (hv:cs[o]? =some v):QR P l Ps As ⟨d, .load T x,ty,pos,aft,g⟩ v:=fun Z w ρ hs hρ=>by
  have h1:=(hs.cells hb).cell hv
  rw [Nat.zero_add] at h1
  simp only [execOp,hρ _ _ h,Instr.loadAt,Instr.sureAddr,Sem.run_bind,Sem.run_pure,Result.andThen_ok,QT hu hd h1]
theorem Jw {T:TypeId} {x:Operand} {dd:TypeDesc} {b o:Nat} {cs vs:List Value} {T':TypeId} {z:Option Value} {sz by_:Nat} (hu:P.underlying T=some dd) (hd:agg? dd=true) (ht:ti P T=some (z,sz,by_)) (h:evs l x=some (.pointer (some ⟨b,o,none⟩)))
    (hb:OwnAt Ps b (JD cs T')) (hv:(cs.drop o).take sz=vs) (hl:vs.length=sz):QR P l Ps As ⟨d, .load T x,ty,pos,aft,g⟩ (.agg vs.toArray):=fun Z w ρ hs hρ=>by
  have h1:CellsAt w b (0+o) vs:=(hs.cells hb).part o (fun j v hj=>by
    rw [←hv,List.getElem?_take] at hj
    split at hj
    · rw [List.getElem?_drop] at hj;exact hj
    · cases hj)
  rw [Nat.zero_add] at h1
  simp only [execOp,hρ _ _ h,Instr.loadAt,Instr.sureAddr,Sem.run_bind,Sem.run_pure,Result.andThen_ok,QS hu hd ht hl h1]
theorem Ks {T:TypeId} {x:Operand} {dd:TypeDesc} {b o q j:Nat} {cs:List Value} {v:Value} (hu:P.underlying T=some dd) (hd:agg? dd=false) (h:evs l x=some (.pointer (some ⟨b,o,none⟩)))
    (hA:FzA b q cs∈As) (ho:o=q+j) (hv:cs[j]? =some v):QR P l Ps As ⟨d, .load T x,ty,pos,aft,g⟩ v:=fun Z w ρ hs hρ=>by
  subst ho
  have h1:=(hs.facts _ hA).2.cell hv
  simp only [execOp,hρ _ _ h,Instr.loadAt,Instr.sureAddr,Sem.run_bind,Sem.run_pure,Result.andThen_ok,QT hu hd h1]
theorem Kq {T:TypeId} {x:Operand} {dd:TypeDesc} {b o q k:Nat} {cs vs:List Value} {z:Option Value} {sz by_:Nat} (hu:P.underlying T=some dd) (hd:agg? dd=true) (ht:ti P T=some (z,sz,by_)) (h:evs l x=some (.pointer (some ⟨b,o,none⟩)))
    (hA:FzA b q cs∈As) (ho:o=q+k) (hv:(cs.drop k).take sz=vs) (hl:vs.length=sz):QR P l Ps As ⟨d, .load T x,ty,pos,aft,g⟩ (.agg vs.toArray):=fun Z w ρ hs hρ=>by
  subst ho
  have h1:CellsAt w b (q+k) vs:=(hs.facts _ hA).2.part k (fun j v hj=>by
    rw [←hv,List.getElem?_take] at hj
    split at hj
    · rw [List.getElem?_drop] at hj;exact hj
    · cases hj)
  simp only [execOp,hρ _ _ h,Instr.loadAt,Instr.sureAddr,Sem.run_bind,Sem.run_pure,Result.andThen_ok,QS hu hd ht hl h1]
theorem Jk {x:Operand} {i:Nat} {vs:List Value} {v:Value} (h:evs l x=some (.tuple vs.toArray)) (hv:vs[i]? =some v):QR P l Ps As ⟨d, .extract x i,ty,pos,aft,g⟩ v:=fun Z w ρ hs hρ=>by
  simp [execOp,hρ _ _ h,Instr.extract,hv]
theorem KC {x:Operand} {t:TypeId} {b:Bool} (h:evs l x=some (.bool b)):QR P l Ps As ⟨d, .unOp .not t x,ty,pos,aft,g⟩ (.bool (!b)):=fun Z w ρ hs hρ=>by
  simp [execOp,hρ _ _ h,Op.unary]
variable {t t2:TypeId} {x y:Operand} {k:IntKind} {a b c:Int}
theorem JZ (hx:evs l x=some (.int k a)) (hy:evs l y=some (.int k b)) (hw:k.wrap (a+b)=c):QR P l Ps As ⟨d, .binOp .add t x y t2,ty,pos,aft,g⟩ (.int k c):=fun Z w ρ hs hρ=>by
  subst hw;simp [execOp,hρ _ _ hx,hρ _ _ hy,go_sem,Op.intArith]
theorem KS (hx:evs l x=some (.int k a)) (hy:evs l y=some (.int k b)) (hw:k.wrap (a-b)=c):QR P l Ps As ⟨d, .binOp .sub t x y t2,ty,pos,aft,g⟩ (.int k c):=fun Z w ρ hs hρ=>by
  subst hw;simp [execOp,hρ _ _ hx,hρ _ _ hy,go_sem,Op.intArith]
theorem Jam (hx:evs l x=some (.int k a)) (hy:evs l y=some (.int k b)) (hw:k.wrap (a*b)=c):QR P l Ps As ⟨d, .binOp .mul t x y t2,ty,pos,aft,g⟩ (.int k c):=fun Z w ρ hs hρ=>by
  subst hw;simp [execOp,hρ _ _ hx,hρ _ _ hy,go_sem,Op.intArith]
theorem Ka (hx:evs l x=some (.int k a)) (hy:evs l y=some (.int k b)):QR P l Ps As ⟨d, .binOp .eql t x y t2,ty,pos,aft,g⟩ (.bool (a==b)):=fun Z w ρ hs hρ=>by
  simp [execOp,hρ _ _ hx,hρ _ _ hy,go_sem]
theorem Kp (hx:evs l x=some (.int k a)) (hy:evs l y=some (.int k b)):QR P l Ps As ⟨d, .binOp .neq t x y t2,ty,pos,aft,g⟩ (.bool (a !=b)):=fun Z w ρ hs hρ=>by
  simp [execOp,hρ _ _ hx,hρ _ _ hy,go_sem]
theorem Ku (hx:evs l x=some (.int k a)) (hy:evs l y=some (.int k b)):QR P l Ps As ⟨d, .binOp .lss t x y t2,ty,pos,aft,g⟩ (.bool (decide (a<b))):=fun Z w ρ hs hρ=>by
  simp [execOp,hρ _ _ hx,hρ _ _ hy,go_sem]
theorem YK (hx:evs l x=some (.int k a)) (hy:evs l y=some (.int k b)):QR P l Ps As ⟨d, .binOp .leq t x y t2,ty,pos,aft,g⟩ (.bool (decide (a≤b))):=fun Z w ρ hs hρ=>by
  simp [execOp,hρ _ _ hx,hρ _ _ hy,go_sem]
theorem Ke (hx:evs l x=some (.int k a)) (hy:evs l y=some (.int k b)):QR P l Ps As ⟨d, .binOp .gtr t x y t2,ty,pos,aft,g⟩ (.bool (decide (b<a))):=fun Z w ρ hs hρ=>by
  simp [execOp,hρ _ _ hx,hρ _ _ hy,go_sem]
theorem Yl (hx:evs l x=some (.int k a)) (hy:evs l y=some (.int k b)):QR P l Ps As ⟨d, .binOp .geq t x y t2,ty,pos,aft,g⟩ (.bool (decide (b≤a))):=fun Z w ρ hs hρ=>by
  simp [execOp,hρ _ _ hx,hρ _ _ hy,go_sem]
theorem wr64 {x:Int} (h: -9223372036854775808≤x∧x≤9223372036854775807):IntKind.i64.wrap x=x:=by
  rw [IntKind.wrap_i64];omega
end
theorem alloc_old (w:World) (o:Obj) {b:Nat} (h:b<w.heap.size):(w.alloc o).heap[b]? =w.heap[b]? :=by
  show (w.heap.push o)[b]? =_
  rw [Array.getElem?_push,if_neg (by omega)]
theorem alloc_new (w:World) (o:Obj):(w.alloc o).heap[w.heap.size]? =some o:=by
  show (w.heap.push o)[w.heap.size]? =_
  simp
theorem St.lt {Z:Nat→Prop} {w:World} {Ps:List Part} {As:List Fact} (h:St Z w Ps As) {q:Nat×Obj} (hq:q∈Ps.flatten):q.1<w.heap.size:=
  (Array.getElem?_eq_some_iff.1 (h.own q hq).1).1
theorem St.turn {Z:Nat→Prop} {w w':World} {Ps:List Part} {p p':Part} {As:List Fact} (h:St Z w (p::Ps) As) (os:w'.os=w.os) (tape:w'.tape=w.tape) (output:w'.output=w.output) (size:w.heap.size≤w'.heap.size)
    (hk: ∀b,b<w.heap.size→(∀o,(b,o)∉p)→w'.heap[b]? =w.heap[b]?)
    (hp: ∀q∈p',w'.heap[q.1]? =some q.2∧((∃o,(q.1,o)∈p)∨w.heap.size≤q.1)) (hn:(p'.map Prod.fst).Nodup):St Z w' (p'::Ps) As:=by
  have hz: ∀b,Z b→w'.heap[b]? =w.heap[b]? :=fun b hb=>hk b (h.zlt b hb) fun o ho=>(h.own (b,o) (by simp [ho])).2 hb
  have hnd:=h.nodup
  rw [List.flatten_cons,List.map_append,List.nodup_append] at hnd
  refine ⟨fun b hb=>Nat.lt_of_lt_of_le (h.zlt b hb) size,fun q hq=> ?_,?_,fun A hA=>A.stable (fun _ hb=>hb) hz os tape output (h.facts A hA)⟩
  · rw [List.flatten_cons] at hq
    rcases List.mem_append.1 hq with hq | hq
    · obtain ⟨h1,h2⟩:=hp q hq
      refine ⟨h1,fun hb=> ?_⟩
      rcases h2 with ⟨o,ho⟩ | h2
      · exact (h.own (q.1,o) (by simp [ho])).2 hb
      · exact absurd (h.zlt _ hb) (by omega)
    · have h3:q∈(p::Ps).flatten:=by rw [List.flatten_cons];exact List.mem_append_right _ hq
      obtain ⟨h1,h2⟩:=h.own q h3
      refine ⟨?_,h2⟩
      rw [hk q.1 (h.lt h3) fun o ho=> ?_]
      · exact h1
      · exact hnd.2.2 q.1 (List.mem_map.2 ⟨(q.1,o),ho,rfl⟩) q.1 (List.mem_map.2 ⟨q,hq,rfl⟩) rfl
  · rw [List.flatten_cons,List.map_append,List.nodup_append]
    refine ⟨hn,hnd.2.1,fun a ha b hb e=> ?_⟩
    subst e
    obtain ⟨q,hq,rfl⟩:=List.mem_map.1 ha
    obtain ⟨q2,hq2,e2⟩:=List.mem_map.1 hb
    rcases (hp q hq).2 with ⟨o,ho⟩ | h2
    · exact hnd.2.2 q.1 (List.mem_map.2 ⟨(q.1,o),ho,rfl⟩) q.1 (List.mem_map.2 ⟨q2,hq2,e2⟩) rfl
    · have h3:q2∈(p::Ps).flatten:=by rw [List.flatten_cons];exact List.mem_append_right _ hq2
      have:=h.lt h3
      omega
theorem St.nilPart {Z:Nat→Prop} {w:World} {Ps:List Part} {As:List Fact} (h:St Z w Ps As):St Z w ([] ::Ps) As:=h.permParts (by simp)
theorem St.alloc {Z:Nat→Prop} {w:World} {Ps:List Part} {As:List Fact} (h:St Z w Ps As) (o:Obj):St Z (w.alloc o) ([(w.heap.size,o)] ::Ps) As:=by
  refine h.nilPart.turn rfl rfl rfl (by simp) (fun b hb _=>alloc_old w o hb) (fun q hq=> ?_) (by simp)
  simp only [List.mem_singleton] at hq
  subst hq
  exact ⟨alloc_new w o, .inr (Nat.le_refl _)⟩
theorem St.freeze {Z:Nat→Prop} {w:World} {Ps:List Part} {p:Part} {As:List Fact} (h:St Z w (p::Ps) As):St (fun b=>Z b∨ ∃o,(b,o)∈p) w Ps As:=by
  have hnd:=h.nodup
  rw [List.flatten_cons,List.map_append,List.nodup_append] at hnd
  refine ⟨fun b hb=> ?_,fun q hq=> ?_,hnd.2.1,fun A hA=>A.stable (fun _ hb=> .inl hb) (fun _ _=>rfl) rfl rfl rfl (h.facts A hA)⟩
  · rcases hb with hb | ⟨o,ho⟩
    · exact h.zlt b hb
    · exact h.lt (q:=(b,o)) (by simp [ho])
  · have h3:q∈(p::Ps).flatten:=by rw [List.flatten_cons];exact List.mem_append_right _ hq
    refine ⟨(h.own q h3).1,fun hb=> ?_⟩
    rcases hb with hb | ⟨o,ho⟩
    · exact (h.own q h3).2 hb
    · exact hnd.2.2 q.1 (List.mem_map.2 ⟨(q.1,o),ho,rfl⟩) q.1 (List.mem_map.2 ⟨q,hq,rfl⟩) rfl
inductive SetAt:List Part→Part→Part→List Part→Prop
  | z {p p':Part} {Ps:List Part} :SetAt (p::Ps) p p' (p'::Ps)
  | s {p p' r:Part} {Ps Ps':List Part} (h:SetAt Ps p p' Ps'):SetAt (r::Ps) p p' (r::Ps')
theorem SetAt.perm {Ps Ps':List Part} {p p':Part} (h:SetAt Ps p p' Ps'): ∃Qs,(p::Qs).flatten.Perm Ps.flatten∧Ps'.flatten.Perm (p'::Qs).flatten:=by
  induction h with
  | z=>exact ⟨_,List.Perm.refl _,List.Perm.refl _⟩
  | @s p p' r Ps Ps' h ih=>
    obtain ⟨Qs,h1,h2⟩:=ih
    refine ⟨r::Qs,?_,?_⟩
    · simp only [List.flatten_cons] at h1 ⊢
      have:=(List.perm_append_comm_assoc p r Qs.flatten).trans (h1.append_left r)
      exact this
    · simp only [List.flatten_cons] at h2 ⊢
      exact (h2.append_left r).trans (List.perm_append_comm_assoc r p' Qs.flatten)
theorem St.setAt {Z:Nat→Prop} {w w':World} {Ps Ps':List Part} {p p':Part} {As:List Fact} (h:St Z w Ps As) (hp:SetAt Ps p p' Ps') (k: ∀ {Qs},St Z w (p::Qs) As→St Z w' (p'::Qs) As):St Z w' Ps' As:=by
  obtain ⟨Qs,h1,h2⟩:=hp.perm
  exact (k (h.permParts h1)).permParts h2
inductive DelAt:List Part→Part→List Part→Prop
  | z {p:Part} {Ps:List Part} :DelAt (p::Ps) p Ps
  | s {p r:Part} {Ps Ps':List Part} (h:DelAt Ps p Ps'):DelAt (r::Ps) p (r::Ps')
theorem DelAt.perm {Ps Ps':List Part} {p:Part} (h:DelAt Ps p Ps'):(p::Ps').flatten.Perm Ps.flatten:=by
  induction h with
  | z=>exact List.Perm.refl _
  | @s p r Ps Ps' h ih=>
    simp only [List.flatten_cons] at ih ⊢
    exact (List.perm_append_comm_assoc p r Ps'.flatten).trans (ih.append_left r)
inductive SetL:List Value→Nat→Value→List Value→Prop
  | z {x v:Value} {cs:List Value} :SetL (x::cs) 0 v (v::cs)
  | s {x v:Value} {cs cs':List Value} {k:Nat} (h:SetL cs k v cs'):SetL (x::cs) (k+1) v (x::cs')
theorem SetL.eq {cs cs':List Value} {k:Nat} {v:Value} (h:SetL cs k v cs'):k<cs.length∧cs'=cs.set k v:=by
  induction h with
  | z=>simp
  | s h ih=>obtain ⟨h1,h2⟩:=ih;subst h2;simp;omega
theorem setCell_block {w:World} {b k:Nat} {cs:List Value} {T:TypeId} (h:w.heap[b]? =some (JD cs T)) (v:Value):(w.setCell ⟨b,k,none⟩ v).heap[b]? =some (JD (cs.set k v) T):=by
  simp [World.setCell,h,Array.getElem?_modify,JD]
theorem setCell_other {w:World} {b b' k:Nat} (v:Value) (h:b'≠b):(w.setCell ⟨b,k,none⟩ v).heap[b']? =w.heap[b']? :=by
  simp only [World.setCell,Array.getElem?_modify]
  rw [if_neg (fun e=>h e.symm)]
theorem St.setCell {Z:Nat→Prop} {w:World} {Ps:List Part} {As:List Fact} {b k:Nat} {cs:List Value} {T:TypeId} (h:St Z w ([(b,JD cs T)] ::Ps) As) (v:Value):St Z (w.setCell ⟨b,k,none⟩ v) ([(b,JD (cs.set k v) T)] ::Ps) As:=by
  have hb:w.heap[b]? =some (JD cs T):=(h.own (b,_) (by simp)).1
  refine h.turn rfl rfl rfl (by simp [World.setCell]) (fun b' hb' hn=>setCell_other v (fun e=>hn _ (by subst e;exact List.mem_singleton.2 rfl))) (fun q hq=> ?_) (by simp)
  simp only [List.mem_singleton] at hq
  subst hq
  exact ⟨setCell_block hb v, .inl ⟨JD cs T,List.mem_singleton.2 rfl⟩⟩
theorem QQ {P:Program} {w:World} {b k:Nat} {cs:List Value} {T:TypeId} {v:Value} (h:w.heap[b]? =some (JD cs T)) (hk:k<cs.length) (hv:v.oneCell'=true):(store ⟨b,k,none⟩ v).run P w= .ok () (w.setCell ⟨b,k,none⟩ v):=by
  rw [run_store P w _ v _ hv]
  have h1:w.cell? ⟨b,k,none⟩=some cs[k] :=by simp [World.cell?,h,JD,hk]
  have h2:w.frozen? ⟨b,k,none⟩=false:=by simp [World.frozen?,h,JD]
  rw [h1,h2];rfl
def setAll:List Value→Nat→List Value→List Value
  | cs,_,[] =>cs
  | cs,k,v::vs=>setAll (cs.set k v) (k+1) vs
theorem VL: ∀(vs cs:List Value) (k:Nat),(setAll cs k vs).length=cs.length
  | [],_,_=>rfl
  | v::vs,cs,k=>by rw [setAll,VL vs];simp
theorem Qn {P:Program} {b:Nat} {T:TypeId} {Z:Nat→Prop} {Ps:List Part} {As:List Fact} : ∀(vs:List Value) (w:World) (cs:List Value) (o i:Nat),St Z w ([(b,JD cs T)] ::Ps) As→o+i+vs.length≤cs.length→(∀v∈vs,v.oneCell'=true)→
    ∃w',(storeCells ⟨b,o,none⟩ vs i).run P w= .ok () w'∧St Z w' ([(b,JD (setAll cs (o+i) vs) T)] ::Ps) As
  | [],w,cs,o,i,h,_,_=>⟨w,rfl,h⟩
  | v::vs,w,cs,o,i,h,hl,hv=>by
    have hb:w.heap[b]? =some (JD cs T):=(h.own (b,_) (by simp)).1
    simp only [List.length_cons] at hl
    obtain ⟨w',h1,h2⟩:=Qn vs (w.setCell ⟨b,o+i,none⟩ v) (cs.set (o+i) v) o (i+1) (h.setCell v) (by simp;omega) (fun u hu=>hv u (List.mem_cons_of_mem _ hu))
    refine ⟨w',?_,h2⟩
    rw [storeCells,Sem.run_bind,KZ,QQ hb (by omega) (hv v List.mem_cons_self)]
    exact h1
section
variable {P:Program} {n:Dm} {R:Post} {l:Fr} {Ps Ps':List Part} {As:List Fact} {ty:TypeId} {pos:String} {aft:Array Edge} {g:Option (Nat×Bool)} {K:Nx}
theorem K0 {d:Nat} {o:Oper} (ho:o.dst=some d) (hd:d<n.sz) (h: ∀Z w (ρ:Operand→Value),St Z w Ps As→(∀x v,evs l x=some v→ρ x=v)→ ∃v w' Z' Ps' As',(execOp ρ o).run P w= .ok (.value v) w'∧St Z' w' Ps' As'∧K ((d,v)::l) Ps' As'):OW P n R l Ps As o K:=by
  intro Z w a hs ha
  obtain ⟨v,w',Z',Ps',As',h1,h2,h3⟩:=h Z w a.eval hs fun x v hx=>ha.eval hx
  unfold Oper.wp
  rw [h1]
  exact ⟨(d,v)::l,Z',Ps',As',by rw [ho];exact ha.put hd v,h2,h3⟩
theorem V6 {o:Oper} (ho:o.dst=none) (h: ∀Z w (ρ:Operand→Value),St Z w Ps As→(∀x v,evs l x=some v→ρ x=v)→ ∃w' Z' Ps' As',(execOp ρ o).run P w= .ok .skip w'∧St Z' w' Ps' As'∧K l Ps' As'):OW P n R l Ps As o K:=by
  intro Z w a hs ha
  obtain ⟨w',Z',Ps',As',h1,h2,h3⟩:=h Z w a.eval hs fun x v hx=>ha.eval hx
  unfold Oper.wp
  rw [h1]
  exact ⟨l,Z',Ps',As',by rw [ho];exact ha,h2,h3⟩
theorem J1 {d:Nat} {T:TypeId} {x:Operand} {v:Value} {cs:List Value} (hx:evs l x=some v) (hc:v.cells=cs.toArray) (hd:d<n.sz)
    (h: ∀b,K ((d, .pointer (some ⟨b,0,none⟩))::l) ([(b,JD cs T)] ::Ps) As):OW P n R l Ps As ⟨some d, .box T x,ty,pos,aft,g⟩ K:=
  K0 rfl hd fun Z w ρ hs hρ=>⟨_,_,Z,_,As,by simp only [execOp,hρ _ _ hx];rfl,by rw [hc];exact hs.alloc _,h _⟩
theorem Jv {d:Nat} {T:TypeId} {z:Value} {sz by_:Nat} {cs:List Value} (ht:ti P T=some (some z,sz,by_)) (hc:z.cells=cs.toArray) (hd:d<n.sz)
    (h: ∀b,K ((d, .pointer (some ⟨b,0,none⟩))::l) ([(b,JD cs T)] ::Ps) As):OW P n R l Ps As ⟨some d, .alloc T,ty,pos,aft,g⟩ K:=
  K0 rfl hd fun Z w ρ hs hρ=>⟨_,_,Z,_,As,by
    simp only [execOp,Instr.alloc,Sem.run_bind,Qa ht,Result.andThen_ok];rfl,by rw [hc];exact hs.alloc _,h _⟩
theorem JN {T:TypeId} {x y:Operand} {b o:Nat} {v:Value} {cs cs':List Value} {T':TypeId} {z:Option Value} {by_:Nat} (ht:ti P T=some (z,1,by_)) (hx:evs l x=some (.pointer (some ⟨b,o,none⟩))) (hy:evs l y=some v) (hv:v.oneCell'=true)
    (hc:SetL cs o v cs') (hp:SetAt Ps [(b,JD cs T')] [(b,JD cs' T')] Ps') (h:K l Ps' As):OW P n R l Ps As ⟨none, .store T x y,ty,pos,aft,g⟩ K:=
  V6 rfl fun Z w ρ hs hρ=>by
    obtain ⟨h1,h2⟩:=hc.eq
    have hb:w.heap[b]? =some (JD cs T'):=by
      obtain ⟨Qs,h3,h4⟩:=hp.perm
      exact ((hs.permParts h3).own (b,_) (by simp)).1
    have hcell:v.cells= #[v] :=by cases v<;>first | rfl | (simp [Value.oneCell'] at hv;done)
    refine ⟨w.setCell ⟨b,o,none⟩ v,Z,Ps',As,?_,?_,h⟩
    · simp only [execOp,hρ _ _ hx,hρ _ _ hy,Instr.storeAt,Instr.sureAddr,storeVar,Sem.run_bind,Sem.run_pure,Result.andThen_ok,KU ht,hcell]
      simp [storeCells,KZ,QQ hb h1 hv]
    · subst h2;exact hs.setAt hp fun h=>h.setCell v
theorem Jq {T:TypeId} {x y:Operand} {b o sz:Nat} {vs cs cs':List Value} {T':TypeId} {z:Option Value} {by_:Nat} (ht:ti P T=some (z,sz,by_)) (hx:evs l x=some (.pointer (some ⟨b,o,none⟩))) (hy:evs l y=some (.agg vs.toArray)) (hl:vs.length=sz) (hv:vs.all Value.oneCell'=true)
    (hc:setAll cs o vs=cs') (ho:o+vs.length≤cs.length) (hp:SetAt Ps [(b,JD cs T')] [(b,JD cs' T')] Ps') (h:K l Ps' As):OW P n R l Ps As ⟨none, .store T x y,ty,pos,aft,g⟩ K:=
  V6 rfl fun Z w ρ hs hρ=>by
    subst hc
    obtain ⟨Qs,h3,h4⟩:=hp.perm
    obtain ⟨w',h5,h6⟩:=Qn (P:=P) vs w cs o 0 (hs.permParts h3) (by omega) (fun v hv'=>List.all_eq_true.1 hv v hv')
    refine ⟨w',Z,Ps',As,?_,(by simpa using h6:St Z w' ([(b,JD (setAll cs o vs) T')] ::Qs) As).permParts h4,h⟩
    simp only [execOp,hρ _ _ hx,hρ _ _ hy,Instr.storeAt,Instr.sureAddr,storeVar,Sem.run_bind,Sem.run_pure,Result.andThen_ok,KU ht,Value.cells]
    simp only [List.size_toArray,hl,ne_eq,not_true_eq_false,if_false,List.toList_toArray]
    simp [h5]
end
structure De (α:Type) where
  sz:Nat
  rep:(Nat→Prop)→World→α→List Value→Prop
  len: ∀ {Z w x cs},rep Z w x cs→cs.length=sz
  one: ∀ {Z w x cs},rep Z w x cs→cs.all Value.oneCell'=true
  stable: ∀ {x cs} {Z Z':Nat→Prop} {w w':World},(∀b,Z b→Z' b)→(∀b,Z b→w'.heap[b]? =w.heap[b]?)→w'.os=w.os→w'.tape=w.tape→w'.output=w.output→rep Z w x cs→rep Z' w' x cs
inductive Reps {α:Type} (r:α→List Value→Prop):List α→List (List Value)→Prop
  | nil:Reps r [] []
  | cons {x:α} {cs:List Value} {xs:List α} {css:List (List Value)} (h:r x cs) (hr:Reps r xs css):Reps r (x::xs) (cs::css)
section
variable {α:Type} {r r':α→List Value→Prop} {xs ys:List α} {css dss:List (List Value)}
theorem Reps.mono (h:Reps r xs css) (hr: ∀x cs,r x cs→r' x cs):Reps r' xs css:=by
  induction h with
  | nil=>exact .nil
  | cons h _ ih=>exact .cons (hr _ _ h) ih
theorem Reps.length (h:Reps r xs css):css.length=xs.length:=by
  induction h with
  | nil=>rfl
  | cons _ _ ih=>simp [ih]
theorem Reps.append (h:Reps r xs css) (h':Reps r ys dss):Reps r (xs++ys) (css++dss):=by
  induction h with
  | nil=>exact h'
  | cons h _ ih=>exact .cons h ih
theorem Reps.at (h:Reps r xs css): ∀(i:Nat) (x:α),xs[i]? =some x→ ∃cs,css[i]? =some cs∧r x cs:=by
  induction h with
  | nil=>intro i x hi;simp at hi
  | @cons y cs ys css h _ ih=>
    intro i x hi
    cases i with
    | zero=>simp at hi;subst hi;exact ⟨cs,by simp,h⟩
    | succ i=>simpa using ih i x (by simpa using hi)
theorem Reps.set (h:Reps r xs css): ∀(i:Nat) (x:α) (cs:List Value),r x cs→Reps r (xs.set i x) (css.set i cs):=by
  induction h with
  | nil=>intro i x cs hx;simp;exact .nil
  | @cons y ds ys css h hr ih=>
    intro i x cs hx
    cases i with
    | zero=>exact .cons hx hr
    | succ i=>exact .cons h (ih i x cs hx)
theorem Reps.drop (h:Reps r xs css): ∀k,Reps r (xs.drop k) (css.drop k):=by
  induction h with
  | nil=>intro k;simp;exact .nil
  | cons h hr ih=>intro k;cases k with | zero=>exact .cons h hr | succ k=>simpa using ih k
theorem Reps.take (h:Reps r xs css): ∀k,Reps r (xs.take k) (css.take k):=by
  induction h with
  | nil=>intro k;simp;exact .nil
  | cons h hr ih=>intro k;cases k with | zero=>simp;exact .nil | succ k=>simpa using Reps.cons h (ih k)
theorem YL {sz:Nat} : ∀ {css:List (List Value)},(∀cs∈css,cs.length=sz)→css.flatten.length=css.length*sz
  | [],_=>by simp
  | cs::css,h=>by
    rw [List.flatten_cons,List.length_append,h cs List.mem_cons_self,YL (fun c hc=>h c (List.mem_cons_of_mem _ hc)),List.length_cons,Nat.add_mul];omega
theorem Ed {sz:Nat} : ∀ {css:List (List Value)} (h: ∀cs∈css,cs.length=sz) (i:Nat) (cs:List Value),css[i]? =some cs→ ∀j v,cs[j]? =some v→css.flatten[i*sz+j]? =some v
  | [],_,i,cs,hi,j,v,hj=>by simp at hi
  | c::css,h,0,cs,hi,j,v,hj=>by
    simp at hi;subst hi
    have hlt:j<c.length:=by
      rcases Nat.lt_or_ge j c.length with h | h
      · exact h
      · simp [List.getElem?_eq_none h] at hj
    rw [List.flatten_cons,Nat.zero_mul,Nat.zero_add,List.getElem?_append_left hlt];exact hj
  | c::css,h,i+1,cs,hi,j,v,hj=>by
    rw [List.flatten_cons,List.getElem?_append_right (by rw [h c List.mem_cons_self,Nat.add_mul];omega),h c List.mem_cons_self]
    have:(i+1)*sz+j-sz=i*sz+j:=by rw [Nat.add_mul];omega
    rw [this]
    exact Ed (fun c hc=>h c (List.mem_cons_of_mem _ hc)) i cs (by simpa using hi) j v hj
theorem VE {sz:Nat} : ∀ {css:List (List Value)} (h: ∀cs∈css,cs.length=sz) (k:Nat),(css.drop k).flatten=css.flatten.drop (k*sz)
  | [],_,k=>by simp
  | c::css,h,0=>by simp
  | c::css,h,k+1=>by
    have h1:c.drop ((k+1)*sz)= [] :=List.drop_eq_nil_of_le (by rw [h c List.mem_cons_self,Nat.add_mul];omega)
    rw [List.drop_succ_cons,VE (fun c hc=>h c (List.mem_cons_of_mem _ hc)),List.flatten_cons,List.drop_append,h1,List.nil_append,h c List.mem_cons_self]
    congr 1;rw [Nat.add_mul];omega
end
theorem Reps.lens {α:Type} {e:De α} {Z:Nat→Prop} {w:World} {xs:List α} {css:List (List Value)} (h:Reps (e.rep Z w) xs css): ∀cs∈css,cs.length=e.sz:=by
  induction h with
  | nil=>intro cs hc;cases hc
  | cons h _ ih=>intro cs hc;rcases List.mem_cons.1 hc with rfl | hc;exact e.len h;exact ih cs hc
theorem Reps.ones {α:Type} {e:De α} {Z:Nat→Prop} {w:World} {xs:List α} {css:List (List Value)} (h:Reps (e.rep Z w) xs css): ∀v∈css.flatten,v.oneCell'=true:=by
  induction h with
  | nil=>intro v hv;simp at hv
  | cons h _ ih=>
    intro v hv
    rw [List.flatten_cons] at hv
    rcases List.mem_append.1 hv with hv | hv
    · exact List.all_eq_true.1 (e.one h) v hv
    · exact ih v hv
def RdS {α:Type} (e:De α) (Z:Nat→Prop) (w:World) (A:Option Addr) (cap:Nat) (xs:List α):Prop:=
  xs.length≤cap∧cap≤maxLen∧((xs= [] ∧(A=none→cap=0))∨ ∃b q css,A=some ⟨b,q,none⟩∧Z b∧Reps (e.rep Z w) xs css∧CellsAt w b q css.flatten)
theorem CellsAt.keep {w w':World} {b q:Nat} {cs:List Value} (h:CellsAt w b q cs) (hh:w'.heap[b]? =w.heap[b]?):CellsAt w' b q cs:=by
  obtain ⟨full,T,fr,h1,h2⟩:=h
  exact ⟨full,T,fr,hh.trans h1,h2⟩
def RdF {α:Type} (e:De α) (A:Option Addr) (cap:Nat) (xs:List α):Fact where
  holds Z w:=RdS e Z w A cap xs
  stable hz hh h1 h2 h3 h:=by
    obtain ⟨g1,g2,g3 | ⟨b,q,css,g3,g4,g5,g6⟩⟩:=h
    · exact ⟨g1,g2, .inl g3⟩
    · exact ⟨g1,g2, .inr ⟨b,q,css,g3,hz _ g4,g5.mono fun x cs=>e.stable hz hh h1 h2 h3,g6.keep (hh _ g4)⟩⟩
def RepsF {α:Type} (e:De α) (xs:List α) (css:List (List Value)):Fact where
  holds Z w:=Reps (e.rep Z w) xs css
  stable hz hh h1 h2 h3 h:=h.mono fun x cs=>e.stable hz hh h1 h2 h3
theorem RdS.nil {α:Type} (e:De α) (Z:Nat→Prop) (w:World):RdS e Z w none 0 [] :=⟨by simp,by simp [maxLen], .inl ⟨rfl,fun _=>rfl⟩⟩
def De.int (k:IntKind):De Int where
  sz:=1
  rep _ _ x cs:=cs= [.int k x]
  len h:=by subst h;rfl
  one h:=by subst h;rfl
  stable _ _ _ _ _ h:=h
def De.sl {α:Type} (e:De α):De (List α) where
  sz:=1
  rep Z w xs cs:= ∃A cap,cs= [.slice A xs.length cap] ∧RdS e Z w A cap xs
  len h:=by obtain ⟨A,cap,rfl,_⟩:=h;rfl
  one h:=by obtain ⟨A,cap,rfl,_⟩:=h;rfl
  stable hz hh h1 h2 h3 h:=by
    obtain ⟨A,cap,g1,g2⟩:=h
    exact ⟨A,cap,g1,(RdF e A cap _).stable hz hh h1 h2 h3 g2⟩
def Row (T:TypeId) (sz:Nat) (v:Value) (n:Nat) (cs:List Value) (p:Part):Prop:=
  cs.length=n*sz∧((v= .slice none 0 0∧n=0∧p= [])∨
    ∃b cap jk,v= .slice (some ⟨b,0,none⟩) n cap∧p= [(b,JD (cs++jk) T)] ∧(cs++jk).length=cap*sz∧n≤cap∧cap≤maxLen)
theorem Row.nil (T:TypeId) (sz:Nat):Row T sz (.slice none 0 0) 0 [] [] :=⟨by simp, .inl ⟨rfl,rfl,rfl⟩⟩
theorem Row.slice {T:TypeId} {sz n:Nat} {v:Value} {cs:List Value} {p:Part} (h:Row T sz v n cs p): ∃A cap,v= .slice A n cap:=by
  rcases h.2 with ⟨rfl,rfl,_⟩ | ⟨b,cap,jk,rfl,_⟩
  · exact ⟨none,0,rfl⟩
  · exact ⟨_,cap,rfl⟩
theorem Row.owns {T:TypeId} {sz n:Nat} {v:Value} {cs:List Value} {p:Part} {Z:Nat→Prop} {w:World} {Ps:List Part} {As:List Fact} (h:Row T sz v n cs p) (hs:St Z w (p::Ps) As):w.ownsRow 0 T sz v n cs:=by
  refine ⟨h.1,?_⟩
  rcases h.2 with ⟨rfl,rfl,_⟩ | ⟨b,cap,jk,rfl,rfl,h1,h2,h3⟩
  · exact .inl ⟨rfl,rfl⟩
  · refine .inr ⟨b,cap,(cs++jk).toArray,rfl,Nat.zero_le _,(hs.own (b,JD (cs++jk) T) (by simp)).1,h2,h3,by simpa using h1,?_⟩
    rw [List.toList_toArray,←h.1,List.take_left]
theorem Row.freeze {α:Type} {e:De α} {T:TypeId} {v:Value} {n:Nat} {p:Part} {css:List (List Value)} {xs:List α} {Z:Nat→Prop} {w:World} {Ps:List Part} {As:List Fact} (h:Row T e.sz v n css.flatten p) (hn:n=xs.length) (hs:St Z w (p::Ps) As) (hr:Reps (e.rep Z w) xs css):
    ∃A cap,v= .slice A xs.length cap∧RdS e (fun b=>Z b∨ ∃o,(b,o)∈p) w A cap xs:=by
  subst hn
  rcases h.2 with ⟨rfl,h1,_⟩ | ⟨b,cap,jk,rfl,rfl,h1,h2,h3⟩
  · have:xs= [] :=List.length_eq_zero_iff.1 h1
    subst this
    exact ⟨none,0,rfl,RdS.nil _ _ _⟩
  · refine ⟨_,cap,rfl,h2,h3, .inr ⟨b,0,css,rfl, .inr ⟨_,List.mem_singleton.2 rfl⟩,hr.mono fun x cs=>e.stable (fun _ hb=> .inl hb) (fun _ _=>rfl) rfl rfl rfl,?_⟩⟩
    refine ⟨_,_,_,(hs.own (b,JD (css.flatten++jk) T) (by simp)).1,fun j u hu=> ?_⟩
    have hlt:j<css.flatten.length:=by
      rcases Nat.lt_or_ge j css.flatten.length with h | h
      · exact h
      · simp [List.getElem?_eq_none h] at hu
    simp only [Nat.zero_add,List.getElem?_toArray]
    rw [List.getElem?_append_left hlt];exact hu
section
variable {P:Program} {n:Dm} {R:Post} {l:Fr} {Ps Ps':List Part} {As:List Fact} {ops:Array Oper} {rest:List Oper} {ty:TypeId} {pos:String} {aft:Array Edge} {g:Option (Nat×Bool)} {K:Nx} {d:Nat}
theorem Jad {β:Type} {Fs:β→List Fact} {p:β→Prop} {A:Fact} (hA:A∈As) (hx: ∀Z w,A.holds Z w→ ∃x,p x∧ ∀B∈Fs x,B.holds Z w) (h: ∀x,p x→WL P n ops R rest l Ps (Fs x++As)):WL P n ops R rest l Ps As:=by
  intro Z w a hs ha
  obtain ⟨x,h1,h2⟩:=hx Z w (hs.facts A hA)
  exact h x h1 Z w a ⟨hs.zlt,hs.own,hs.nodup,fun B hB=>by rcases List.mem_append.1 hB with h | h;exact h2 B h;exact hs.facts B h⟩ ha
theorem Hv {c:Code} {β:Type} {Fs:β→List Fact} {p:β→Prop} {A:Fact} (hA:A∈As) (hx: ∀Z w,A.holds Z w→ ∃x,p x∧ ∀B∈Fs x,B.holds Z w) (h: ∀x,p x→WC P n c R l Ps (Fs x++As)):WC P n c R l Ps As:=by
  intro Z w a hs ha
  obtain ⟨x,h1,h2⟩:=hx Z w (hs.facts A hA)
  exact h x h1 Z w a ⟨hs.zlt,hs.own,hs.nodup,fun B hB=>by rcases List.mem_append.1 hB with h | h;exact h2 B h;exact hs.facts B h⟩ ha
theorem Jae {A:Fact} (hA: ∀Z w,St Z w Ps As→A.holds Z w) (h:WL P n ops R rest l Ps (A::As)):WL P n ops R rest l Ps As:=fun Z w a hs ha=>h Z w a (hs.addFact (hA Z w hs)) ha
theorem Kf {c:Code} {A:Fact} (hA: ∀Z w,St Z w Ps As→A.holds Z w) (h:WC P n c R l Ps (A::As)):WC P n c R l Ps As:=fun Z w a hs ha=>h Z w a (hs.addFact (hA Z w hs)) ha
theorem St.freezeRow {α:Type} {e:De α} {T:TypeId} {v:Value} {m:Nat} {p:Part} {css:List (List Value)} {xs:List α} {Z:Nat→Prop} {w:World} (hs:St Z w Ps As) (hp:DelAt Ps p Ps') (h:Row T e.sz v m css.flatten p) (hn:m=xs.length) (hr:RepsF e xs css∈As):
    ∃A cap Z',v= .slice A xs.length cap∧St Z' w Ps' (RdF e A cap xs::As):=by
  have h1:=hs.permParts hp.perm
  obtain ⟨A,cap,h2,h3⟩:=h.freeze hn h1 (hs.facts _ hr)
  exact ⟨A,cap,_,h2,h1.freeze.addFact h3⟩
theorem GO {α:Type} {e:De α} {T:TypeId} {v:Value} {m:Nat} {p:Part} {css:List (List Value)} {xs:List α} (h:Row T e.sz v m css.flatten p) (hp:DelAt Ps p Ps') (hn:m=xs.length) (hr:RepsF e xs css∈As)
    (hk: ∀A cap,v= .slice A xs.length cap→WL P n ops R rest l Ps' (RdF e A cap xs::As)):WL P n ops R rest l Ps As:=fun Z w a hs ha=>by
  obtain ⟨A,cap,Z',h1,h2⟩:=hs.freezeRow hp h hn hr
  exact hk A cap h1 Z' w a h2 ha
theorem KW {c:Code} {α:Type} {e:De α} {T:TypeId} {v:Value} {m:Nat} {p:Part} {css:List (List Value)} {xs:List α} (h:Row T e.sz v m css.flatten p) (hp:DelAt Ps p Ps') (hn:m=xs.length) (hr:RepsF e xs css∈As)
    (hk: ∀A cap,v= .slice A xs.length cap→WC P n c R l Ps' (RdF e A cap xs::As)):WC P n c R l Ps As:=fun Z w a hs ha=>by
  obtain ⟨A,cap,Z',h1,h2⟩:=hs.freezeRow hp h hn hr
  exact hk A cap h1 Z' w a h2 ha
theorem Gp (h:WL P n ops R rest l ([] ::Ps) As):WL P n ops R rest l Ps As:=fun Z w a hs ha=>h Z w a hs.nilPart ha
theorem KE {c:Code} (h:WC P n c R l ([] ::Ps) As):WC P n c R l Ps As:=fun Z w a hs ha=>h Z w a hs.nilPart ha
theorem J7 {x:Operand} {T E:TypeId} {A:Option Addr} {m c:Nat} {dd:Option Tmp} (hu:P.underlying T=some (.slice E)) (hx:evs l x=some (.slice A m c)):QR P l Ps As ⟨dd, .call ⟨.builtin .len,#[x],#[T]⟩,ty,pos,aft,g⟩ (.int .i64 m):=fun Z w ρ hs hρ=>by
  simp only [execOp,resolve,invoke,List.map_toArray,List.map_cons,List.map_nil,hρ _ _ hx,Sem.run_bind,Sem.run_pure,Result.andThen_ok]
  show ((do pure (Next.value (←Builtin.len_ #[T] ty #[.slice A m c])):Sem Next)).run P w=_
  simp [Builtin.len_,run_underlying hu,goInt]
theorem EV {x:Operand} {T:TypeId} {s:ByteArray} {dd:Option Tmp} (hu:P.underlying T=some .string) (hx:evs l x=some (.string s)):QR P l Ps As ⟨dd, .call ⟨.builtin .len,#[x],#[T]⟩,ty,pos,aft,g⟩ (.int .i64 s.size):=fun Z w ρ hs hρ=>by
  simp only [execOp,resolve,invoke,List.map_toArray,List.map_cons,List.map_nil,hρ _ _ hx,Sem.run_bind,Sem.run_pure,Result.andThen_ok]
  show ((do pure (Next.value (←Builtin.len_ #[T] ty #[.string s])):Sem Next)).run P w=_
  simp [Builtin.len_,run_underlying hu,goInt]
theorem Xl {T E:TypeId} {b q len cap:Nat} {i:Int} {z:Option Value} {sz by_:Nat} {w:World} (hu:P.underlying T=some (.slice E)) (ht:ti P E=some (z,sz,by_)) (h0:0≤i) (h1:i<len):(Instr.indexAt T (.slice (some ⟨b,q,none⟩) len cap) (.int .i64 i)).run P w= .ok (.pointer (some ⟨b,q+i.toNat* sz,none⟩)) w:=by
  simp [Instr.indexAt,asIntOf,run_underlying hu,h0,h1,KU ht,KZ]
theorem KL {T E:TypeId} {x ix:Operand} {b o o' len:Nat} {k:IntKind} {i:Int} {z:Option Value} {sz by_:Nat} {dd:Option Tmp} (hu:P.underlying T=some (.array len E)) (ht:ti P E=some (z,sz,by_)) (hx:evs l x=some (.pointer (some ⟨b,o,none⟩))) (hi:evs l ix=some (.int k i)) (h0:0≤i) (h1:i<len) (ho:o+i.toNat* sz=o'):
    QR P l Ps As ⟨dd, .indexAddr T x ix,ty,pos,aft,g⟩ (.pointer (some ⟨b,o',none⟩)):=fun Z w ρ hs hρ=>by
  subst ho
  simp only [execOp,hρ _ _ hx,hρ _ _ hi]
  have:(Instr.indexAt T (.pointer (some ⟨b,o,none⟩)) (.int k i)).run P w= .ok (.pointer (some ⟨b,o+i.toNat* sz,none⟩)) w:=by
    simp [Instr.indexAt,asIntOf,run_underlying hu,Instr.sureAddr,h0,h1,KU ht,KZ]
  rw [Sem.run_bind,this];rfl
theorem Yv {T E:TypeId} {x ix:Operand} {b len cap:Nat} {i:Int} {z:Option Value} {sz by_:Nat} {dd:Option Tmp} (hu:P.underlying T=some (.slice E)) (ht:ti P E=some (z,sz,by_)) (hx:evs l x=some (.slice (some ⟨b,0,none⟩) len cap)) (hi:evs l ix=some (.int .i64 i)) (h0:0≤i) (h1:i<len):
    QR P l Ps As ⟨dd, .indexAddr T x ix,ty,pos,aft,g⟩ (.pointer (some ⟨b,i.toNat* sz,none⟩)):=fun Z w ρ hs hρ=>by
  simp only [execOp,hρ _ _ hx,hρ _ _ hi];rw [Sem.run_bind,Xl hu ht h0 h1,Nat.zero_add];rfl
theorem K8 {T:TypeId} {x y:Operand} {b o:Nat} {v:Value} {cs:List Value} {T':TypeId} {z:Option Value} {by_:Nat} (ht:ti P T=some (z,1,by_)) (hx:evs l x=some (.pointer (some ⟨b,o,none⟩))) (hy:evs l y=some v) (hv:v.oneCell'=true)
    (hc:o<cs.length) (hp:SetAt Ps [(b,JD cs T')] [(b,JD (cs.set o v) T')] Ps') (h:K l Ps' As):OW P n R l Ps As ⟨none, .store T x y,ty,pos,aft,g⟩ K:=
  V6 rfl fun Z w ρ hs hρ=>by
    have hb:w.heap[b]? =some (JD cs T'):=by
      obtain ⟨Qs,h3,h4⟩:=hp.perm
      exact ((hs.permParts h3).own (b,_) (by simp)).1
    have hcell:v.cells= #[v] :=by cases v<;>first | rfl | (simp [Value.oneCell'] at hv;done)
    refine ⟨w.setCell ⟨b,o,none⟩ v,Z,Ps',As,?_,hs.setAt hp fun h=>h.setCell v,h⟩
    simp only [execOp,hρ _ _ hx,hρ _ _ hy,Instr.storeAt,Instr.sureAddr,storeVar,Sem.run_bind,Sem.run_pure,Result.andThen_ok,KU ht,hcell]
    simp [storeCells,KZ,QQ hb hc hv]
theorem XY {x y:Operand} {T T2:TypeId} {k:IntKind} {a b:Int} {dd:Option Tmp} (hx:evs l x=some (.int k a)) (hy:evs l y=some (.int k b)):QR P l Ps As ⟨dd, .call ⟨.builtin .min,#[x,y],#[T,T2]⟩,ty,pos,aft,g⟩ (.int k (min a b)):=fun Z w ρ hs hρ=>by
  have h2:Builtin.min2 (.int k a) (.int k b)=pure (.int k (min a b)):=by
    simp only [Builtin.min2];congr 2;omega
  simp only [execOp,resolve,invoke,List.map_toArray,List.map_cons,List.map_nil,hρ _ _ hx,hρ _ _ hy,Sem.run_bind,Sem.run_pure,Result.andThen_ok]
  show ((do pure (Next.value (←Builtin.min_ #[T,T2] ty #[.int k a, .int k b])):Sem Next)).run P w=_
  simp only [Builtin.min_,List.foldlM_cons,List.foldlM_nil,h2,Sem.run_bind,Sem.run_pure,Result.andThen_ok]
theorem VM {x y:Operand} {T T2:TypeId} {k:IntKind} {a b:Int} {dd:Option Tmp} (hx:evs l x=some (.int k a)) (hy:evs l y=some (.int k b)):QR P l Ps As ⟨dd, .call ⟨.builtin .max,#[x,y],#[T,T2]⟩,ty,pos,aft,g⟩ (.int k (max a b)):=fun Z w ρ hs hρ=>by
  have h2:Builtin.max2 (.int k a) (.int k b)=pure (.int k (max a b)):=by
    simp only [Builtin.max2];congr 2;omega
  simp only [execOp,resolve,invoke,List.map_toArray,List.map_cons,List.map_nil,hρ _ _ hx,hρ _ _ hy,Sem.run_bind,Sem.run_pure,Result.andThen_ok]
  show ((do pure (Next.value (←Builtin.max_ #[T,T2] ty #[.int k a, .int k b])):Sem Next)).run P w=_
  simp only [Builtin.max_,List.foldlM_cons,List.foldlM_nil,h2,Sem.run_bind,Sem.run_pure,Result.andThen_ok]
theorem Row.of_owns {T:TypeId} {sz m:Nat} {v v':Value} {cs:List Value} {p:Part} {Z:Nat→Prop} {w w':World} (hs:St Z w (p::Ps) As) {n0:Nat} {cs0:List Value} (hr:Row T sz v n0 cs0 p) (ho:w'.ownsRow 0 T sz v' m cs) (hg:w.grownBy w' v.ownBlock) (hw:v'.ownBlock=v.ownBlock∨v'.ownBlock=some w.heap.size):
    ∃p',Row T sz v' m cs p'∧St Z w' (p'::Ps) As:=by
  have hkeep: ∀b,b<w.heap.size→(∀o,(b,o)∉p)→w'.heap[b]? =w.heap[b]? :=fun b hb hn=>by
    refine hg.block b hb fun e=> ?_
    rcases hr.2 with ⟨rfl,_,_⟩ | ⟨g,cap,jk,rfl,rfl,_⟩
    · simp [Value.ownBlock] at e
    · have e:b=g:=by simpa [Value.ownBlock] using e
      subst e
      exact hn _ (List.mem_singleton.2 rfl)
  rcases ho.2 with ⟨rfl,rfl⟩ | ⟨b,cap,cur,rfl,_,hb,hnc,hcm,hsz,htk⟩
  · refine ⟨[],⟨ho.1, .inl ⟨rfl,rfl,rfl⟩⟩,hs.turn hg.os hg.tape hg.output hg.size hkeep (by simp) (by simp)⟩
  · have hcur:cur.toList=cs++cur.toList.drop (m*sz):=by rw [←htk];exact (List.take_append_drop _ _).symm
    refine ⟨[(b,JD (cs++cur.toList.drop (m*sz)) T)],⟨ho.1, .inr ⟨b,cap,cur.toList.drop (m*sz),rfl,rfl,by rw [←hcur];simpa using hsz,hnc,hcm⟩⟩,?_⟩
    refine hs.turn hg.os hg.tape hg.output hg.size hkeep (fun q hq=> ?_) (by simp)
    simp only [List.mem_singleton] at hq
    subst hq
    refine ⟨by rw [←hcur];simpa [JD] using hb,?_⟩
    rcases hw with hw | hw
    · rcases hr.2 with ⟨rfl,_,_⟩ | ⟨b',cap',jk',rfl,rfl,_⟩
      · simp [Value.ownBlock] at hw
      · have:b=b':=by simpa [Value.ownBlock] using hw
        subst this
        exact .inl ⟨_,List.mem_singleton.2 rfl⟩
    · have:b=w.heap.size:=by simpa [Value.ownBlock] using hw
      exact .inr (by omega)
theorem Qo {T E:TypeId} {zv:Value} {sz by_:Nat} {p:Part} {Z:Nat→Prop} {w:World} (hu:P.underlying T=some (.slice E)) (ht:ti P E=some (some zv,sz,by_)) (hz:zv.cells.size=sz) (hsz:0<sz) (hs:St Z w (p::Ps) As) {v:Value} {k:Nat} {cs:List Value} (hr:Row E sz v k cs p)
    {ad:Addr} {m c:Nat} {news:List Value} (hl:news.length=m*sz) (hn: ∀j u,news[j]? =some u→w.cell? (ad.add j)=some u) (h1: ∀u∈news,u.oneCell'=true) (h63:(k+m)*by_≤140737488355328) (hmx:k+m≤maxLen):
    ∃v' w' p',(Builtin.append_ #[T,T] ty #[v, .slice (some ad) m c]).run P w= .ok v' w'∧Row E sz v' (k+m) (cs++news) p'∧St Z w' (p'::Ps) As:=by
  unfold ti at ht
  cases hi:P.info? E with
  | none=>rw [hi] at ht;cases ht
  | some i=>
    rw [hi] at ht
    simp only [Option.map_some,Option.some.injEq,Prod.mk.injEq] at ht
    obtain ⟨v',w',g1,g2,g3,_,g5⟩:=run_append_own_at (P:=P) w 0 T ty E i zv sz by_ hu hi ht.1 ht.2.1 ht.2.2 hz hsz v k cs (hr.owns hs) ad m c news hl hn h1 hmx h63 (Nat.zero_le _)
    obtain ⟨p',k1,k2⟩:=Row.of_owns hs hr g2 g3 g5
    exact ⟨v',w',p',g1,k1,k2⟩
theorem Xv {T E:TypeId} {z:Option Value} {sz by_:Nat} {p:Part} {Z:Nat→Prop} {w:World} (hu:P.underlying T=some (.slice E)) (ht:ti P E=some (z,sz,by_)) (hs:St Z w (p::Ps) As) {v:Value} {k:Nat} {cs:List Value} (hr:Row E sz v k cs p):
    (Builtin.append_ #[T,T] ty #[v, .slice none 0 0]).run P w= .ok v w:=by
  unfold ti at ht
  cases hi:P.info? E with
  | none=>rw [hi] at ht;cases ht
  | some i=>exact run_append_owned_none w 0 T ty E i sz hu hi v k cs (hr.owns hs)
theorem K5 {ρ:Operand→Value} {dd:Option Tmp} {x y:Operand} {T:TypeId} {u v:Value} (hx:ρ x=u) (hy:ρ y=v):execOp ρ ⟨dd, .call ⟨.builtin .append,#[x,y],#[T,T]⟩,ty,pos,aft,g⟩=(do pure (.value (←Builtin.append_ #[T,T] ty #[u,v]))):=by
  simp only [execOp,resolve,invoke,List.map_toArray,List.map_cons,List.map_nil,hx,hy];rfl
theorem KV {T E:TypeId} {x y:Operand} {zv:Value} {sz by_ k b c:Nat} {v:Value} {cs news:List Value} {T':TypeId} {p:Part} {Qs:List Part} (hu:P.underlying T=some (.slice E)) (ht:ti P E=some (some zv,sz,by_)) (hz:zv.cells.size=sz) (hsz:0<sz) (hx:evs l x=some v) (hy:evs l y=some (.slice (some ⟨b,0,none⟩) 1 c))
    (hr:Row E sz v k cs p) (hb:OwnAt Qs b (JD news T')) (hl:news.length=sz) (h1:news.all Value.oneCell'=true) (h63:(k+1)*by_≤140737488355328) (hmx:k+1≤maxLen) (hd:d<n.sz) (hQ:(p::Qs).flatten.Perm Ps.flatten)
    (h: ∀v' p',Row E sz v' (k+1) (cs++news) p'→K ((d,v')::l) (p'::Qs) As):OW P n R l Ps As ⟨some d, .call ⟨.builtin .append,#[x,y],#[T,T]⟩,ty,pos,aft,g⟩ K:=
  K0 rfl hd fun Z w ρ hs hρ=>by
    have hs':=hs.permParts hQ
    have hc:CellsAt w b 0 news:=⟨_,_,_,hs'.block (Ji hb),fun j v hv=>by simpa using hv⟩
    obtain ⟨v',w',p',g1,g2,g3⟩:=Qo (ty:=ty) (c:=c) hu ht hz hsz hs' hr (ad:=⟨b,0,none⟩) (m:=1) (news:=news) (by simp [hl]) (fun j u hu=>by rw [KZ];exact hc.cell hu) (fun u hu=>List.all_eq_true.1 h1 u hu) h63 hmx
    exact ⟨v',w',Z,_,As,by rw [K5 (hρ _ _ hx) (hρ _ _ hy),Sem.run_bind,g1];rfl,g3,h v' p' g2⟩
theorem YE {α:Type} {e:De α} {T E:TypeId} {x y:Operand} {zv:Value} {by_ k cap:Nat} {A:Option Addr} {v:Value} {cs:List Value} {ys:List α} {p:Part} {Qs:List Part} (hu:P.underlying T=some (.slice E)) (ht:ti P E=some (some zv,e.sz,by_)) (hz:zv.cells.size=e.sz) (hsz:0<e.sz) (hx:evs l x=some v) (hy:evs l y=some (.slice A ys.length cap))
    (hr:Row E e.sz v k cs p) (hA:RdF e A cap ys∈As) (h63:(k+ys.length)*by_≤140737488355328) (hmx:k+ys.length≤maxLen) (hd:d<n.sz) (hQ:(p::Qs).flatten.Perm Ps.flatten)
    (h: ∀v' p' css,Row E e.sz v' (k+ys.length) (cs++css.flatten) p'→K ((d,v')::l) (p'::Qs) (RepsF e ys css::As)):OW P n R l Ps As ⟨some d, .call ⟨.builtin .append,#[x,y],#[T,T]⟩,ty,pos,aft,g⟩ K:=
  K0 rfl hd fun Z w ρ hs hρ=>by
    have hs':=hs.permParts hQ
    obtain ⟨g1,g2,⟨rfl,g3⟩ | ⟨b,q,css,rfl,g4,g5,g6⟩⟩:RdS e Z w A cap ys:=hs.facts _ hA
    · have hk:St Z w (p::Qs) (RepsF e [] [] ::As):=hs'.addFact (A:=RepsF e [] []) Reps.nil
      rcases A with _ | ad
      · have:=g3 rfl;subst this
        exact ⟨v,w,Z,_,_,by rw [K5 (hρ _ _ hx) (hρ _ _ hy),Sem.run_bind];erw [Xv hu ht hs' hr];rfl,hk,h v p [] (by simpa using hr)⟩
      · obtain ⟨v',w',p',k1,k2,k3⟩:=Qo (ty:=ty) (c:=cap) hu ht hz hsz hk hr (ad:=ad) (m:=0) (news:= []) (by simp) (by simp) (by simp) h63 hmx
        exact ⟨v',w',Z,_,_,by rw [K5 (hρ _ _ hx) (hρ _ _ hy),Sem.run_bind];erw [k1];rfl,k3,h v' p' [] (by simpa using k2)⟩
    · obtain ⟨v',w',p',k1,k2,k3⟩:=Qo (ty:=ty) (c:=cap) hu ht hz hsz (hs'.addFact (A:=RepsF e ys css) g5) hr (ad:=⟨b,q,none⟩) (m:=ys.length) (news:=css.flatten) (by rw [YL g5.lens,g5.length]) (fun j u hu=>by rw [KZ];exact g6.cell hu) (fun u hu=>g5.ones u hu) h63 hmx
      exact ⟨v',w',Z,_,_,by rw [K5 (hρ _ _ hx) (hρ _ _ hy),Sem.run_bind,k1];rfl,k3,h v' p' css k2⟩
theorem GH: ∀(L:List Value) (A:Array Value) (k:Nat),k+L.length≤A.size→(L.zipIdx k).foldl (fun cs (p:Value×Nat)=>cs.setIfInBounds p.2 p.1) A=(A.toList.take k++(L++A.toList.drop (k+L.length))).toArray
  | [],A,k,_=>by simp
  | v::L,A,k,h=>by
    simp only [List.length_cons] at h
    rw [List.zipIdx_cons,List.foldl_cons,GH L _ (k+1) (by simp;omega)]
    apply Array.ext'
    simp only [Array.toList_setIfInBounds,List.length_cons]
    have hk:k<A.toList.length:=by simp;omega
    rw [List.set_eq_take_append_cons_drop,if_pos hk]
    have e1:(A.toList.take k).length=k:=by simp;omega
    have e5:(A.toList.take k++v::A.toList.drop (k+1)).take (k+1)=A.toList.take k++ [v] :=by
      rw [List.take_append,e1,List.take_of_length_le (by rw [e1];omega),show k+1-k=1 from by omega]
      rfl
    have e6:(A.toList.take k++v::A.toList.drop (k+1)).drop (k+1+L.length)=A.toList.drop (k+(L.length+1)):=by
      rw [List.drop_append,e1,List.drop_eq_nil_of_le (by rw [e1];omega),List.nil_append,show k+1+L.length-k=L.length+1 from by omega,List.drop_succ_cons,List.drop_drop]
      congr 1;omega
    rw [e5,e6]
    simp
theorem Zu {sz:Nat} {v:Value} {cells:Array Value} (h1:v.cells.size=sz) (h2:cells.size=sz):Instr.fill (fun i=>some (i*sz,sz)) cells [(0,v)] =some v.cells:=by
  unfold Instr.fill
  simp only [Nat.zero_mul,Nat.zero_add,h1,h2,ne_eq,not_true_eq_false,decide_false,Bool.false_or,Nat.lt_irrefl,Instr.fill]
  simp only [gt_iff_lt,Nat.lt_irrefl,decide_false,Bool.false_eq_true,if_false]
  congr 1
  have h3:=GH v.cells.toList cells 0 (by simp;omega)
  rw [←Array.foldl_toList,Array.toList_zipIdx]
  refine h3.trans ?_
  rw [List.drop_eq_nil_of_le (by simp;omega)]
  simp
theorem KP {T E:TypeId} {zv v:Value} {x:Operand} {sz by_:Nat} {cs:List Value} (hu:P.underlying T=some (.slice E)) (ht:ti P E=some (some zv,sz,by_)) (hsz:0<sz) (hs2:sz≤1000) (hz:zv.cells.size=sz) (hx:evs l x=some v) (hc:v.cells=cs.toArray) (hl:cs.length=sz) (hd:d<n.sz)
    (h: ∀b,K ((d, .slice (some ⟨b,0,none⟩) 1 1)::l) ([(b,JD cs E)] ::Ps) As):OW P n R l Ps As ⟨some d, .buildSlice T 1 #[(0,x)],ty,pos,aft,g⟩ K:=
  K0 rfl hd fun Z w ρ hs hρ=>by
    refine ⟨_,w.alloc (JD cs E),Z,_,As,?_,hs.alloc _,h w.heap.size⟩
    have hrun:(Instr.buildSlice T 1 #[(0,v)]).run P w= .ok (.slice (some ⟨w.heap.size,0,none⟩) 1 1) (w.alloc (JD cs E)):=by
      have hcs:v.cells.size=sz:=by rw [hc];simpa using hl
      unfold Instr.buildSlice
      simp only [Sem.run_bind,run_underlying hu,Result.andThen_ok,KU ht]
      rw [if_neg (by simp;omega),if_neg (by omega)]
      simp only [Sem.run_bind,Qa ht,Result.andThen_ok,Sem.run_pure]
      rw [Zu hcs (by simp),hc]
      simp only [Sem.run_bind,newRow,run_newObj,Result.andThen_ok,Sem.run_pure]
      rfl
    simp only [execOp,List.map_toArray,List.map_cons,List.map_nil,hρ _ _ hx,Sem.run_bind,hrun];rfl
end
end Go.GW
namespace Go.Proofs.YthkkklphanidjaaGreatDoorW.PrintLast
section
variable {P:Program} {ops:Array Oper} {Q:Exit→Act→World→Prop} {md:Region.Mode} {S:World→Prop} {ds:List Nat}
def Region.reachB (md:Region.Mode) (ops:Array Oper) (i:Nat):Nat→Nat→Bool
  | 0,_=>false
  | fuel+1,d=>match ops[d]? with
    | some o=>o.after.any fun e=>Region.binds md e && (e.on==i || Region.reachB md ops i fuel e.on)
    | none=>false
def Region.closedB (md:Region.Mode) (ops:Array Oper) (listed:Array Bool):Bool:=
  (List.range ops.size).all fun j=> !listed.getD j false || match ops[j]? with
    | some o=>o.after.all fun e=> !Region.binds md e || listed.getD e.on false
    | none=>true
def Region.lastB (md:Region.Mode) (ops:Array Oper) (listed:Array Bool) (ds:List Nat) (i:Nat):Bool:=
  ds.all fun d=>listed.getD d true || Region.reachB md ops i ops.size d
def ListedClosed (md:Region.Mode) (ops:Array Oper) (listed:Array Bool):Prop:=
  ∀j oj,ops[j]? =some oj→listed.getD j false=true→ ∀e∈oj.after,Region.binds md e=true→listed.getD e.on false=true
theorem Region.closedB_spec {listed:Array Bool} (h:Region.closedB md ops listed=true):ListedClosed md ops listed:=by
  intro j oj hj hl e he hb
  have hlt:j<ops.size:=(Array.getElem?_eq_some_iff.1 hj).1
  have h1:=List.all_eq_true.1 h j (List.mem_range.2 hlt)
  simp only [hl,hj,Bool.not_true,Bool.false_or] at h1
  have h2:=Array.all_eq_true_iff_forall_mem.1 h1 e he
  simpa [hb] using h2
theorem ListedClosed.set {listed:Array Bool} {i:Nat} (h:ListedClosed md ops listed) (hi:i∈Region.ready md ops listed):ListedClosed md ops (listed.setIfInBounds i true):=by
  obtain ⟨_,oi,hoi,hall⟩:=mem_ready.1 hi
  intro j oj hj hl e he hb
  by_cases hij:i=j
  · subst hij
    have:oj=oi:=Option.some.inj (hj.symm.trans hoi)
    subst this
    exact getD_set_true (hall e he hb)
  · rw [getD_set_ne false hij] at hl
    exact getD_set_true (h j oj hj hl e he hb)
theorem Region.reach_listed {listed:Array Bool} {i:Nat} (hc:ListedClosed md ops listed): ∀(fuel d:Nat),Region.reachB md ops i fuel d=true→listed.getD d false=true→listed.getD i false=true
  | 0,_,h,_=>by simp [Region.reachB] at h
  | fuel+1,d,h,hl=>by
    unfold Region.reachB at h
    cases ho:ops[d]? with
    | none=>rw [ho] at h;simp at h
    | some o=>
      rw [ho] at h
      obtain ⟨e,he,h1⟩:=Array.any_eq_true'.1 h
      simp only [Bool.and_eq_true,Bool.or_eq_true,beq_iff_eq] at h1
      have hle:=hc d o ho hl e he h1.1
      rcases h1.2 with h2 | h2
      · rw [←h2];exact hle
      · exact Region.reach_listed hc fuel e.on h2 hle
theorem Region.reach_not_ready {listed:Array Bool} {i d fuel:Nat} (hc:ListedClosed md ops listed) (hr:Region.reachB md ops i fuel d=true) (hun:listed.getD i true=false):d∉Region.ready md ops listed:=by
  intro hd
  obtain ⟨_,o,ho,hall⟩:=mem_ready.1 hd
  have hi:listed.getD i false=true:=by
    cases fuel with
    | zero=>simp [Region.reachB] at hr
    | succ n=>
      unfold Region.reachB at hr
      rw [ho] at hr
      obtain ⟨e,he,h1⟩:=Array.any_eq_true'.1 hr
      simp only [Bool.and_eq_true,Bool.or_eq_true,beq_iff_eq] at h1
      have hle:=hall e he h1.1
      rcases h1.2 with h2 | h2
      · rw [←h2];exact hle
      · exact Region.reach_listed hc n e.on h2 hle
  rcases Nat.lt_or_ge i listed.size with h' | h'
  · simp [h'] at hun hi
    rw [hun] at hi
    cases hi
  · simp [Array.getElem?_eq_none h'] at hun
def wpAnyLast (P:Program) (md:Region.Mode) (ops:Array Oper) (Q:Exit→Act→World→Prop) (S:World→Prop) (ds:List Nat):Nat→Array Bool→Act→World→Prop
  | 0,listed,a,w=>Region.ready md ops listed= [] ∧Q .normal a w
  | fuel+1,listed,a,w=>
    (Region.ready md ops listed= [] →Q .normal a w)∧
    ∀i∈Region.ready md ops listed,wpOp P ops Q i (fun a' w'=>(i∉ds→S w→S w')∧wpAnyLast P md ops Q S ds fuel (listed.setIfInBounds i true) a' w') a w
theorem wpAny_of_last: ∀(fuel:Nat) (listed:Array Bool) (a:Act) (w:World),wpAnyLast P md ops Q S ds fuel listed a w→wpAny P md ops Q fuel listed a w
  | 0,_,_,_,h=>h
  | fuel+1,_,_,_,h=>⟨h.1,fun i hi=>wpOp_mono (fun a' w' h'=>wpAny_of_last fuel _ a' w' h'.2) (h.2 i hi)⟩
theorem wpAnyLast_first {i:Nat} {oi:Oper} {v:Value} (hi:ops[i]? =some oi) (hsel: ∀(j:Nat) (o:Oper) cs b,ops[j]? =some o→o.op≠ .select cs b)
    (hQ: ∀c a w,Q (.panic c) (a.put oi.dst v) w→Q (.panic c) a w) (n:Nat):
    ∀(fuel:Nat) (listed:Array Bool) (a:Act) (w:World),
      (∀j oj,ops[j]? =some oj→j≠i→listed.getD j true=false→(∀e∈oj.after,Region.binds md e=true→e.on≠i)→oi.apart ops oj=true)→
      ListedClosed md ops listed→(∀d∈ds,listed.getD d true=false→Region.reachB md ops i n d=true)→
      i∈Region.ready md ops listed→YieldsIf P ops S oi v a→S w→
      wpAnyLast P md ops Q S ds fuel (listed.setIfInBounds i true) (a.put oi.dst v) w→wpAnyLast P md ops Q S ds (fuel+1) listed a w:=by
  intro fuel
  induction fuel with
  | zero=>
    intro listed a w _ _ _ hr hy hS H
    refine ⟨fun h=>(by rw [h] at hr;cases hr),fun j hj=> ?_⟩
    by_cases hji:j=i
    · subst hji;exact hy.wpOp hi hS ⟨fun _ h=>h,H⟩
    · have:=ready_mono hj hji
      rw [H.1] at this
      cases this
  | succ fuel ih=>
    intro listed a w hfree hc hd hr hy hS H
    refine ⟨fun h=>(by rw [h] at hr;cases hr),fun j hj=> ?_⟩
    by_cases hji:j=i
    · subst hji;exact hy.wpOp hi hS ⟨fun _ h=>h,H⟩
    · have h1:=H.2 j (ready_mono hj hji)
      obtain ⟨hjun,oj,hoj,hall⟩:=mem_ready.1 hj
      have hiun:=(mem_ready.1 hr).1
      have hnot: ∀e∈oj.after,Region.binds md e=true→e.on≠i:=fun e he hb heq=>by
        have h1:=hall e he hb
        rw [heq] at h1
        rcases Nat.lt_or_ge i listed.size with h' | h'
        · simp [h'] at hiun h1;rw [hiun] at h1;cases h1
        · simp [Array.getElem?_eq_none h'] at h1
      have hjd:j∉ds:=fun hm=>Region.reach_not_ready hc (hd j hm hjun) hiun hj
      have h2:=wpOp_putIf hoj (hfree j oj hoj hji hjun hnot) (fun cs b=>hsel i oi cs b hi) (fun cs b=>hsel j oj cs b hoj) hQ hy h1
      have hfree': ∀k ok,ops[k]? =some ok→k≠i→(listed.setIfInBounds j true).getD k true=false→
          (∀e∈ok.after,Region.binds md e=true→e.on≠i)→oi.apart ops ok=true:=fun k ok hk hki hun hno=>by
        refine hfree k ok hk hki ?_ hno
        by_cases hjk:j=k
        · subst hjk;exact hjun
        · rw [getD_set_ne true hjk] at hun;exact hun
      have hd': ∀d∈ds,(listed.setIfInBounds j true).getD d true=false→Region.reachB md ops i n d=true:=fun d hm hun=>by
        refine hd d hm ?_
        by_cases hjk:j=d
        · subst hjk;exact hjun
        · rw [getD_set_ne true hjk] at hun;exact hun
      refine wpOp_mono (fun a' w' h3=>⟨h3.2.1,ih (listed.setIfInBounds j true) a' w' hfree' (hc.set hj) hd' (ready_mono hr (Ne.symm hji)) h3.1 (h3.2.1 hjd hS) ?_⟩) h2
      rw [Array.setIfInBounds_comm _ _ hji]
      exact h3.2.2
theorem wpAnyLast_any {i:Nat} {oi:Oper} {v:Value} (hi:ops[i]? =some oi) (hsel: ∀(j:Nat) (o:Oper) cs b,ops[j]? =some o→o.op≠ .select cs b)
    (hQ: ∀c a w,Q (.panic c) (a.put oi.dst v) w→Q (.panic c) a w):
    ∀(fuel:Nat) (listed:Array Bool) (a:Act) (w:World),
      (∀j oj,ops[j]? =some oj→j≠i→listed.getD j true=false→(∀e∈oj.after,Region.binds md e=true→e.on≠i)→oi.apart ops oj=true)→
      i∈Region.ready md ops listed→Yields P ops oi v a→
      wpAnyLast P md ops Q S ds fuel (listed.setIfInBounds i true) (a.put oi.dst v) w→wpAnyLast P md ops Q S ds (fuel+1) listed a w:=by
  intro fuel
  induction fuel with
  | zero=>
    intro listed a w _ hr hy H
    refine ⟨fun h=>(by rw [h] at hr;cases hr),fun j hj=> ?_⟩
    by_cases hji:j=i
    · subst hji;exact (hy.yieldsIf (S:=fun _=>True)).wpOp hi trivial ⟨fun _ h=>h,H⟩
    · have:=ready_mono hj hji
      rw [H.1] at this
      cases this
  | succ fuel ih=>
    intro listed a w hfree hr hy H
    refine ⟨fun h=>(by rw [h] at hr;cases hr),fun j hj=> ?_⟩
    by_cases hji:j=i
    · subst hji;exact (hy.yieldsIf (S:=fun _=>True)).wpOp hi trivial ⟨fun _ h=>h,H⟩
    · have h1:=H.2 j (ready_mono hj hji)
      obtain ⟨hjun,oj,hoj,hall⟩:=mem_ready.1 hj
      have hiun:=(mem_ready.1 hr).1
      have hnot: ∀e∈oj.after,Region.binds md e=true→e.on≠i:=fun e he hb heq=>by
        have h1:=hall e he hb
        rw [heq] at h1
        rcases Nat.lt_or_ge i listed.size with h' | h'
        · simp [h'] at hiun h1;rw [hiun] at h1;cases h1
        · simp [Array.getElem?_eq_none h'] at h1
      have h2:=wpOp_put hoj (hfree j oj hoj hji hjun hnot) (fun cs b=>hsel i oi cs b hi) (fun cs b=>hsel j oj cs b hoj) hQ hy h1
      have hfree': ∀k ok,ops[k]? =some ok→k≠i→(listed.setIfInBounds j true).getD k true=false→
          (∀e∈ok.after,Region.binds md e=true→e.on≠i)→oi.apart ops ok=true:=fun k ok hk hki hun hno=>by
        refine hfree k ok hk hki ?_ hno
        by_cases hjk:j=k
        · subst hjk;exact hjun
        · rw [getD_set_ne true hjk] at hun;exact hun
      refine wpOp_mono (fun a' w' h3=>⟨h3.2.1,ih (listed.setIfInBounds j true) a' w' hfree' (ready_mono hr (Ne.symm hji)) h3.1 ?_⟩) h2
      rw [Array.setIfInBounds_comm _ _ hji]
      exact h3.2.2
theorem wpAnyLast_take {i:Nat} {oi:Oper} {v:Value} {fuel:Nat} {listed:Array Bool} {a:Act} {w:World} (hi:ops[i]? =some oi)
    (hs:Region.noSelect ops=true) (hf:Region.free md ops listed i=true) (hr:(Region.ready md ops listed).contains i=true)
    (hc:Region.closedB md ops listed=true) (hl:Region.lastB md ops listed ds i=true)
    (hQ: ∀c a w,Q (.panic c) (a.put oi.dst v) w→Q (.panic c) a w) (hy:YieldsIf P ops S oi v a) (hS:S w)
    (h:wpAnyLast P md ops Q S ds fuel (listed.setIfInBounds i true) (a.put oi.dst v) w):wpAnyLast P md ops Q S ds (fuel+1) listed a w:=
  wpAnyLast_first hi (Region.noSelect_spec hs) hQ ops.size fuel listed a w (Region.free_spec hi hf) (Region.closedB_spec hc)
    (fun d hm hun=>by have:=List.all_eq_true.1 hl d hm;rw [hun] at this;simpa using this) (by simpa using hr) hy hS h
theorem wpAnyLast_all {rs:List Nat} {fuel:Nat} {listed:Array Bool} {a:Act} {w:World} (hr:Region.ready md ops listed=rs) (hne:rs≠ [])
    (h: ∀i∈rs,wpOp P ops Q i (fun a' w'=>(i∉ds→S w→S w')∧wpAnyLast P md ops Q S ds fuel (listed.setIfInBounds i true) a' w') a w):wpAnyLast P md ops Q S ds (fuel+1) listed a w:=
  ⟨fun h0=>absurd (hr ▸ h0) hne,hr ▸ h⟩
theorem wpAnyLast_done {listed:Array Bool} {a:Act} {w:World} (hr:Region.ready md ops listed= []) (h:Q .normal a w):
    ∀fuel,wpAnyLast P md ops Q S ds fuel listed a w
  | 0=>⟨hr,h⟩
  | _+1=>⟨fun _=>h,by rw [hr];simp⟩
theorem wp_region_last {id:Nat} {a:Act} {w:World} (hm:P.follows .mixedOrders=true)
    (h:wpAnyLast P .any ops Q S ds ops.size (Array.replicate ops.size false) a { w with drawn:=w.drawn+1 }):(Code.region id ops true).wp P Q a w:=
  wp_region_any hm (wpAny_of_last _ _ _ _ h)
end
section
variable {P:Program} {ops:Array Oper} {Q:Exit→Act→World→Prop} {md:Region.Mode} {S:World→Prop} {ds:List Nat}
def AllReadyL (P:Program) (md:Region.Mode) (ops:Array Oper) (Q:Exit→Act→World→Prop) (S:World→Prop) (ds:List Nat) (fuel:Nat) (listed:Array Bool) (a:Act) (w:World) (rs:List Nat):Prop:=
  ∀i∈rs,wpOp P ops Q i (fun a' w'=>(i∉ds→S w→S w')∧wpAnyLast P md ops Q S ds fuel (listed.setIfInBounds i true) a' w') a w
theorem wpAnyLast_ready {rs:List Nat} {fuel:Nat} {listed:Array Bool} {a:Act} {w:World} (hr:Region.ready md ops listed=rs) (hne:rs≠ [])
    (h:AllReadyL P md ops Q S ds fuel listed a w rs):wpAnyLast P md ops Q S ds (fuel+1) listed a w:=wpAnyLast_all hr hne h
def takeB (md:Region.Mode) (ops:Array Oper) (ds:List Nat) (l l':Array Bool) (i:Nat):Bool:=
  Region.noSelect ops && Region.free md ops l i && (Region.ready md ops l).contains i && Region.closedB md ops l && Region.lastB md ops l ds i && (l.setIfInBounds i true==l')
theorem take_ {i:Nat} {N:Option Tmp} {oi:Oper} {v:Value} {fuel:Nat} {l:Array Bool} {a:Act} {w:World} (l':Array Bool) (hi:ops[i]? =some oi) (hN:oi.dst=N) (hc:takeB md ops ds l l' i=true)
    (hQ: ∀c a w,Q (.panic c) (a.put oi.dst v) w→Q (.panic c) a w) (hy:YieldsIf P ops S oi v a) (hS:S w) {a':Act} (ha:a.put N v=a')
    (h:wpAnyLast P md ops Q S ds fuel l' a' w):wpAnyLast P md ops Q S ds (fuel+1) l a w:=by
  subst ha
  subst hN
  simp only [takeB,Bool.and_eq_true,beq_iff_eq] at hc
  obtain ⟨⟨⟨⟨⟨h1,h2⟩,h3⟩,h4⟩,h5⟩,h6⟩:=hc
  subst h6
  exact wpAnyLast_take hi h1 h2 h3 h4 h5 hQ hy hS h
def anyB (md:Region.Mode) (ops:Array Oper) (l l':Array Bool) (i:Nat):Bool:=
  Region.noSelect ops && Region.free md ops l i && (Region.ready md ops l).contains i && (l.setIfInBounds i true==l')
theorem pure_ {i:Nat} {N:Option Tmp} {oi:Oper} {v:Value} {fuel:Nat} {l:Array Bool} {a:Act} {w:World} (l':Array Bool) (hi:ops[i]? =some oi) (hN:oi.dst=N) (hc:anyB md ops l l' i=true)
    (hQ: ∀c a w,Q (.panic c) (a.put oi.dst v) w→Q (.panic c) a w) (hy:Yields P ops oi v a) {a':Act} (ha:a.put N v=a')
    (h:wpAnyLast P md ops Q S ds fuel l' a' w):wpAnyLast P md ops Q S ds (fuel+1) l a w:=by
  subst ha
  subst hN
  simp only [anyB,Bool.and_eq_true,beq_iff_eq] at hc
  obtain ⟨⟨⟨h1,h2⟩,h3⟩,h6⟩:=hc
  subst h6
  exact wpAnyLast_any hi (Region.noSelect_spec h1) hQ fuel l a w (Region.free_spec hi h2) (by simpa using h3) hy h
def readyB (md:Region.Mode) (ops:Array Oper) (l l':Array Bool) (i:Nat):Bool:=(Region.ready md ops l== [i]) && (l.setIfInBounds i true==l')
end
end Go.Proofs.YthkkklphanidjaaGreatDoorW.PrintLast
namespace Go.GW
open Go
open Go.Proofs.YthkkklphanidjaaGreatDoorW.PrintLast
inductive OT where
  | nil:OT
  | c (i k:Nat) (r:OT):OT
  | b (x y:OT):OT
def OT.len:OT→Nat
  | .nil=>0
  | .c _ _ r=>r.len+1
  | .b x y=>max x.len y.len
def eagerOk (md:Region.Mode) (ops:Array Oper) (ds:List Nat):OT→Array Bool→Bool
  | .nil,l=>Region.ready md ops l== []
  | .c i 0 r,l=>takeB md ops ds l (l.setIfInBounds i true) i && eagerOk md ops ds r (l.setIfInBounds i true)
  | .c i 1 r,l=>anyB md ops l (l.setIfInBounds i true) i && eagerOk md ops ds r (l.setIfInBounds i true)
  | .c i 2 r,l=>readyB md ops l (l.setIfInBounds i true) i && !ds.contains i && eagerOk md ops ds r (l.setIfInBounds i true)
  | .c i 3 r,l=>readyB md ops l (l.setIfInBounds i true) i && ds.contains i && eagerOk md ops ds r (l.setIfInBounds i true)
  | .c i 4 (.c j _ r),l=>Region.ready md ops l== [i,j] && readyB md ops (l.setIfInBounds i true) ((l.setIfInBounds i true).setIfInBounds j true) j && readyB md ops (l.setIfInBounds j true) ((l.setIfInBounds i true).setIfInBounds j true) i && !ds.contains i && !ds.contains j && eagerOk md ops ds r ((l.setIfInBounds i true).setIfInBounds j true)
  | .b (.c i _ x) (.c j _ y),l=>Region.ready md ops l== [i,j] && !ds.contains i && !ds.contains j && eagerOk md ops ds x (l.setIfInBounds i true) && eagerOk md ops ds y (l.setIfInBounds j true)
  | _,_=>false
def wpE (P:Program) (ops:Array Oper) (Q:Exit→Act→World→Prop) (S:World→Prop):OT→Act→World→Prop
  | .nil,a,w=>Q .normal a w
  | .c i 0 r,a,w=> ∃o v,ops[i]? =some o∧YieldsIf P ops S o v a∧S w∧wpE P ops Q S r (a.put o.dst v) w
  | .c i 1 r,a,w=> ∃o v,ops[i]? =some o∧Yields P ops o v a∧wpE P ops Q S r (a.put o.dst v) w
  | .c i 2 r,a,w=>(∃o,ops[i]? =some o)∧wpOp P ops Q i (fun a' w'=>S w'∧wpE P ops Q S r a' w') a w
  | .c i 3 r,a,w=>(∃o,ops[i]? =some o)∧wpOp P ops Q i (wpE P ops Q S r) a w
  | .c i 4 (.c j _ r),a,w=>wpOp P ops Q i (fun a' w'=>S w'∧wpOp P ops Q j (fun a' w'=>S w'∧wpE P ops Q S r a' w') a' w') a w∧wpOp P ops Q j (fun a' w'=>S w'∧wpOp P ops Q i (fun a' w'=>S w'∧wpE P ops Q S r a' w') a' w') a w
  | .b (.c i _ x) (.c j _ y),a,w=>wpOp P ops Q i (fun a' w'=>S w'∧wpE P ops Q S x a' w') a w∧wpOp P ops Q j (fun a' w'=>S w'∧wpE P ops Q S y a' w') a w
  | _,_,_=>False
section
variable {P:Program} {ops:Array Oper} {Q:Exit→Act→World→Prop} {md:Region.Mode} {S:World→Prop} {ds:List Nat}
theorem VC {l l':Array Bool} {i:Nat} (h:readyB md ops l l' i=true):Region.ready md ops l= [i] ∧l.setIfInBounds i true=l':=by
  simpa [readyB] using h
theorem wpAnyLast_of_E (hQ: ∀(i:Nat) (o:Oper) v c a w,ops[i]? =some o→Q (.panic c) (a.put o.dst v) w→Q (.panic c) a w): ∀(order:OT) (l:Array Bool) (fuel:Nat) (a:Act) (w:World),eagerOk md ops ds order l=true→order.len≤fuel→wpE P ops Q S order a w→wpAnyLast P md ops Q S ds fuel l a w
  | .nil,l,fuel,a,w,hok,_,h=>wpAnyLast_done (by simpa [eagerOk] using hok) h fuel
  | .c i k r,l,fuel,a,w,hok,hf,h=>by
    obtain ⟨fuel,rfl⟩: ∃m,fuel=m+1:=⟨fuel-1,by simp only [OT.len] at hf;omega⟩
    simp only [OT.len] at hf
    have hf':r.len≤fuel:=by omega
    match k,hok,h with
    | 0,hok,h=>
      simp only [eagerOk,Bool.and_eq_true] at hok
      obtain ⟨o,v,h1,h2,h3,h4⟩:=h
      exact take_ _ h1 rfl hok.1 (fun c a w h=>hQ _ _ _ _ _ _ h1 h) h2 h3 rfl (wpAnyLast_of_E hQ r _ fuel _ w hok.2 hf' h4)
    | 1,hok,h=>
      simp only [eagerOk,Bool.and_eq_true] at hok
      obtain ⟨o,v,h1,h2,h4⟩:=h
      exact pure_ _ h1 rfl hok.1 (fun c a w h=>hQ _ _ _ _ _ _ h1 h) h2 rfl (wpAnyLast_of_E hQ r _ fuel _ w hok.2 hf' h4)
    | 2,hok,h=>
      simp only [eagerOk,Bool.and_eq_true] at hok
      obtain ⟨⟨o,h1⟩,h2⟩:=h
      obtain ⟨⟨hr,hd⟩,hrest⟩:=hok
      have hr':=(VC hr).1
      refine wpAnyLast_ready hr' (by simp) fun j hj=> ?_
      simp only [List.mem_singleton] at hj
      subst hj
      exact wpOp_mono (fun a' w' h=>⟨fun _ _=>h.1,wpAnyLast_of_E hQ r _ fuel a' w' hrest hf' h.2⟩) h2
    | 3,hok,h=>
      simp only [eagerOk,Bool.and_eq_true] at hok
      obtain ⟨⟨o,h1⟩,h2⟩:=h
      obtain ⟨⟨hr,hd⟩,hrest⟩:=hok
      have hr':=(VC hr).1
      refine wpAnyLast_ready hr' (by simp) fun j hj=> ?_
      simp only [List.mem_singleton] at hj
      subst hj
      exact wpOp_mono (fun a' w' h=>⟨fun hn=>absurd (by simpa using hd) hn,wpAnyLast_of_E hQ r _ fuel a' w' hrest hf' h⟩) h2
    | 4,hok,h=>
      match r,hok,hf',h with
      | .nil,hok,_,h=>exact absurd hok (by simp [eagerOk])
      | .b x y,hok,_,h=>exact absurd hok (by simp [eagerOk])
      | .c j m r,hok,hf',h=>
        obtain ⟨fuel,rfl⟩: ∃m,fuel=m+1:=⟨fuel-1,by simp only [OT.len] at hf';omega⟩
        simp only [OT.len] at hf'
        have hf2:r.len≤fuel:=by omega
        simp only [eagerOk,Bool.and_eq_true] at hok
        obtain ⟨⟨⟨⟨⟨hr,hrj⟩,hri⟩,hdi⟩,hdj⟩,hrest⟩:=hok
        have hr':Region.ready md ops l= [i,j] :=by simpa using hr
        have hj':=VC hrj
        have hi':=VC hri
        obtain ⟨g1,g2⟩:=h
        refine wpAnyLast_ready hr' (by simp) fun x hx=> ?_
        have hx':x=i∨x=j:=by simpa using hx
        rcases hx' with rfl | rfl
        · refine wpOp_mono (fun a' w' h=>⟨fun _ _=>h.1,wpAnyLast_ready hj'.1 (by simp) fun y hy=> ?_⟩) g1
          simp only [List.mem_singleton] at hy
          subst hy
          exact wpOp_mono (fun a' w' h=>⟨fun _ _=>h.1,wpAnyLast_of_E hQ r _ fuel a' w' hrest hf2 h.2⟩) h.2
        · refine wpOp_mono (fun a' w' h=>⟨fun _ _=>h.1,wpAnyLast_ready hi'.1 (by simp) fun y hy=> ?_⟩) g2
          simp only [List.mem_singleton] at hy
          subst hy
          refine wpOp_mono (fun a' w' h=>⟨fun _ _=>h.1,?_⟩) h.2
          rw [hi'.2]
          exact wpAnyLast_of_E hQ r _ fuel a' w' hrest hf2 h.2
    | k+5,hok,h=>exact absurd hok (by simp [eagerOk])
  | .b (.c i k x) (.c j m y),l,fuel,a,w,hok,hf,h=>by
    obtain ⟨fuel,rfl⟩: ∃m,fuel=m+1:=⟨fuel-1,by simp only [OT.len] at hf;omega⟩
    simp only [OT.len] at hf
    simp only [eagerOk,Bool.and_eq_true] at hok
    obtain ⟨⟨⟨⟨hr,hdi⟩,hdj⟩,hx⟩,hy⟩:=hok
    have hr':Region.ready md ops l= [i,j] :=by simpa using hr
    obtain ⟨g1,g2⟩:=h
    refine wpAnyLast_ready hr' (by simp) fun z hz=> ?_
    have hz':z=i∨z=j:=by simpa using hz
    rcases hz' with rfl | rfl
    · exact wpOp_mono (fun a' w' h=>⟨fun _ _=>h.1,wpAnyLast_of_E hQ x _ fuel a' w' hx (by omega) h.2⟩) g1
    · exact wpOp_mono (fun a' w' h=>⟨fun _ _=>h.1,wpAnyLast_of_E hQ y _ fuel a' w' hy (by omega) h.2⟩) g2
  | .b .nil y,l,fuel,a,w,hok,hf,h=>by simp [eagerOk] at hok
  | .b (.b _ _) y,l,fuel,a,w,hok,hf,h=>by simp [eagerOk] at hok
  | .b (.c _ _ _) .nil,l,fuel,a,w,hok,hf,h=>by simp [eagerOk] at hok
  | .b (.c _ _ _) (.b _ _),l,fuel,a,w,hok,hf,h=>by simp [eagerOk] at hok
end
section
variable {P:Program} {n:Dm} {R:Post} {l:Fr} {Ps Ps0:List Part} {As As0:List Fact} {ops:Array Oper} {r:OT} {o:Oper} {i:Nat}
def Near (ws:World) (Z0:Nat→Prop) (Ps0:List Part) (w:World):Prop:=
  (∀b,Z0 b→w.heap[b]? =ws.heap[b]?)∧(∀q∈Ps0.flatten,w.heap[q.1]? =some q.2)∧w.os=ws.os∧w.tape=ws.tape∧w.output=ws.output
def NearF (ws:World) (Z0:Nat→Prop):Fact where
  holds Z w:=(∀b,Z0 b→Z b∧w.heap[b]? =ws.heap[b]?)∧w.os=ws.os∧w.tape=ws.tape∧w.output=ws.output
  stable hz hh h1 h2 h3 h:=⟨fun b hb=>⟨hz b (h.1 b hb).1,(hh b (h.1 b hb).1).trans (h.1 b hb).2⟩,h1.trans h.2.1,h2.trans h.2.2.1,h3.trans h.2.2.2⟩
theorem Near.st {ws w:World} {Z0:Nat→Prop} (h0:St Z0 ws Ps0 As0) (h:Near ws Z0 Ps0 w):St Z0 w Ps0 As0:=
  ⟨fun b hb=>by
    have h1:=h0.zlt b hb
    have h2:=h.1 b hb
    rw [Array.getElem?_eq_getElem h1] at h2
    exact (Array.getElem?_eq_some_iff.1 h2).1,fun q hq=>⟨h.2.1 q hq,(h0.own q hq).2⟩,h0.nodup,fun A hA=>A.stable (fun _ hb=>hb) h.1 h.2.2.1 h.2.2.2.1 h.2.2.2.2 (h0.facts A hA)⟩
theorem Near.of {ws w:World} {Z Z0:Nat→Prop} (h:St Z w Ps As) (hP:Ps0.Sublist Ps) (hN:NearF ws Z0∈As):Near ws Z0 Ps0 w:=by
  have h1:=h.facts _ hN
  exact ⟨fun b hb=>(h1.1 b hb).2,fun q hq=>(h.own q ((YP hP).subset hq)).1,h1.2.1,h1.2.2.1,h1.2.2.2⟩
variable {ws:World} {Z0:Nat→Prop}
def WE (P:Program) (n:Dm) (ops:Array Oper) (R:Post) (ws:World) (Z0:Nat→Prop) (Ps0:List Part) (As0:List Fact) (r:OT) (l:Fr) (Ps:List Part) (As:List Fact):Prop:=
  St Z0 ws Ps0 As0→ ∀Z w a,St Z w Ps As→Ag n l a→Near ws Z0 Ps0 w→wpE P ops (liftP n R) (Near ws Z0 Ps0) r a w
theorem JI {id:Nat} (Ps0:List Part) (As0:List Fact) (ds:List Nat) (order:OT) (hm:P.follows .mixedOrders=true) (hR: ∀c l Ps As,¬R (.panic c) l Ps As) (hP:Ps0.Sublist Ps) (hA: ∀A∈As0,A∈As)
    (hok:eagerOk .any ops ds order (Array.replicate ops.size false)=true) (hl:order.len≤ops.size) (h: ∀ws Z0,WE P n ops R ws Z0 Ps0 As0 order l Ps (NearF ws Z0::As)):WC P n (.region id ops true) R l Ps As:=by
  intro Z w a hs ha
  have hs':=hs.drew (w.drawn+1)
  have h0:=(hs'.subParts hP).subFacts hA
  refine wp_region_last (S:=Near { w with drawn:=w.drawn+1 } Z Ps0) (ds:=ds) hm ?_
  refine wpAnyLast_of_E ?_ order _ _ a _ hok hl (h { w with drawn:=w.drawn+1 } Z h0 Z _ a (hs'.addFact (A:=NearF { w with drawn:=w.drawn+1 } Z) ⟨fun b hb=>⟨hb,rfl⟩,rfl,rfl,rfl⟩) ha ⟨fun _ _=>rfl,fun q hq=>(h0.own q hq).1,rfl,rfl,rfl⟩)
  rintro i o v c a w _ ⟨l,Z,Ps,As,_,_,h⟩
  exact (hR _ _ _ _ h).elim
theorem lk_fil (k0:Nat): ∀(l:Fr) {t:Nat} {v:Value},lk (l.filter fun p=>decide (p.1<k0)) t=some v→t<k0∧lk l t=some v
  | [],t,v,h=>by simp [lk] at h
  | (k,u)::l,t,v,h=>by
    rw [List.filter_cons] at h
    have ih:=lk_fil k0 l (t:=t) (v:=v)
    rw [YO]
    by_cases hk:k<k0
    · rw [if_pos (by simpa using hk),YO] at h
      by_cases e:t=k
      · rw [if_pos e] at h ⊢;exact ⟨by omega,h⟩
      · rw [if_neg e] at h ⊢;exact ih h
    · rw [if_neg (by simpa using hk)] at h
      have:=ih h
      rw [if_neg (by omega)];exact this
theorem fil_lk (k0:Nat): ∀(l:Fr) {t:Nat},t<k0→lk (l.filter fun p=>decide (p.1<k0)) t=lk l t
  | [],t,h=>rfl
  | (k,u)::l,t,h=>by
    rw [List.filter_cons,YO]
    by_cases hk:k<k0
    · rw [if_pos (by simpa using hk),YO,fil_lk k0 l h]
    · rw [if_neg (by simpa using hk),if_neg (by omega),fil_lk k0 l h]
theorem EL {id:Nat} (k0:Nat) (hds:(ops.toList.all fun o=>match o.dst with | some d=>Nat.ble k0 d | none=>true)=true) (hR: ∀c l l' Ps As,(∀t,t<k0→lk l' t=lk l t)→R (.panic c) l Ps As→R (.panic c) l' Ps As) (Ps0:List Part) (As0:List Fact) (ds:List Nat) (order:OT) (hm:P.follows .mixedOrders=true) (hP:Ps0.Sublist Ps) (hA: ∀A∈As0,A∈As)
    (hok:eagerOk .any ops ds order (Array.replicate ops.size false)=true) (hl:order.len≤ops.size) (h: ∀ws Z0,WE P n ops R ws Z0 Ps0 As0 order l Ps (NearF ws Z0::As)):WC P n (.region id ops true) R l Ps As:=by
  intro Z w a hs ha
  have hs':=hs.drew (w.drawn+1)
  have h0:=(hs'.subParts hP).subFacts hA
  refine wp_region_last (S:=Near { w with drawn:=w.drawn+1 } Z Ps0) (ds:=ds) hm ?_
  refine wpAnyLast_of_E ?_ order _ _ a _ hok hl (h { w with drawn:=w.drawn+1 } Z h0 Z _ a (hs'.addFact (A:=NearF { w with drawn:=w.drawn+1 } Z) ⟨fun b hb=>⟨hb,rfl⟩,rfl,rfl,rfl⟩) ha ⟨fun _ _=>rfl,fun q hq=>(h0.own q hq).1,rfl,rfl,rfl⟩)
  rintro i o v c a w hi ⟨l,Z,Ps,As,hag,hst,h⟩
  have ho:=List.all_eq_true.1 hds o (by
    obtain ⟨hlt,e⟩:=Array.getElem?_eq_some_iff.1 hi
    exact e ▸ Array.getElem_mem_toList hlt)
  cases hd:o.dst with
  | none=>rw [hd] at hag;exact ⟨l,Z,Ps,As,hag,hst,h⟩
  | some d=>
    rw [hd] at hag ho
    have hkd:k0≤d:=Nat.le_of_ble_eq_true ho
    refine ⟨l.filter fun p=>decide (p.1<k0),Z,Ps,As,⟨by simpa [Act.put] using hag.size,hag.defers,fun t u ht=> ?_⟩,hst,hR _ _ _ _ _ (fun t ht=>fil_lk k0 l ht) h⟩
    obtain ⟨ht0,ht1⟩:=lk_fil k0 l ht
    have hg:=hag.get t u ht1
    simp only [Act.put,Array.getD_eq_getD_getElem?,Array.getElem?_setIfInBounds] at hg
    rw [if_neg (by omega)] at hg
    simpa [Array.getD_eq_getD_getElem?] using hg
theorem JE {d:Nat} {v:Value} {op:Op} {ty:TypeId} {pos:String} {aft:Array Edge} (hi:ops[i]? =some ⟨some d,op,ty,pos,aft,none⟩) (hq:QR P l Ps0 As0 ⟨some d,op,ty,pos,aft,none⟩ v) (hd:d<n.sz) (h:WE P n ops R ws Z0 Ps0 As0 r ((d,v)::l) Ps As):
    WE P n ops R ws Z0 Ps0 As0 (.c i 0 r) l Ps As:=fun h0 Z w a hs ha hS=>
  ⟨_,v,hi, .inl ⟨rfl,fun w' h'=>hq Z0 w' a.eval (h'.st h0) fun x v hx=>ha.eval hx⟩,hS,h h0 Z w _ hs (ha.put hd v) hS⟩
theorem YW {d:Nat} {v:Value} {op:Op} {ty:TypeId} {pos:String} {aft:Array Edge} (hi:ops[i]? =some ⟨some d,op,ty,pos,aft,none⟩) (hq:QR P l [] [] ⟨some d,op,ty,pos,aft,none⟩ v) (hd:d<n.sz) (h:WE P n ops R ws Z0 Ps0 As0 r ((d,v)::l) Ps As):
    WE P n ops R ws Z0 Ps0 As0 (.c i 1 r) l Ps As:=fun h0 Z w a hs ha hS=>
  ⟨_,v,hi, .inl ⟨rfl,fun w'=>hq (fun _=>False) w' a.eval ⟨fun _ h=>h.elim,by simp,by simp,by simp⟩ fun x v hx=>ha.eval hx⟩,h h0 Z w _ hs (ha.put hd v) hS⟩
def WF (P:Program) (n:Dm) (ops:Array Oper) (R:Post) (ws:World) (Z0:Nat→Prop) (Ps0:List Part) (r:OT) (l:Fr) (Ps:List Part) (As:List Fact):Prop:=
  ∀Z w a,St Z w Ps As→Ag n l a→wpE P ops (liftP n R) (Near ws Z0 Ps0) r a w
theorem JK (h:R .normal l Ps As):WF P n ops R ws Z0 Ps0 .nil l Ps As:=fun Z w a hs ha=>⟨l,Z,Ps,As,ha,hs,h⟩
theorem YM {d:Nat} {v:Value} {op:Op} {ty:TypeId} {pos:String} {aft:Array Edge} (hi:ops[i]? =some ⟨some d,op,ty,pos,aft,none⟩) (hq:QR P l [] [] ⟨some d,op,ty,pos,aft,none⟩ v) (hd:d<n.sz) (h:WF P n ops R ws Z0 Ps0 r ((d,v)::l) Ps As):
    WF P n ops R ws Z0 Ps0 (.c i 1 r) l Ps As:=fun Z w a hs ha=>
  ⟨_,v,hi, .inl ⟨rfl,fun w'=>hq (fun _=>False) w' a.eval ⟨fun _ h=>h.elim,by simp,by simp,by simp⟩ fun x v hx=>ha.eval hx⟩,h Z w _ hs (ha.put hd v)⟩
theorem J2 (hi:ops[i]? =some o) (hg:o.guard=none) (h:OW P n R l Ps As o (WF P n ops R ws Z0 Ps0 r)):WF P n ops R ws Z0 Ps0 (.c i 3 r) l Ps As:=fun Z w a hs ha=>by
  refine ⟨⟨o,hi⟩,?_⟩
  unfold wpOp
  simp only [hi]
  rw [if_pos (by simp [Region.wanted,hg])]
  exact .inl (Oper.wp_mono (fun a w ⟨l,Z,Ps,As,h1,h2,h3⟩=>h3 Z w a h2 h1) (h Z w a hs ha))
theorem JJ (h:WF P n ops R ws Z0 Ps0 r l Ps As):WE P n ops R ws Z0 Ps0 As0 r l Ps As:=fun _ Z w a hs ha _=>h Z w a hs ha
theorem Kl {d j t:Nat} {v:Value} {op:Op} {ty:TypeId} {pos:String} {aft:Array Edge} {b b':Bool} {ot:Oper} (hi:ops[i]? =some ⟨some d,op,ty,pos,aft,some (j,b')⟩) (hj:ops[j]? =some ot) (hdt:ot.dst=some t) (hv:lk l t=some (.bool b)) (hb:b=b')
    (hq:QR P l Ps0 As0 ⟨some d,op,ty,pos,aft,some (j,b')⟩ v) (hd:d<n.sz) (h:WE P n ops R ws Z0 Ps0 As0 r ((d,v)::l) Ps As):
    WE P n ops R ws Z0 Ps0 As0 (.c i 0 r) l Ps As:=fun h0 Z w a hs ha hS=>
  ⟨_,v,hi, .inl ⟨by simp [Region.wanted,Y4 ha hj hdt hv,hb],fun w' h'=>hq Z0 w' a.eval (h'.st h0) fun x v hx=>ha.eval hx⟩,hS,h h0 Z w _ hs (ha.put hd v) hS⟩
theorem KR {d j t:Nat} {op:Op} {ty:TypeId} {pos:String} {aft:Array Edge} {b b':Bool} {ot:Oper} (hi:ops[i]? =some ⟨some d,op,ty,pos,aft,some (j,b')⟩) (hj:ops[j]? =some ot) (hdt:ot.dst=some t) (hv:lk l t=some (.bool b)) (hb:b= !b')
    (hd:d<n.sz) (h:WE P n ops R ws Z0 Ps0 As0 r ((d,undef)::l) Ps As):WE P n ops R ws Z0 Ps0 As0 (.c i 0 r) l Ps As:=fun h0 Z w a hs ha hS=>
  ⟨_,undef,hi, .inr ⟨by simp [Region.wanted,Y4 ha hj hdt hv,hb],rfl⟩,hS,h h0 Z w _ hs (ha.put hd undef) hS⟩
theorem Js (hi:ops[i]? =some o) (hg:o.guard=none) (h:OW P n R l Ps As o (fun l' Ps' As'=>(Ps0.Sublist Ps'∧NearF ws Z0∈As')∧WE P n ops R ws Z0 Ps0 As0 r l' Ps' As')):WE P n ops R ws Z0 Ps0 As0 (.c i 2 r) l Ps As:=fun h0 Z w a hs ha hS=>by
  refine ⟨⟨o,hi⟩,?_⟩
  unfold wpOp
  simp only [hi]
  rw [if_pos (by simp [Region.wanted,hg])]
  exact .inl (Oper.wp_mono (fun a w ⟨l,Z,Ps,As,h1,h2,h3,h4⟩=>⟨Near.of h2 h3.1 h3.2,h4 h0 Z w a h2 h1 (Near.of h2 h3.1 h3.2)⟩) (h Z w a hs ha))
theorem Gq {j t:Nat} {b b':Bool} {ot:Oper} (hi:ops[i]? =some o) (hg:o.guard=some (j,b')) (hj:ops[j]? =some ot) (hdt:ot.dst=some t) (hv:lk l t=some (.bool b)) (hb:b=b')
    (h:OW P n R l Ps As o (fun l' Ps' As'=>(Ps0.Sublist Ps'∧NearF ws Z0∈As')∧WE P n ops R ws Z0 Ps0 As0 r l' Ps' As')):WE P n ops R ws Z0 Ps0 As0 (.c i 2 r) l Ps As:=fun h0 Z w a hs ha hS=>by
  refine ⟨⟨o,hi⟩,?_⟩
  unfold wpOp
  simp only [hi]
  rw [if_pos (by simp [Region.wanted,hg,Y4 ha hj hdt hv,hb])]
  exact .inl (Oper.wp_mono (fun a w ⟨l,Z,Ps,As,h1,h2,h3,h4⟩=>⟨Near.of h2 h3.1 h3.2,h4 h0 Z w a h2 h1 (Near.of h2 h3.1 h3.2)⟩) (h Z w a hs ha))
theorem wpOp_OW {Kx:Nx} {Kw:Act→World→Prop} {Z:Nat→Prop} {w:World} {a:Act} (hi:ops[i]? =some o) (hg:o.guard=none) (h:OW P n R l Ps As o Kx) (hs:St Z w Ps As) (ha:Ag n l a)
    (hK: ∀l' Z' Ps' As' a' w',Kx l' Ps' As'→St Z' w' Ps' As'→Ag n l' a'→Kw a' w'):wpOp P ops (liftP n R) i Kw a w:=by
  unfold wpOp
  simp only [hi]
  rw [if_pos (by simp [Region.wanted,hg])]
  exact .inl (Oper.wp_mono (fun a w ⟨l,Z,Ps,As,h1,h2,h3⟩=>hK l Z Ps As a w h3 h2 h1) (h Z w a hs ha))
theorem KN {j k m:Nat} {x y:OT} (h1:WE P n ops R ws Z0 Ps0 As0 (.c i 2 x) l Ps As) (h2:WE P n ops R ws Z0 Ps0 As0 (.c j 2 y) l Ps As):WE P n ops R ws Z0 Ps0 As0 (.b (.c i k x) (.c j m y)) l Ps As:=fun h0 Z w a hs ha hS=>
  ⟨(h1 h0 Z w a hs ha hS).2,(h2 h0 Z w a hs ha hS).2⟩
theorem GP {j d1 d2 m:Nat} {T1 T2 ty1 ty2:TypeId} {pos1 pos2:String} {aft1 aft2:Array Edge} {z1 z2:Value} {sz1 sz2 by1 by2:Nat} {cs1 cs2:List Value} (hi:ops[i]? =some ⟨some d1, .alloc T1,ty1,pos1,aft1,none⟩) (hj:ops[j]? =some ⟨some d2, .alloc T2,ty2,pos2,aft2,none⟩)
    (ht1:ti P T1=some (some z1,sz1,by1)) (hc1:z1.cells=cs1.toArray) (ht2:ti P T2=some (some z2,sz2,by2)) (hc2:z2.cells=cs2.toArray) (hd1:d1<n.sz) (hd2:d2<n.sz) (hne:d1≠d2) (hP:Ps0.Sublist Ps) (hN:NearF ws Z0∈As)
    (h: ∀b1 b2,WE P n ops R ws Z0 Ps0 As0 r ((d2, .pointer (some ⟨b2,0,none⟩))::(d1, .pointer (some ⟨b1,0,none⟩))::l) ([(b2,JD cs2 T2)] :: [(b1,JD cs1 T1)] ::Ps) As):WE P n ops R ws Z0 Ps0 As0 (.c i 4 (.c j m r)) l Ps As:=fun h0 Z w a hs ha hS=>by
  have hc: ∀p:Part,Ps0.Sublist (p::Ps):=fun p=> .cons p hP
  have hcc: ∀p q:Part,Ps0.Sublist (p::q::Ps):=fun p q=> .cons p (.cons q hP)
  constructor
  · refine wpOp_OW (Kx:=fun l' Ps' As'=> ∃b1,l'=(d1, .pointer (some ⟨b1,0,none⟩))::l∧Ps'= [(b1,JD cs1 T1)] ::Ps∧As'=As) hi rfl (Jv ht1 hc1 hd1 fun b=>⟨b,rfl,rfl,rfl⟩) hs ha ?_
    rintro l' Z' Ps' As' a' w' ⟨b1,rfl,rfl,rfl⟩ hs' ha'
    refine ⟨Near.of hs' (hc _) hN,?_⟩
    refine wpOp_OW (Kx:=fun l' Ps' As''=> ∃b2,l'=(d2, .pointer (some ⟨b2,0,none⟩))::(d1, .pointer (some ⟨b1,0,none⟩))::l∧Ps'= [(b2,JD cs2 T2)] :: [(b1,JD cs1 T1)] ::Ps∧As''=As') hj rfl (Jv ht2 hc2 hd2 fun b=>⟨b,rfl,rfl,rfl⟩) hs' ha' ?_
    rintro l2 Z2 Ps2 As2 a2 w2 ⟨b2,rfl,rfl,rfl⟩ hs2 ha2
    exact ⟨Near.of hs2 (hcc _ _) hN,h b1 b2 h0 Z2 w2 a2 hs2 ha2 (Near.of hs2 (hcc _ _) hN)⟩
  · refine wpOp_OW (Kx:=fun l' Ps' As'=> ∃b2,l'=(d2, .pointer (some ⟨b2,0,none⟩))::l∧Ps'= [(b2,JD cs2 T2)] ::Ps∧As'=As) hj rfl (Jv ht2 hc2 hd2 fun b=>⟨b,rfl,rfl,rfl⟩) hs ha ?_
    rintro l' Z' Ps' As' a' w' ⟨b2,rfl,rfl,rfl⟩ hs' ha'
    refine ⟨Near.of hs' (hc _) hN,?_⟩
    refine wpOp_OW (Kx:=fun l' Ps' As''=> ∃b1,l'=(d1, .pointer (some ⟨b1,0,none⟩))::(d2, .pointer (some ⟨b2,0,none⟩))::l∧Ps'= [(b1,JD cs1 T1)] :: [(b2,JD cs2 T2)] ::Ps∧As''=As') hi rfl (Jv ht1 hc1 hd1 fun b=>⟨b,rfl,rfl,rfl⟩) hs' ha' ?_
    rintro l2 Z2 Ps2 As2 a2 w2 ⟨b1,rfl,rfl,rfl⟩ hs2 ha2
    have hs3:St Z2 w2 ([(b2,JD cs2 T2)] :: [(b1,JD cs1 T1)] ::Ps) As2:=hs2.permParts (by simp only [List.flatten_cons,List.cons_append,List.nil_append];exact List.Perm.swap _ _ _)
    have ha3:Ag n ((d2, .pointer (some ⟨b2,0,none⟩))::(d1, .pointer (some ⟨b1,0,none⟩))::l) a2:=by
      refine ⟨ha2.size,ha2.defers,fun t v ht=>ha2.get t v ?_⟩
      rw [YO,YO] at ht ⊢
      by_cases e1:t=d1
      · subst e1;rw [if_neg hne,if_pos rfl] at ht;rw [if_pos rfl];exact ht
      · by_cases e2:t=d2
        · subst e2;rw [if_pos rfl] at ht;rw [if_neg e1,if_pos rfl];exact ht
        · rw [if_neg e2,if_neg e1] at ht;rw [if_neg e1,if_neg e2];exact ht
    exact ⟨Near.of hs2 (hcc _ _) hN,h b1 b2 h0 Z2 w2 a2 hs3 ha3 (Near.of hs2 (hcc _ _) hN)⟩
theorem RdS.elem {α:Type} {e:De α} {Z:Nat→Prop} {w:World} {A:Option Addr} {cap:Nat} {xs:List α} (h:RdS e Z w A cap xs) {k:Nat} {u:α} (hu:xs[k]? =some u) {β:Type} {mk:β→List Value} {Fs:β→List Fact} (ho: ∀Z w cs,e.rep Z w u cs→ ∃y,cs=mk y∧ ∀B∈Fs y,B.holds Z w):
    ∃x:Nat×Nat×β,A=some ⟨x.1,x.2.1,none⟩∧ ∀B∈FzA x.1 (x.2.1+k*e.sz) (mk x.2.2)::Fs x.2.2,B.holds Z w:=by
  have hlt:k<xs.length:=by
    rcases Nat.lt_or_ge k xs.length with h | h
    · exact h
    · simp [List.getElem?_eq_none h] at hu
  obtain ⟨g1,g2,g3 | ⟨b,q,css,rfl,g4,g5,g6⟩⟩:=h
  · rw [g3.1] at hlt;simp at hlt
  · obtain ⟨cs,k1,k2⟩:=g5.at _ _ hu
    obtain ⟨y,k3,k4⟩:=ho Z w cs k2
    subst k3
    refine ⟨(b,q,y),rfl,fun B hB=> ?_⟩
    rcases List.mem_cons.1 hB with rfl | hB
    · exact ⟨g4,g6.part (k*e.sz) (Ed g5.lens _ _ k1)⟩
    · exact k4 B hB
theorem Kc {T E:TypeId} {x ix:Operand} {b q len cap:Nat} {k:Int} {z:Option Value} {sz by_:Nat} {dd:Option Tmp} {ty:TypeId} {pos:String} {aft:Array Edge} {g:Option (Nat×Bool)} (hu:P.underlying T=some (.slice E)) (ht:ti P E=some (z,sz,by_)) (hx:evs l x=some (.slice (some ⟨b,q,none⟩) len cap)) (hi:evs l ix=some (.int .i64 k)) (h0:0≤k) (h1:k<len):
    QR P l Ps As ⟨dd, .indexAddr T x ix,ty,pos,aft,g⟩ (.pointer (some ⟨b,q+k.toNat* sz,none⟩)):=fun Z w ρ hs hρ=>by
  simp only [execOp,hρ _ _ hx,hρ _ _ hi];rw [Sem.run_bind,Xl hu ht h0 h1];rfl
theorem Kh {α:Type} {e:De α} {A:Option Addr} {cap:Nat} {xs:List α} {k:Nat} {u:α} {β:Type} {mk:β→List Value} {Fs:β→List Fact} {c:Code} (hA:RdF e A cap xs∈As) (hu:xs[k]? =some u) (ho: ∀Z w cs,e.rep Z w u cs→ ∃y,cs=mk y∧ ∀B∈Fs y,B.holds Z w)
    (h: ∀b q y,A=some ⟨b,q,none⟩→WC P n c R l Ps (FzA b (q+k*e.sz) (mk y)::(Fs y++As))):WC P n c R l Ps As:=
  Hv (Fs:=fun x:Nat×Nat×β=>FzA x.1 (x.2.1+k*e.sz) (mk x.2.2)::Fs x.2.2) hA (fun Z w hR=>RdS.elem hR hu ho) fun x hx=>h x.1 x.2.1 x.2.2 hx
end
section
variable {P:Program} {n:Dm} {R:Post} {l:Fr} {Ps Ps':List Part} {As:List Fact} {ops:Array Oper} {rest:List Oper} {K:Nx} {ty:TypeId} {pos:String} {aft:Array Edge} {g:Option (Nat×Bool)}
theorem Jf {c:Code} (h:WC P n c R l Ps As):VJ (WC P n c R) R .normal l Ps As:=h
theorem Ko {R':Post} (h:K l Ps As):VJ K R' .normal l Ps As:=h
theorem Jr (h:R .ret l Ps As):VJ K R .ret l Ps As:=h
theorem JR {id:Nat} (h:R (.exit id) l Ps As):VJ K R (.exit id) l Ps As:=h
theorem Kg {id:Nat} (h:R .normal l Ps As):Va id R (.exit id) l Ps As:=by unfold Va;simpa using h
theorem GL {id id':Nat} (hne:(id'==id)=false) (h:R (.exit id') l Ps As):Va id R (.exit id') l Ps As:=by
  have:id'≠id:=by simpa using hne
  unfold Va;simpa [this] using h
theorem J9 {id:Nat} (h:R .normal l Ps As):Va id R .normal l Ps As:=h
theorem JM {id:Nat} (h:R .ret l Ps As):Va id R .ret l Ps As:=h
theorem JU {t:Nat} {b:Bool} (hv:lk l t=some (.bool b)) (h1:b=true→WL P n ops R rest l Ps As) (h2:b=false→WL P n ops R rest l Ps As):WL P n ops R rest l Ps As:=by
  cases b with
  | true=>exact h1 rfl
  | false=>exact h2 rfl
theorem ZI {t:Nat} {b:Bool} {Ps0:List Part} {As0:List Fact} {ws:World} {Z0:Nat→Prop} {r:OT} (hv:lk l t=some (.bool b)) (h1:b=true→WE P n ops R ws Z0 Ps0 As0 r l Ps As) (h2:b=false→WE P n ops R ws Z0 Ps0 As0 r l Ps As):WE P n ops R ws Z0 Ps0 As0 r l Ps As:=by
  cases b with
  | true=>exact h1 rfl
  | false=>exact h2 rfl
theorem Jx {α:Type} {L:List α} : ∀A∈([] :List α),A∈L:=fun _ h=>by cases h
theorem Jl {α:Type} {a:α} {l L:List α} (h:a∈L) (r: ∀A∈l,A∈L): ∀A∈a::l,A∈L:=fun A hA=>by
  rcases List.mem_cons.1 hA with rfl | hA
  · exact h
  · exact r A hA
theorem Jo {k:FuncId} {d:Nat} {xs:List Operand} {ts:Array TypeId} {args:List Value} {pre:List Fact} {res:Value→List Part→List Fact→Prop}
    (hsp:Sp P k args [] pre res) (hxs:Evs l xs args) (hd:d<n.sz) (hpre: ∀A∈pre,A∈As)
    (h: ∀v Lo fs,res v Lo fs→K ((d,v)::l) (Lo++Ps) (fs++As)):
    OW P n R l Ps As ⟨some d, .call ⟨.value (.func k),xs.toArray,ts⟩,ty,pos,aft,g⟩ K:=
  XJ hsp hxs hd (fun hs=>hs.subFacts fun A hA=>by
    rcases List.mem_append.1 hA with hA | hA
    · exact hpre A hA
    · exact hA) h
theorem JX {k:FuncId} {d:Nat} {xs:List Operand} {ts:Array TypeId} {args:List Value} {p:Part} {pre:List Fact} {res:Value→List Part→List Fact→Prop}
    (hsp:Sp P k args [p] pre res) (hxs:Evs l xs args) (hd:d<n.sz) (hp:DelAt Ps p Ps') (hpre: ∀A∈pre,A∈As)
    (h: ∀v Lo fs,res v Lo fs→K ((d,v)::l) (Lo++Ps') (fs++As)):
    OW P n R l Ps As ⟨some d, .call ⟨.value (.func k),xs.toArray,ts⟩,ty,pos,aft,g⟩ K:=
  XJ hsp hxs hd (fun hs=>(hs.permParts hp.perm).subFacts fun A hA=>by
    rcases List.mem_append.1 hA with hA | hA
    · exact hpre A hA
    · exact hA) h
theorem Sub.self {l' l:Fr} (h:Sub l' l):Sub l' l':=by
  intro q hq
  have key: ∀ {l':Fr},(∀p∈l',lk l p.1=some p.2)→ ∀q∈l',lk l' q.1=some q.2:=by
    intro l'
    induction l' with
    | nil=>intro _ q hq;cases hq
    | cons a r ih=>
      intro h q hq
      obtain ⟨k,v⟩:=a
      rw [YO]
      by_cases e:q.1=k
      · rw [if_pos e]
        have h1:=h q hq
        have h2:=h (k,v) List.mem_cons_self
        rw [e,h2] at h1
        exact h1
      · rw [if_neg e]
        rcases List.mem_cons.1 hq with rfl | hq
        · exact absurd rfl e
        · exact ih (fun p hp=>h p (List.mem_cons_of_mem _ hp)) q hq
  exact key h q hq
theorem Ki {α:Type} (μ:α→Nat) (fr:α→Fr) (ps:α→List Part) (as_:α→List Fact) (p:α→Prop) {c:Code} (x:α) (h0:p x) (hl:Sub (fr x) l) (hP:(ps x).Sublist Ps) (hA: ∀A∈as_ x,A∈As)
    (round: ∀x,p x→WC P n c (VJ (fun l' Ps' As'=> ∃x',(μ x'<μ x∧p x')∧Sub (fr x') l'∧(ps x').Sublist Ps'∧ ∀A∈as_ x',A∈As') R) (fr x) (ps x) (as_ x)):WC P n (.loop c) R l Ps As:=by
  refine E6 hl hP hA (Jag μ (fun x l Ps As=>p x∧Sub (fr x) l∧(ps x).Sublist Ps∧ ∀A∈as_ x,A∈As) x ⟨h0,fun q hq=> ?_,List.Sublist.refl _,fun _ h=>h⟩ ?_)
  · exact hl.self q hq
  · rintro x l Ps As ⟨h1,h2,h3,h4⟩
    exact E6 h2 h3 h4 ((round x h1).mono fun e l Ps As h=>by
      cases e<;>first
        | (obtain ⟨x',h5,h6⟩:=h;exact ⟨x',h5.1,h5.2,h6⟩)
        | exact h)
section
variable {Ps0:List Part} {As0:List Fact} {r:OT} {ws:World} {Z0:Nat→Prop}
theorem HS {α:Type} {e:De α} {T:TypeId} {v:Value} {m:Nat} {p:Part} {css:List (List Value)} {xs:List α} (h:Row T e.sz v m css.flatten p) (hp:DelAt Ps p Ps') (hn:m=xs.length) (hr:RepsF e xs css∈As)
    (hk: ∀A cap,v= .slice A xs.length cap→WE P n ops R ws Z0 Ps0 As0 r l Ps' (RdF e A cap xs::As)):WE P n ops R ws Z0 Ps0 As0 r l Ps As:=fun h0 Z w a hs ha=>by
  obtain ⟨A,cap,Z',h1,h2⟩:=hs.freezeRow hp h hn hr
  exact hk A cap h1 h0 Z' w a h2 ha
theorem Jaf {A:Fact} (hA: ∀Z w,St Z w Ps As→A.holds Z w) (h:WE P n ops R ws Z0 Ps0 As0 r l Ps (A::As)):WE P n ops R ws Z0 Ps0 As0 r l Ps As:=fun h0 Z w a hs ha=>h h0 Z w a (hs.addFact (hA Z w hs)) ha
end
theorem Kj {w:World} {Z:Nat→Prop} {T:TypeId} {dd:TypeDesc} {t b o:Nat} {cs:List Value} {T':TypeId} {v:Value} {rs:List ResultVar} {vs:List Value} (hs:St Z w Ps As) (hu:P.underlying T=some dd) (hd:agg? dd=false) (h:lk l t=some (.pointer (some ⟨b,o,none⟩))) (hb:OwnAt Ps b (JD cs T')) (hv:cs[o]? =some v) (hr:RV P l w rs vs):RV P l w (.cell t T::rs) (v::vs):=by
  have h1:=(hs.cells hb).cell hv
  rw [Nat.zero_add] at h1
  exact .cell h (QT hu hd h1) hr
theorem JS {w:World} {Z:Nat→Prop} {T:TypeId} {dd:TypeDesc} {t b:Nat} {cs:List Value} {T':TypeId} {z:Option Value} {sz by_:Nat} {rs:List ResultVar} {vs:List Value} (hs:St Z w Ps As) (hu:P.underlying T=some dd) (hd:agg? dd=true) (ht:ti P T=some (z,sz,by_)) (h:lk l t=some (.pointer (some ⟨b,0,none⟩))) (hb:OwnAt Ps b (JD cs T')) (hl:cs.length=sz) (hr:RV P l w rs vs):RV P l w (.cell t T::rs) (.agg cs.toArray::vs):=
  .cell h (QS hu hd ht hl (hs.cells hb)) hr
theorem St.out {Z:Nat→Prop} {w:World} {Qs:List Part} {As':List Fact} (hs:St Z w Ps As) (hp:Qs.Sublist Ps) (ha: ∀A∈As',A∈As): ∃Z',St Z' w Qs As':=⟨Z,(hs.subParts hp).subFacts ha⟩
end
universe u
section
variable {P:Program} {n:Dm} {R:Post} {l:Fr} {Ps Ps0:List Part} {As As0:List Fact} {ops:Array Oper} {rest:List Oper} {ws:World} {Z0:Nat→Prop} {r:OT} {i:Nat}
theorem Lq {d:Nat} {v:Value} {op:Op} {ty:TypeId} {pos:String} {aft:Array Edge} (hq:QR P l Ps As ⟨some d,op,ty,pos,aft,none⟩ v) (h:WL P n ops R rest ((d,v)::l) Ps As) (hd:d<n.sz:=by decide):WL P n ops R (⟨some d,op,ty,pos,aft,none⟩::rest) l Ps As:=JG hq hd h
theorem Qe {d:Nat} {v:Value} {op:Op} {ty:TypeId} {pos:String} {aft:Array Edge} (hi:ops[i]? =some ⟨some d,op,ty,pos,aft,none⟩) (hq:QR P l Ps0 As0 ⟨some d,op,ty,pos,aft,none⟩ v) (h:WE P n ops R ws Z0 Ps0 As0 r ((d,v)::l) Ps As) (hd:d<n.sz:=by decide):WE P n ops R ws Z0 Ps0 As0 (.c i 0 r) l Ps As:=JE hi hq hd h
theorem Lg {d j t:Nat} {v:Value} {op:Op} {ty:TypeId} {pos:String} {aft:Array Edge} {b:Bool} {ot:Oper} (hj:ops[j]? =some ot) (hdt:ot.dst=some t) (hv:lk l t=some (.bool b)) {b':Bool} (hb:b=b') (hq:QR P l Ps As ⟨some d,op,ty,pos,aft,some (j,b')⟩ v) (h:WL P n ops R rest ((d,v)::l) Ps As) (hd:d<n.sz:=by decide):WL P n ops R (⟨some d,op,ty,pos,aft,some (j,b')⟩::rest) l Ps As:=Yg hj hdt hv hb hq hd h
theorem Ln {d j t:Nat} {op:Op} {ty:TypeId} {pos:String} {aft:Array Edge} {b b':Bool} {ot:Oper} (hj:ops[j]? =some ot) (hdt:ot.dst=some t) (hv:lk l t=some (.bool b)) (hb:b= !b') (h:WL P n ops R rest ((d,undef)::l) Ps As) (hd:d<n.sz:=by decide):WL P n ops R (⟨some d,op,ty,pos,aft,some (j,b')⟩::rest) l Ps As:=Vd hj hdt hv hb hd h
end
theorem SetAt.z1 {r0 p q:Part}{l:List Part}:SetAt (r0::p::l) p q (r0::q::l):=.s .z
theorem DelAt.z1 {r0 p:Part}{l:List Part}:DelAt (r0::p::l) p (r0::l):=.s .z
theorem SetL.z1 {r0 x v:Value}{l:List Value}:SetL (r0::x::l) 1 v (r0::v::l):=.s .z
theorem SetAt.z2 {r0 r1 p q:Part}{l:List Part}:SetAt (r0::r1::p::l) p q (r0::r1::q::l):=.s (.z1)
theorem DelAt.z2 {r0 r1 p:Part}{l:List Part}:DelAt (r0::r1::p::l) p (r0::r1::l):=.s (.z1)
theorem SetL.z2 {r0 r1 x v:Value}{l:List Value}:SetL (r0::r1::x::l) 2 v (r0::r1::v::l):=.s (.z1)
theorem SetAt.z3 {r0 r1 r2 p q:Part}{l:List Part}:SetAt (r0::r1::r2::p::l) p q (r0::r1::r2::q::l):=.s (.z2)
theorem DelAt.z3 {r0 r1 r2 p:Part}{l:List Part}:DelAt (r0::r1::r2::p::l) p (r0::r1::r2::l):=.s (.z2)
theorem SetL.z3 {r0 r1 r2 x v:Value}{l:List Value}:SetL (r0::r1::r2::x::l) 3 v (r0::r1::r2::v::l):=.s (.z2)
theorem SetAt.z4 {r0 r1 r2 r3 p q:Part}{l:List Part}:SetAt (r0::r1::r2::r3::p::l) p q (r0::r1::r2::r3::q::l):=.s (.z3)
theorem DelAt.z4 {r0 r1 r2 r3 p:Part}{l:List Part}:DelAt (r0::r1::r2::r3::p::l) p (r0::r1::r2::r3::l):=.s (.z3)
theorem SetL.z4 {r0 r1 r2 r3 x v:Value}{l:List Value}:SetL (r0::r1::r2::r3::x::l) 4 v (r0::r1::r2::r3::v::l):=.s (.z3)
theorem SetAt.z5 {r0 r1 r2 r3 r4 p q:Part}{l:List Part}:SetAt (r0::r1::r2::r3::r4::p::l) p q (r0::r1::r2::r3::r4::q::l):=.s (.z4)
theorem DelAt.z5 {r0 r1 r2 r3 r4 p:Part}{l:List Part}:DelAt (r0::r1::r2::r3::r4::p::l) p (r0::r1::r2::r3::r4::l):=.s (.z4)
theorem SetL.z5 {r0 r1 r2 r3 r4 x v:Value}{l:List Value}:SetL (r0::r1::r2::r3::r4::x::l) 5 v (r0::r1::r2::r3::r4::v::l):=.s (.z4)
theorem SetAt.z6 {r0 r1 r2 r3 r4 r5 p q:Part}{l:List Part}:SetAt (r0::r1::r2::r3::r4::r5::p::l) p q (r0::r1::r2::r3::r4::r5::q::l):=.s (.z5)
theorem DelAt.z6 {r0 r1 r2 r3 r4 r5 p:Part}{l:List Part}:DelAt (r0::r1::r2::r3::r4::r5::p::l) p (r0::r1::r2::r3::r4::r5::l):=.s (.z5)
theorem SetL.z6 {r0 r1 r2 r3 r4 r5 x v:Value}{l:List Value}:SetL (r0::r1::r2::r3::r4::r5::x::l) 6 v (r0::r1::r2::r3::r4::r5::v::l):=.s (.z5)
theorem SetAt.z7 {r0 r1 r2 r3 r4 r5 r6 p q:Part}{l:List Part}:SetAt (r0::r1::r2::r3::r4::r5::r6::p::l) p q (r0::r1::r2::r3::r4::r5::r6::q::l):=.s (.z6)
theorem DelAt.z7 {r0 r1 r2 r3 r4 r5 r6 p:Part}{l:List Part}:DelAt (r0::r1::r2::r3::r4::r5::r6::p::l) p (r0::r1::r2::r3::r4::r5::r6::l):=.s (.z6)
theorem SetL.z7 {r0 r1 r2 r3 r4 r5 r6 x v:Value}{l:List Value}:SetL (r0::r1::r2::r3::r4::r5::r6::x::l) 7 v (r0::r1::r2::r3::r4::r5::r6::v::l):=.s (.z6)
theorem SetAt.z8 {r0 r1 r2 r3 r4 r5 r6 r7 p q:Part}{l:List Part}:SetAt (r0::r1::r2::r3::r4::r5::r6::r7::p::l) p q (r0::r1::r2::r3::r4::r5::r6::r7::q::l):=.s (.z7)
theorem DelAt.z8 {r0 r1 r2 r3 r4 r5 r6 r7 p:Part}{l:List Part}:DelAt (r0::r1::r2::r3::r4::r5::r6::r7::p::l) p (r0::r1::r2::r3::r4::r5::r6::r7::l):=.s (.z7)
theorem SetL.z8 {r0 r1 r2 r3 r4 r5 r6 r7 x v:Value}{l:List Value}:SetL (r0::r1::r2::r3::r4::r5::r6::r7::x::l) 8 v (r0::r1::r2::r3::r4::r5::r6::r7::v::l):=.s (.z7)
theorem SetAt.z9 {r0 r1 r2 r3 r4 r5 r6 r7 r8 p q:Part}{l:List Part}:SetAt (r0::r1::r2::r3::r4::r5::r6::r7::r8::p::l) p q (r0::r1::r2::r3::r4::r5::r6::r7::r8::q::l):=.s (.z8)
theorem DelAt.z9 {r0 r1 r2 r3 r4 r5 r6 r7 r8 p:Part}{l:List Part}:DelAt (r0::r1::r2::r3::r4::r5::r6::r7::r8::p::l) p (r0::r1::r2::r3::r4::r5::r6::r7::r8::l):=.s (.z8)
theorem SetL.z9 {r0 r1 r2 r3 r4 r5 r6 r7 r8 x v:Value}{l:List Value}:SetL (r0::r1::r2::r3::r4::r5::r6::r7::r8::x::l) 9 v (r0::r1::r2::r3::r4::r5::r6::r7::r8::v::l):=.s (.z8)
theorem SetAt.z10 {r0 r1 r2 r3 r4 r5 r6 r7 r8 r9 p q:Part}{l:List Part}:SetAt (r0::r1::r2::r3::r4::r5::r6::r7::r8::r9::p::l) p q (r0::r1::r2::r3::r4::r5::r6::r7::r8::r9::q::l):=.s (.z9)
theorem DelAt.z10 {r0 r1 r2 r3 r4 r5 r6 r7 r8 r9 p:Part}{l:List Part}:DelAt (r0::r1::r2::r3::r4::r5::r6::r7::r8::r9::p::l) p (r0::r1::r2::r3::r4::r5::r6::r7::r8::r9::l):=.s (.z9)
theorem SetL.z10 {r0 r1 r2 r3 r4 r5 r6 r7 r8 r9 x v:Value}{l:List Value}:SetL (r0::r1::r2::r3::r4::r5::r6::r7::r8::r9::x::l) 10 v (r0::r1::r2::r3::r4::r5::r6::r7::r8::r9::v::l):=.s (.z9)
theorem SetAt.z11 {r0 r1 r2 r3 r4 r5 r6 r7 r8 r9 r10 p q:Part}{l:List Part}:SetAt (r0::r1::r2::r3::r4::r5::r6::r7::r8::r9::r10::p::l) p q (r0::r1::r2::r3::r4::r5::r6::r7::r8::r9::r10::q::l):=.s (.z10)
theorem DelAt.z11 {r0 r1 r2 r3 r4 r5 r6 r7 r8 r9 r10 p:Part}{l:List Part}:DelAt (r0::r1::r2::r3::r4::r5::r6::r7::r8::r9::r10::p::l) p (r0::r1::r2::r3::r4::r5::r6::r7::r8::r9::r10::l):=.s (.z10)
theorem SetL.z11 {r0 r1 r2 r3 r4 r5 r6 r7 r8 r9 r10 x v:Value}{l:List Value}:SetL (r0::r1::r2::r3::r4::r5::r6::r7::r8::r9::r10::x::l) 11 v (r0::r1::r2::r3::r4::r5::r6::r7::r8::r9::r10::v::l):=.s (.z10)
theorem Evs.n1 {l:Fr}{x0:Operand}{v0:Value}(h0:evs l x0=some v0):Evs l [x0] [v0]:=.cons h0 (.nil)
theorem Reps.n1 {α:Type}{r:α→List Value→Prop}{x0:α}{c0:List Value}(h0:r x0 c0):Reps r (x0::[]) (c0::[]):=.cons h0 (.nil)
theorem Evs.n2 {l:Fr}{x0 x1:Operand}{v0 v1:Value}(h0:evs l x0=some v0) (h1:evs l x1=some v1):Evs l [x0,x1] [v0,v1]:=.cons h0 (.cons h1 (.nil))
theorem Reps.n2 {α:Type}{r:α→List Value→Prop}{x0 x1:α}{c0 c1:List Value}(h0:r x0 c0) (h1:r x1 c1):Reps r (x0::x1::[]) (c0::c1::[]):=.cons h0 (.cons h1 (.nil))
theorem Evs.n3 {l:Fr}{x0 x1 x2:Operand}{v0 v1 v2:Value}(h0:evs l x0=some v0) (h1:evs l x1=some v1) (h2:evs l x2=some v2):Evs l [x0,x1,x2] [v0,v1,v2]:=.cons h0 (.cons h1 (.cons h2 (.nil)))
theorem Reps.n3 {α:Type}{r:α→List Value→Prop}{x0 x1 x2:α}{c0 c1 c2:List Value}(h0:r x0 c0) (h1:r x1 c1) (h2:r x2 c2):Reps r (x0::x1::x2::[]) (c0::c1::c2::[]):=.cons h0 (.cons h1 (.cons h2 (.nil)))
theorem Evs.n4 {l:Fr}{x0 x1 x2 x3:Operand}{v0 v1 v2 v3:Value}(h0:evs l x0=some v0) (h1:evs l x1=some v1) (h2:evs l x2=some v2) (h3:evs l x3=some v3):Evs l [x0,x1,x2,x3] [v0,v1,v2,v3]:=.cons h0 (.cons h1 (.cons h2 (.cons h3 (.nil))))
theorem Evs.n5 {l:Fr}{x0 x1 x2 x3 x4:Operand}{v0 v1 v2 v3 v4:Value}(h0:evs l x0=some v0) (h1:evs l x1=some v1) (h2:evs l x2=some v2) (h3:evs l x3=some v3) (h4:evs l x4=some v4):Evs l [x0,x1,x2,x3,x4] [v0,v1,v2,v3,v4]:=.cons h0 (.cons h1 (.cons h2 (.cons h3 (.cons h4 (.nil)))))
theorem Evs.n6 {l:Fr}{x0 x1 x2 x3 x4 x5:Operand}{v0 v1 v2 v3 v4 v5:Value}(h0:evs l x0=some v0) (h1:evs l x1=some v1) (h2:evs l x2=some v2) (h3:evs l x3=some v3) (h4:evs l x4=some v4) (h5:evs l x5=some v5):Evs l [x0,x1,x2,x3,x4,x5] [v0,v1,v2,v3,v4,v5]:=.cons h0 (.cons h1 (.cons h2 (.cons h3 (.cons h4 (.cons h5 (.nil))))))
theorem Evs.n8 {l:Fr}{x0 x1 x2 x3 x4 x5 x6 x7:Operand}{v0 v1 v2 v3 v4 v5 v6 v7:Value}(h0:evs l x0=some v0) (h1:evs l x1=some v1) (h2:evs l x2=some v2) (h3:evs l x3=some v3) (h4:evs l x4=some v4) (h5:evs l x5=some v5) (h6:evs l x6=some v6) (h7:evs l x7=some v7):Evs l [x0,x1,x2,x3,x4,x5,x6,x7] [v0,v1,v2,v3,v4,v5,v6,v7]:=.cons h0 (.cons h1 (.cons h2 (.cons h3 (.cons h4 (.cons h5 (.cons h6 (.cons h7 (.nil))))))))
theorem Evs.n9 {l:Fr}{x0 x1 x2 x3 x4 x5 x6 x7 x8:Operand}{v0 v1 v2 v3 v4 v5 v6 v7 v8:Value}(h0:evs l x0=some v0) (h1:evs l x1=some v1) (h2:evs l x2=some v2) (h3:evs l x3=some v3) (h4:evs l x4=some v4) (h5:evs l x5=some v5) (h6:evs l x6=some v6) (h7:evs l x7=some v7) (h8:evs l x8=some v8):Evs l [x0,x1,x2,x3,x4,x5,x6,x7,x8] [v0,v1,v2,v3,v4,v5,v6,v7,v8]:=.cons h0 (.cons h1 (.cons h2 (.cons h3 (.cons h4 (.cons h5 (.cons h6 (.cons h7 (.cons h8 (.nil)))))))))
theorem Sub.m1 {l:Fr}{k0:Nat}{v0:Value}(h0:lk l k0=some v0):Sub ((k0,v0)::[]) l:=.cons h0 (.nil _)
theorem Sub.m2 {l:Fr}{k0 k1:Nat}{v0 v1:Value}(h0:lk l k0=some v0) (h1:lk l k1=some v1):Sub ((k0,v0)::(k1,v1)::[]) l:=.cons h0 (.cons h1 (.nil _))
theorem Sub.m3 {l:Fr}{k0 k1 k2:Nat}{v0 v1 v2:Value}(h0:lk l k0=some v0) (h1:lk l k1=some v1) (h2:lk l k2=some v2):Sub ((k0,v0)::(k1,v1)::(k2,v2)::[]) l:=.cons h0 (.cons h1 (.cons h2 (.nil _)))
theorem Sub.m4 {l:Fr}{k0 k1 k2 k3:Nat}{v0 v1 v2 v3:Value}(h0:lk l k0=some v0) (h1:lk l k1=some v1) (h2:lk l k2=some v2) (h3:lk l k3=some v3):Sub ((k0,v0)::(k1,v1)::(k2,v2)::(k3,v3)::[]) l:=.cons h0 (.cons h1 (.cons h2 (.cons h3 (.nil _))))
theorem Sub.m5 {l:Fr}{k0 k1 k2 k3 k4:Nat}{v0 v1 v2 v3 v4:Value}(h0:lk l k0=some v0) (h1:lk l k1=some v1) (h2:lk l k2=some v2) (h3:lk l k3=some v3) (h4:lk l k4=some v4):Sub ((k0,v0)::(k1,v1)::(k2,v2)::(k3,v3)::(k4,v4)::[]) l:=.cons h0 (.cons h1 (.cons h2 (.cons h3 (.cons h4 (.nil _)))))
theorem Sub.m6 {l:Fr}{k0 k1 k2 k3 k4 k5:Nat}{v0 v1 v2 v3 v4 v5:Value}(h0:lk l k0=some v0) (h1:lk l k1=some v1) (h2:lk l k2=some v2) (h3:lk l k3=some v3) (h4:lk l k4=some v4) (h5:lk l k5=some v5):Sub ((k0,v0)::(k1,v1)::(k2,v2)::(k3,v3)::(k4,v4)::(k5,v5)::[]) l:=.cons h0 (.cons h1 (.cons h2 (.cons h3 (.cons h4 (.cons h5 (.nil _))))))
theorem Sub.m7 {l:Fr}{k0 k1 k2 k3 k4 k5 k6:Nat}{v0 v1 v2 v3 v4 v5 v6:Value}(h0:lk l k0=some v0) (h1:lk l k1=some v1) (h2:lk l k2=some v2) (h3:lk l k3=some v3) (h4:lk l k4=some v4) (h5:lk l k5=some v5) (h6:lk l k6=some v6):Sub ((k0,v0)::(k1,v1)::(k2,v2)::(k3,v3)::(k4,v4)::(k5,v5)::(k6,v6)::[]) l:=.cons h0 (.cons h1 (.cons h2 (.cons h3 (.cons h4 (.cons h5 (.cons h6 (.nil _)))))))
theorem Sub.m8 {l:Fr}{k0 k1 k2 k3 k4 k5 k6 k7:Nat}{v0 v1 v2 v3 v4 v5 v6 v7:Value}(h0:lk l k0=some v0) (h1:lk l k1=some v1) (h2:lk l k2=some v2) (h3:lk l k3=some v3) (h4:lk l k4=some v4) (h5:lk l k5=some v5) (h6:lk l k6=some v6) (h7:lk l k7=some v7):Sub ((k0,v0)::(k1,v1)::(k2,v2)::(k3,v3)::(k4,v4)::(k5,v5)::(k6,v6)::(k7,v7)::[]) l:=.cons h0 (.cons h1 (.cons h2 (.cons h3 (.cons h4 (.cons h5 (.cons h6 (.cons h7 (.nil _))))))))
theorem Sub.m9 {l:Fr}{k0 k1 k2 k3 k4 k5 k6 k7 k8:Nat}{v0 v1 v2 v3 v4 v5 v6 v7 v8:Value}(h0:lk l k0=some v0) (h1:lk l k1=some v1) (h2:lk l k2=some v2) (h3:lk l k3=some v3) (h4:lk l k4=some v4) (h5:lk l k5=some v5) (h6:lk l k6=some v6) (h7:lk l k7=some v7) (h8:lk l k8=some v8):Sub ((k0,v0)::(k1,v1)::(k2,v2)::(k3,v3)::(k4,v4)::(k5,v5)::(k6,v6)::(k7,v7)::(k8,v8)::[]) l:=.cons h0 (.cons h1 (.cons h2 (.cons h3 (.cons h4 (.cons h5 (.cons h6 (.cons h7 (.cons h8 (.nil _)))))))))
theorem Sub.m10 {l:Fr}{k0 k1 k2 k3 k4 k5 k6 k7 k8 k9:Nat}{v0 v1 v2 v3 v4 v5 v6 v7 v8 v9:Value}(h0:lk l k0=some v0) (h1:lk l k1=some v1) (h2:lk l k2=some v2) (h3:lk l k3=some v3) (h4:lk l k4=some v4) (h5:lk l k5=some v5) (h6:lk l k6=some v6) (h7:lk l k7=some v7) (h8:lk l k8=some v8) (h9:lk l k9=some v9):Sub ((k0,v0)::(k1,v1)::(k2,v2)::(k3,v3)::(k4,v4)::(k5,v5)::(k6,v6)::(k7,v7)::(k8,v8)::(k9,v9)::[]) l:=.cons h0 (.cons h1 (.cons h2 (.cons h3 (.cons h4 (.cons h5 (.cons h6 (.cons h7 (.cons h8 (.cons h9 (.nil _))))))))))
theorem O {α:Sort u}{a:α}:a=a:=rfl
theorem Bp:(∀ {p:Prop} [Decidable p],(decide p=true)=p)∧(∀ {p:Prop} {_:Decidable p},decide p=false↔ ¬p)∧(∀(a b:Bool),((a && b)=true)=(a=true∧b=true))∧(∀(b:Bool),((!b)=true)=(b=false))∧(∀(b:Bool),((!b)=false)=(b=true))∧(∀(b:Bool),(¬b=true)=(b=false))∧(∀(b:Bool),(¬b=false)=(b=true))∧(∀ {x y:Bool},(x && y)=false↔x=false∨y=false):=
  ⟨decide_eq_true_eq,decide_eq_false_iff_not,Bool.and_eq_true,Bool.not_eq_true',Bool.not_eq_false',Bool.not_eq_true,Bool.not_eq_false,Bool.and_eq_false_iff⟩
theorem Bq:(∀ {α:Type u} [BEq α] [LawfulBEq α] {a b:α},(a==b)=true↔a=b)∧(∀ {α:Type u} [BEq α] [LawfulBEq α] {a b:α},(a !=b)=true↔a≠b)∧(∀ {α:Type u} [BEq α] [LawfulBEq α] {a b:α},(a==b)=false↔a≠b)∧(∀ {α:Type u} (a b:α),(a≠b)= ¬a=b)∧(∀ {α:Type u} [BEq α] [LawfulBEq α] {a b:α},(a !=b)=false↔a=b):=
  ⟨beq_iff_eq,bne_iff_ne,beq_eq_false_iff_ne,fun _ _=>rfl,bne_eq_false_iff_eq⟩
section
variable {α:Type} {x a:α} {l m:List α}
theorem Sk (h:l.Sublist m):(x::l).Sublist (x::m):=h.cons_cons x
theorem Sd (h:l.Sublist m):l.Sublist (x::m):=h.cons x
theorem Sr:l.Sublist l:=List.Sublist.refl l
theorem Sd2 {α:Type}{x0 x1:α}{l m:List α}(h:l.Sublist m):l.Sublist (x0::x1::m):=Sd (Sd h)
theorem Sd3 {α:Type}{x0 x1 x2:α}{l m:List α}(h:l.Sublist m):l.Sublist (x0::x1::x2::m):=Sd (Sd (Sd h))
theorem Sd4 {α:Type}{x0 x1 x2 x3:α}{l m:List α}(h:l.Sublist m):l.Sublist (x0::x1::x2::x3::m):=Sd (Sd (Sd (Sd h)))
theorem Sd5 {α:Type}{x0 x1 x2 x3 x4:α}{l m:List α}(h:l.Sublist m):l.Sublist (x0::x1::x2::x3::x4::m):=Sd (Sd (Sd (Sd (Sd h))))
theorem Sd6 {α:Type}{x0 x1 x2 x3 x4 x5:α}{l m:List α}(h:l.Sublist m):l.Sublist (x0::x1::x2::x3::x4::x5::m):=Sd (Sd (Sd (Sd (Sd (Sd h)))))
theorem Sd7 {α:Type}{x0 x1 x2 x3 x4 x5 x6:α}{l m:List α}(h:l.Sublist m):l.Sublist (x0::x1::x2::x3::x4::x5::x6::m):=Sd (Sd (Sd (Sd (Sd (Sd (Sd h))))))
theorem Sd8 {α:Type}{x0 x1 x2 x3 x4 x5 x6 x7:α}{l m:List α}(h:l.Sublist m):l.Sublist (x0::x1::x2::x3::x4::x5::x6::x7::m):=Sd (Sd (Sd (Sd (Sd (Sd (Sd (Sd h)))))))
theorem Sd9 {α:Type}{x0 x1 x2 x3 x4 x5 x6 x7 x8:α}{l m:List α}(h:l.Sublist m):l.Sublist (x0::x1::x2::x3::x4::x5::x6::x7::x8::m):=Sd (Sd (Sd (Sd (Sd (Sd (Sd (Sd (Sd h))))))))
theorem Sd12 {α:Type}{x0 x1 x2 x3 x4 x5 x6 x7 x8 x9 x10 x11:α}{l m:List α}(h:l.Sublist m):l.Sublist (x0::x1::x2::x3::x4::x5::x6::x7::x8::x9::x10::x11::m):=Sd (Sd (Sd (Sd (Sd (Sd (Sd (Sd (Sd (Sd (Sd (Sd h)))))))))))
theorem Sk2 {α:Type}{x0 x1:α}{l m:List α}(h:l.Sublist m):(x0::x1::l).Sublist (x0::x1::m):=Sk (Sk h)
theorem Sk3 {α:Type}{x0 x1 x2:α}{l m:List α}(h:l.Sublist m):(x0::x1::x2::l).Sublist (x0::x1::x2::m):=Sk (Sk (Sk h))
theorem Sk4 {α:Type}{x0 x1 x2 x3:α}{l m:List α}(h:l.Sublist m):(x0::x1::x2::x3::l).Sublist (x0::x1::x2::x3::m):=Sk (Sk (Sk (Sk h)))
theorem Sk5 {α:Type}{x0 x1 x2 x3 x4:α}{l m:List α}(h:l.Sublist m):(x0::x1::x2::x3::x4::l).Sublist (x0::x1::x2::x3::x4::m):=Sk (Sk (Sk (Sk (Sk h))))
theorem Sk6 {α:Type}{x0 x1 x2 x3 x4 x5:α}{l m:List α}(h:l.Sublist m):(x0::x1::x2::x3::x4::x5::l).Sublist (x0::x1::x2::x3::x4::x5::m):=Sk (Sk (Sk (Sk (Sk (Sk h)))))
theorem Sk7 {α:Type}{x0 x1 x2 x3 x4 x5 x6:α}{l m:List α}(h:l.Sublist m):(x0::x1::x2::x3::x4::x5::x6::l).Sublist (x0::x1::x2::x3::x4::x5::x6::m):=Sk (Sk (Sk (Sk (Sk (Sk (Sk h))))))
theorem Sk8 {α:Type}{x0 x1 x2 x3 x4 x5 x6 x7:α}{l m:List α}(h:l.Sublist m):(x0::x1::x2::x3::x4::x5::x6::x7::l).Sublist (x0::x1::x2::x3::x4::x5::x6::x7::m):=Sk (Sk (Sk (Sk (Sk (Sk (Sk (Sk h)))))))
theorem Sk9 {α:Type}{x0 x1 x2 x3 x4 x5 x6 x7 x8:α}{l m:List α}(h:l.Sublist m):(x0::x1::x2::x3::x4::x5::x6::x7::x8::l).Sublist (x0::x1::x2::x3::x4::x5::x6::x7::x8::m):=Sk (Sk (Sk (Sk (Sk (Sk (Sk (Sk (Sk h))))))))
theorem Sk10 {α:Type}{x0 x1 x2 x3 x4 x5 x6 x7 x8 x9:α}{l m:List α}(h:l.Sublist m):(x0::x1::x2::x3::x4::x5::x6::x7::x8::x9::l).Sublist (x0::x1::x2::x3::x4::x5::x6::x7::x8::x9::m):=Sk (Sk (Sk (Sk (Sk (Sk (Sk (Sk (Sk (Sk h)))))))))
theorem Sk12 {α:Type}{x0 x1 x2 x3 x4 x5 x6 x7 x8 x9 x10 x11:α}{l m:List α}(h:l.Sublist m):(x0::x1::x2::x3::x4::x5::x6::x7::x8::x9::x10::x11::l).Sublist (x0::x1::x2::x3::x4::x5::x6::x7::x8::x9::x10::x11::m):=Sk (Sk (Sk (Sk (Sk (Sk (Sk (Sk (Sk (Sk (Sk (Sk h)))))))))))
theorem Mm0:a∈a::l:= .head _
theorem Mm1 {x0:α} :a∈x0::a::l:= .tail _ Mm0
theorem Mm2 {x0 x1:α} :a∈x0::x1::a::l:= .tail _ Mm1
theorem Mm3 {x0 x1 x2:α} :a∈x0::x1::x2::a::l:= .tail _ Mm2
theorem Mm4 {x0 x1 x2 x3:α} :a∈x0::x1::x2::x3::a::l:= .tail _ Mm3
theorem Mm5 {x0 x1 x2 x3 x4:α} :a∈x0::x1::x2::x3::x4::a::l:= .tail _ Mm4
theorem Mm6 {x0 x1 x2 x3 x4 x5:α} :a∈x0::x1::x2::x3::x4::x5::a::l:= .tail _ Mm5
theorem Mm7 {x0 x1 x2 x3 x4 x5 x6:α} :a∈x0::x1::x2::x3::x4::x5::x6::a::l:= .tail _ Mm6
theorem Mm8 {x0 x1 x2 x3 x4 x5 x6 x7:α} :a∈x0::x1::x2::x3::x4::x5::x6::x7::a::l:= .tail _ Mm7
theorem Mm9 {x0 x1 x2 x3 x4 x5 x6 x7 x8:α} :a∈x0::x1::x2::x3::x4::x5::x6::x7::x8::a::l:= .tail _ Mm8
theorem Mm10 {x0 x1 x2 x3 x4 x5 x6 x7 x8 x9:α} :a∈x0::x1::x2::x3::x4::x5::x6::x7::x8::x9::a::l:= .tail _ Mm9
theorem Mm11 {x0 x1 x2 x3 x4 x5 x6 x7 x8 x9 x10:α} :a∈x0::x1::x2::x3::x4::x5::x6::x7::x8::x9::x10::a::l:= .tail _ Mm10
theorem Mm12 {x0 x1 x2 x3 x4 x5 x6 x7 x8 x9 x10 x11:α} :a∈x0::x1::x2::x3::x4::x5::x6::x7::x8::x9::x10::x11::a::l:= .tail _ Mm11
theorem Mm13 {x0 x1 x2 x3 x4 x5 x6 x7 x8 x9 x10 x11 x12:α} :a∈x0::x1::x2::x3::x4::x5::x6::x7::x8::x9::x10::x11::x12::a::l:= .tail _ Mm12
theorem Mm14 {x0 x1 x2 x3 x4 x5 x6 x7 x8 x9 x10 x11 x12 x13:α} :a∈x0::x1::x2::x3::x4::x5::x6::x7::x8::x9::x10::x11::x12::x13::a::l:= .tail _ Mm13
theorem Mm15 {x0 x1 x2 x3 x4 x5 x6 x7 x8 x9 x10 x11 x12 x13 x14:α} :a∈x0::x1::x2::x3::x4::x5::x6::x7::x8::x9::x10::x11::x12::x13::x14::a::l:= .tail _ Mm14
theorem Mm16 {x0 x1 x2 x3 x4 x5 x6 x7 x8 x9 x10 x11 x12 x13 x14 x15:α} :a∈x0::x1::x2::x3::x4::x5::x6::x7::x8::x9::x10::x11::x12::x13::x14::x15::a::l:= .tail _ Mm15
theorem Mm17 {x0 x1 x2 x3 x4 x5 x6 x7 x8 x9 x10 x11 x12 x13 x14 x15 x16:α} :a∈x0::x1::x2::x3::x4::x5::x6::x7::x8::x9::x10::x11::x12::x13::x14::x15::x16::a::l:= .tail _ Mm16
theorem Mm18 {x0 x1 x2 x3 x4 x5 x6 x7 x8 x9 x10 x11 x12 x13 x14 x15 x16 x17:α} :a∈x0::x1::x2::x3::x4::x5::x6::x7::x8::x9::x10::x11::x12::x13::x14::x15::x16::x17::a::l:= .tail _ Mm17
theorem Mm19 {x0 x1 x2 x3 x4 x5 x6 x7 x8 x9 x10 x11 x12 x13 x14 x15 x16 x17 x18:α} :a∈x0::x1::x2::x3::x4::x5::x6::x7::x8::x9::x10::x11::x12::x13::x14::x15::x16::x17::x18::a::l:= .tail _ Mm18
theorem Mm20 {x0 x1 x2 x3 x4 x5 x6 x7 x8 x9 x10 x11 x12 x13 x14 x15 x16 x17 x18 x19:α} :a∈x0::x1::x2::x3::x4::x5::x6::x7::x8::x9::x10::x11::x12::x13::x14::x15::x16::x17::x18::x19::a::l:= .tail _ Mm19
theorem Mm21 {x0 x1 x2 x3 x4 x5 x6 x7 x8 x9 x10 x11 x12 x13 x14 x15 x16 x17 x18 x19 x20:α} :a∈x0::x1::x2::x3::x4::x5::x6::x7::x8::x9::x10::x11::x12::x13::x14::x15::x16::x17::x18::x19::x20::a::l:= .tail _ Mm20
theorem Mm22 {x0 x1 x2 x3 x4 x5 x6 x7 x8 x9 x10 x11 x12 x13 x14 x15 x16 x17 x18 x19 x20 x21:α} :a∈x0::x1::x2::x3::x4::x5::x6::x7::x8::x9::x10::x11::x12::x13::x14::x15::x16::x17::x18::x19::x20::x21::a::l:= .tail _ Mm21
theorem Mm23 {x0 x1 x2 x3 x4 x5 x6 x7 x8 x9 x10 x11 x12 x13 x14 x15 x16 x17 x18 x19 x20 x21 x22:α} :a∈x0::x1::x2::x3::x4::x5::x6::x7::x8::x9::x10::x11::x12::x13::x14::x15::x16::x17::x18::x19::x20::x21::x22::a::l:= .tail _ Mm22
theorem Mm24 {x0 x1 x2 x3 x4 x5 x6 x7 x8 x9 x10 x11 x12 x13 x14 x15 x16 x17 x18 x19 x20 x21 x22 x23:α} :a∈x0::x1::x2::x3::x4::x5::x6::x7::x8::x9::x10::x11::x12::x13::x14::x15::x16::x17::x18::x19::x20::x21::x22::x23::a::l:= .tail _ Mm23
theorem Tt1 {x0:α} : ∀y,y∈l→y∈x0::l:=fun _ h=> .tail _ h
theorem Tt2 {x0 x1:α} : ∀y,y∈l→y∈x0::x1::l:=fun _ h=> .tail _ (Tt1 _ h)
theorem Tt3 {x0 x1 x2:α} : ∀y,y∈l→y∈x0::x1::x2::l:=fun _ h=> .tail _ (Tt2 _ h)
theorem Tt4 {x0 x1 x2 x3:α} : ∀y,y∈l→y∈x0::x1::x2::x3::l:=fun _ h=> .tail _ (Tt3 _ h)
theorem Tt5 {x0 x1 x2 x3 x4:α} : ∀y,y∈l→y∈x0::x1::x2::x3::x4::l:=fun _ h=> .tail _ (Tt4 _ h)
theorem Tt6 {x0 x1 x2 x3 x4 x5:α} : ∀y,y∈l→y∈x0::x1::x2::x3::x4::x5::l:=fun _ h=> .tail _ (Tt5 _ h)
theorem Tt7 {x0 x1 x2 x3 x4 x5 x6:α} : ∀y,y∈l→y∈x0::x1::x2::x3::x4::x5::x6::l:=fun _ h=> .tail _ (Tt6 _ h)
theorem Tt8 {x0 x1 x2 x3 x4 x5 x6 x7:α} : ∀y,y∈l→y∈x0::x1::x2::x3::x4::x5::x6::x7::l:=fun _ h=> .tail _ (Tt7 _ h)
theorem Tt9 {x0 x1 x2 x3 x4 x5 x6 x7 x8:α} : ∀y,y∈l→y∈x0::x1::x2::x3::x4::x5::x6::x7::x8::l:=fun _ h=> .tail _ (Tt8 _ h)
theorem Tt10 {x0 x1 x2 x3 x4 x5 x6 x7 x8 x9:α} : ∀y,y∈l→y∈x0::x1::x2::x3::x4::x5::x6::x7::x8::x9::l:=fun _ h=> .tail _ (Tt9 _ h)
theorem Tt11 {x0 x1 x2 x3 x4 x5 x6 x7 x8 x9 x10:α} : ∀y,y∈l→y∈x0::x1::x2::x3::x4::x5::x6::x7::x8::x9::x10::l:=fun _ h=> .tail _ (Tt10 _ h)
theorem Tt12 {x0 x1 x2 x3 x4 x5 x6 x7 x8 x9 x10 x11:α} : ∀y,y∈l→y∈x0::x1::x2::x3::x4::x5::x6::x7::x8::x9::x10::x11::l:=fun _ h=> .tail _ (Tt11 _ h)
theorem Tt13 {x0 x1 x2 x3 x4 x5 x6 x7 x8 x9 x10 x11 x12:α} : ∀y,y∈l→y∈x0::x1::x2::x3::x4::x5::x6::x7::x8::x9::x10::x11::x12::l:=fun _ h=> .tail _ (Tt12 _ h)
theorem Tt14 {x0 x1 x2 x3 x4 x5 x6 x7 x8 x9 x10 x11 x12 x13:α} : ∀y,y∈l→y∈x0::x1::x2::x3::x4::x5::x6::x7::x8::x9::x10::x11::x12::x13::l:=fun _ h=> .tail _ (Tt13 _ h)
theorem Tt15 {x0 x1 x2 x3 x4 x5 x6 x7 x8 x9 x10 x11 x12 x13 x14:α} : ∀y,y∈l→y∈x0::x1::x2::x3::x4::x5::x6::x7::x8::x9::x10::x11::x12::x13::x14::l:=fun _ h=> .tail _ (Tt14 _ h)
theorem Tt16 {x0 x1 x2 x3 x4 x5 x6 x7 x8 x9 x10 x11 x12 x13 x14 x15:α} : ∀y,y∈l→y∈x0::x1::x2::x3::x4::x5::x6::x7::x8::x9::x10::x11::x12::x13::x14::x15::l:=fun _ h=> .tail _ (Tt15 _ h)
theorem Tt17 {x0 x1 x2 x3 x4 x5 x6 x7 x8 x9 x10 x11 x12 x13 x14 x15 x16:α} : ∀y,y∈l→y∈x0::x1::x2::x3::x4::x5::x6::x7::x8::x9::x10::x11::x12::x13::x14::x15::x16::l:=fun _ h=> .tail _ (Tt16 _ h)
theorem Tt18 {x0 x1 x2 x3 x4 x5 x6 x7 x8 x9 x10 x11 x12 x13 x14 x15 x16 x17:α} : ∀y,y∈l→y∈x0::x1::x2::x3::x4::x5::x6::x7::x8::x9::x10::x11::x12::x13::x14::x15::x16::x17::l:=fun _ h=> .tail _ (Tt17 _ h)
theorem Tt19 {x0 x1 x2 x3 x4 x5 x6 x7 x8 x9 x10 x11 x12 x13 x14 x15 x16 x17 x18:α} : ∀y,y∈l→y∈x0::x1::x2::x3::x4::x5::x6::x7::x8::x9::x10::x11::x12::x13::x14::x15::x16::x17::x18::l:=fun _ h=> .tail _ (Tt18 _ h)
theorem Tt20 {x0 x1 x2 x3 x4 x5 x6 x7 x8 x9 x10 x11 x12 x13 x14 x15 x16 x17 x18 x19:α} : ∀y,y∈l→y∈x0::x1::x2::x3::x4::x5::x6::x7::x8::x9::x10::x11::x12::x13::x14::x15::x16::x17::x18::x19::l:=fun _ h=> .tail _ (Tt19 _ h)
theorem Tt21 {x0 x1 x2 x3 x4 x5 x6 x7 x8 x9 x10 x11 x12 x13 x14 x15 x16 x17 x18 x19 x20:α} : ∀y,y∈l→y∈x0::x1::x2::x3::x4::x5::x6::x7::x8::x9::x10::x11::x12::x13::x14::x15::x16::x17::x18::x19::x20::l:=fun _ h=> .tail _ (Tt20 _ h)
theorem Tt22 {x0 x1 x2 x3 x4 x5 x6 x7 x8 x9 x10 x11 x12 x13 x14 x15 x16 x17 x18 x19 x20 x21:α} : ∀y,y∈l→y∈x0::x1::x2::x3::x4::x5::x6::x7::x8::x9::x10::x11::x12::x13::x14::x15::x16::x17::x18::x19::x20::x21::l:=fun _ h=> .tail _ (Tt21 _ h)
theorem Tt23 {x0 x1 x2 x3 x4 x5 x6 x7 x8 x9 x10 x11 x12 x13 x14 x15 x16 x17 x18 x19 x20 x21 x22:α} : ∀y,y∈l→y∈x0::x1::x2::x3::x4::x5::x6::x7::x8::x9::x10::x11::x12::x13::x14::x15::x16::x17::x18::x19::x20::x21::x22::l:=fun _ h=> .tail _ (Tt22 _ h)
theorem Tt24 {x0 x1 x2 x3 x4 x5 x6 x7 x8 x9 x10 x11 x12 x13 x14 x15 x16 x17 x18 x19 x20 x21 x22 x23:α} : ∀y,y∈l→y∈x0::x1::x2::x3::x4::x5::x6::x7::x8::x9::x10::x11::x12::x13::x14::x15::x16::x17::x18::x19::x20::x21::x22::x23::l:=fun _ h=> .tail _ (Tt23 _ h)
end
theorem YS {P:Program} {T:TypeId} {dd:TypeDesc} {cs:List Value} {o:Nat} {v:Value} {w:World} (hu:P.underlying T=some dd) (hd:agg? dd=false) (hv:cs[o]? =some v):(part T cs.toArray o).run P w= .ok v w:=by
  unfold part
  rw [Sem.run_bind,VB hu,hd]
  simp [hv]
theorem Xa {P:Program} {T:TypeId} {dd:TypeDesc} {cs vs:List Value} {o:Nat} {z:Option Value} {sz by_:Nat} {w:World} (hu:P.underlying T=some dd) (hd:agg? dd=true) (ht:ti P T=some (z,sz,by_)) (hv:(cs.drop o).take sz=vs):(part T cs.toArray o).run P w= .ok (.agg vs.toArray) w:=by
  unfold part
  rw [Sem.run_bind,VB hu,hd]
  simp only [Result.andThen_ok,if_true,Sem.run_bind,KU ht,Sem.run_pure]
  subst hv
  have:cs.toArray.extract o (o+sz)=((cs.drop o).take sz).toArray:=by
    apply Array.ext'
    simp [List.extract_eq_take_drop]
  rw [this]
structure EqT (P:Program) (T:TypeId) (xs ys:Array Value) (r:Bool):Prop where
  guard:P.eqGuardType P.depth T=false
  run: ∀d w,(Op.equalIn (d+9) T (.agg xs) (.agg ys)).run P w= .ok r w
theorem eqT_id {P:Program} {T E:TypeId} {z:Option Value} {by_:Nat} (hu:P.underlying T=some (.array 2 E)) (he:P.underlying E=some (.int .i64)) (ht:ti P E=some (z,1,by_)) (hg:P.eqGuardType P.depth T=false) (a b c d:Int):
    EqT P T [.int .i64 a, .int .i64 b].toArray [.int .i64 c, .int .i64 d].toArray (a==c && b==d):=⟨hg,fun k w=>by
  have h1: ∀(cs:List Value) (o:Nat) (v:Value) w,cs[o]? =some v→(part E cs.toArray o).run P w= .ok v w:=fun cs o v w h=>YS he rfl h
  have h2: ∀(x y:Int) w,(Op.equalIn (k+8) E (.int .i64 x) (.int .i64 y)).run P w= .ok (x==y) w:=fun x y w=>run_equalIn_int w (k+7) E .i64 .i64 x y he
  rw [Op.equalIn]
  simp only [Sem.run_bind,run_underlying hu,Result.andThen_ok,KU ht,Nat.mul_one]
  simp only [Std.Legacy.Range.forIn_eq_forIn_range',Std.Legacy.Range.size,Nat.sub_zero,Nat.add_sub_cancel,Nat.div_one,List.range'_succ,List.range'_zero,List.forIn_cons,List.forIn_nil,Sem.run_bind,h1 [.int .i64 a, .int .i64 b] 0 _ _ rfl,h1 [.int .i64 c, .int .i64 d] 0 _ _ rfl,Result.andThen_ok,h2,Nat.zero_add,h1 [.int .i64 a, .int .i64 b] 1 _ _ rfl,h1 [.int .i64 c, .int .i64 d] 1 _ _ rfl]
  cases h3:(a==c)<;>cases h4:(b==d)<;>simp [h1 [.int .i64 a, .int .i64 b] 1 _ _ rfl,h1 [.int .i64 c, .int .i64 d] 1 _ _ rfl,h2,h4]⟩
section
variable {P:Program} {l:Fr} {Ps:List Part} {As:List Fact} {d:Option Tmp} {ty:TypeId} {pos:String} {aft:Array Edge} {g:Option (Nat×Bool)} {t t2:TypeId} {x y:Operand}
theorem Qd {xs ys:Array Value} {r:Bool} (hx:evs l x=some (.agg xs)) (hy:evs l y=some (.agg ys)) (he:EqT P t xs ys r):QR P l Ps As ⟨d, .binOp .eql t x y t2,ty,pos,aft,g⟩ (.bool r):=fun Z w ρ hs hρ=>by
  simp only [execOp,hρ _ _ hx,hρ _ _ hy,Sem.run_bind,run_eqGuard_agg w .eql t x y xs ys he.guard,Result.andThen_ok,run_eql_struct,he.run 9991 w];rfl
theorem Ya {xs ys:Array Value} {r:Bool} (hx:evs l x=some (.agg xs)) (hy:evs l y=some (.agg ys)) (he:EqT P t xs ys r):QR P l Ps As ⟨d, .binOp .neq t x y t2,ty,pos,aft,g⟩ (.bool (!r)):=fun Z w ρ hs hρ=>by
  simp only [execOp,hρ _ _ hx,hρ _ _ hy,Sem.run_bind,run_eqGuard_agg w .neq t x y xs ys he.guard,Result.andThen_ok,run_neq_struct,he.run 9991 w];rfl
theorem ET {a b:ByteArray} (hx:evs l x=some (.string a)) (hy:evs l y=some (.string b)):QR P l Ps As ⟨d, .binOp .eql t x y t2,ty,pos,aft,g⟩ (.bool (a==b)):=fun Z w ρ hs hρ=>by
  rw [beq_toListBytes]
  simp [execOp,hρ _ _ hx,hρ _ _ hy,go_sem,binOp,Op.stringOp]
theorem G1 {a b:ByteArray} (hx:evs l x=some (.string a)) (hy:evs l y=some (.string b)):QR P l Ps As ⟨d, .binOp .neq t x y t2,ty,pos,aft,g⟩ (.bool (!(a==b))):=fun Z w ρ hs hρ=>by
  rw [beq_toListBytes]
  simp [execOp,hρ _ _ hx,hρ _ _ hy,go_sem,binOp,Op.stringOp]
theorem q_beql' {a b:Bool} (hu:P.underlying t=some .bool) (hx:evs l x=some (.bool a)) (hy:evs l y=some (.bool b)):QR P l Ps As ⟨d, .binOp .eql t x y t2,ty,pos,aft,g⟩ (.bool (a==b)):=fun Z w ρ hs hρ=>by
  have h:=run_equalIn_bool' (P:=P) w 9999 t a b hu
  simp [execOp,hρ _ _ hx,hρ _ _ hy,go_sem,binOp,Op.equal,Op.maxDepth,h]
theorem q_bneq' {a b:Bool} (hu:P.underlying t=some .bool) (hx:evs l x=some (.bool a)) (hy:evs l y=some (.bool b)):QR P l Ps As ⟨d, .binOp .neq t x y t2,ty,pos,aft,g⟩ (.bool (!(a==b))):=fun Z w ρ hs hρ=>by
  have h:=run_equalIn_bool' (P:=P) w 9999 t a b hu
  simp [execOp,hρ _ _ hx,hρ _ _ hy,go_sem,binOp,Op.equal,Op.maxDepth,h]
theorem Hh {e:TypeId} {a b:Option Addr} (hu:P.underlying t=some (.pointer e)) (hn:a.isNone=true∨b.isNone=true) (k:Nat) (w:World):(Op.equalIn (k+1) t (.pointer a) (.pointer b)).run P w= .ok (a.isNone && b.isNone) w:=by
  rw [Op.equalIn,Sem.run_bind,run_underlying hu,Result.andThen_ok]
  rcases a with _ | a<;>rcases b with _ | b<;>first | rfl | simp at hn
theorem KK {e:TypeId} {a b:Option Addr} (hu:P.underlying t=some (.pointer e)) (hx:evs l x=some (.pointer a)) (hy:evs l y=some (.pointer b)) (hn:a.isNone=true∨b.isNone=true):QR P l Ps As ⟨d, .binOp .eql t x y t2,ty,pos,aft,g⟩ (.bool (a.isNone && b.isNone)):=fun Z w ρ hs hρ=>by
  have h0:binOp .eql t (.pointer a) (.pointer b)=(do pure (.bool (←Op.equalIn (9999+1) t (.pointer a) (.pointer b)))):=rfl
  simp only [execOp,hρ _ _ hx,hρ _ _ hy,eqGuard_at_pointer,h0,Sem.run_bind,Hh hu hn,Result.andThen_ok,Sem.run_pure]
theorem QA {e:TypeId} {a b:Option Addr} (hu:P.underlying t=some (.pointer e)) (hx:evs l x=some (.pointer a)) (hy:evs l y=some (.pointer b)) (hn:a.isNone=true∨b.isNone=true):QR P l Ps As ⟨d, .binOp .neq t x y t2,ty,pos,aft,g⟩ (.bool (!(a.isNone && b.isNone))):=fun Z w ρ hs hρ=>by
  have h0:binOp .neq t (.pointer a) (.pointer b)=(do pure (.bool (!(←Op.equalIn (9999+1) t (.pointer a) (.pointer b))))):=rfl
  simp only [execOp,hρ _ _ hx,hρ _ _ hy,eqGuard_at_pointer,h0,Sem.run_bind,Hh hu hn,Result.andThen_ok,Sem.run_pure]
inductive EvP (l:Fr):List (Nat×Operand)→List (Nat×Value)→Prop
  | nil:EvP l [] []
  | cons {i:Nat} {x:Operand} {v:Value} {xs:List (Nat×Operand)} {vs:List (Nat×Value)} (h:evs l x=some v) (hr:EvP l xs vs):EvP l ((i,x)::xs) ((i,v)::vs)
theorem EvP.n1 {l:Fr}{i0:Nat}{x0:Operand}{v0:Value}(h0:evs l x0=some v0):EvP l ((i0,x0)::[]) ((i0,v0)::[]):=.cons h0 (.nil)
theorem EvP.n2 {l:Fr}{i0 i1:Nat}{x0 x1:Operand}{v0 v1:Value}(h0:evs l x0=some v0) (h1:evs l x1=some v1):EvP l ((i0,x0)::(i1,x1)::[]) ((i0,v0)::(i1,v1)::[]):=.cons h0 (.cons h1 (.nil))
theorem EvP.n3 {l:Fr}{i0 i1 i2:Nat}{x0 x1 x2:Operand}{v0 v1 v2:Value}(h0:evs l x0=some v0) (h1:evs l x1=some v1) (h2:evs l x2=some v2):EvP l ((i0,x0)::(i1,x1)::(i2,x2)::[]) ((i0,v0)::(i1,v1)::(i2,v2)::[]):=.cons h0 (.cons h1 (.cons h2 (.nil)))
theorem EvP.n4 {l:Fr}{i0 i1 i2 i3:Nat}{x0 x1 x2 x3:Operand}{v0 v1 v2 v3:Value}(h0:evs l x0=some v0) (h1:evs l x1=some v1) (h2:evs l x2=some v2) (h3:evs l x3=some v3):EvP l ((i0,x0)::(i1,x1)::(i2,x2)::(i3,x3)::[]) ((i0,v0)::(i1,v1)::(i2,v2)::(i3,v3)::[]):=.cons h0 (.cons h1 (.cons h2 (.cons h3 (.nil))))
theorem EvP.n5 {l:Fr}{i0 i1 i2 i3 i4:Nat}{x0 x1 x2 x3 x4:Operand}{v0 v1 v2 v3 v4:Value}(h0:evs l x0=some v0) (h1:evs l x1=some v1) (h2:evs l x2=some v2) (h3:evs l x3=some v3) (h4:evs l x4=some v4):EvP l ((i0,x0)::(i1,x1)::(i2,x2)::(i3,x3)::(i4,x4)::[]) ((i0,v0)::(i1,v1)::(i2,v2)::(i3,v3)::(i4,v4)::[]):=.cons h0 (.cons h1 (.cons h2 (.cons h3 (.cons h4 (.nil)))))
theorem EvP.n6 {l:Fr}{i0 i1 i2 i3 i4 i5:Nat}{x0 x1 x2 x3 x4 x5:Operand}{v0 v1 v2 v3 v4 v5:Value}(h0:evs l x0=some v0) (h1:evs l x1=some v1) (h2:evs l x2=some v2) (h3:evs l x3=some v3) (h4:evs l x4=some v4) (h5:evs l x5=some v5):EvP l ((i0,x0)::(i1,x1)::(i2,x2)::(i3,x3)::(i4,x4)::(i5,x5)::[]) ((i0,v0)::(i1,v1)::(i2,v2)::(i3,v3)::(i4,v4)::(i5,v5)::[]):=.cons h0 (.cons h1 (.cons h2 (.cons h3 (.cons h4 (.cons h5 (.nil))))))
theorem EvP.n8 {l:Fr}{i0 i1 i2 i3 i4 i5 i6 i7:Nat}{x0 x1 x2 x3 x4 x5 x6 x7:Operand}{v0 v1 v2 v3 v4 v5 v6 v7:Value}(h0:evs l x0=some v0) (h1:evs l x1=some v1) (h2:evs l x2=some v2) (h3:evs l x3=some v3) (h4:evs l x4=some v4) (h5:evs l x5=some v5) (h6:evs l x6=some v6) (h7:evs l x7=some v7):EvP l ((i0,x0)::(i1,x1)::(i2,x2)::(i3,x3)::(i4,x4)::(i5,x5)::(i6,x6)::(i7,x7)::[]) ((i0,v0)::(i1,v1)::(i2,v2)::(i3,v3)::(i4,v4)::(i5,v5)::(i6,v6)::(i7,v7)::[]):=.cons h0 (.cons h1 (.cons h2 (.cons h3 (.cons h4 (.cons h5 (.cons h6 (.cons h7 (.nil))))))))
theorem EvP.n9 {l:Fr}{i0 i1 i2 i3 i4 i5 i6 i7 i8:Nat}{x0 x1 x2 x3 x4 x5 x6 x7 x8:Operand}{v0 v1 v2 v3 v4 v5 v6 v7 v8:Value}(h0:evs l x0=some v0) (h1:evs l x1=some v1) (h2:evs l x2=some v2) (h3:evs l x3=some v3) (h4:evs l x4=some v4) (h5:evs l x5=some v5) (h6:evs l x6=some v6) (h7:evs l x7=some v7) (h8:evs l x8=some v8):EvP l ((i0,x0)::(i1,x1)::(i2,x2)::(i3,x3)::(i4,x4)::(i5,x5)::(i6,x6)::(i7,x7)::(i8,x8)::[]) ((i0,v0)::(i1,v1)::(i2,v2)::(i3,v3)::(i4,v4)::(i5,v5)::(i6,v6)::(i7,v7)::(i8,v8)::[]):=.cons h0 (.cons h1 (.cons h2 (.cons h3 (.cons h4 (.cons h5 (.cons h6 (.cons h7 (.cons h8 (.nil)))))))))
theorem EvP.map {l:Fr} {xs:List (Nat×Operand)} {vs:List (Nat×Value)} (h:EvP l xs vs) {ρ:Operand→Value} (hρ: ∀x v,evs l x=some v→ρ x=v):xs.map (fun (i,x)=>(i,ρ x))=vs:=by
  induction h with
  | nil=>rfl
  | cons h hr ih=>simp [hρ _ _ h,ih]
theorem JV {T:TypeId} {xs:List (Nat×Operand)} {vs:List (Nat×Value)} {v:Value} (hx:EvP l xs vs) (hb: ∀w,(Instr.build T vs.toArray).run P w= .ok v w):QR P l Ps As ⟨d, .build T xs.toArray,ty,pos,aft,g⟩ v:=fun Z w ρ hs hρ=>by
  have h:=hx.map hρ
  simp only [execOp,List.map_toArray,h,Sem.run_bind,hb,Result.andThen_ok,Sem.run_pure]
theorem Yn {T:TypeId} {x:Operand} {f:Nat} {u v:Value} (hx:evs l x=some u) (hb: ∀w,(Instr.field T u f).run P w= .ok v w):QR P l Ps As ⟨d, .field T x f,ty,pos,aft,g⟩ v:=fun Z w ρ hs hρ=>by
  simp only [execOp,hρ _ _ hx,Sem.run_bind,hb,Result.andThen_ok,Sem.run_pure]
theorem Yo {src dst:TypeId} {x:Operand} {u v:Value} (hx:evs l x=some u) (hb: ∀w,(convert src dst u).run P w= .ok v w):QR P l Ps As ⟨d, .convert src dst x,ty,pos,aft,g⟩ v:=fun Z w ρ hs hρ=>by
  simp only [execOp,hρ _ _ hx,Sem.run_bind,hb,Result.andThen_ok,Sem.run_pure]
theorem Hk {k:IntKind} {a b c:Int} (hx:evs l x=some (.int k a)) (hy:evs l y=some (.int k b)) (hb:b≠0) (hc:k.wrap (a.tdiv b)=c):QR P l Ps As ⟨d, .binOp .quo t x y t2,ty,pos,aft,g⟩ (.int k c):=fun Z w ρ hs hρ=>by
  subst hc
  simp [execOp,hρ _ _ hx,hρ _ _ hy,go_sem,Op.intDiv,hb]
end
section
variable {P:Program} {n:Dm} {R:Post} {l:Fr} {Ps Ps':List Part} {As:List Fact} {ops:Array Oper} {rest:List Oper} {ty:TypeId} {pos:String} {aft:Array Edge} {g:Option (Nat×Bool)} {K:Nx} {d:Nat} {dd:Option Tmp}
theorem ER {T:TypeId} {x lo:Operand} {s:ByteArray} {i:Int} (hu:P.underlying T=some .string) (hx:evs l x=some (.string s)) (hi:evs l lo=some (.int .i64 i)) (h0:0≤i) (h1:i≤s.size):
    QR P l Ps As ⟨dd, .slice T x (some lo) none none,ty,pos,aft,g⟩ (.string (s.extract i.toNat s.size)):=fun Z w ρ hs hρ=>by
  simp [execOp,Instr.sliceAt,Instr.slice,Instr.sliceBounds,Instr.sliceBound,asIntOf,run_underlying hu,hρ _ _ hx,hρ _ _ hi,h0,h1]
theorem ES {T:TypeId} {x hi':Operand} {s:ByteArray} {i:Int} (hu:P.underlying T=some .string) (hx:evs l x=some (.string s)) (hi:evs l hi'=some (.int .i64 i)) (h0:0≤i) (h1:i≤s.size):
    QR P l Ps As ⟨dd, .slice T x none (some hi') none,ty,pos,aft,g⟩ (.string (s.extract 0 i.toNat)):=fun Z w ρ hs hρ=>by
  simp [execOp,Instr.sliceAt,Instr.slice,Instr.sliceBounds,Instr.sliceBound,asIntOf,run_underlying hu,hρ _ _ hx,hρ _ _ hi,h0,h1]
theorem St.setBlock {Z:Nat→Prop} {w:World} {b:Nat} {o o':Obj} (h:St Z w ([(b,o)] ::Ps) As):St Z { w with heap:=w.heap.setIfInBounds b o' } ([(b,o')] ::Ps) As:=by
  have hb:w.heap[b]? =some o:=(h.own (b,_) (by simp)).1
  have hlt:b<w.heap.size:=(Array.getElem?_eq_some_iff.1 hb).1
  refine h.turn O O O (by simp) (fun b' hb' hn=> ?_) (fun q hq=> ?_) (by simp)
  · have hne:b≠b':=fun e=>hn o (by subst e;exact List.mem_singleton.2 rfl)
    simp [Array.getElem?_setIfInBounds,hne]
  · simp only [List.mem_singleton] at hq
    subst hq
    refine ⟨by simp [Array.getElem?_setIfInBounds,hlt], .inl ⟨o,List.mem_singleton.2 O⟩⟩
theorem GR {T:TypeId} {x:Operand} {s:ByteArray} (hu:P.underlying T=some .string) (hx:evs l x=some (.string s)) (hd:d<n.sz)
    (h: ∀b,K ((d, .pointer (some ⟨b,0,none⟩))::l) ([(b, .stringIter s 0)] ::Ps) As):OW P n R l Ps As ⟨some d, .range T x,ty,pos,aft,g⟩ K:=
  K0 rfl hd fun Z w ρ hs hρ=>⟨_,w.alloc (.stringIter s 0),Z,_,As,by
    simp only [execOp,hρ _ _ hx,Instr.range,Sem.run_bind,run_underlying hu,Result.andThen_ok,Sem.run_pure,run_newObj];rfl,hs.alloc _,h _⟩
theorem Zi {x:Operand} {s:ByteArray} {b p:Nat} (hx:evs l x=some (.pointer (some ⟨b,0,none⟩))) (hb:OwnAt Ps b (.stringIter s p)) (hp: ¬p<s.size):
    QR P l Ps As ⟨dd, .next x true,ty,pos,aft,g⟩ (.tuple #[.bool false]):=fun Z w ρ hs hρ=>by
  have h:=hs.block hb
  simp [execOp,hρ _ _ hx,Instr.next,getObj,Sem.run,h,hp]
theorem GT {x:Operand} {s:ByteArray} {b p:Nat} (hx:evs l x=some (.pointer (some ⟨b,0,none⟩))) (hb:OwnAt Ps b (.stringIter s p)) (hp: ¬p<s.size) (hd:d<n.sz)
    (h:K ((d, .tuple #[.bool false])::l) Ps As):OW P n R l Ps As ⟨some d, .next x true,ty,pos,aft,g⟩ K:=
  K0 rfl hd fun Z w ρ hs hρ=>⟨_,w,Z,Ps,As,Zi hx hb hp Z w ρ hs hρ,hs,h⟩
theorem GS {x:Operand} {s:ByteArray} {b p:Nat} (hx:evs l x=some (.pointer (some ⟨b,0,none⟩))) (hp:p<s.size) (hP:SetAt Ps [(b, .stringIter s p)] [(b, .stringIter s (p+(Utf8.decode s p).2))] Ps') (hd:d<n.sz)
    (h:K ((d, .tuple #[.bool true, .int .i64 p, .int .i32 (Utf8.decode s p).1])::l) Ps' As):OW P n R l Ps As ⟨some d, .next x true,ty,pos,aft,g⟩ K:=
  K0 rfl hd fun Z w ρ hs hρ=>by
    have hb:w.heap[b]? =some (.stringIter s p):=by
      obtain ⟨Qs,h3,h4⟩:=hP.perm
      exact ((hs.permParts h3).own (b,_) (by simp)).1
    refine ⟨_,{ w with heap:=w.heap.setIfInBounds b (.stringIter s (p+(Utf8.decode s p).2)) },Z,Ps',As,?_,hs.setAt hP fun h=>h.setBlock,h⟩
    simp [execOp,hρ _ _ hx,Instr.next,getObj,setObj,Sem.run,hb,hp,goInt]
def cutA (A:Option Addr) (lo m sz:Nat):Option Addr:=if m=lo then A else A.map (·.add (lo*sz))
theorem QG {T E:TypeId} {A:Option Addr} {len cap lo hi m:Nat} {z:Option Value} {sz by_:Nat} {w:World} {vl vh vm:Option Value} (hu:P.underlying T=some (.slice E)) (ht:ti P E=some (z,sz,by_))
    (hb:(Instr.sliceBounds true len cap vl vh vm).run P w= .ok (lo,hi,m) w):(Instr.sliceAt T (.slice A len cap) vl vh vm).run P w= .ok (.slice (cutA A lo m sz) (hi-lo) (m-lo)) w:=by
  simp only [Instr.sliceAt,Instr.slice,Sem.run_bind,run_underlying hu,Result.andThen_ok,hb,KU ht,Sem.run_pure]
  rfl
theorem G4 {T E:TypeId} {x lo:Operand} {A:Option Addr} {len cap:Nat} {i:Int} {z:Option Value} {sz by_:Nat} (hu:P.underlying T=some (.slice E)) (ht:ti P E=some (z,sz,by_)) (hx:evs l x=some (.slice A len cap)) (hi:evs l lo=some (.int .i64 i)) (h0:0≤i) (h1:i≤len):
    QR P l Ps As ⟨dd, .slice T x (some lo) none none,ty,pos,aft,g⟩ (.slice (cutA A i.toNat cap sz) (len-i.toNat) (cap-i.toNat)):=fun Z w ρ hs hρ=>by
  have:=QG (P:=P) (A:=A) (len:=len) (cap:=cap) (lo:=i.toNat) (hi:=len) (m:=cap) (vl:=some (.int .i64 i)) (vh:=none) (vm:=none) (w:=w) hu ht (by simp [Instr.sliceBounds,Instr.sliceBound,asIntOf,h0,h1])
  simp only [execOp,hρ _ _ hx,hρ _ _ hi,Option.map_some,Option.map_none,Sem.run_bind,this,Result.andThen_ok,Sem.run_pure]
theorem Hm {T E:TypeId} {x hi':Operand} {A:Option Addr} {len cap:Nat} {i:Int} {z:Option Value} {sz by_:Nat} (hu:P.underlying T=some (.slice E)) (ht:ti P E=some (z,sz,by_)) (hx:evs l x=some (.slice A len cap)) (hi:evs l hi'=some (.int .i64 i)) (h0:0≤i) (h1:i≤cap):
    QR P l Ps As ⟨dd, .slice T x none (some hi') none,ty,pos,aft,g⟩ (.slice (cutA A 0 cap sz) i.toNat cap):=fun Z w ρ hs hρ=>by
  have:=QG (P:=P) (A:=A) (len:=len) (cap:=cap) (lo:=0) (hi:=i.toNat) (m:=cap) (vl:=none) (vh:=some (.int .i64 i)) (vm:=none) (w:=w) hu ht (by simp [Instr.sliceBounds,Instr.sliceBound,asIntOf,h0,h1])
  simp only [execOp,hρ _ _ hx,hρ _ _ hi,Option.map_some,Option.map_none,Sem.run_bind,this,Result.andThen_ok,Sem.run_pure,Nat.sub_zero]
theorem GC {T E:TypeId} {x lo hi':Operand} {A:Option Addr} {len cap:Nat} {i j:Int} {z:Option Value} {sz by_:Nat} (hu:P.underlying T=some (.slice E)) (ht:ti P E=some (z,sz,by_)) (hx:evs l x=some (.slice A len cap)) (hl:evs l lo=some (.int .i64 i)) (hi:evs l hi'=some (.int .i64 j)) (h0:0≤i) (hij:i≤j) (h1:j≤cap):
    QR P l Ps As ⟨dd, .slice T x (some lo) (some hi') none,ty,pos,aft,g⟩ (.slice (cutA A i.toNat cap sz) (j.toNat - i.toNat) (cap-i.toNat)):=fun Z w ρ hs hρ=>by
  have h2:i≤j.toNat:=by omega
  have h3:0≤j:=by omega
  have:=QG (P:=P) (A:=A) (len:=len) (cap:=cap) (lo:=i.toNat) (hi:=j.toNat) (m:=cap) (vl:=some (.int .i64 i)) (vh:=some (.int .i64 j)) (vm:=none) (w:=w) hu ht (by simp [Instr.sliceBounds,Instr.sliceBound,asIntOf,h0,h1,Int.toNat_of_nonneg h3,hij,h3])
  simp only [execOp,hρ _ _ hx,hρ _ _ hi,hρ _ _ hl,Option.map_some,Option.map_none,Sem.run_bind,this,Result.andThen_ok,Sem.run_pure]
theorem EX {T E:TypeId} {x hi' mx:Operand} {A:Option Addr} {len cap:Nat} {i j:Int} {z:Option Value} {sz by_:Nat} (hu:P.underlying T=some (.slice E)) (ht:ti P E=some (z,sz,by_)) (hx:evs l x=some (.slice A len cap)) (hi:evs l hi'=some (.int .i64 i)) (hm:evs l mx=some (.int .i64 j)) (h0:0≤i) (hij:i≤j) (h1:j≤cap):
    QR P l Ps As ⟨dd, .slice T x none (some hi') (some mx),ty,pos,aft,g⟩ (.slice (cutA A 0 j.toNat sz) i.toNat j.toNat):=fun Z w ρ hs hρ=>by
  have h2:i≤j.toNat:=by omega
  have h3:0≤j:=by omega
  have:=QG (P:=P) (A:=A) (len:=len) (cap:=cap) (lo:=0) (hi:=i.toNat) (m:=j.toNat) (vl:=none) (vh:=some (.int .i64 i)) (vm:=some (.int .i64 j)) (w:=w) hu ht (by simp [Instr.sliceBounds,Instr.sliceBound,asIntOf,h0,h1,Int.toNat_of_nonneg h3,hij,h3])
  simp only [execOp,hρ _ _ hx,hρ _ _ hi,hρ _ _ hm,Option.map_some,Option.map_none,Sem.run_bind,this,Result.andThen_ok,Sem.run_pure,Nat.sub_zero]
theorem RdS.cut {α:Type} {e:De α} {Z:Nat→Prop} {w:World} {A:Option Addr} {cap:Nat} {xs:List α} (h:RdS e Z w A cap xs) {lo hi m:Nat} (h1:lo≤hi) (h2:hi≤xs.length) (h3:hi≤m) (h4:m≤cap):
    RdS e Z w (cutA A lo m e.sz) (m-lo) ((xs.take hi).drop lo):=by
  obtain ⟨g1,g2,g3⟩:=h
  have hlen:((xs.take hi).drop lo).length=hi-lo:=by simp;omega
  refine ⟨by omega,by omega,?_⟩
  rcases g3 with ⟨rfl,g3⟩ | ⟨b,q,css,rfl,g4,g5,g6⟩
  · refine .inl ⟨by simp,fun hA=> ?_⟩
    unfold cutA at hA
    split at hA
    · omega
    · rcases A with _ | a
      · have:=g3 rfl;omega
      · simp at hA
  · unfold cutA
    split
    · rename_i he
      refine .inr ⟨b,q,[],O,g4,?_,?_⟩
      · have:(xs.take hi).drop lo= [] :=List.length_eq_zero_iff.1 (by omega)
        rw [this];exact .nil
      · obtain ⟨full,T,fr,k1,k2⟩:=g6
        exact ⟨full,T,fr,k1,fun j v hv=>by simp at hv⟩
    · refine .inr ⟨b,q+lo*e.sz,(css.take hi).drop lo,by simp [KZ],g4,(g5.take hi).drop lo,?_⟩
      refine g6.part (lo*e.sz) fun j v hv=> ?_
      have hlens:=g5.lens
      have hlens': ∀cs∈css.take hi,cs.length=e.sz:=fun cs hcs=>hlens cs (List.mem_of_mem_take hcs)
      rw [VE hlens',List.getElem?_drop] at hv
      have hpre:(css.take hi).flatten<+:css.flatten:=by
        conv=>rhs;rw [←List.take_append_drop hi css]
        rw [List.flatten_append]
        exact List.prefix_append _ _
      obtain ⟨t,ht⟩:=hpre
      rw [←ht,List.getElem?_append_left ?_]
      · exact hv
      · rcases Nat.lt_or_ge (lo*e.sz+j) (css.take hi).flatten.length with h | h
        · exact h
        · rw [List.getElem?_eq_none h] at hv;cases hv
theorem V5 {α:Type} {e:De α} {c:Code} {A:Option Addr} {cap:Nat} {xs:List α} (hA:RdF e A cap xs∈As) (h:xs.length≤cap→cap≤maxLen→WC P n c R l Ps As):WC P n c R l Ps As:=
  fun Z w a hs ha=>by
    have h1:RdS e Z w A cap xs:=hs.facts _ hA
    exact h h1.1 h1.2.1 Z w a hs ha
theorem madeCells_rep {v:Value} {k:Nat} :(madeCells #[v] k).toList=List.replicate k v:=by
  apply List.ext_getElem
  · simp [madeCells]
  · intro i h1 h2
    simp [madeCells,Nat.mod_one]
theorem ZK {T E:TypeId} {x y:Operand} {zv:Value} {by_ k:Nat} (hu:P.underlying T=some (.slice E)) (ht:ti P E=some (some zv,1,by_)) (hz:zv.cells= #[zv]) (hx:evs l x=some (.int .i64 k)) (hy:evs l y=some (.int .i64 k)) (hk:k*by_≤281474976710656) (hm:k≤maxLen) (hd:d<n.sz)
    (h: ∀b,K ((d, .slice (some ⟨b,0,none⟩) k k)::l) ([(b,JD (List.replicate k zv) E)] ::Ps) As):OW P n R l Ps As ⟨some d, .makeSlice T x y,ty,pos,aft,g⟩ K:=
  K0 rfl hd fun Z w ρ hs hρ=>by
    unfold ti at ht
    cases hi:P.info? E with
    | none=>rw [hi] at ht;cases ht
    | some i=>
      rw [hi] at ht
      simp only [Option.map_some,Option.some.injEq,Prod.mk.injEq] at ht
      have hm':=hm
      simp only [maxLen] at hm'
      have hb':(i.bytes:Int)*(k:Int)≤281474976710656:=by
        have h1:((i.bytes*k:Nat):Int)≤281474976710656:=by rw [ht.2.2,Nat.mul_comm];omega
        rwa [Int.natCast_mul] at h1
      have hr:=run_make (P:=P) w T E i zv hu hi ht.1 .i64 .i64 k k (by omega) (by omega) hb' (by omega)
      refine ⟨_,w.alloc (JD (List.replicate k zv) E),Z,_,As,?_,hs.alloc _,h w.heap.size⟩
      simp only [execOp,hρ _ _ hx,hρ _ _ hy,Sem.run_bind,hr,Result.andThen_ok,Sem.run_pure,Int.toNat_natCast]
      have:madeCells zv.cells (k*i.size)=(List.replicate k zv).toArray:=by
        apply Array.ext'
        rw [hz,ht.2.1,Nat.mul_one,madeCells_rep]
      rw [this]
end
structure MK where
  c:Int
  n:Int
  b:Nat
deriving DecidableEq
abbrev idV (c n:Int):Value:= .agg #[.int .i64 c, .int .i64 n]
def mkEs:List MK→Nat→List MapEntry
  | [],_=> []
  | x::r,i=>⟨idV x.c x.n, .pointer (some ⟨x.b,0,none⟩),i⟩::mkEs r (i+1)
abbrev mapO (L:List MK):Obj:= .map (mkEs L 0).toArray L.length
def mGet:List MK→Int→Int→Option Nat
  | [],_,_=>none
  | x::r,c,n=>if c=x.c∧n=x.n then some x.b else mGet r c n
theorem Xp: ∀(L:List MK) (x:MK) (i:Nat),mkEs (L++ [x]) i=mkEs L i++ [⟨idV x.c x.n, .pointer (some ⟨x.b,0,none⟩),i+L.length⟩]
  | [],x,i=>by simp [mkEs]
  | y::L,x,i=>by simp [mkEs,Xp L x (i+1)];omega
structure KeyT (P:Program) (K:TypeId):Prop where
  ex: ∃E z by_,P.underlying K=some (.array 2 E)∧P.underlying E=some (.int .i64)∧ti P E=some (z,1,by_)
  eq: ∀a b c d,EqT P K #[.int .i64 a, .int .i64 b] #[.int .i64 c, .int .i64 d] (a==c && b==d)
variable {P:Program}
theorem GX {E:TypeId} {em:Bool} {a:Int} {w:World} (he:P.underlying E=some (.int .i64)) (k:Nat):(Instr.checkKey em (k+1) E (.int .i64 a)).run P w= .ok () w:=by
  rw [Instr.checkKey]
  simp [run_underlying he]
theorem Xm {K:TypeId} {em:Bool} {a b:Int} {w:World} (h:KeyT P K):(Instr.checkKey em 10000 K (idV a b)).run P w= .ok () w:=by
  obtain ⟨E,z,by_,hu,he,ht⟩:=h.ex
  have h1: ∀(cs:List Value) (o:Nat) (v:Value) w,cs[o]? =some v→(part E cs.toArray o).run P w= .ok v w:=fun cs o v w h=>YS he rfl h
  rw [show (10000:Nat)=9998+1+1 from rfl,Instr.checkKey]
  simp only [Sem.run_bind,run_underlying hu,Result.andThen_ok]
  simp only [Std.Legacy.Range.forIn_eq_forIn_range',Std.Legacy.Range.size,Nat.sub_zero,Nat.add_sub_cancel,Nat.div_one,List.range'_succ,List.range'_zero,List.forIn_cons,List.forIn_nil,Sem.run_bind,KU ht,Result.andThen_ok,Nat.mul_one,Nat.zero_add,h1 [.int .i64 a, .int .i64 b] 0 _ _ rfl,h1 [.int .i64 a, .int .i64 b] 1 _ _ rfl,GX he,Sem.run_pure]
def mFind:List MK→Int→Int→Nat→Option (Nat×Value)
  | [],_,_,_=>none
  | x::r,c,n,i=>if c=x.c∧n=x.n then some (i, .pointer (some ⟨x.b,0,none⟩)) else mFind r c n (i+1)
theorem Xc: ∀(L:List MK) (c n:Int) (i:Nat),(mFind L c n i).map Prod.snd=(mGet L c n).map fun b=>Value.pointer (some ⟨b,0,none⟩)
  | [],_,_,_=>rfl
  | x::r,c,n,i=>by
    unfold mFind mGet
    split
    · rfl
    · exact Xc r c n (i+1)
theorem Vp {K:TypeId} (h:KeyT P K) (c n:Int) (w:World): ∀(L:List MK) (i0 i:Nat),(Instr.findAsking K (idV c n) (mkEs L i0) i).run P w= .ok (mFind L c n i) w
  | [],_,_=>rfl
  | x::L,i0,i=>by
    have h1:(Op.equal K (idV c n) (idV x.c x.n)).run P w= .ok (c==x.c && n==x.n) w:=(h.eq c n x.c x.n).run 9991 w
    unfold mkEs mFind Instr.findAsking
    simp only [Sem.run_bind,h1,Result.andThen_ok]
    by_cases hq:c=x.c∧n=x.n
    · simp [hq]
    · have h2:(c==x.c && n==x.n)=false:=by
        cases h3:(c==x.c && n==x.n) with
        | false=>rfl
        | true=>simp at h3;exact absurd h3 hq
      rw [h2,if_neg hq]
      exact Vp h c n w L (i0+1) (i+1)
theorem XT {K:TypeId} (h:KeyT P K) (c n:Int) (w:World) (L:List MK):(Instr.findKey K (idV c n) (mkEs L 0)).run P w= .ok (mFind L c n 0) w:=by
  obtain ⟨E,z,by_,hu,he,ht⟩:=h.ex
  unfold Instr.findKey
  simp only [Sem.run_bind,run_underlying hu,Result.andThen_ok]
  cases L with
  | nil=>rfl
  | cons x L=>exact Vp h c n w (x::L) 0 0
section
variable {n:Dm} {R:Post} {l:Fr} {Ps Ps':List Part} {As:List Fact} {ops:Array Oper} {rest:List Oper} {ty:TypeId} {pos:String} {aft:Array Edge} {g:Option (Nat×Bool)} {K:Nx} {d:Nat} {dd:Option Tmp}
theorem Zj {T Kt E:TypeId} {x y:Operand} {m:Nat} {L:List MK} {c k:Int} {sz by_:Nat} (hk:KeyT P Kt) (hu:P.underlying T=some (.map Kt E)) (ht:ti P E=some (some (.pointer none),sz,by_)) (hx:evs l x=some (.map (some m))) (hy:evs l y=some (idV c k)) (hb:OwnAt Ps m (mapO L)):
    QR P l Ps As ⟨dd, .lookup T x y false,ty,pos,aft,g⟩ (.pointer ((mGet L c k).map fun b=>⟨b,0,none⟩)):=fun Z w ρ hs hρ=>by
  have h:=hs.block hb
  have h1:=XT hk c k w L
  have h2:=Xc L c k 0
  simp only [execOp,hρ _ _ hx,hρ _ _ hy,Instr.lookup,Sem.run_bind,run_underlying hu,Result.andThen_ok]
  simp only [getObj,Sem.run,h,Xm hk,Result.andThen_ok,Sem.run_bind,h1]
  cases hf:mFind L c k 0 with
  | none=>
    rw [hf] at h2
    have h3:mGet L c k=none:=by cases hg:mGet L c k with
      | none=>rfl
      | some b=>rw [hg] at h2;cases h2
    rw [hf] at h1
    simp [h3,h1,Qa ht,Sem.run]
  | some q=>
    rw [hf] at h2
    cases hg:mGet L c k with
    | none=>rw [hg] at h2;cases h2
    | some b=>
      rw [hg] at h2
      simp only [Option.map_some,Option.some.injEq] at h2
      obtain ⟨i,v⟩:=q
      simp only at h2
      subst h2
      rw [hf] at h1
      simp [h1,Sem.run]
theorem E9 {T:TypeId} (hd:d<n.sz) (h: ∀b,K ((d, .map (some b))::l) ([(b,mapO [])] ::Ps) As):OW P n R l Ps As ⟨some d, .makeMap T none,ty,pos,aft,g⟩ K:=
  K0 rfl hd fun Z w ρ hs hρ=>⟨_,w.alloc (mapO []),Z,_,As,by simp only [execOp,Instr.makeMap,Option.map_none];rfl,hs.alloc _,h _⟩
theorem HW {T Kt E:TypeId} {x y z:Operand} {m b:Nat} {L:List MK} {c k:Int} (hk:KeyT P Kt) (hu:P.underlying T=some (.map Kt E)) (hx:evs l x=some (.map (some m))) (hy:evs l y=some (idV c k)) (hz:evs l z=some (.pointer (some ⟨b,0,none⟩))) (hn:mGet L c k=none)
    (hP:SetAt Ps [(m,mapO L)] [(m,mapO (L++ [⟨c,k,b⟩]))] Ps') (h:K l Ps' As):OW P n R l Ps As ⟨none, .mapUpdate T x y z,ty,pos,aft,g⟩ K:=
  V6 rfl fun Z w ρ hs hρ=>by
    have hb:w.heap[m]? =some (mapO L):=by
      obtain ⟨Qs,h3,h4⟩:=hP.perm
      exact ((hs.permParts h3).own (m,_) (by simp)).1
    have h1:=XT hk c k w L
    have h2:=Xc L c k 0
    have hf:mFind L c k 0=none:=by
      cases hf:mFind L c k 0 with
      | none=>rfl
      | some q=>rw [hf,hn] at h2;cases h2
    rw [hf] at h1
    refine ⟨{ w with heap:=w.heap.setIfInBounds m (mapO (L++ [⟨c,k,b⟩])) },Z,Ps',As,?_,hs.setAt hP fun h=>h.setBlock,h⟩
    have he:(mkEs L 0).toArray.push { key:=idV c k,val:= .pointer (some ⟨b,0,none⟩),born:=L.length } =(mkEs (L++ [⟨c,k,b⟩]) 0).toArray:=by
      rw [Xp];simp
    simp only [execOp,hρ _ _ hx,hρ _ _ hy,hρ _ _ hz,Instr.mapUpdate,Sem.run_bind,run_underlying hu,Result.andThen_ok,getObj,Sem.run,hb,Xm hk,h1]
    simp [setObj,Sem.run,hb,he,mapO]
theorem Row.grown {T:TypeId} {sz:Nat} {zv:Value} {w:World} {Z:Nat→Prop} {m k old:Nat} {olds news:List Value} (hs:St Z w Ps As) (hz:zv.cells.size=sz) (ho:olds.length=m*sz) (hl:news.length=k*sz) (hmx:m+k≤maxLen):
    ∃p',Row T sz (.slice (some ⟨w.heap.size,0,none⟩) (m+k) (grownCap w (m+k) old T)) (m+k) (olds++news) p'∧St Z (w.drew.alloc (.cells (olds.toArray++news.toArray++Builtin.zeroCells zv.cells (grownCap w (m+k) old T-(m+k))) T)) (p'::Ps) As:=by
  have h1:=grownCap_ge w (m+k) old T
  refine ⟨[(w.heap.size,JD ((olds++news)++(Builtin.zeroCells zv.cells (grownCap w (m+k) old T-(m+k))).toList) T)],⟨by rw [List.length_append,ho,hl,Nat.add_mul], .inr ⟨_,_,_,O,O,?_,h1,grownCap_le_maxLen w (m+k) old T hmx⟩⟩,?_⟩
  · rw [List.length_append,List.length_append,ho,hl,Array.length_toList,size_zeroCells,hz,←Nat.add_mul,←Nat.add_mul]
    congr 1;omega
  · have h2:=(hs.drew (w.drawn+1)).alloc (.cells (olds.toArray++news.toArray++Builtin.zeroCells zv.cells (grownCap w (m+k) old T-(m+k))) T)
    have e:(olds.toArray++news.toArray++Builtin.zeroCells zv.cells (grownCap w (m+k) old T-(m+k)))=((olds++news)++(Builtin.zeroCells zv.cells (grownCap w (m+k) old T-(m+k))).toList).toArray:=by
      apply Array.ext';simp
    unfold JD
    rw [←e]
    exact h2
theorem Ha {α:Type} {e:De α} {T E:TypeId} {x y:Operand} {zv:Value} {by_ b c:Nat} {A:Option Addr} {xs:List α} {news:List Value} {T':TypeId} (hu:P.underlying T=some (.slice E)) (ht:ti P E=some (some zv,e.sz,by_)) (hz:zv.cells.size=e.sz) (hsz:0<e.sz) (hx:evs l x=some (.slice A xs.length xs.length)) (hy:evs l y=some (.slice (some ⟨b,0,none⟩) 1 c))
    (hA:RdF e A xs.length xs∈As) (hb:OwnAt Ps b (JD news T')) (hl:news.length=e.sz) (h1:news.all Value.oneCell'=true) (h63:(xs.length+1)*by_≤140737488355328) (hmx:xs.length+1≤maxLen) (hd:d<n.sz)
    (h: ∀v' p' css,Row E e.sz v' (xs.length+1) (css.flatten++news) p'→K ((d,v')::l) (p'::Ps) (RepsF e xs css::As)):OW P n R l Ps As ⟨some d, .call ⟨.builtin .append,#[x,y],#[T,T]⟩,ty,pos,aft,g⟩ K:=
  K0 rfl hd fun Z w ρ hs hρ=>by
    have hc:CellsAt w b 0 news:=⟨_,_,_,hs.block hb,fun j v hv=>by simpa using hv⟩
    have hnews: ∀j u,news[j]? =some u→w.cell? ((⟨b,0,none⟩:Addr).add j)=some u:=fun j u hu=>by rw [KZ];exact hc.cell hu
    have hm':=hmx
    simp only [maxLen] at hm'
    have grow: ∀(a:Addr) (css:List (List Value)),A=some a→Reps (e.rep Z w) xs css→(∀j u,css.flatten[j]? =some u→w.cell? (a.add j)=some u)→ ∃v w' Z' Ps' As',(execOp ρ ⟨some d, .call ⟨.builtin .append,#[x,y],#[T,T]⟩,ty,pos,aft,g⟩).run P w= .ok (.value v) w'∧St Z' w' Ps' As'∧K ((d,v)::l) Ps' As':=by
      intro a css hA1 hr hcells
      subst hA1
      have ht':=ht
      unfold ti at ht'
      cases hi:P.info? E with
      | none=>rw [hi] at ht';cases ht'
      | some i=>
        rw [hi] at ht'
        simp only [Option.map_some,Option.some.injEq,Prod.mk.injEq] at ht'
        obtain ⟨e1,e2,e3⟩:=ht'
        have hfl:css.flatten.length=xs.length*e.sz:=by rw [YL hr.lens,hr.length]
        obtain ⟨p',k1,k2⟩:=Row.grown (T:=E) (old:=xs.length) (hs.addFact (A:=RepsF e xs css) hr) hz hfl (k:=1) (news:=news) (by simpa using hl) hmx
        have hrun:=run_append_grow (P:=P) w T ty E i zv hu hi e1 a xs.length xs.length css.flatten (by rw [hfl,e2]) hcells ⟨b,0,none⟩ 1 c news (by rw [hl,e2];simp) hnews (by omega) (by omega) (growslice_fits (by omega) (by rw [e3];exact h63))
        exact ⟨_,_,Z,_,_,by rw [K5 (hρ _ _ hx) (hρ _ _ hy),Sem.run_bind,hrun];rfl,k2,h _ p' css k1⟩
    obtain ⟨g1,g2,⟨rfl,g3⟩ | ⟨b',q,css,rfl,g4,g5,g6⟩⟩:RdS e Z w A xs.length xs:=hs.facts _ hA
    · rcases A with _ | a
      · obtain ⟨v',w',p',k1,k2,k3⟩:=Qo (ty:=ty) (c:=c) (p:= []) hu ht hz hsz (hs.nilPart.addFact (A:=RepsF e [] []) Reps.nil) (Row.nil E e.sz) (ad:=⟨b,0,none⟩) (m:=1) (news:=news) (by simp [hl]) hnews (fun u hu=>List.all_eq_true.1 h1 u hu) (by simpa using h63) (by simpa using hmx)
        refine ⟨v',w',Z,_,_,by rw [K5 (hρ _ _ hx) (hρ _ _ hy),Sem.run_bind];erw [k1];rfl,k3,h v' p' [] (by simpa using k2)⟩
      · exact grow a [] O .nil (by simp)
    · exact grow ⟨b',q,none⟩ css O g5 (fun j u hu=>by rw [KZ];exact g6.cell hu)
theorem Y2 {k:FuncId} {xs:List Operand} {ts:Array TypeId} {args:List Value} {Lin Qs:List Part} {pre:List Fact} {res:Value→List Part→List Fact→Prop}
    (hsp:Sp P k args Lin pre res) (hxs:Evs l xs args) (hd:d<n.sz) (hp:(Lin++Qs).flatten.Perm Ps.flatten) (hpre: ∀A∈pre,A∈As)
    (h: ∀v Lo fs,res v Lo fs→K ((d,v)::l) (Lo++Qs) (fs++As)):
    OW P n R l Ps As ⟨some d, .call ⟨.value (.func k),xs.toArray,ts⟩,ty,pos,aft,g⟩ K:=
  XJ hsp hxs hd (fun hs=>(hs.permParts hp).subFacts fun A hA=>by
    rcases List.mem_append.1 hA with hA | hA
    · exact hpre A hA
    · exact hA) h
end
theorem HJ {sz:Nat} {css:List (List Value)} (h: ∀cs∈css,cs.length=sz) {i:Nat} {c:List Value} (hi:css[i]? =some c) (jk:List Value):((css.flatten++jk).drop (i*sz)).take sz=c:=by
  have hlt:i<css.length:=by
    rcases Nat.lt_or_ge i css.length with h | h
    · exact h
    · simp [List.getElem?_eq_none h] at hi
  have hc:css[i] =c:=by rw [List.getElem?_eq_getElem hlt] at hi;exact Option.some.inj hi
  have hle:i*sz≤css.flatten.length:=by rw [YL h];exact Nat.mul_le_mul_right _ (by omega)
  rw [List.drop_append_of_le_length hle,←VE h,List.drop_eq_getElem_cons hlt,hc,List.flatten_cons,List.append_assoc]
  exact List.take_left' (h c (hc ▸ List.getElem_mem hlt))
theorem V9: ∀(vs cs:List Value) (k:Nat),k+vs.length≤cs.length→setAll cs k vs=cs.take k++vs++cs.drop (k+vs.length)
  | [],cs,k,h=>by simp [setAll]
  | v::vs,cs,k,h=>by
    simp only [List.length_cons] at h
    rw [setAll,V9 vs (cs.set k v) (k+1) (by simp;omega)]
    have h1:(cs.set k v).take (k+1)=cs.take k++ [v] :=by
      rw [List.set_eq_take_append_cons_drop,if_pos (by omega),List.take_append]
      simp [List.length_take,List.take_take,Nat.min_eq_left (by omega:k≤cs.length)]
    have h2:(cs.set k v).drop (k+1+vs.length)=cs.drop (k+(v::vs).length):=by
      rw [List.drop_set_of_lt (by omega)]
      congr 1;simp;omega
    rw [h1,h2]
    simp
theorem Zs {sz:Nat} {css:List (List Value)} (h: ∀cs∈css,cs.length=sz) {i:Nat} {c:List Value} (hi:i<css.length) (hc:c.length=sz) (jk:List Value):setAll (css.flatten++jk) (i*sz) c=(css.set i c).flatten++jk:=by
  have hle:i*sz≤css.flatten.length:=by rw [YL h];exact Nat.mul_le_mul_right _ (by omega)
  have hle2:i*sz+sz≤css.flatten.length:=by
    have:(i+1)*sz≤css.length*sz:=Nat.mul_le_mul_right _ (by omega)
    rw [Nat.add_mul,Nat.one_mul] at this
    rw [YL h];exact this
  rw [V9 _ _ _ (by rw [List.length_append,hc];omega),hc,List.take_append_of_le_length hle,List.drop_append_of_le_length hle2]
  have e1:(i+1)*sz=i*sz+sz:=by rw [Nat.add_mul,Nat.one_mul]
  rw [←e1,←VE h,List.set_eq_take_append_cons_drop,if_pos hi,List.flatten_append,List.flatten_cons]
  have e2:css.flatten.take (i*sz)=(css.take i).flatten:=by
    have h1:css.flatten=(css.take i).flatten++(css.drop i).flatten:=by rw [←List.flatten_append,List.take_append_drop]
    have h2:(css.take i).flatten.length=i*sz:=by
      rw [YL (fun cs hcs=>h cs (List.mem_of_mem_take hcs)),List.length_take,Nat.min_eq_left (by omega)]
    rw [h1,List.take_left' h2]
  rw [e2]
  simp [List.append_assoc]
section
variable {P:Program} {n:Dm} {R:Post} {l:Fr} {Ps Ps':List Part} {As:List Fact} {ops:Array Oper} {rest:List Oper} {ty:TypeId} {pos:String} {aft:Array Edge} {g:Option (Nat×Bool)} {K:Nx} {d:Nat} {dd:Option Tmp}
theorem Hu {α:Type} {e:De α} {c:Code} {xs:List α} {css:List (List Value)} {k:Nat} {u:α} {β:Type} {mk:β→List Value} {Fs:β→List Fact} (hA:RepsF e xs css∈As) (hu:xs[k]? =some u) (ho: ∀Z w cs,e.rep Z w u cs→ ∃y,cs=mk y∧ ∀B∈Fs y,B.holds Z w)
    (h: ∀y,css[k]? =some (mk y)→WC P n c R l Ps (Fs y++As)):WC P n c R l Ps As:=
  Hv (Fs:=Fs) (p:=fun y=>css[k]? =some (mk y)) hA (fun Z w hR=>by
    obtain ⟨cs,h1,h2⟩:=(hR:Reps (e.rep Z w) xs css).at k u hu
    obtain ⟨y,h3,h4⟩:=ho Z w cs h2
    subst h3
    exact ⟨y,h1,h4⟩) h
theorem Vg {α:Type} {e:De α} {c:Code} {xs:List α} {css:List (List Value)} (hA:RepsF e xs css∈As) (h:css.length=xs.length→(∀cs∈css,cs.length=e.sz)→WC P n c R l Ps As):WC P n c R l Ps As:=fun Z w a hs ha=>
  h (Reps.length (hs.facts _ hA:Reps (e.rep Z w) xs css)) (Reps.lens (hs.facts _ hA:Reps (e.rep Z w) xs css)) Z w a hs ha
theorem Hl {T:TypeId} {x:Operand} {de:TypeDesc} {b i o:Nat} {css:List (List Value)} {c jk:List Value} {T':TypeId} {z:Option Value} {sz by_:Nat} (hu:P.underlying T=some de) (hd:agg? de=true) (ht:ti P T=some (z,sz,by_)) (h:evs l x=some (.pointer (some ⟨b,o,none⟩))) (ho:o=i*sz)
    (hb:OwnAt Ps b (JD (css.flatten++jk) T')) (hlen: ∀cs∈css,cs.length=sz) (hi:css[i]? =some c):QR P l Ps As ⟨dd, .load T x,ty,pos,aft,g⟩ (.agg c.toArray):=by
  subst ho
  exact Jw hu hd ht h hb (HJ hlen hi jk) (hlen c (List.mem_of_getElem? hi))
theorem GQ {T:TypeId} {x y:Operand} {b o i sz:Nat} {css:List (List Value)} {c jk:List Value} {T':TypeId} {z:Option Value} {by_:Nat} (ht:ti P T=some (z,sz,by_)) (hx:evs l x=some (.pointer (some ⟨b,o,none⟩))) (ho:o=i*sz) (hy:evs l y=some (.agg c.toArray)) (hl:c.length=sz) (hv:c.all Value.oneCell'=true)
    (hlen: ∀cs∈css,cs.length=sz) (hi:i<css.length) (hp:SetAt Ps [(b,JD (css.flatten++jk) T')] [(b,JD ((css.set i c).flatten++jk) T')] Ps') (h:K l Ps' As):OW P n R l Ps As ⟨none, .store T x y,ty,pos,aft,g⟩ K:=by
  subst ho
  refine Jq ht hx hy hl hv (Zs hlen hi hl jk) ?_ hp h
  have h1:(i+1)*sz≤css.length*sz:=Nat.mul_le_mul_right _ (by omega)
  rw [Nat.add_mul,Nat.one_mul] at h1
  rw [List.length_append,YL hlen,hl];omega
def RowS (T:TypeId) (sz:Nat) (v:Value) (n:Nat) (cs:List Value) (p:Part):Prop:=
  cs.length=n*sz∧ ∃b cap jk,v= .slice (some ⟨b,0,none⟩) n cap∧p= [(b,JD (cs++jk) T)] ∧(cs++jk).length=cap*sz∧n≤cap∧cap≤maxLen
theorem RowS.row {T:TypeId} {sz m:Nat} {v:Value} {cs:List Value} {p:Part} (h:RowS T sz v m cs p):Row T sz v m cs p:=⟨h.1, .inr h.2⟩
theorem Row.toS {T:TypeId} {sz m:Nat} {v:Value} {cs:List Value} {p:Part} (h:Row T sz v m cs p) (hm:m≠0):RowS T sz v m cs p:=⟨h.1,by
  rcases h.2 with ⟨_,h0,_⟩ | h
  · exact absurd h0 hm
  · exact h⟩
theorem Row.again {T:TypeId} {sz m cap b:Nat} {css0 css:List (List Value)} {jk:List Value} (h1:css0.flatten.length=m*sz) (h2:(css0.flatten++jk).length=cap*sz) (h3:m≤cap) (h4:cap≤maxLen) (hl:css.length=m) (hls: ∀cs∈css,cs.length=sz):
    Row T sz (.slice (some ⟨b,0,none⟩) m cap) m css.flatten [(b,JD (css.flatten++jk) T)] :=by
  have e:css.flatten.length=m*sz:=by rw [YL hls,hl]
  refine ⟨e, .inr ⟨b,cap,jk,O,O,?_,h3,h4⟩⟩
  rw [List.length_append] at h2 ⊢
  omega
theorem ZL {T E:TypeId} {x y:Operand} {zv:Value} {sz by_ k:Nat} (hu:P.underlying T=some (.slice E)) (ht:ti P E=some (some zv,sz,by_)) (hx:evs l x=some (.int .i64 0)) (hy:evs l y=some (.int .i64 k)) (hk:by_*k≤281474976710656) (hm:k≤maxLen) (hd:d<n.sz)
    (h: ∀v p,RowS E sz v 0 [] p→K ((d,v)::l) (p::Ps) As):OW P n R l Ps As ⟨some d, .makeSlice T x y,ty,pos,aft,g⟩ K:=
  K0 rfl hd fun Z w ρ hs hρ=>by
    unfold ti at ht
    cases hi:P.info? E with
    | none=>rw [hi] at ht;cases ht
    | some i=>
      rw [hi] at ht
      simp only [Option.map_some,Option.some.injEq,Prod.mk.injEq] at ht
      have hm':=hm
      simp only [maxLen] at hm'
      have hb':(i.bytes:Int)*(k:Int)≤281474976710656:=by
        have h1:((i.bytes*k:Nat):Int)≤281474976710656:=by rw [ht.2.2];omega
        rwa [Int.natCast_mul] at h1
      have hr:=run_make (P:=P) w T E i zv hu hi ht.1 .i64 .i64 0 k (Int.le_refl _) (by omega) hb' (by omega)
      refine ⟨_,w.alloc (JD ([] ++(madeCells zv.cells (k*i.size)).toList) E),Z,_,As,?_,hs.alloc _,h _ _ ⟨by simp,w.heap.size,k,(madeCells zv.cells (k*i.size)).toList,O,O,?_,Nat.zero_le _,hm⟩⟩
      · simp only [execOp,hρ _ _ hx,hρ _ _ hy,Sem.run_bind,hr,Result.andThen_ok,Sem.run_pure,Int.toNat_natCast,Int.toNat_zero]
        simp [JD]
      · simp [size_madeCells,ht.2.1]
theorem Vh {α:Type} {e:De α} {c:Code} {xs xs':List α} {css:List (List Value)} {u:α} {cs:List Value} (hA:RepsF e xs css∈As) (hu: ∀Z w,St Z w Ps As→e.rep Z w u cs) (hx:xs'=xs++ [u]) (h:WC P n c R l Ps (RepsF e xs' (css++ [cs])::As)):WC P n c R l Ps As:=by
  subst hx
  exact Kf (A:=RepsF e (xs++ [u]) (css++ [cs])) (fun Z w hs=>Reps.append (hs.facts _ hA:Reps (e.rep Z w) xs css) (.n1 (hu Z w hs))) h
theorem Gn {α:Type} {e:De α} {xs xs':List α} {css:List (List Value)} {u:α} {cs:List Value} (i:Nat) (hA:RepsF e xs css∈As) (hu: ∀Z w,St Z w Ps As→e.rep Z w u cs) (hx:xs'=xs.set i u) (h:WL P n ops R rest l Ps (RepsF e xs' (css.set i cs)::As)):WL P n ops R rest l Ps As:=by
  subst hx
  exact Jae (A:=RepsF e (xs.set i u) (css.set i cs)) (fun Z w hs=>Reps.set (hs.facts _ hA:Reps (e.rep Z w) xs css) i u cs (hu Z w hs)) h
end
section
variable {P:Program} {n:Dm} {R:Post} {l:Fr} {Ps Ps':List Part} {As:List Fact} {ops:Array Oper} {rest:List Oper} {ty:TypeId} {pos:String} {aft:Array Edge} {g:Option (Nat×Bool)} {K:Nx} {d:Nat} {dd:Option Tmp}
theorem St.pick {Z:Nat→Prop} {w:World} {p:Part} (h:St Z w Ps As) (hd:DelAt Ps p Ps'):St Z w (p::Ps') As:=h.permParts hd.perm
theorem St.setCellP {Z:Nat→Prop} {w:World} {p:Part} {b i k:Nat} {cs:List Value} {T:TypeId} (h:St Z w (p::Ps) As) (hi:p[i]? =some (b,JD cs T)) (v:Value):St Z (w.setCell ⟨b,k,none⟩ v) (p.set i (b,JD (cs.set k v) T)::Ps) As:=by
  have hm:(b,JD cs T)∈p:=List.mem_of_getElem? hi
  have hb:w.heap[b]? =some (JD cs T):=(h.own (b,_) (by simp [hm])).1
  have hnd:=h.nodup
  rw [List.flatten_cons,List.map_append,List.nodup_append] at hnd
  have hlt:i<p.length:=by
    rcases Nat.lt_or_ge i p.length with h | h
    · exact h
    · simp [List.getElem?_eq_none h] at hi
  have hpi:p[i] =(b,JD cs T):=by rw [List.getElem?_eq_getElem hlt] at hi;exact Option.some.inj hi
  have hfst:(p.set i (b,JD (cs.set k v) T)).map Prod.fst=p.map Prod.fst:=by
    rw [List.map_set]
    apply List.ext_getElem
    · simp
    · intro j h1 h2
      rw [List.getElem_set]
      split
      · rename_i e;subst e;simp [hpi]
      · rfl
  refine h.turn O O O (by simp [World.setCell]) (fun b' hb' hn=>setCell_other v (fun e=>hn _ (by subst e;exact hm))) (fun q hq=> ?_) (by rw [hfst];exact hnd.1)
  obtain ⟨j,hj,rfl⟩:=List.mem_iff_getElem.1 hq
  rw [List.getElem_set]
  split
  · exact ⟨setCell_block hb v, .inl ⟨_,hm⟩⟩
  · rename_i hne
    have hj':j<p.length:=by simpa using hj
    have hmj:p[j] ∈p:=List.getElem_mem hj'
    refine ⟨?_, .inl ⟨_,hmj⟩⟩
    have h1:p[j].1≠b:=fun e=>by
      have h2:(p.map Prod.fst)[j]'(by simpa using hj')=(p.map Prod.fst)[i]'(by simpa using hlt):=by simp [hpi,e]
      exact hne ((List.getElem_inj hnd.1).1 h2).symm
    rw [setCell_other v h1]
    exact (h.own _ (by simp [hmj])).1
theorem Xg {T:TypeId} {x y:Operand} {b o i:Nat} {v:Value} {cs cs':List Value} {T':TypeId} {z:Option Value} {by_:Nat} {p:Part} (ht:ti P T=some (z,1,by_)) (hx:evs l x=some (.pointer (some ⟨b,o,none⟩))) (hy:evs l y=some v) (hv:v.oneCell'=true)
    (hi:p[i]? =some (b,JD cs T')) (hc:SetL cs o v cs') (hp:SetAt Ps p (p.set i (b,JD cs' T')) Ps') (h:K l Ps' As):OW P n R l Ps As ⟨none, .store T x y,ty,pos,aft,g⟩ K:=
  V6 rfl fun Z w ρ hs hρ=>by
    obtain ⟨h1,h2⟩:=hc.eq
    have hm:(b,JD cs T')∈p:=List.mem_of_getElem? hi
    have hb:w.heap[b]? =some (JD cs T'):=by
      obtain ⟨Qs,h3,h4⟩:=hp.perm
      exact ((hs.permParts h3).own (b,_) (by simp [hm])).1
    have hcell:v.cells= #[v] :=by cases v<;>first | rfl | (simp [Value.oneCell'] at hv;done)
    refine ⟨w.setCell ⟨b,o,none⟩ v,Z,Ps',As,?_,?_,h⟩
    · simp only [execOp,hρ _ _ hx,hρ _ _ hy,Instr.storeAt,Instr.sureAddr,storeVar,Sem.run_bind,Sem.run_pure,Result.andThen_ok,KU ht,hcell]
      simp [storeCells,KZ,QQ hb h1 hv]
    · subst h2;exact hs.setAt hp fun h=>h.setCellP hi v
theorem J4 {k:FuncId} {xs:List Operand} {ts:Array TypeId} {args:List Value} {p1 p2:Part} {Q1 Q2:List Part} {pre:List Fact} {res:Value→List Part→List Fact→Prop}
    (hsp:Sp P k args [p1,p2] pre res) (hxs:Evs l xs args) (hd:d<n.sz) (h1:DelAt Ps p1 Q1) (h2:DelAt Q1 p2 Q2) (hpre: ∀A∈pre,A∈As)
    (h: ∀v Lo fs,res v Lo fs→K ((d,v)::l) (Lo++Q2) (fs++As)):
    OW P n R l Ps As ⟨some d, .call ⟨.value (.func k),xs.toArray,ts⟩,ty,pos,aft,g⟩ K:=
  Y2 hsp hxs hd (by
    have e1:=h1.perm;have e2:=h2.perm
    simp only [List.flatten_cons,List.cons_append,List.nil_append] at e1 e2 ⊢
    exact (List.Perm.append_left p1 e2).trans e1) hpre h
theorem Ky {k:FuncId} {xs:List Operand} {ts:Array TypeId} {args:List Value} {p1 p2 p3:Part} {Q1 Q2 Q3:List Part} {pre:List Fact} {res:Value→List Part→List Fact→Prop}
    (hsp:Sp P k args [p1,p2,p3] pre res) (hxs:Evs l xs args) (hd:d<n.sz) (h1:DelAt Ps p1 Q1) (h2:DelAt Q1 p2 Q2) (h3:DelAt Q2 p3 Q3) (hpre: ∀A∈pre,A∈As)
    (h: ∀v Lo fs,res v Lo fs→K ((d,v)::l) (Lo++Q3) (fs++As)):
    OW P n R l Ps As ⟨some d, .call ⟨.value (.func k),xs.toArray,ts⟩,ty,pos,aft,g⟩ K:=
  Y2 hsp hxs hd (by
    have e1:=h1.perm;have e2:=h2.perm;have e3:=h3.perm
    simp only [List.flatten_cons,List.cons_append,List.nil_append] at e1 e2 e3 ⊢
    exact (List.Perm.append_left p1 ((List.Perm.append_left p2 e3).trans e2)).trans e1) hpre h
theorem VD {T Kt E:TypeId} {x y:Operand} {m:Nat} {L:List MK} {c k:Int} {sz by_:Nat} (hk:KeyT P Kt) (hg:mGet L c k=none) (hu:P.underlying T=some (.map Kt E)) (ht:ti P E=some (some (.pointer none),sz,by_)) (hx:evs l x=some (.map (some m))) (hy:evs l y=some (idV c k)) (hb:OwnAt Ps m (mapO L)):
    QR P l Ps As ⟨dd, .lookup T x y false,ty,pos,aft,g⟩ (.pointer none):=by
  have:=Zj (dd:=dd) (As:=As) (ty:=ty) (pos:=pos) (aft:=aft) (g:=g) hk hu ht hx hy hb
  rw [hg] at this;exact this
theorem YN {T Kt E:TypeId} {x y:Operand} {m b:Nat} {L:List MK} {c k:Int} {sz by_:Nat} (hk:KeyT P Kt) (hg:mGet L c k=some b) (hu:P.underlying T=some (.map Kt E)) (ht:ti P E=some (some (.pointer none),sz,by_)) (hx:evs l x=some (.map (some m))) (hy:evs l y=some (idV c k)) (hb:OwnAt Ps m (mapO L)):
    QR P l Ps As ⟨dd, .lookup T x y false,ty,pos,aft,g⟩ (.pointer (some ⟨b,0,none⟩)):=by
  have:=Zj (dd:=dd) (As:=As) (ty:=ty) (pos:=pos) (aft:=aft) (g:=g) hk hu ht hx hy hb
  rw [hg] at this;exact this
theorem Ej {α:Type} (fr:α→Fr) (ps:α→List Part) (as_:α→List Fact) (p:α→Prop) {c e:Code} (h1:WC P n c (VJ (fun l Ps As=> ∃x,p x∧Sub (fr x) l∧(ps x).Sublist Ps∧ ∀A∈as_ x,A∈As) R) l Ps As) (h2: ∀x,p x→WC P n e R (fr x) (ps x) (as_ x)):WC P n (.seq c e) R l Ps As:=
  Jah (fun l Ps As=> ∃x,p x∧Sub (fr x) l∧(ps x).Sublist Ps∧ ∀A∈as_ x,A∈As) h1 fun l Ps As ⟨x,hp,hl,hP,hA⟩=>E6 hl hP hA (h2 x hp)
theorem Jt {c:Code} {p:Part} (hd:DelAt Ps p Ps') (k:WC P n c R l (p::Ps') As):WC P n c R l Ps As:=fun Z w a hs ha=>k Z w a (hs.pick hd) ha
theorem Vb {p:Part} (hd:DelAt Ps p Ps') (k:WL P n ops R rest l (p::Ps') As):WL P n ops R rest l Ps As:=fun Z w a hs ha=>k Z w a (hs.pick hd) ha
theorem Jaj {c:Code} {p q:Part} (k:WC P n c R l ((q++p)::Ps) As):WC P n c R l (p::q::Ps) As:=fun Z w a hs ha=>k Z w a (hs.permParts (by
  simp only [List.flatten_cons,List.append_assoc]
  exact List.perm_append_comm_assoc q p _)) ha
theorem St.freeze1 {α:Type} {e:De α} {T:TypeId} {b:Nat} {cs:List Value} {u:α} {Z:Nat→Prop} {w:World} (hs:St Z w Ps As) (hp:DelAt Ps [(b,JD cs T)] Ps') (hr:e.rep Z w u cs): ∃Z',St Z' w Ps' (RdF e (some ⟨b,0,none⟩) 1 [u] ::As):=by
  have hl:=e.len hr
  have hrow:Row T e.sz (.slice (some ⟨b,0,none⟩) 1 1) 1 [cs].flatten [(b,JD cs T)] :=by
    refine ⟨by simp [hl], .inr ⟨b,1,[],O,by simp,by simp [hl],Nat.le_refl _,by simp [maxLen]⟩⟩
  obtain ⟨A,cap,Z',h1,h2⟩:=(hs.addFact (A:=RepsF e [u] [cs]) (.n1 hr)).freezeRow hp hrow rfl (.head _)
  obtain ⟨rfl,_,rfl⟩:=Value.slice.inj h1
  exact ⟨Z',h2.subFacts fun A hA=>by
    rcases List.mem_cons.1 hA with rfl | hA
    · exact .head _
    · exact .tail _ (.tail _ hA)⟩
theorem Ve {α:Type} {e:De α} {T:TypeId} {b:Nat} {cs:List Value} {u:α} {ws:World} {Z0:Nat→Prop} {Ps0:List Part} {As0:List Fact} {r:OT} (hp:DelAt Ps [(b,JD cs T)] Ps') (hr: ∀Z w,St Z w Ps As→e.rep Z w u cs)
    (k:WE P n ops R ws Z0 Ps0 As0 r l Ps' (RdF e (some ⟨b,0,none⟩) 1 [u] ::As)):WE P n ops R ws Z0 Ps0 As0 r l Ps As:=fun h0 Z w a hs ha=>by
  obtain ⟨Z',h2⟩:=hs.freeze1 hp (hr Z w hs)
  exact k h0 Z' w a h2 ha
def AllF {α:Type} (xs:List α) (f:α→Fact):Fact where
  holds Z w:= ∀x∈xs,(f x).holds Z w
  stable hz hh h1 h2 h3 h:=fun x hx=>(f x).stable hz hh h1 h2 h3 (h x hx)
theorem E8 {α:Type} {c:Code} {xs:List α} {f:α→Fact} (x:α) (hA:AllF xs f∈As) (hx:x∈xs) (h:WC P n c R l Ps (f x::As)):WC P n c R l Ps As:=Kf (fun Z w hs=>hs.facts _ hA x hx) h
end
def Wt {H:Type} (P:Program) (t:TypeId) (d:DataW H):Prop:= ∀n∈d.weights P t,n≤reachBytes
theorem Vn {H:Type} {P:Program} {e:TypeId} : ∀ {l:List (DataW H)} {d:DataW H},d∈l→ ∀n∈d.weights P e,n∈DataW.weightsAll P e l
 | d'::r,d,hd,n,hn=>by
  simp only [DataW.weightsAll,List.mem_append]
  rcases List.mem_cons.1 hd with rfl | h
  ·exact Or.inl hn
  ·exact Or.inr (Vn h n hn)
theorem Wt.field {H:Type} {P:Program} {t:TypeId} {fs:Array Field} (hu:P.underlying t=some (.struct fs)) {parts:List (DataW H)} (h:Wt P t (.agg parts)) {j:Nat} {f:Field} {d:DataW H} (hf:fs[j]? =some f) (hd:parts[j]? =some d):Wt P f.type d:=fun n hn=>by
 refine h n ?_
 simp only [DataW.weights,hu]
 exact DataW.weights_mem_each (j:=j) (by simp [hf]) hd n hn
theorem Wt.str {H:Type} {P:Program} {t:TypeId} {bs:List UInt8} (h:Wt P t (.lit (.string bs):DataW H)):bs.length≤reachBytes:=h _ (by simp [DataW.weights])
theorem Wt.slice {H:Type} {P:Program} {t e:TypeId} (hu:P.underlying t=some (.slice e)) {elems spare:List (DataW H)} (h:Wt P t (.slice elems spare)):elems.length*P.bytesOf e≤reachBytes∧ ∀d∈elems,Wt P e d:=by
 constructor
 ·have:=h ((elems.length+spare.length)*P.bytesOf e) (by simp [DataW.weights,hu])
  exact Nat.le_trans (Nat.mul_le_mul_right _ (Nat.le_add_right _ _)) this
 ·intro d hd n hn
  exact h n (by simp only [DataW.weights,hu,List.mem_cons,List.mem_append];exact .inr (.inl (Vn hd n hn)))
theorem Wt.of {H:Type} {P:Program} {ts:List TypeId} {ds:List (DataW H)} (h:(DataW.weightsEach P ts ds).all (· ≤reachBytes)=true) {j:Nat} {t:TypeId} {d:DataW H} (ht:ts[j]? =some t) (hd:ds[j]? =some d):Wt P t d:=fun n hn=>
 of_decide_eq_true (List.all_eq_true.1 h n (DataW.weights_mem_each ht hd n hn))
section
variable {H:Type} {enc:TypeId×Value→H} {P:Program} {w:World} {sp:Nat→Bool} {held:Bool}
theorem add_cell {a:Addr} {k:Nat} {v:Value} (h:w.cell? (a.add k)=some v) (hs:a.spot=none):w.cell? ⟨a.block,a.off+k,none⟩=some v:=by
 obtain ⟨b,o,s⟩:=a
 simp only at hs
 subst hs
 rwa [KZ] at h
theorem Jac (a:Addr) (i j:Nat):(a.add i).add j=a.add (i+j):=by
 unfold Addr.add
 by_cases h1:i=0
 ·subst h1;simp
 ·by_cases h2:j=0
  ·subst h2;simp [h1]
  ·have h3:i+j≠0:=by omega
   simp [h1,h2,h3,Nat.add_assoc]
theorem rd_struct {t:TypeId} {base n:Nat} {fs:Array Field} {cs:List Value} {x:DataW H×List MemPlace} (hu:P.underlying t=some (.struct fs)) (h:DataW.trod enc P w base sp held n t cs=some x) (hW:Wt P t x.1):cs.length=P.cellsOf t∧ ∃m,∀(i:Nat) (f:Field),fs[i]? =some f→ ∃y,DataW.trod enc P w base sp held m f.type ((cs.drop f.offset).take (P.cellsOf f.type))=some y∧Wt P f.type y.1:=by
 obtain ⟨xs,m,_,rfl,hl,hlen,hf⟩:=DataW.trod_struct hu h
 refine ⟨hl,m,fun i f hi=> ?_⟩
 have hil:i<fs.size:=(Array.getElem?_eq_some_iff.1 hi).1
 have hx:xs[i]? =some xs[i] :=List.getElem?_eq_getElem (by omega)
 exact ⟨xs[i],(hf i f hi).trans hx,hW.field hu hi (by rw [List.getElem?_map,hx];rfl)⟩
theorem rd_int {t:TypeId} {base n:Nat} {v:Value} {x:DataW H×List MemPlace} {k:IntKind} (hu:P.underlying t=some (.int k)) (h:DataW.trod enc P w base sp held n t [v] =some x): ∃z,v= .int k z:=by
 obtain ⟨z,e,_⟩:=DataW.trod_int hu h
 exact ⟨z,List.singleton_inj.1 e⟩
theorem rd_bool {t:TypeId} {base n:Nat} {v:Value} {x:DataW H×List MemPlace} (hu:P.underlying t=some .bool) (h:DataW.trod enc P w base sp held n t [v] =some x): ∃z,v= .bool z:=by
 obtain ⟨z,e,_⟩:=DataW.trod_bool hu h
 exact ⟨z,List.singleton_inj.1 e⟩
theorem rd_str {t:TypeId} {base n:Nat} {v:Value} {x:DataW H×List MemPlace} (hu:P.underlying t=some .string) (h:DataW.trod enc P w base sp held n t [v] =some x) (hW:Wt P t x.1): ∃z:ByteArray,v= .string z∧z.size≤reachBytes:=by
 obtain ⟨z,e,rfl,_⟩:=DataW.trod_string hu h
 exact ⟨z,List.singleton_inj.1 e,hW.str⟩
theorem rd_sl {t e:TypeId} {base n:Nat} {v:Value} {x:DataW H×List MemPlace} (hu:P.underlying t=some (.slice e)) (h:DataW.trod enc P w base sp held n t [v] =some x): ∃A l c,v= .slice A l c:=by
 rcases DataW.trod_slice hu h with ⟨e,_⟩ | ⟨a,l,c,_,_,_,_,e,_⟩
 ·exact ⟨_,_,_,List.singleton_inj.1 e⟩
 ·exact ⟨_,_,_,List.singleton_inj.1 e⟩
theorem rd_arr2 {t e:TypeId} {base n:Nat} {a b:Value} {x:DataW H×List MemPlace} {k:IntKind} (hu:P.underlying t=some (.array 2 e)) (hc:P.cellsOf e=1) (hi:P.underlying e=some (.int k)) (h:DataW.trod enc P w base sp held n t [a,b] =some x):(∃z,a= .int k z)∧ ∃z,b= .int k z:=by
 obtain ⟨xs,m,_,rfl,_,hlen,hf⟩:=DataW.trod_array hu h
 have h0:=hf 0 (by decide)
 have h1:=hf 1 (by decide)
 rw [hc,List.getElem?_eq_getElem (by omega)] at h0 h1
 exact ⟨rd_int hi h0,rd_int hi h1⟩
theorem rd_sliceG {α:Type} {e:De α} {T E:TypeId} (hu:P.underlying T=some (.slice E)) (hsz:P.cellsOf E=e.sz) (h0:0<e.sz)
  {B:α→Prop} (hel: ∀(m:Nat) (cs:List Value) (x:DataW H×List MemPlace),DataW.trod enc P w 0 sp held m E cs=some x→Wt P E x.1→ ∃u:α,e.rep (fun b=>b<w.heap.size) w u cs∧B u)
  {Av:Option Addr} {lv cv n:Nat} {x:DataW H×List MemPlace} (hn:DataW.trod enc P w 0 sp held n T [.slice Av lv cv] =some x) (hW:Wt P T x.1): ∃xs:List α,xs.length=lv∧(RdF e Av cv xs).holds (fun b=>b<w.heap.size) w∧(∀u∈xs,B u)∧xs.length*P.bytesOf E≤reachBytes:=by
 rcases DataW.trod_slice hu hn with ⟨h1,_⟩ | ⟨a,len,cap,elems,rest,m,_,h1,hx,_,hlc,hcm,hlen,hget,_,_⟩
 ·simp only [List.cons.injEq,and_true] at h1
  obtain ⟨rfl,rfl,rfl⟩:=Value.slice.inj h1
  exact ⟨[],rfl,RdS.nil _ _ _,(fun u hu=>by cases hu),by simp⟩
 ·simp only [List.cons.injEq,and_true] at h1
  obtain ⟨rfl,rfl,rfl⟩:=Value.slice.inj h1
  rw [hsz] at hget
  rw [hx] at hW
  obtain ⟨hW1,hW2⟩:=hW.slice hu
  rw [List.length_map,hlen] at hW1
  have key: ∀i:Fin lv,∃u:α,∃cs:List Value,(e.rep (fun b=>b<w.heap.size) w u cs∧B u)∧cs.length=e.sz∧ ∀(k:Nat) (x:Value),cs[k]? =some x→w.cell? (a.add (i.val*e.sz+k))=some x:=by
   intro i
   have h2:=hget i.val i.isLt
   have h3:i.val<elems.length:=by omega
   rw [List.getElem?_eq_getElem h3] at h2
   obtain ⟨cs,h4,h5⟩:=Option.bind_eq_some_iff.1 h2
   obtain ⟨u,hu'⟩:=hel m cs _ h5 (hW2 _ (List.mem_map.2 ⟨_,List.getElem_mem h3,rfl⟩))
   unfold World.cells? at h4
   split at h4
   ·refine ⟨u,cs,hu',?_,fun k x hk=> ?_⟩
    ·have:=mapM_some_length h4;simpa using this
    ·have hlt:k<cs.length:=by
      rcases Nat.lt_or_ge k cs.length with h | h
      ·exact h
      ·rw [List.getElem?_eq_none h] at hk;cases hk
     have hl:=mapM_some_length h4
     rw [List.length_range] at hl
     have:=mapM_some_get h4 k k (by rw [List.getElem?_range (by omega)])
     rw [hk,Jac] at this
     exact this
   ·cases h4
  by_cases hz:lv=0
  ·subst hz
   exact ⟨[],rfl,⟨Nat.zero_le _,hcm, .inl ⟨rfl,fun h=>by cases h⟩⟩,(fun u hu=>by cases hu),by simp⟩
  ·obtain ⟨f,g,hf1,hf2,hf3⟩: ∃(f:Fin lv→α) (g:Fin lv→List Value),(∀i,e.rep (fun b=>b<w.heap.size) w (f i) (g i)∧B (f i))∧(∀i,(g i).length=e.sz)∧ ∀i (k:Nat) (x:Value),(g i)[k]? =some x→w.cell? (a.add (i.val*e.sz+k))=some x:=
    ⟨fun i=>Classical.choose (key i),fun i=>Classical.choose (Classical.choose_spec (key i)),fun i=>(Classical.choose_spec (Classical.choose_spec (key i))).1,fun i=>(Classical.choose_spec (Classical.choose_spec (key i))).2.1,fun i=>(Classical.choose_spec (Classical.choose_spec (key i))).2.2⟩
   have hspot:a.spot=none∧ ∃full T fr,w.heap[a.block]? =some (.cells full T fr):=by
    have i0:0<lv:=by omega
    have h4:=hf2 ⟨0,i0⟩
    have h5: ∃x,(g ⟨0,i0⟩)[0]? =some x:=⟨_,List.getElem?_eq_getElem (by omega)⟩
    obtain ⟨x,hx⟩:=h5
    have h6:=hf3 ⟨0,i0⟩ 0 x hx
    simp only [Nat.zero_mul,Nat.zero_add] at h6
    have h7:a.add 0=a:=by unfold Addr.add;simp
    rw [h7] at h6
    unfold World.cell? at h6
    split at h6
    ·rename_i c T fr heq
     split at h6
     ·cases h6
     ·rename_i hs
      refine ⟨?_,_,_,_,heq⟩
      cases hq:a.spot with
      | none=>rfl
      | some s=>rw [hq] at hs;simp at hs
    ·cases h6
   obtain ⟨hs,full,T',fr,hblk⟩:=hspot
   have hxl:(List.ofFn f).length=lv:=by simp
   refine ⟨List.ofFn f,hxl,⟨by rw [hxl];exact hlc,hcm, .inr ⟨a.block,a.off,List.ofFn g,?_,(Array.getElem?_eq_some_iff.1 hblk).1,?_,⟨full,T',fr,hblk,?_⟩⟩⟩,(fun u hu=>by
    rw [List.mem_ofFn] at hu
    obtain ⟨i,rfl⟩:=hu
    exact (hf1 i).2),by rw [hxl];exact hW1⟩
   ·obtain ⟨b,o,s⟩:=a
    simp only at hs
    subst hs;rfl
   ·have: ∀(n:Nat) (f':Fin n→α) (g':Fin n→List Value),(∀i,e.rep (fun b=>b<w.heap.size) w (f' i) (g' i))→Reps (e.rep (fun b=>b<w.heap.size) w) (List.ofFn f') (List.ofFn g'):=by
     intro n
     induction n with
     | zero=>intro f' g' _;simp;exact .nil
     | succ n ih=>intro f' g' h;rw [List.ofFn_succ,List.ofFn_succ];exact .cons (h 0) (ih _ _ fun i=>h i.succ)
    exact this lv f g fun i=>(hf1 i).1
   ·intro j x hj
    have hls: ∀cs∈List.ofFn g,cs.length=e.sz:=fun cs hcs=>by
     rw [List.mem_ofFn] at hcs
     obtain ⟨i,rfl⟩:=hcs
     exact hf2 i
    have hjl:j<(List.ofFn g).flatten.length:=by
     rcases Nat.lt_or_ge j (List.ofFn g).flatten.length with h | h
     ·exact h
     ·rw [List.getElem?_eq_none h] at hj;cases hj
    rw [YL hls,List.length_ofFn] at hjl
    have hq:j / e.sz<lv:=by rw [Nat.div_lt_iff_lt_mul h0];exact hjl
    have hr:j % e.sz<e.sz:=Nat.mod_lt _ h0
    have hjj:j / e.sz*e.sz+j % e.sz=j:=by rw [Nat.mul_comm];exact Nat.div_add_mod j e.sz
    have hgl:=hf2 ⟨j / e.sz,hq⟩
    have hy:(g ⟨j / e.sz,hq⟩)[j % e.sz]? =some ((g ⟨j / e.sz,hq⟩)[j % e.sz]'(by omega)):=List.getElem?_eq_getElem _
    have h8:=Ed hls (j / e.sz) (g ⟨j / e.sz,hq⟩) (by rw [List.getElem?_ofFn];simp [hq]) (j % e.sz) _ hy
    rw [hjj,hj] at h8
    have h9:=hf3 ⟨j / e.sz,hq⟩ (j % e.sz) _ hy
    have h10:=add_cell h9 hs
    simp only at h10
    rw [hjj] at h10
    unfold World.cell? at h10
    simp only [hblk] at h10
    rw [Option.some.inj h8]
    simpa using h10
end
end Go.GW
namespace Go.Proofs.YthkkklphanidjaaGreatDoor
open Go Go.GW
theorem ti1:ti Tryz.prog 1=some (some (.nilFunc),1,8):=by kernel_rfl
theorem ti3:ti Tryz.prog 3=some (some (.int .i64 0),1,8):=by kernel_rfl
theorem ti4:ti Tryz.prog 4=some (some (.bool false),1,1):=by kernel_rfl
theorem ti5:ti Tryz.prog 5=some (some (.int .u8 0),1,1):=by kernel_rfl
theorem ti9:ti Tryz.prog 9=some (some (.string ⟨#[]⟩),1,16):=by kernel_rfl
theorem VX:ti Tryz.prog 21=some (some (.int .i32 0),1,4):=by kernel_rfl
theorem QO:ti Tryz.prog 23=some (some (.agg #[.int .i64 0, .int .i64 0, .int .i64 0]),3,24):=by kernel_rfl
theorem Ja7:ti Tryz.prog 24=some (some (.slice none 0 0),1,24):=by kernel_rfl
theorem Ye:ti Tryz.prog 29=some (some (.nilIface),1,16):=by kernel_rfl
theorem JY:ti Tryz.prog 34=some (some (.agg #[.int .i64 0, .int .i64 0]),2,16):=by kernel_rfl
theorem Yu:ti Tryz.prog 35=some (some (.int .i64 0),1,8):=by kernel_rfl
theorem KI:ti Tryz.prog 37=some (some (.agg #[.int .i64 0, .int .i64 0, .int .i64 0]),3,24):=by kernel_rfl
theorem Yd:ti Tryz.prog 38=some (some (.slice none 0 0),1,24):=by kernel_rfl
theorem JF:ti Tryz.prog 40=some (some (.agg #[.int .i64 0, .int .i64 0, .int .i64 0, .int .i64 0, .string ⟨#[]⟩, .slice none 0 0, .int .i64 0, .int .i64 0, .bool false]),9,96):=by kernel_rfl
theorem H5:ti Tryz.prog 42=some (some (.agg #[.int .i64 0, .int .i64 0, .int .i64 0, .string ⟨#[]⟩, .int .i64 0, .int .i64 0, .bool false, .int .i64 0, .int .i64 0, .int .i64 0, .int .i64 0, .string ⟨#[]⟩, .slice none 0 0, .int .i64 0, .int .i64 0, .bool false]),16,160):=by kernel_rfl
theorem ZR:ti Tryz.prog 43=some (some (.slice none 0 0),1,24):=by kernel_rfl
theorem YV:ti Tryz.prog 44=some (some (.slice none 0 0),1,24):=by kernel_rfl
theorem Qg:ti Tryz.prog 45=some (some (.slice none 0 0),1,24):=by kernel_rfl
theorem YU:ti Tryz.prog 47=some (some (.agg #[.string ⟨#[]⟩, .slice none 0 0, .slice none 0 0, .slice none 0 0, .slice none 0 0, .slice none 0 0, .int .i64 0, .int .i64 0, .int .i64 0, .int .i64 0, .int .i64 0, .int .i64 0]),12,184):=by kernel_rfl
theorem Vm:ti Tryz.prog 55=some (some (.pointer none),1,8):=by kernel_rfl
theorem Gu:ti Tryz.prog 56=some (some (.pointer none),1,8):=by kernel_rfl
theorem Ym:ti Tryz.prog 58=some (some (.agg #[.pointer none, .pointer none]),2,16):=by kernel_rfl
theorem EN:ti Tryz.prog 61=some (some (.pointer none),1,8):=by kernel_rfl
theorem XP:ti Tryz.prog 63=some (some (.agg #[.int .i64 0, .int .i64 0, .int .i64 0, .int .i64 0, .int .i64 0, .int .i64 0, .int .i64 0, .int .i64 0, .int .i64 0]),9,72):=by kernel_rfl
theorem ZQ:ti Tryz.prog 86=some (some (.pointer none),1,8):=by kernel_rfl
theorem YI:ti Tryz.prog 117=some (some (.agg #[.int .i64 0, .int .i64 0, .int .i64 0, .bool false, .slice none 0 0, .int .i64 0, .int .i64 0]),7,72):=by kernel_rfl
theorem GA:ti Tryz.prog 121=some (some (.agg #[.string ⟨#[]⟩, .int .i64 0]),2,24):=by kernel_rfl
theorem YY:ti Tryz.prog 123=some (some (.map none),1,8):=by kernel_rfl
theorem YX:ti Tryz.prog 126=some (some (.pointer none),1,8):=by kernel_rfl
theorem Yb:ti Tryz.prog 132=some (some (.slice none 0 0),1,24):=by kernel_rfl
theorem J3:ti Tryz.prog 134=some (some (.agg #[.slice none 0 0, .int .i64 0]),2,32):=by kernel_rfl
theorem Kz:ti Tryz.prog 138=some (some (.agg #[.int .i64 0, .int .i64 0, .int .i64 0, .int .i64 0, .int .i64 0, .int .i64 0]),6,48):=by kernel_rfl
theorem KB:ti Tryz.prog 143=some (some (.agg #[.int .i64 0, .int .i64 0]),2,16):=by kernel_rfl
theorem XQ:ti Tryz.prog 152=some (some (.pointer none),1,8):=by kernel_rfl
theorem Vi:ti Tryz.prog 153=some (some (.slice none 0 0),1,24):=by kernel_rfl
theorem H8:ti Tryz.prog 155=some (some (.agg #[.pointer none, .slice none 0 0]),2,32):=by kernel_rfl
theorem Y3:ti Tryz.prog 161=some (some (.pointer none),1,8):=by kernel_rfl
theorem H7:ti Tryz.prog 185=some (some (.agg #[.int .i32 0, .int .i32 0]),2,8):=by kernel_rfl
theorem Ja8:ti Tryz.prog 186=some (some (.agg #[.int .i32 0, .int .i32 0, .int .i32 0, .int .i32 0, .int .i32 0, .int .i32 0, .int .i32 0, .int .i32 0, .int .i32 0, .int .i32 0]),10,40):=by kernel_rfl
theorem H6:ti Tryz.prog 188=some (some (.agg #[.int .i64 0, .int .i64 0, .int .i64 0, .int .i64 0, .int .i64 0, .int .i64 0, .pointer none, .pointer none, .slice none 0 0, .int .i64 0, .int .i64 0]),11,104):=by kernel_rfl
theorem mixed:Tryz.prog.follows .mixedOrders=true:=by kernel_rfl
@[ext] structure Rg where
  lo:Int
  hi:Int
deriving DecidableEq,Repr
@[ext] structure GOp where
  c:Int
  n:Int
  kind:Int
  at_:Int
  text:ByteArray
  rs:List Rg
  tc:Int
  tn:Int
  on:Bool
def rgC (x:Rg):List Value:= [.int .i64 x.lo, .int .i64 x.hi]
def rgD:De Rg where
  sz:=2
  rep _ _ x cs:=cs=rgC x
  len h:=by subst h;rfl
  one h:=by subst h;rfl
  stable _ _ _ _ _ h:=h
def opC (o:GOp) (A:Option Addr) (c:Nat):List Value:=
  [.int .i64 o.c, .int .i64 o.n, .int .i64 o.kind, .int .i64 o.at_, .string o.text, .slice A o.rs.length c, .int .i64 o.tc, .int .i64 o.tn, .bool o.on]
def opV (o:GOp) (A:Option Addr) (c:Nat):Value:= .agg (opC o A c).toArray
def opD:De GOp where
  sz:=9
  rep Z w o cs:= ∃A c,cs=opC o A c∧RdS rgD Z w A c o.rs
  len h:=by obtain ⟨A,c,rfl,_⟩:=h;rfl
  one h:=by obtain ⟨A,c,rfl,_⟩:=h;rfl
  stable hz hh h1 h2 h3 h:=by
    obtain ⟨A,c,g1,g2⟩:=h
    exact ⟨A,c,g1,(RdF rgD A c _).stable hz hh h1 h2 h3 g2⟩
theorem rg_open (u:Rg): ∀Z w cs,rgD.rep Z w u cs→ ∃y:Unit,cs=rgC u∧ ∀B∈([] :List Fact),B.holds Z w:=fun _ _ _ h=>⟨(),h,fun _ h=>by cases h⟩
theorem op_open (u:GOp): ∀Z w cs,opD.rep Z w u cs→ ∃y:Option Addr×Nat,cs=opC u y.1 y.2∧ ∀B∈ [RdF rgD y.1 y.2 u.rs],B.holds Z w:=fun _ _ _ h=>by
  obtain ⟨A,c,h1,h2⟩:=h
  exact ⟨(A,c),h1,fun B hB=>by simp only [List.mem_singleton] at hB;subst hB;exact h2⟩
theorem eq34 (a b c d:Int):EqT Tryz.prog 34 #[.int .i64 a, .int .i64 b] #[.int .i64 c, .int .i64 d] (a==c && b==d):=eqT_id Tryz.underlying34 Tryz.underlying3 ti3 (by kernel_rfl) a b c d
def Is (u:Value):Value→List Part→List Fact→Prop:=fun v Lo fs=>v=u∧Lo= [] ∧fs= []
structure SOp where
 kind:Int
 n:Int
 m:Int
 text:ByteArray
 i0:Int
 i1:Int
 on:Bool
 o:GOp
def soC (s:SOp) (A:Option Addr) (c:Nat):List Value:=
 [.int .i64 s.kind, .int .i64 s.n, .int .i64 s.m, .string s.text, .int .i64 s.i0, .int .i64 s.i1, .bool s.on, .int .i64 s.o.c, .int .i64 s.o.n, .int .i64 s.o.kind, .int .i64 s.o.at_, .string s.o.text, .slice A s.o.rs.length c, .int .i64 s.o.tc, .int .i64 s.o.tn, .bool s.o.on]
def soV (s:SOp) (A:Option Addr) (c:Nat):Value:= .agg (soC s A c).toArray
def soD:De SOp where
 sz:=16
 rep Z w s cs:= ∃A c,cs=soC s A c∧RdS rgD Z w A c s.o.rs
 len h:=by obtain ⟨A,c,rfl,_⟩:=h;rfl
 one h:=by obtain ⟨A,c,rfl,_⟩:=h;rfl
 stable hz hh h1 h2 h3 h:=by
  obtain ⟨A,c,g1,g2⟩:=h
  exact ⟨A,c,g1,(RdF rgD A c _).stable hz hh h1 h2 h3 g2⟩
theorem so_open (u:SOp): ∀Z w cs,soD.rep Z w u cs→ ∃y:Option Addr×Nat,cs=soC u y.1 y.2∧ ∀B∈ [RdF rgD y.1 y.2 u.o.rs],B.holds Z w:=fun _ _ _ h=>by
 obtain ⟨A,c,h1,h2⟩:=h
 exact ⟨(A,c),h1,fun B hB=>by simp only [List.mem_singleton] at hB;subst hB;exact h2⟩
structure SoOk (s:SOp):Prop where
 text:s.text.size≤140737488355328
 otext:s.o.text.size≤140737488355328
 rs:s.o.rs.length≤8796093022208
def madeK (k:Int):Bool:=decide (9≤k∧k≤14∧k≠11)
def rgs (xs:List Rg):List Value:=(xs.map rgC).flatten
theorem Qp (xs ys:List Rg):rgs (xs++ys)=rgs xs++rgs ys:=by simp [rgs]
theorem Yy (xs:List Rg):(rgs xs).length=xs.length*2:=by
 induction xs with
 | nil=>rfl
 | cons x xs ih=>simp only [rgs,List.map_cons,List.flatten_cons,List.length_append,List.length_cons] at ih ⊢;rw [ih];simp [rgC];omega
theorem QV (x:Rg):rgs [x] =rgC x:=by simp [rgs]
theorem rgs_reps (xs:List Rg) (Z:Nat→Prop) (w:World):Reps (rgD.rep Z w) xs (xs.map rgC):=by
 induction xs with
 | nil=>exact .nil
 | cons x xs ih=>exact .cons rfl ih
theorem rgs_last (ys:List Rg) (r:Rg) (jk:List Value):(rgs (ys++ [r])++jk)[ys.length*2+1]? =some (.int .i64 r.hi):=by
 rw [Qp,QV,List.append_assoc,List.getElem?_append_right (by rw [Yy];omega),Yy,show ys.length*2+1-ys.length*2=1 from by omega]
 rfl
theorem Hj (ys:List Rg) (r:Rg) (m:Int) (jk:List Value):(rgs (ys++ [r])++jk).set (ys.length*2+1) (.int .i64 m)=rgs (ys++ [⟨r.lo,m⟩])++jk:=by
 rw [Qp,QV,List.append_assoc,Qp,QV,List.append_assoc,List.set_append_right _ _ (by rw [Yy];omega),Yy,show ys.length*2+1-ys.length*2=1 from by omega]
 rfl
def addF (xs:List Rg) (lo hi:Int):List Rg:=
 if hi≤lo then xs else match xs.getLast? with
  | some r=>if lo≤r.hi then xs.dropLast++ [⟨r.lo,max r.hi hi⟩] else xs++ [⟨lo,hi⟩]
  | none=> [⟨lo,hi⟩]
theorem Vy (xs:List Rg) (lo hi:Int):(addF xs lo hi).length≤xs.length+1:=by
 unfold addF
 split
 ·omega
 ·split
  ·rename_i r hr
   split
   ·simp
   ·simp
  ·simp
theorem GN {xs:List Rg} {lo hi:Int} (h:hi≤lo):addF xs lo hi=xs:=by simp [addF,h]
theorem Gm {lo hi:Int} (h: ¬hi≤lo):addF [] lo hi= [⟨lo,hi⟩] :=by simp [addF,h]
theorem Xe {ys:List Rg} {r:Rg} {lo hi:Int} (h: ¬hi≤lo) (h2:lo≤r.hi):addF (ys++ [r]) lo hi=ys++ [⟨r.lo,max r.hi hi⟩] :=by simp [addF,h,h2]
theorem Xd {ys:List Rg} {r:Rg} {lo hi:Int} (h: ¬hi≤lo) (h2: ¬lo≤r.hi):addF (ys++ [r]) lo hi=ys++ [r] ++ [⟨lo,hi⟩] :=by simp [addF,h,h2]
def ckAt (i:Int):Option Rg→List Rg→Int×Int
 | _,[] =>(0,0)
 | p,r::rs=>
  if r.lo<0∨r.hi>1048576∨r.lo≥r.hi then (i,20)
  else if (match p with | some q=>decide (r.lo≤q.hi) | none=>false)=true then (i,22)
  else ckAt (i+1) (some r) rs
def ckF (xs:List Rg):Int×Int:=if xs.length>32768 then (32768,21) else ckAt 0 none xs
def thrL (at_ n:Int) (acc:List Rg):List Rg→List Rg
 | [] =>acc
 | r::rs=>thrL at_ n (addF (addF acc r.lo (min r.hi at_)) (max r.lo at_+n) (r.hi+n)) rs
def boundF (xs:List Rg):List Rg×Int:=if xs.length>32768 then ([],21) else (xs,0)
def thrF (xs:List Rg) (at_ n:Int):List Rg×Int:=
 if (ckF xs).2≠0 then ([],(ckF xs).2)
 else if at_<0∨at_>1048576∨n<0∨n>1048576 then ([],12)
 else match xs.getLast? with
  | some r=>if r.hi>at_∧r.hi+n>1048576 then ([],24) else boundF (thrL at_ n [] xs)
  | none=>boundF (thrL at_ n [] xs)
theorem ckAt_bad {i:Int} {p:Option Rg} {r:Rg} {rs:List Rg} (h:r.lo<0∨r.hi>1048576∨r.lo≥r.hi):ckAt i p (r::rs)=(i,20):=by
 cases p<;>rw [ckAt,if_pos h]
theorem ckAt_ord {i:Int} {q r:Rg} {rs:List Rg} (h: ¬(r.lo<0∨r.hi>1048576∨r.lo≥r.hi)) (h2:r.lo≤q.hi):ckAt i (some q) (r::rs)=(i,22):=by
 rw [ckAt,if_neg h,if_pos (by simpa using h2)]
theorem ckAt_next {i:Int} {q r:Rg} {rs:List Rg} (h: ¬(r.lo<0∨r.hi>1048576∨r.lo≥r.hi)) (h2: ¬r.lo≤q.hi):ckAt i (some q) (r::rs)=ckAt (i+1) (some r) rs:=by
 rw [ckAt,if_neg h,if_neg (by simpa using h2)]
theorem ckAt_first {i:Int} {r:Rg} {rs:List Rg} (h: ¬(r.lo<0∨r.hi>1048576∨r.lo≥r.hi)):ckAt i none (r::rs)=ckAt (i+1) (some r) rs:=by
 rw [ckAt,if_neg h,if_neg (by simp)]
def pv (xs:List Rg) (k:Nat):Option Rg:=if k=0 then none else xs[k-1]?
def CkI (xs:List Rg) (k:Nat):Prop:=k≤xs.length∧ckF xs=ckAt k (pv xs k) (xs.drop k)
theorem CkI.zero {xs:List Rg} (h: ¬xs.length>32768):CkI xs 0:=⟨Nat.zero_le _,by simp [ckF,h,pv]⟩
theorem CkI.done {xs:List Rg} {k:Nat} (h:CkI xs k) (hk: ¬k<xs.length):ckF xs=(0,0):=by
 have:k=xs.length:=by have:=h.1;omega
 rw [h.2,List.drop_eq_nil_of_le (by omega)]
 cases pv xs k<;>rfl
theorem CkI.drop {xs:List Rg} {k:Nat} (hk:k<xs.length):xs.drop k=xs[k] ::xs.drop (k+1):=List.drop_eq_getElem_cons hk
theorem CkI.bad {xs:List Rg} {k:Nat} (h:CkI xs k) (hk:k<xs.length) (hb:xs[k].lo<0∨xs[k].hi>1048576∨xs[k].lo≥xs[k].hi):ckF xs=(↑k,20):=by
 rw [h.2,CkI.drop hk,ckAt_bad hb]
theorem CkI.ord {xs:List Rg} {k:Nat} (h:CkI xs (k+1)) (hk:k+1<xs.length) (hb: ¬(xs[k+1].lo<0∨xs[k+1].hi>1048576∨xs[k+1].lo≥xs[k+1].hi)) (h2:xs[k+1].lo≤(xs[k]'(by omega)).hi):ckF xs=(↑(k+1),22):=by
 rw [h.2,CkI.drop hk,pv,if_neg (by omega),Nat.add_sub_cancel,List.getElem?_eq_getElem (by omega),ckAt_ord hb h2]
theorem CkI.next {xs:List Rg} {k:Nat} (h:CkI xs (k+1)) (hk:k+1<xs.length) (hb: ¬(xs[k+1].lo<0∨xs[k+1].hi>1048576∨xs[k+1].lo≥xs[k+1].hi)) (h2: ¬xs[k+1].lo≤(xs[k]'(by omega)).hi):CkI xs (k+1+1):=by
 refine ⟨hk,?_⟩
 rw [h.2,CkI.drop hk,pv,if_neg (by omega),Nat.add_sub_cancel,List.getElem?_eq_getElem (by omega),ckAt_next hb h2,pv,if_neg (by omega),Nat.add_sub_cancel,List.getElem?_eq_getElem hk]
 rfl
theorem CkI.first {xs:List Rg} (h:CkI xs 0) (hk:0<xs.length) (hb: ¬(xs[0].lo<0∨xs[0].hi>1048576∨xs[0].lo≥xs[0].hi)):CkI xs (0+1):=by
 refine ⟨hk,?_⟩
 rw [h.2,CkI.drop hk,pv,if_pos rfl,ckAt_first hb,pv,if_neg (by omega),Nat.add_sub_cancel,List.getElem?_eq_getElem hk]
 rfl
theorem ckAt_good: ∀(rs:List Rg) (i:Int) (p:Option Rg),(ckAt i p rs).2=0→ ∀r∈rs,0≤r.lo∧r.lo<r.hi∧r.hi≤1048576
 | [],_,_,_,r,hr=>by cases hr
 | x::rs,i,p,h,r,hr=>by
  by_cases hb:x.lo<0∨x.hi>1048576∨x.lo≥x.hi
  ·rw [ckAt_bad hb] at h;cases h
  ·rcases List.mem_cons.1 hr with rfl | hr
   ·omega
   ·rcases p with _ | q
    ·rw [ckAt_first hb] at h;exact ckAt_good rs _ _ h r hr
    ·by_cases h2:x.lo≤q.hi
     ·rw [ckAt_ord hb h2] at h;cases h
     ·rw [ckAt_next hb h2] at h;exact ckAt_good rs _ _ h r hr
theorem QL {xs:List Rg} (h:(ckF xs).2=0):xs.length≤32768∧ ∀r∈xs,0≤r.lo∧r.lo<r.hi∧r.hi≤1048576:=by
 unfold ckF at h
 split at h
 ·cases h
 ·exact ⟨by omega,ckAt_good xs _ _ h⟩
theorem Ef {xs:List Rg} (h:(ckF xs).2=0) {k:Nat} (hk:k<xs.length):0≤xs[k].lo∧xs[k].lo<xs[k].hi∧xs[k].hi≤1048576:=(QL h).2 _ (List.getElem_mem hk)
theorem ZS {xs:List Rg} {at_ n:Int} (h:(ckF xs).2≠0):thrF xs at_ n=([],(ckF xs).2):=by unfold thrF;rw [if_pos h]
theorem Em {xs:List Rg} {at_ n:Int} (h:(ckF xs).2=0) (h2:at_<0∨at_>1048576∨n<0∨n>1048576):thrF xs at_ n=([],12):=by
 unfold thrF;rw [if_neg (by simpa using h),if_pos h2]
theorem HD {xs:List Rg} {at_ n:Int} (h:(ckF xs).2=0) (h2: ¬(at_<0∨at_>1048576∨n<0∨n>1048576)) (hk:xs.length-1<xs.length) (h3:xs[xs.length-1].hi>at_∧xs[xs.length-1].hi+n>1048576):thrF xs at_ n=([],24):=by
 unfold thrF;rw [if_neg (by simpa using h),if_neg h2]
 rw [List.getLast?_eq_getElem?,List.getElem?_eq_getElem hk]
 simp [h3]
theorem VY {at_ n:Int} (h2: ¬(at_<0∨at_>1048576∨n<0∨n>1048576)):thrF [] at_ n=boundF (thrL at_ n [] []):=by
 unfold thrF;rw [if_neg (by simp [ckF,ckAt]),if_neg h2];rfl
theorem XC {xs:List Rg} {at_ n:Int} (h:(ckF xs).2=0) (h2: ¬(at_<0∨at_>1048576∨n<0∨n>1048576)) (hk:xs.length-1<xs.length) (h3: ¬(xs[xs.length-1].hi>at_∧xs[xs.length-1].hi+n>1048576)):thrF xs at_ n=boundF (thrL at_ n [] xs):=by
 unfold thrF;rw [if_neg (by simpa using h),if_neg h2]
 rw [List.getLast?_eq_getElem?,List.getElem?_eq_getElem hk]
 simp only [if_neg h3]
structure ThI (xs:List Rg) (at_ n:Int) (k:Nat) (acc:List Rg) (v:Value) (p:Part):Prop where
 le:k≤xs.length
 row:Row 143 2 v acc.length (rgs acc) p
 len:acc.length≤2*k
 eq:thrL at_ n [] xs=thrL at_ n acc (xs.drop k)
theorem ThI.next {xs:List Rg} {at_ n:Int} {k:Nat} {acc:List Rg} {v v':Value} {p p':Part} (h:ThI xs at_ n k acc v p) (hk:k<xs.length)
  (hr:Row 143 2 v' (addF (addF acc xs[k].lo (min xs[k].hi at_)) (max xs[k].lo at_+n) (xs[k].hi+n)).length (rgs (addF (addF acc xs[k].lo (min xs[k].hi at_)) (max xs[k].lo at_+n) (xs[k].hi+n))) p'):
  ThI xs at_ n (k+1) (addF (addF acc xs[k].lo (min xs[k].hi at_)) (max xs[k].lo at_+n) (xs[k].hi+n)) v' p':=by
 refine ⟨hk,hr,?_,?_⟩
 ·have h1:=Vy (addF acc xs[k].lo (min xs[k].hi at_)) (max xs[k].lo at_+n) (xs[k].hi+n)
  have h2:=Vy acc xs[k].lo (min xs[k].hi at_)
  have:=h.len
  omega
 ·rw [h.eq,List.drop_eq_getElem_cons hk];rfl
theorem ThI.done {xs:List Rg} {at_ n:Int} {k:Nat} {acc:List Rg} {v:Value} {p:Part} (h:ThI xs at_ n k acc v p) (hk: ¬k<xs.length):thrL at_ n [] xs=acc:=by
 rw [h.eq,List.drop_eq_nil_of_le (by omega)];rfl
end Go.Proofs.YthkkklphanidjaaGreatDoor
namespace Go.GW
open Go
theorem Vj {P:Program} {l:Fr} {Ps:List Part} {As:List Fact} {d:Option Tmp} {ty:TypeId} {pos:String} {aft:Array Edge} {g:Option (Nat×Bool)} {t t2:TypeId} {x y:Operand} {k:IntKind} {a b c:Int} (hx:evs l x=some (.int k a)) (hy:evs l y=some (.int k b)) (hw:bits .and k a b=c):QR P l Ps As ⟨d, .binOp .and t x y t2,ty,pos,aft,g⟩ (.int k c):=fun Z w ρ hs hρ=>by
 subst hw;simp [execOp,hρ _ _ hx,hρ _ _ hy,go_sem]
theorem i32_and65535 (n:Int):bits .and .i32 n 65535=n % 65536:=by
 have h127:(BitVec.ofInt 32 65535).toNat=2 ^ 16-1:=by decide
 have key:(BitVec.ofInt 32 n &&& BitVec.ofInt 32 65535).toNat=(n % ((2 ^ 32:Nat):Int)).toNat % 2 ^ 16:=by
  rw [BitVec.toNat_and,BitVec.toNat_ofInt,h127,Nat.and_two_pow_sub_one_eq_mod]
 show IntKind.i32.wrap ((BitVec.ofInt 32 n &&& BitVec.ofInt 32 65535).toNat:Nat)=n % 65536
 rw [key,IntKind.wrap_i32]
 omega
theorem Zk {P:Program} {l:Fr} {Ps:List Part} {As:List Fact} {d:Option Tmp} {ty:TypeId} {pos:String} {aft:Array Edge} {g:Option (Nat×Bool)} {T E:TypeId} {x y:Operand} {cs vs:List Value} {len:Nat} {i:Int} {de:TypeDesc} {z:Option Value} {sz by_:Nat} (hu:P.underlying T=some (.array len E)) (he:P.underlying E=some de) (hd:agg? de=true) (ht:ti P E=some (z,sz,by_))
  (hx:evs l x=some (.agg cs.toArray)) (hy:evs l y=some (.int .i64 i)) (h0:0≤i) (h1:i<len) (hv:(cs.drop (i.toNat* sz)).take sz=vs):QR P l Ps As ⟨d, .index T x y,ty,pos,aft,g⟩ (.agg vs.toArray):=fun Z w ρ hs hρ=>by
 have h2:=Xa (P:=P) (w:=w) (cs:=cs) (o:=i.toNat* sz) he hd ht hv
 simp only [execOp,hρ _ _ hx,hρ _ _ hy,Instr.index,asIntOf,Sem.run_bind,Sem.run_pure,run_underlying hu,Result.andThen_ok,h0,h1,and_self,if_true,KU ht,h2]
end Go.GW
namespace Go.Proofs.YthkkklphanidjaaGreatDoor
open Go Go.GW
def barL:List (Int×Int):= [(0x00,0x08),(0x0b,0x1f),(0x7f,0x9f),(0xfdd0,0xfdef),(0xfeff,0xfeff)]
def barC:List Value:= [.int .i32 0x00, .int .i32 0x08, .int .i32 0x0b, .int .i32 0x1f, .int .i32 0x7f, .int .i32 0x9f, .int .i32 0xfdd0, .int .i32 0xfdef, .int .i32 0xfeff, .int .i32 0xfeff]
abbrev barF:Fact:=FzA 1 0 barC
theorem Ja5: ∀k (h:k<barL.length),(barC.drop ((k:Int).toNat* 2)).take 2= [.int .i32 barL[k].1, .int .i32 barL[k].2] :=by
 intro k h
 match k,h with
 | 0,_=>rfl
 | 1,_=>rfl
 | 2,_=>rfl
 | 3,_=>rfl
 | 4,_=>rfl
def letF (c:Int):Bool:=(barL.all fun b=> !(decide (b.1≤c) && decide (c≤b.2))) && decide (c % 65536<65534)
def fffd:ByteArray:=⟨#[0xEF,0xBF,0xBD]⟩
def prefF (s t:ByteArray):Bool:=decide (t.size≤s.size) && (s.extract 0 t.size==t)
def begF (s:ByteArray) (p:Nat) (c:Int):Bool:=decide (c≠65533) || prefF (s.extract p s.size) fffd
theorem decode_pos (s:ByteArray) (p:Nat):0<(Utf8.decode s p).2:=by
 unfold Utf8.decode
 simp only
 repeat' split
 all_goals simp
theorem decode_leP {s:ByteArray} {p:Nat} (h:p<s.size):p+(Utf8.decode s p).2≤s.size:=by
 unfold Utf8.decode
 simp only
 repeat' split
 all_goals simp_all
 all_goals omega
def utAt (s:ByteArray) (p k:Nat):Int×Int×Int:=
 if h:p<s.size then
  let c:=Utf8.decode s p
  if begF s p c.1=false then (0,p,10)
  else if letF c.1=false then (0,p,11)
  else utAt s (p+c.2) (k+1)
 else (k,0,0)
 termination_by s.size-p
 decreasing_by
  have:=decode_pos s p
  omega
def utF (s:ByteArray):Int×Int×Int:=utAt s 0 0
theorem utAt_end {s:ByteArray} {p k:Nat} (h: ¬p<s.size):utAt s p k=((k:Int),0,0):=by unfold utAt;rw [dif_neg h]
theorem utAt_utf8 {s:ByteArray} {p k:Nat} (h:p<s.size) (h1:begF s p (Utf8.decode s p).1=false):utAt s p k=((0:Int),(p:Int),10):=by unfold utAt;rw [dif_pos h,if_pos h1]
theorem utAt_rune {s:ByteArray} {p k:Nat} (h:p<s.size) (h1: ¬begF s p (Utf8.decode s p).1=false) (h2:letF (Utf8.decode s p).1=false):utAt s p k=((0:Int),(p:Int),11):=by unfold utAt;rw [dif_pos h,if_neg h1,if_pos h2]
theorem utAt_next {s:ByteArray} {p k:Nat} (h:p<s.size) (h1: ¬begF s p (Utf8.decode s p).1=false) (h2: ¬letF (Utf8.decode s p).1=false):utAt s p k=utAt s (p+(Utf8.decode s p).2) (k+1):=by
 conv=>lhs;unfold utAt
 rw [dif_pos h,if_neg h1,if_neg h2]
open Go Go.GW Go.ChangeShapes Go.WideShapes Go.ChangeAt Go.RowKit
theorem gBars : Tryz.prog.globalNamed "redraft/utext.bars" = some 1 := by kernel_rfl
theorem gBarsT:(Tryz.prog.globals[1]?).map (·.type)=some 186:=by kernel_rfl
theorem cells186:Tryz.prog.cellsOf 186=10:=by kernel_rfl
theorem cells185:Tryz.prog.cellsOf 185=2:=by kernel_rfl
theorem cells21:Tryz.prog.cellsOf 21=1:=by kernel_rfl
section
variable {H:Type} {enc:TypeId×Value→H} {w:World} {base:Nat} {sp:Nat→Bool} {held:Bool} {fuel:Nat}
theorem Jab {cs:List Value} {x:DataW H×List MemPlace} {lo hi:Int} (h:DataW.trod enc Tryz.prog w base sp held fuel 185 cs=some x) (hx:x.1= .agg [.lit (.int .i32 lo), .lit (.int .i32 hi)]):cs= [.int .i32 lo, .int .i32 hi] :=by
 obtain ⟨y0,y1,n,rfl,hl,h0,h1⟩:=trod_struct2 Un185 h
 rw [cells185] at hl
 obtain ⟨n0,e0,rfl,_⟩:=DataW.trod_int Un21 h0
 obtain ⟨n1,e1,rfl,_⟩:=DataW.trod_int Un21 h1
 simp only [DataW.agg.injEq,List.cons.injEq,DataW.lit.injEq,Lit.int.injEq,true_and,and_true] at hx
 obtain ⟨rfl,rfl⟩:=hx
 rw [cells21] at e0 e1
 clear h h0 h1
 rcases cs with _ | ⟨a,_ | ⟨b,_ | ⟨c,cs⟩⟩⟩
 ·cases hl
 ·cases hl
 ·have a0: [a] = [Value.int .i32 n0] :=e0
  have a1: [b] = [Value.int .i32 n1] :=e1
  rw [List.singleton_inj.1 a0,List.singleton_inj.1 a1]
 ·simp at hl
theorem bars_cells {cs:List Value} {p:List MemPlace} (h:DataW.trod enc Tryz.prog w base sp held fuel 186 cs=some (Rows.laid_redraft_utext_bars,p)):cs=barC:=by
 cases fuel with
 | zero=>simp [DataW.trod] at h
 | succ fuel=>
  simp only [DataW.trod,Un186,cells186,cells185] at h
  split at h
  ·rename_i hl
   obtain ⟨xs,hm,hx⟩:=Option.map_eq_some_iff.1 h
   have hxs:xs.map (·.1)= [.agg [.lit (.int .i32 0), .lit (.int .i32 8)], .agg [.lit (.int .i32 11), .lit (.int .i32 31)], .agg [.lit (.int .i32 127), .lit (.int .i32 159)], .agg [.lit (.int .i32 64976), .lit (.int .i32 65007)], .agg [.lit (.int .i32 65279), .lit (.int .i32 65279)]] :=by
    have:=congrArg Prod.fst hx
    simpa [Rows.laid_redraft_utext_bars] using this
   have key: ∀(i:Nat) (hi:i<5) (lo hi':Int),(xs.map (·.1))[i]? =some (.agg [.lit (.int .i32 lo), .lit (.int .i32 hi')])→(cs.drop (i*2)).take 2= [.int .i32 lo, .int .i32 hi'] :=by
    intro i hi lo hi' he
    obtain ⟨b,hb,hf⟩:=Lib.mapM_at hm i i (by simp [hi])
    rw [List.getElem?_map,hb] at he
    exact Jab hf (Option.some.inj he)
   have k0:=key 0 (by decide) 0 8 (by rw [hxs];rfl)
   have k1:=key 1 (by decide) 11 31 (by rw [hxs];rfl)
   have k2:=key 2 (by decide) 127 159 (by rw [hxs];rfl)
   have k3:=key 3 (by decide) 64976 65007 (by rw [hxs];rfl)
   have k4:=key 4 (by decide) 65279 65279 (by rw [hxs];rfl)
   clear h hm hx hxs key
   revert k0 k1 k2 k3 k4
   match cs,hl with
   | [c0,c1,c2,c3,c4,c5,c6,c7,c8,c9],_=>
    intro k0 k1 k2 k3 k4
    simp at k0 k1 k2 k3 k4
    obtain ⟨rfl,rfl⟩:=k0
    obtain ⟨rfl,rfl⟩:=k1
    obtain ⟨rfl,rfl⟩:=k2
    obtain ⟨rfl,rfl⟩:=k3
    obtain ⟨rfl,rfl⟩:=k4
    rfl
  ·cases h
end
theorem EF {W:World} {g:Nat} {n:String} {cs:Array Value} (hg:Tryz.prog.globalNamed n=some g) (hvar:W.var? Tryz.prog n=some cs) {C:List Value} (hc:cs.toList=C) {v0:Value} (hC:C[0]? =some v0):CellsAt W g 0 C∧g<W.heap.size:=by
 have hcell: ∀j v,C[j]? =some v→W.cell? ⟨g,j,none⟩=some v:=fun j v hj=>by
  have h1:=World.var?_cell hg hvar j
  rw [h1]
  rw [←hc] at hj
  simpa using hj
 have h0:=hcell 0 _ hC
 unfold World.cell? at h0
 cases hb:W.heap[g]? with
 | none=>rw [hb] at h0;cases h0
 | some o=>
  refine ⟨?_,(Array.getElem?_eq_some_iff.1 hb).1⟩
  cases o with
  | cells c T fr=>
   refine ⟨c,T,fr,hb,fun j v hj=> ?_⟩
   have:=hcell j v hj
   unfold World.cell? at this
   rw [hb] at this
   simpa using this
  | _=>rw [hb] at h0;cases h0
theorem gEt : Tryz.prog.globalNamed "errors.errorType" = some 0 := by kernel_rfl
theorem eRt : (Tryz.prog.cutTypes.find? (·.1 == "internal/reflectlite.rtype")).map (·.2) = some 207 := by kernel_rfl
theorem eSize:Tryz.prog.types.size=276:=by kernel_rfl
theorem eRow:((List.range 276).filter fun t=>Tryz.prog.rowNamed t [101,114,114,111,114])= [29] :=by kernel_rfl
theorem ZZ {W : World} (h : laidMetH Tryz.prog [("errors.errorType", Rows.laid_errors_errorType), ("redraft/utext.bars", Rows.laid_redraft_utext_bars)] W) : (CellsAt W 1 0 barC ∧ 1 < W.heap.size) ∧ CellsAt W 0 0 [.iface 207 (.agg #[.pointer (some ⟨2, 29, none⟩)])] ∧ 0 < W.heap.size := by
 have h' : laidMet Tryz.prog [("redraft/utext.bars", Rows.laid_redraft_utext_bars)] W ∧ handlesMet Tryz.prog [("errors.errorType", Rows.laid_errors_errorType)] W := h
 obtain ⟨ps,⟨g',t',cs,fuel,p,q,hg',ht',hvar,hd,_⟩,_⟩:=h'.1
 obtain rfl:=Option.some.inj (gBars.symm.trans hg')
 obtain rfl:=Option.some.inj (gBarsT.symm.trans ht')
 obtain ⟨name,u,ty,e1,e2,e3,e4,e5⟩:=h'.2 _ (List.mem_singleton.2 rfl)
 have en:name= [101,114,114,111,114] :=(Option.some.inj e1).symm
 subst en
 obtain rfl:=Option.some.inj (eRt.symm.trans e2)
 have hm:ty∈(List.range 276).filter fun t=>Tryz.prog.rowNamed t [101,114,114,111,114] :=List.mem_filter.2 ⟨List.mem_range.2 (by rw [←eSize];exact e3),e4⟩
 rw [eRow] at hm
 obtain rfl:=List.mem_singleton.1 hm
 have hh:typeHandle Tryz.prog 29= .pointer (some ⟨2,29,none⟩):=by kernel_rfl
 rw [hh] at e5
 exact ⟨EF gBars hvar (bars_cells hd) O,EF gEt e5 O O⟩
theorem Z6 {W W':World} {Z':Nat→Prop} (h:(NearF W (fun b=>b<W.heap.size)).holds Z' W') (may:MemPlace→Prop):W.keptBut W' may:=by
 refine ⟨h.2.1,h.2.2.2,fun i hi=> ?_⟩
 rw [(h.1 i hi).2]
 cases W.heap[i]? with
 | none=>rfl
 | some o=>cases o<;>first | rfl | exact ⟨rfl,rfl,rfl,fun _ _=>rfl⟩ | exact .inr ⟨rfl,rfl⟩
theorem Ja9 {W:World} {As:List Fact} (h: ∀A∈As,A.holds (fun b=>b<W.heap.size) W):St (fun b=>b<W.heap.size) W [] (As++ [NearF W (fun b=>b<W.heap.size)]):=
 ⟨fun _ h=>h,by simp,by simp,fun A hA=>by
  rcases List.mem_append.1 hA with hA | hA
  ·exact h A hA
  ·rw [List.mem_singleton.1 hA];exact ⟨fun b hb=>⟨hb,rfl⟩,rfl,rfl,rfl⟩⟩
theorem post_plain {H:Type} {enc:TypeId×Value→H} {P:Program} {f:Func} {s:ChangeSpec} {apart fresh handsOn:Bool} {W W':World} {args:Array Value} {v:Value} {ds gs:List (DataW H)} {before pa pv:List MemPlace}
  (hW:DataW.Whole enc P f.params.toList s.vars apart W args.toList ds gs before)
  (hres: ∀(b:Nat) (sp:Nat→Bool) (hd:Bool),DataW.TrodAll enc P W' b sp hd f.resultTypes.toList (v.resultList f.resultTypes.size) (s.fn H (ds++gs)).results [])
  (hargs: ∀sp:Nat→Bool,(∀p∈before,sp p.block=true)→DataW.TrodAll enc P W' 0 sp true f.params.toList args.toList (s.fn H (ds++gs)).args pa)
  (hvars: ∀sp:Nat→Bool,(∀p∈before,sp p.block=true)→DataW.TrodVars enc P W' sp s.vars (s.fn H (ds++gs)).vars pv)
  (hps:before=pa++pv) (hk:W.keptBut W' (· ∈before)):s.post enc P f apart fresh handsOn false W args v W':=by
 have hold: ∀p∈before,(fun b=>decide (b<W.heap.size)) p.block=true:=fun p hp=>by simpa using hW.lt p hp
 refine ⟨ds,gs,before,[],pa,pv,hW,hres _ _ _,hargs _ hold,hvars _ hold,World.keptBut_mono (fun p hp=>⟨hp,?_⟩) hk,fun h=>by cases h⟩
 rw [hps,List.mem_append] at hp
 exact Or.inr hp
end Go.Proofs.YthkkklphanidjaaGreatDoor
set_option maxRecDepth 100000
namespace Go.Proofs.YthkkklphanidjaaGreatDoor
open Go Go.GW
theorem kc3:Tryz.prog.cellsOf 3=1:=by kernel_rfl
theorem kc4:Tryz.prog.cellsOf 4=1:=by kernel_rfl
theorem kc9:Tryz.prog.cellsOf 9=1:=by kernel_rfl
theorem kc23:Tryz.prog.cellsOf 23=3:=by kernel_rfl
theorem kc24:Tryz.prog.cellsOf 24=1:=by kernel_rfl
theorem kc26:Tryz.prog.cellsOf 26=5:=by kernel_rfl
theorem kc34:Tryz.prog.cellsOf 34=2:=by kernel_rfl
theorem kc35:Tryz.prog.cellsOf 35=1:=by kernel_rfl
theorem kc37:Tryz.prog.cellsOf 37=3:=by kernel_rfl
theorem kc38:Tryz.prog.cellsOf 38=1:=by kernel_rfl
theorem kc40:Tryz.prog.cellsOf 40=9:=by kernel_rfl
theorem kc42:Tryz.prog.cellsOf 42=16:=by kernel_rfl
theorem kc143:Tryz.prog.cellsOf 143=2:=by kernel_rfl
theorem kb143:Tryz.prog.bytesOf 143=16:=by kernel_rfl
theorem kb42:Tryz.prog.bytesOf 42=160:=by kernel_rfl
section
variable {H:Type} {enc:TypeId×Value→H} {w:World} {base:Nat} {sp:Nat→Bool} {held:Bool}
theorem rg_elem (m:Nat) (cs:List Value) (x:DataW H×List MemPlace) (h:DataW.trod enc Tryz.prog w 0 sp held m 143 cs=some x) (hW:Wt Tryz.prog 143 x.1): ∃u:Rg,rgD.rep (fun b=>b<w.heap.size) w u cs∧True:=by
 obtain ⟨hl,n,hf⟩:=rd_struct Un143 h hW
 rw [kc143] at hl
 match cs,hl with
 | [a0,a1],_=>
  obtain ⟨y0,y0h,y0w⟩:=hf 0 _ rfl
  replace y0h:DataW.trod enc Tryz.prog w 0 sp held _ 3 (List.take (Tryz.prog.cellsOf 3) (List.drop 0 _))=some y0:=y0h
  rw [kc3] at y0h
  replace y0h:DataW.trod enc Tryz.prog w 0 sp held _ 3 [a0] =some y0:=y0h
  obtain ⟨y1,y1h,y1w⟩:=hf 1 _ rfl
  replace y1h:DataW.trod enc Tryz.prog w 0 sp held _ 3 (List.take (Tryz.prog.cellsOf 3) (List.drop 1 _))=some y1:=y1h
  rw [kc3] at y1h
  replace y1h:DataW.trod enc Tryz.prog w 0 sp held _ 3 [a1] =some y1:=y1h
  obtain ⟨z0,rfl⟩:=rd_int Un3 y0h
  obtain ⟨z1,rfl⟩:=rd_int Un3 y1h
  exact ⟨⟨z0,z1⟩,O,trivial⟩
theorem so_elem (m:Nat) (cs:List Value) (x:DataW H×List MemPlace) (h:DataW.trod enc Tryz.prog w 0 sp held m 42 cs=some x) (hW:Wt Tryz.prog 42 x.1): ∃u:SOp,soD.rep (fun b=>b<w.heap.size) w u cs∧SoOk u:=by
 obtain ⟨hl,n,hf⟩:=rd_struct Un42 h hW
 rw [kc42] at hl
 match cs,hl with
 | [a0,a1,a2,a3,a4,a5,a6,a7,a8,a9,a10,a11,a12,a13,a14,a15],_=>
  obtain ⟨y0,y0h,y0w⟩:=hf 0 _ rfl
  replace y0h:DataW.trod enc Tryz.prog w 0 sp held _ 3 (List.take (Tryz.prog.cellsOf 3) (List.drop 0 _))=some y0:=y0h
  rw [kc3] at y0h
  replace y0h:DataW.trod enc Tryz.prog w 0 sp held _ 3 [a0] =some y0:=y0h
  obtain ⟨y1,y1h,y1w⟩:=hf 1 _ rfl
  replace y1h:DataW.trod enc Tryz.prog w 0 sp held _ 3 (List.take (Tryz.prog.cellsOf 3) (List.drop 1 _))=some y1:=y1h
  rw [kc3] at y1h
  replace y1h:DataW.trod enc Tryz.prog w 0 sp held _ 3 [a1] =some y1:=y1h
  obtain ⟨y2,y2h,y2w⟩:=hf 2 _ rfl
  replace y2h:DataW.trod enc Tryz.prog w 0 sp held _ 3 (List.take (Tryz.prog.cellsOf 3) (List.drop 2 _))=some y2:=y2h
  rw [kc3] at y2h
  replace y2h:DataW.trod enc Tryz.prog w 0 sp held _ 3 [a2] =some y2:=y2h
  obtain ⟨y3,y3h,y3w⟩:=hf 3 _ rfl
  replace y3h:DataW.trod enc Tryz.prog w 0 sp held _ 9 (List.take (Tryz.prog.cellsOf 9) (List.drop 3 _))=some y3:=y3h
  rw [kc9] at y3h
  replace y3h:DataW.trod enc Tryz.prog w 0 sp held _ 9 [a3] =some y3:=y3h
  obtain ⟨y4,y4h,y4w⟩:=hf 4 _ rfl
  replace y4h:DataW.trod enc Tryz.prog w 0 sp held _ 34 (List.take (Tryz.prog.cellsOf 34) (List.drop 4 _))=some y4:=y4h
  rw [kc34] at y4h
  replace y4h:DataW.trod enc Tryz.prog w 0 sp held _ 34 [a4,a5] =some y4:=y4h
  obtain ⟨y5,y5h,y5w⟩:=hf 5 _ rfl
  replace y5h:DataW.trod enc Tryz.prog w 0 sp held _ 4 (List.take (Tryz.prog.cellsOf 4) (List.drop 6 _))=some y5:=y5h
  rw [kc4] at y5h
  replace y5h:DataW.trod enc Tryz.prog w 0 sp held _ 4 [a6] =some y5:=y5h
  obtain ⟨y6,y6h,y6w⟩:=hf 6 _ rfl
  replace y6h:DataW.trod enc Tryz.prog w 0 sp held _ 40 (List.take (Tryz.prog.cellsOf 40) (List.drop 7 _))=some y6:=y6h
  rw [kc40] at y6h
  replace y6h:DataW.trod enc Tryz.prog w 0 sp held _ 40 [a7,a8,a9,a10,a11,a12,a13,a14,a15] =some y6:=y6h
  obtain ⟨_,n2,hf2⟩:=rd_struct Un40 y6h y6w
  obtain ⟨q0,q0h,q0w⟩:=hf2 0 _ rfl
  replace q0h:DataW.trod enc Tryz.prog w 0 sp held _ 37 (List.take (Tryz.prog.cellsOf 37) (List.drop 0 _))=some q0:=q0h
  rw [kc37] at q0h
  replace q0h:DataW.trod enc Tryz.prog w 0 sp held _ 37 [a7,a8,a9] =some q0:=q0h
  obtain ⟨q1,q1h,q1w⟩:=hf2 1 _ rfl
  replace q1h:DataW.trod enc Tryz.prog w 0 sp held _ 3 (List.take (Tryz.prog.cellsOf 3) (List.drop 3 _))=some q1:=q1h
  rw [kc3] at q1h
  replace q1h:DataW.trod enc Tryz.prog w 0 sp held _ 3 [a10] =some q1:=q1h
  obtain ⟨q2,q2h,q2w⟩:=hf2 2 _ rfl
  replace q2h:DataW.trod enc Tryz.prog w 0 sp held _ 9 (List.take (Tryz.prog.cellsOf 9) (List.drop 4 _))=some q2:=q2h
  rw [kc9] at q2h
  replace q2h:DataW.trod enc Tryz.prog w 0 sp held _ 9 [a11] =some q2:=q2h
  obtain ⟨q3,q3h,q3w⟩:=hf2 3 _ rfl
  replace q3h:DataW.trod enc Tryz.prog w 0 sp held _ 38 (List.take (Tryz.prog.cellsOf 38) (List.drop 5 _))=some q3:=q3h
  rw [kc38] at q3h
  replace q3h:DataW.trod enc Tryz.prog w 0 sp held _ 38 [a12] =some q3:=q3h
  obtain ⟨q4,q4h,q4w⟩:=hf2 4 _ rfl
  replace q4h:DataW.trod enc Tryz.prog w 0 sp held _ 34 (List.take (Tryz.prog.cellsOf 34) (List.drop 6 _))=some q4:=q4h
  rw [kc34] at q4h
  replace q4h:DataW.trod enc Tryz.prog w 0 sp held _ 34 [a13,a14] =some q4:=q4h
  obtain ⟨q5,q5h,q5w⟩:=hf2 5 _ rfl
  replace q5h:DataW.trod enc Tryz.prog w 0 sp held _ 4 (List.take (Tryz.prog.cellsOf 4) (List.drop 8 _))=some q5:=q5h
  rw [kc4] at q5h
  replace q5h:DataW.trod enc Tryz.prog w 0 sp held _ 4 [a15] =some q5:=q5h
  obtain ⟨_,n3,hf3⟩:=rd_struct Un37 q0h q0w
  obtain ⟨r0,r0h,r0w⟩:=hf3 0 _ rfl
  replace r0h:DataW.trod enc Tryz.prog w 0 sp held _ 34 (List.take (Tryz.prog.cellsOf 34) (List.drop 0 _))=some r0:=r0h
  rw [kc34] at r0h
  replace r0h:DataW.trod enc Tryz.prog w 0 sp held _ 34 [a7,a8] =some r0:=r0h
  obtain ⟨r1,r1h,r1w⟩:=hf3 1 _ rfl
  replace r1h:DataW.trod enc Tryz.prog w 0 sp held _ 35 (List.take (Tryz.prog.cellsOf 35) (List.drop 2 _))=some r1:=r1h
  rw [kc35] at r1h
  replace r1h:DataW.trod enc Tryz.prog w 0 sp held _ 35 [a9] =some r1:=r1h
  obtain ⟨z0,rfl⟩:=rd_int Un3 y0h
  obtain ⟨z1,rfl⟩:=rd_int Un3 y1h
  obtain ⟨z2,rfl⟩:=rd_int Un3 y2h
  obtain ⟨s3,rfl,hs3⟩:=rd_str Un9 y3h y3w
  obtain ⟨⟨z4,rfl⟩,z5,rfl⟩:=rd_arr2 Un34 kc3 Un3 y4h
  obtain ⟨b6,rfl⟩:=rd_bool Un4 y5h
  obtain ⟨⟨z7,rfl⟩,z8,rfl⟩:=rd_arr2 Un34 kc3 Un3 r0h
  obtain ⟨z9,rfl⟩:=rd_int Un35 r1h
  obtain ⟨z10,rfl⟩:=rd_int Un3 q1h
  obtain ⟨s11,rfl,hs11⟩:=rd_str Un9 q2h q2w
  obtain ⟨Av,lv,cv,rfl⟩:=rd_sl Un38 q3h
  obtain ⟨⟨z13,rfl⟩,z14,rfl⟩:=rd_arr2 Un34 kc3 Un3 q4h
  obtain ⟨b15,rfl⟩:=rd_bool Un4 q5h
  obtain ⟨rs,rfl,hR,_,hb⟩:=rd_sliceG (e:=rgD) (B:=fun _=>True) Un38 kc143 (by decide) (fun m cs x hx hw=>rg_elem m cs x hx hw) q3h q3w
  rw [kb143] at hb
  have hrb:reachBytes=140737488351232:=rfl
  exact ⟨⟨z0,z1,z2,s3,z4,z5,b6,⟨z7,z8,z9,z10,s11,rs,z13,z14,b15⟩⟩,⟨Av,cv,rfl,hR⟩,⟨by show s3.size≤_;omega,by show s11.size≤_;omega,by show rs.length≤_;omega⟩⟩
theorem script_arg {r:Reach} {b0:Nat} {W0:World} {v:Value} {d:DataW H} {p:List MemPlace} (hval:Value.okWide Tryz.prog W0 r b0 26 v) (h:DataW.Trod enc Tryz.prog w 0 sp held 26 v d p) (hW:Wt Tryz.prog 26 d):
  ∃(u cl ce op:Int) (B1:Option Addr) (cb:Nat) (ops:List SOp),v= .agg #[.int .i64 u, .int .i64 cl, .int .i64 ce, .int .i64 op, .slice B1 ops.length cb] ∧(RdF soD B1 cb ops).holds (fun b=>b<w.heap.size) w∧(∀s∈ops,SoOk s)∧ops.length≤140737488355328:=by
 obtain ⟨n,hn⟩:=h
 have hv: ∃cs,v= .agg cs:=by
  unfold Value.okWide at hval
  rw [Un26] at hval
  obtain ⟨cs,rfl,_⟩:=hval
  exact ⟨cs,O⟩
 obtain ⟨cs,rfl⟩:=hv
 obtain ⟨hl,m,hf⟩:=rd_struct Un26 hn hW
 rw [kc26] at hl
 have hl2:cs.toList.length=5:=hl
 match hcs:cs.toList,hl2 with
 | [a0,a1,a2,a3,a4],_=>
  have e0:(Value.agg cs).cells.toList= [a0,a1,a2,a3,a4] :=hcs
  rw [e0] at hf
  obtain ⟨y0,y0h,y0w⟩:=hf 0 _ rfl
  replace y0h:DataW.trod enc Tryz.prog w 0 sp held _ 3 (List.take (Tryz.prog.cellsOf 3) (List.drop 0 _))=some y0:=y0h
  rw [kc3] at y0h
  replace y0h:DataW.trod enc Tryz.prog w 0 sp held _ 3 [a0] =some y0:=y0h
  obtain ⟨y1,y1h,y1w⟩:=hf 1 _ rfl
  replace y1h:DataW.trod enc Tryz.prog w 0 sp held _ 23 (List.take (Tryz.prog.cellsOf 23) (List.drop 1 _))=some y1:=y1h
  rw [kc23] at y1h
  replace y1h:DataW.trod enc Tryz.prog w 0 sp held _ 23 [a1,a2,a3] =some y1:=y1h
  obtain ⟨y2,y2h,y2w⟩:=hf 2 _ rfl
  replace y2h:DataW.trod enc Tryz.prog w 0 sp held _ 24 (List.take (Tryz.prog.cellsOf 24) (List.drop 4 _))=some y2:=y2h
  rw [kc24] at y2h
  replace y2h:DataW.trod enc Tryz.prog w 0 sp held _ 24 [a4] =some y2:=y2h
  obtain ⟨_,n2,hf2⟩:=rd_struct Un23 y1h y1w
  obtain ⟨q0,q0h,q0w⟩:=hf2 0 _ rfl
  replace q0h:DataW.trod enc Tryz.prog w 0 sp held _ 3 (List.take (Tryz.prog.cellsOf 3) (List.drop 0 _))=some q0:=q0h
  rw [kc3] at q0h
  replace q0h:DataW.trod enc Tryz.prog w 0 sp held _ 3 [a1] =some q0:=q0h
  obtain ⟨q1,q1h,q1w⟩:=hf2 1 _ rfl
  replace q1h:DataW.trod enc Tryz.prog w 0 sp held _ 3 (List.take (Tryz.prog.cellsOf 3) (List.drop 1 _))=some q1:=q1h
  rw [kc3] at q1h
  replace q1h:DataW.trod enc Tryz.prog w 0 sp held _ 3 [a2] =some q1:=q1h
  obtain ⟨q2,q2h,q2w⟩:=hf2 2 _ rfl
  replace q2h:DataW.trod enc Tryz.prog w 0 sp held _ 3 (List.take (Tryz.prog.cellsOf 3) (List.drop 2 _))=some q2:=q2h
  rw [kc3] at q2h
  replace q2h:DataW.trod enc Tryz.prog w 0 sp held _ 3 [a3] =some q2:=q2h
  obtain ⟨z0,rfl⟩:=rd_int Un3 y0h
  obtain ⟨z1,rfl⟩:=rd_int Un3 q0h
  obtain ⟨z2,rfl⟩:=rd_int Un3 q1h
  obtain ⟨z3,rfl⟩:=rd_int Un3 q2h
  obtain ⟨Av,lv,cv,rfl⟩:=rd_sl Un24 y2h
  obtain ⟨ops,rfl,hR,hB,hb⟩:=rd_sliceG (e:=soD) (B:=SoOk) Un24 kc42 (by decide) (fun m cs x hx hw=>so_elem m cs x hx hw) y2h y2w
  rw [kb42] at hb
  have hrb:reachBytes=140737488351232:=rfl
  refine ⟨z0,z1,z2,z3,Av,cv,ops,?_,hR,hB,by omega⟩
  have:cs= #[.int .i64 z0, .int .i64 z1, .int .i64 z2, .int .i64 z3, .slice Av ops.length cv] :=Array.ext' hcs
  rw [this]
end
theorem ZU {W W':World} {Z':Nat→Prop} (h:(NearF W (fun b=>b<W.heap.size)).holds Z' W') {x:MemPlace} (hx:x.block<W.heap.size):W.sameAt W' x:=by
 have hb:=(h.1 x.block hx).2
 cases x with
 | cell b off=>
  have hb':W'.heap[b]? =W.heap[b]? :=hb
  show W'.cell? ⟨b,off,none⟩=W.cell? ⟨b,off,none⟩
  unfold World.cell?
  simp only [hb']
 | map b=>exact hb
theorem laidOk:laidOutB Tryz.prog=true:=by kernel_rfl
end Go.Proofs.YthkkklphanidjaaGreatDoor
