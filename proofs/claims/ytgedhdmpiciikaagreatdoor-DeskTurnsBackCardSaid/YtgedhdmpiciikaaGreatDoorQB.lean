/- Part of the proof that this claim's law answers true, whatever its arguments. Condition: the laid variables hold what their initialisers lay (the card ties that to the program's text). -/
import Derived.Test.YtgedhdmpiciikaaGreatDoorWLast
import Derived.Laws.StructEq
import Derived.WideLaws
import Derived.Laws.MakeOwn
import Derived.Maps.RangeRun
import Derived.Test.YtgedhdmpiciikaaGreatDoorProg
import Derived.Lib.UnsafeStr
import Derived.Lib.Builder
import Derived.Laws.Externs
import Derived.Defers
import Derived.Recover
import Derived.Test.YtgedhdmpiciikaaGreatDoorQA
set_option linter.unusedVariables false
set_option linter.unusedSimpArgs false
open Go.Proofs.Tryz renaming underlying1→Un1,underlying3→Un3,underlying4→Un4,underlying9→Un9,underlying20→Un20,underlying21→Un21,underlying22→Un22,underlying24→Un24,underlying25→Un25,underlying29→Un29,underlying30→Un30,underlying33→Un33,underlying34→Un34,underlying36→Un36,underlying38→Un38,underlying39→Un39,underlying40→Un40,underlying42→Un42,underlying43→Un43,underlying46→Un46,underlying47→Un47,underlying49→Un49,underlying50→Un50,underlying52→Un52,underlying54→Un54,underlying62→Un62,underlying67→Un67,underlying71→Un71,underlying74→Un74,underlying78→Un78,underlying93→Un93,underlying98→Un98,underlying116→Un116,underlying118→Un118,underlying121→Un121,underlying141→Un141,underlying143→Un143,underlying145→Un145,underlying149→Un149,underlying152→Un152,underlying154→Un154,underlying156→Un156,underlying157→Un157,underlying159→Un159,underlying160→Un160,underlying162→Un162,underlying167→Un167,underlying168→Un168,underlying170→Un170,underlying178→Un178,underlying188→Un188,underlying191→Un191,underlying195→Un195,underlying196→Un196,underlying198→Un198,underlying201→Un201,underlying213→Un213,underlying219→Un219
namespace Go.GW
open Go
open Go.Proofs.YtgedhdmpiciikaaGreatDoorW.PrintLast
inductive OT where
  | nil:OT
  | c (i k:Nat) (r:OT):OT
  | b (x y:OT):OT
def OT.len:OT→Nat
  | .nil=>0
  | .c _ _ r=>r.len+1
  | .b x y=>max x.len y.len
def eagerOk (md:Region.Mode) (ops:Array Oper) (ds:List Nat):OT→Array Bool→Bool
  | .nil,l=>Region.ready md ops l== []
  | .c i 0 r,l=>takeB md ops ds l (l.setIfInBounds i true) i && eagerOk md ops ds r (l.setIfInBounds i true)
  | .c i 1 r,l=>anyB md ops l (l.setIfInBounds i true) i && eagerOk md ops ds r (l.setIfInBounds i true)
  | .c i 2 r,l=>readyB md ops l (l.setIfInBounds i true) i && !ds.contains i && eagerOk md ops ds r (l.setIfInBounds i true)
  | .c i 3 r,l=>readyB md ops l (l.setIfInBounds i true) i && ds.contains i && eagerOk md ops ds r (l.setIfInBounds i true)
  | .c i 4 (.c j _ r),l=>Region.ready md ops l== [i,j] && readyB md ops (l.setIfInBounds i true) ((l.setIfInBounds i true).setIfInBounds j true) j && readyB md ops (l.setIfInBounds j true) ((l.setIfInBounds i true).setIfInBounds j true) i && !ds.contains i && !ds.contains j && eagerOk md ops ds r ((l.setIfInBounds i true).setIfInBounds j true)
  | .b (.c i _ x) (.c j _ y),l=>Region.ready md ops l== [i,j] && !ds.contains i && !ds.contains j && eagerOk md ops ds x (l.setIfInBounds i true) && eagerOk md ops ds y (l.setIfInBounds j true)
  | _,_=>false
def wpE (P:Program) (ops:Array Oper) (Q:Exit→Act→World→Prop) (S:World→Prop):OT→Act→World→Prop
  | .nil,a,w=>Q .normal a w
  | .c i 0 r,a,w=> ∃o v,ops[i]? =some o∧YieldsIf P ops S o v a∧S w∧wpE P ops Q S r (a.put o.dst v) w
  | .c i 1 r,a,w=> ∃o v,ops[i]? =some o∧Yields P ops o v a∧wpE P ops Q S r (a.put o.dst v) w
  | .c i 2 r,a,w=>(∃o,ops[i]? =some o)∧wpOp P ops Q i (fun a' w'=>S w'∧wpE P ops Q S r a' w') a w
  | .c i 3 r,a,w=>(∃o,ops[i]? =some o)∧wpOp P ops Q i (wpE P ops Q S r) a w
  | .c i 4 (.c j _ r),a,w=>wpOp P ops Q i (fun a' w'=>S w'∧wpOp P ops Q j (fun a' w'=>S w'∧wpE P ops Q S r a' w') a' w') a w∧wpOp P ops Q j (fun a' w'=>S w'∧wpOp P ops Q i (fun a' w'=>S w'∧wpE P ops Q S r a' w') a' w') a w
  | .b (.c i _ x) (.c j _ y),a,w=>wpOp P ops Q i (fun a' w'=>S w'∧wpE P ops Q S x a' w') a w∧wpOp P ops Q j (fun a' w'=>S w'∧wpE P ops Q S y a' w') a w
  | _,_,_=>False
section
variable {P:Program} {ops:Array Oper} {Q:Exit→Act→World→Prop} {md:Region.Mode} {S:World→Prop} {ds:List Nat}
theorem VG {l l':Array Bool} {i:Nat} (h:readyB md ops l l' i=true):Region.ready md ops l= [i] ∧l.setIfInBounds i true=l':=by
  simpa [readyB] using h
theorem wpAnyLast_of_E (hQ: ∀c a w,¬Q (.panic c) a w): ∀(order:OT) (l:Array Bool) (fuel:Nat) (a:Act) (w:World),eagerOk md ops ds order l=true→order.len≤fuel→wpE P ops Q S order a w→wpAnyLast P md ops Q S ds fuel l a w
  | .nil,l,fuel,a,w,hok,_,h=>wpAnyLast_done (by simpa [eagerOk] using hok) h fuel
  | .c i k r,l,fuel,a,w,hok,hf,h=>by
    obtain ⟨fuel,rfl⟩: ∃m,fuel=m+1:=⟨fuel-1,by simp only [OT.len] at hf;omega⟩
    simp only [OT.len] at hf
    have hf':r.len≤fuel:=by omega
    match k,hok,h with
    | 0,hok,h=>
      simp only [eagerOk,Bool.and_eq_true] at hok
      obtain ⟨o,v,h1,h2,h3,h4⟩:=h
      exact take_ _ h1 rfl hok.1 (fun c a w h=>absurd h (hQ _ _ _)) h2 h3 rfl (wpAnyLast_of_E hQ r _ fuel _ w hok.2 hf' h4)
    | 1,hok,h=>
      simp only [eagerOk,Bool.and_eq_true] at hok
      obtain ⟨o,v,h1,h2,h4⟩:=h
      exact pure_ _ h1 rfl hok.1 (fun c a w h=>absurd h (hQ _ _ _)) h2 rfl (wpAnyLast_of_E hQ r _ fuel _ w hok.2 hf' h4)
    | 2,hok,h=>
      simp only [eagerOk,Bool.and_eq_true] at hok
      obtain ⟨⟨o,h1⟩,h2⟩:=h
      obtain ⟨⟨hr,hd⟩,hrest⟩:=hok
      have hr':=(VG hr).1
      refine wpAnyLast_ready hr' (by simp) fun j hj=> ?_
      simp only [List.mem_singleton] at hj
      subst hj
      exact wpOp_mono (fun a' w' h=>⟨fun _ _=>h.1,wpAnyLast_of_E hQ r _ fuel a' w' hrest hf' h.2⟩) h2
    | 3,hok,h=>
      simp only [eagerOk,Bool.and_eq_true] at hok
      obtain ⟨⟨o,h1⟩,h2⟩:=h
      obtain ⟨⟨hr,hd⟩,hrest⟩:=hok
      have hr':=(VG hr).1
      refine wpAnyLast_ready hr' (by simp) fun j hj=> ?_
      simp only [List.mem_singleton] at hj
      subst hj
      exact wpOp_mono (fun a' w' h=>⟨fun hn=>absurd (by simpa using hd) hn,wpAnyLast_of_E hQ r _ fuel a' w' hrest hf' h⟩) h2
    | 4,hok,h=>
      match r,hok,hf',h with
      | .nil,hok,_,h=>exact absurd hok (by simp [eagerOk])
      | .b x y,hok,_,h=>exact absurd hok (by simp [eagerOk])
      | .c j m r,hok,hf',h=>
        obtain ⟨fuel,rfl⟩: ∃m,fuel=m+1:=⟨fuel-1,by simp only [OT.len] at hf';omega⟩
        simp only [OT.len] at hf'
        have hf2:r.len≤fuel:=by omega
        simp only [eagerOk,Bool.and_eq_true] at hok
        obtain ⟨⟨⟨⟨⟨hr,hrj⟩,hri⟩,hdi⟩,hdj⟩,hrest⟩:=hok
        have hr':Region.ready md ops l= [i,j] :=by simpa using hr
        have hj':=VG hrj
        have hi':=VG hri
        obtain ⟨g1,g2⟩:=h
        refine wpAnyLast_ready hr' (by simp) fun x hx=> ?_
        have hx':x=i∨x=j:=by simpa using hx
        rcases hx' with rfl | rfl
        · refine wpOp_mono (fun a' w' h=>⟨fun _ _=>h.1,wpAnyLast_ready hj'.1 (by simp) fun y hy=> ?_⟩) g1
          simp only [List.mem_singleton] at hy
          subst hy
          exact wpOp_mono (fun a' w' h=>⟨fun _ _=>h.1,wpAnyLast_of_E hQ r _ fuel a' w' hrest hf2 h.2⟩) h.2
        · refine wpOp_mono (fun a' w' h=>⟨fun _ _=>h.1,wpAnyLast_ready hi'.1 (by simp) fun y hy=> ?_⟩) g2
          simp only [List.mem_singleton] at hy
          subst hy
          refine wpOp_mono (fun a' w' h=>⟨fun _ _=>h.1,?_⟩) h.2
          rw [hi'.2]
          exact wpAnyLast_of_E hQ r _ fuel a' w' hrest hf2 h.2
    | k+5,hok,h=>exact absurd hok (by simp [eagerOk])
  | .b (.c i k x) (.c j m y),l,fuel,a,w,hok,hf,h=>by
    obtain ⟨fuel,rfl⟩: ∃m,fuel=m+1:=⟨fuel-1,by simp only [OT.len] at hf;omega⟩
    simp only [OT.len] at hf
    simp only [eagerOk,Bool.and_eq_true] at hok
    obtain ⟨⟨⟨⟨hr,hdi⟩,hdj⟩,hx⟩,hy⟩:=hok
    have hr':Region.ready md ops l= [i,j] :=by simpa using hr
    obtain ⟨g1,g2⟩:=h
    refine wpAnyLast_ready hr' (by simp) fun z hz=> ?_
    have hz':z=i∨z=j:=by simpa using hz
    rcases hz' with rfl | rfl
    · exact wpOp_mono (fun a' w' h=>⟨fun _ _=>h.1,wpAnyLast_of_E hQ x _ fuel a' w' hx (by omega) h.2⟩) g1
    · exact wpOp_mono (fun a' w' h=>⟨fun _ _=>h.1,wpAnyLast_of_E hQ y _ fuel a' w' hy (by omega) h.2⟩) g2
  | .b .nil y,l,fuel,a,w,hok,hf,h=>by simp [eagerOk] at hok
  | .b (.b _ _) y,l,fuel,a,w,hok,hf,h=>by simp [eagerOk] at hok
  | .b (.c _ _ _) .nil,l,fuel,a,w,hok,hf,h=>by simp [eagerOk] at hok
  | .b (.c _ _ _) (.b _ _),l,fuel,a,w,hok,hf,h=>by simp [eagerOk] at hok
end
section
variable {P:Program} {n:Dm} {R:Post} {l:Fr} {Ps Ps0:List Part} {As As0:List Fact} {ops:Array Oper} {r:OT} {o:Oper} {i:Nat}
def Near (ws:World) (Z0:Nat→Prop) (Ps0:List Part) (w:World):Prop:=
  (∀b,Z0 b→w.heap[b]? =ws.heap[b]?)∧(∀q∈Ps0.flatten,w.heap[q.1]? =some q.2)∧w.os=ws.os∧w.tape=ws.tape∧w.output=ws.output
def NearF (ws:World) (Z0:Nat→Prop):Fact where
  holds Z w:=(∀b,Z0 b→Z b∧w.heap[b]? =ws.heap[b]?)∧w.os=ws.os∧w.tape=ws.tape∧w.output=ws.output
  stable hz hh h1 h2 h3 h:=⟨fun b hb=>⟨hz b (h.1 b hb).1,(hh b (h.1 b hb).1).trans (h.1 b hb).2⟩,h1.trans h.2.1,h2.trans h.2.2.1,h3.trans h.2.2.2⟩
theorem Near.st {ws w:World} {Z0:Nat→Prop} (h0:St Z0 ws Ps0 As0) (h:Near ws Z0 Ps0 w):St Z0 w Ps0 As0:=
  ⟨fun b hb=>by
    have h1:=h0.zlt b hb
    have h2:=h.1 b hb
    rw [Array.getElem?_eq_getElem h1] at h2
    exact (Array.getElem?_eq_some_iff.1 h2).1,fun q hq=>⟨h.2.1 q hq,(h0.own q hq).2⟩,h0.nodup,fun A hA=>A.stable (fun _ hb=>hb) h.1 h.2.2.1 h.2.2.2.1 h.2.2.2.2 (h0.facts A hA)⟩
theorem Near.of {ws w:World} {Z Z0:Nat→Prop} (h:St Z w Ps As) (hP:Ps0.Sublist Ps) (hN:NearF ws Z0∈As):Near ws Z0 Ps0 w:=by
  have h1:=h.facts _ hN
  exact ⟨fun b hb=>(h1.1 b hb).2,fun q hq=>(h.own q ((YN hP).subset hq)).1,h1.2.1,h1.2.2.1,h1.2.2.2⟩
variable {ws:World} {Z0:Nat→Prop}
def WE (P:Program) (n:Dm) (ops:Array Oper) (R:Post) (ws:World) (Z0:Nat→Prop) (Ps0:List Part) (As0:List Fact) (r:OT) (l:Fr) (Ps:List Part) (As:List Fact):Prop:=
  St Z0 ws Ps0 As0→ ∀Z w a,St Z w Ps As→Ag n l a→Near ws Z0 Ps0 w→wpE P ops (liftP n R) (Near ws Z0 Ps0) r a w
theorem JI {id:Nat} (Ps0:List Part) (As0:List Fact) (ds:List Nat) (order:OT) (hm:P.follows .mixedOrders=true) (hR: ∀c l Ps As,¬R (.panic c) l Ps As) (hP:Ps0.Sublist Ps) (hA: ∀A∈As0,A∈As)
    (hok:eagerOk .any ops ds order (Array.replicate ops.size false)=true) (hl:order.len≤ops.size) (h: ∀ws Z0,WE P n ops R ws Z0 Ps0 As0 order l Ps (NearF ws Z0::As)):WC P n (.region id ops true) R l Ps As:=by
  intro Z w a hs ha
  have hs':=hs.drew (w.drawn+1)
  have h0:=(hs'.subParts hP).subFacts hA
  refine wp_region_last (S:=Near { w with drawn:=w.drawn+1 } Z Ps0) (ds:=ds) hm ?_
  refine wpAnyLast_of_E ?_ order _ _ a _ hok hl (h { w with drawn:=w.drawn+1 } Z h0 Z _ a (hs'.addFact (A:=NearF { w with drawn:=w.drawn+1 } Z) ⟨fun b hb=>⟨hb,rfl⟩,rfl,rfl,rfl⟩) ha ⟨fun _ _=>rfl,fun q hq=>(h0.own q hq).1,rfl,rfl,rfl⟩)
  rintro c a w ⟨l,Z,Ps,As,_,_,h⟩
  exact hR _ _ _ _ h
theorem JO {d:Nat} {v:Value} {op:Op} {ty:TypeId} {pos:String} {aft:Array Edge} (hi:ops[i]? =some ⟨some d,op,ty,pos,aft,none⟩) (hq:QR P l Ps0 As0 ⟨some d,op,ty,pos,aft,none⟩ v) (hd:d<n.sz) (h:WE P n ops R ws Z0 Ps0 As0 r ((d,v)::l) Ps As):
    WE P n ops R ws Z0 Ps0 As0 (.c i 0 r) l Ps As:=fun h0 Z w a hs ha hS=>
  ⟨_,v,hi, .inl ⟨rfl,fun w' h'=>hq Z0 w' a.eval (h'.st h0) fun x v hx=>ha.eval hx⟩,hS,h h0 Z w _ hs (ha.put hd v) hS⟩
theorem YZ {d:Nat} {v:Value} {op:Op} {ty:TypeId} {pos:String} {aft:Array Edge} (hi:ops[i]? =some ⟨some d,op,ty,pos,aft,none⟩) (hq:QR P l [] [] ⟨some d,op,ty,pos,aft,none⟩ v) (hd:d<n.sz) (h:WE P n ops R ws Z0 Ps0 As0 r ((d,v)::l) Ps As):
    WE P n ops R ws Z0 Ps0 As0 (.c i 1 r) l Ps As:=fun h0 Z w a hs ha hS=>
  ⟨_,v,hi, .inl ⟨rfl,fun w'=>hq (fun _=>False) w' a.eval ⟨fun _ h=>h.elim,by simp,by simp,by simp⟩ fun x v hx=>ha.eval hx⟩,h h0 Z w _ hs (ha.put hd v) hS⟩
def WF (P:Program) (n:Dm) (ops:Array Oper) (R:Post) (ws:World) (Z0:Nat→Prop) (Ps0:List Part) (r:OT) (l:Fr) (Ps:List Part) (As:List Fact):Prop:=
  ∀Z w a,St Z w Ps As→Ag n l a→wpE P ops (liftP n R) (Near ws Z0 Ps0) r a w
theorem JM (h:R .normal l Ps As):WF P n ops R ws Z0 Ps0 .nil l Ps As:=fun Z w a hs ha=>⟨l,Z,Ps,As,ha,hs,h⟩
theorem YH {d:Nat} {v:Value} {op:Op} {ty:TypeId} {pos:String} {aft:Array Edge} (hi:ops[i]? =some ⟨some d,op,ty,pos,aft,none⟩) (hq:QR P l [] [] ⟨some d,op,ty,pos,aft,none⟩ v) (hd:d<n.sz) (h:WF P n ops R ws Z0 Ps0 r ((d,v)::l) Ps As):
    WF P n ops R ws Z0 Ps0 (.c i 1 r) l Ps As:=fun Z w a hs ha=>
  ⟨_,v,hi, .inl ⟨rfl,fun w'=>hq (fun _=>False) w' a.eval ⟨fun _ h=>h.elim,by simp,by simp,by simp⟩ fun x v hx=>ha.eval hx⟩,h Z w _ hs (ha.put hd v)⟩
theorem J8 (hi:ops[i]? =some o) (hg:o.guard=none) (h:OW P n R l Ps As o (WF P n ops R ws Z0 Ps0 r)):WF P n ops R ws Z0 Ps0 (.c i 3 r) l Ps As:=fun Z w a hs ha=>by
  refine ⟨⟨o,hi⟩,?_⟩
  unfold wpOp
  simp only [hi]
  rw [if_pos (by simp [Region.wanted,hg])]
  exact .inl (Oper.wp_mono (fun a w ⟨l,Z,Ps,As,h1,h2,h3⟩=>h3 Z w a h2 h1) (h Z w a hs ha))
theorem JN (h:WF P n ops R ws Z0 Ps0 r l Ps As):WE P n ops R ws Z0 Ps0 As0 r l Ps As:=fun _ Z w a hs ha _=>h Z w a hs ha
theorem Ki {d j t:Nat} {v:Value} {op:Op} {ty:TypeId} {pos:String} {aft:Array Edge} {b b':Bool} {ot:Oper} (hi:ops[i]? =some ⟨some d,op,ty,pos,aft,some (j,b')⟩) (hj:ops[j]? =some ot) (hdt:ot.dst=some t) (hv:lk l t=some (.bool b)) (hb:b=b')
    (hq:QR P l Ps0 As0 ⟨some d,op,ty,pos,aft,some (j,b')⟩ v) (hd:d<n.sz) (h:WE P n ops R ws Z0 Ps0 As0 r ((d,v)::l) Ps As):
    WE P n ops R ws Z0 Ps0 As0 (.c i 0 r) l Ps As:=fun h0 Z w a hs ha hS=>
  ⟨_,v,hi, .inl ⟨by simp [Region.wanted,YO ha hj hdt hv,hb],fun w' h'=>hq Z0 w' a.eval (h'.st h0) fun x v hx=>ha.eval hx⟩,hS,h h0 Z w _ hs (ha.put hd v) hS⟩
theorem Kr {d j t:Nat} {op:Op} {ty:TypeId} {pos:String} {aft:Array Edge} {b b':Bool} {ot:Oper} (hi:ops[i]? =some ⟨some d,op,ty,pos,aft,some (j,b')⟩) (hj:ops[j]? =some ot) (hdt:ot.dst=some t) (hv:lk l t=some (.bool b)) (hb:b= !b')
    (hd:d<n.sz) (h:WE P n ops R ws Z0 Ps0 As0 r ((d,undef)::l) Ps As):WE P n ops R ws Z0 Ps0 As0 (.c i 0 r) l Ps As:=fun h0 Z w a hs ha hS=>
  ⟨_,undef,hi, .inr ⟨by simp [Region.wanted,YO ha hj hdt hv,hb],rfl⟩,hS,h h0 Z w _ hs (ha.put hd undef) hS⟩
theorem XX {d j t:Nat} {op:Op} {ty:TypeId} {pos:String} {aft:Array Edge} {b b':Bool} {ot:Oper} (hi:ops[i]? =some ⟨some d,op,ty,pos,aft,some (j,b')⟩) (hj:ops[j]? =some ot) (hdt:ot.dst=some t) (hv:lk l t=some (.bool b)) (hb:b= !b')
    (hd:d<n.sz) (h:WE P n ops R ws Z0 Ps0 As0 r ((d,undef)::l) Ps As):WE P n ops R ws Z0 Ps0 As0 (.c i 2 r) l Ps As:=fun h0 Z w a hs ha hS=>by
  refine ⟨⟨_,hi⟩,?_⟩
  unfold wpOp
  simp only [hi]
  rw [if_neg (by simp [Region.wanted,YO ha hj hdt hv,hb])]
  exact ⟨hS,h h0 Z w _ hs (ha.put hd undef) hS⟩
theorem Jz (hi:ops[i]? =some o) (hg:o.guard=none) (h:OW P n R l Ps As o (fun l' Ps' As'=>(Ps0.Sublist Ps'∧NearF ws Z0∈As')∧WE P n ops R ws Z0 Ps0 As0 r l' Ps' As')):WE P n ops R ws Z0 Ps0 As0 (.c i 2 r) l Ps As:=fun h0 Z w a hs ha hS=>by
  refine ⟨⟨o,hi⟩,?_⟩
  unfold wpOp
  simp only [hi]
  rw [if_pos (by simp [Region.wanted,hg])]
  exact .inl (Oper.wp_mono (fun a w ⟨l,Z,Ps,As,h1,h2,h3,h4⟩=>⟨Near.of h2 h3.1 h3.2,h4 h0 Z w a h2 h1 (Near.of h2 h3.1 h3.2)⟩) (h Z w a hs ha))
theorem YK {j t:Nat} {b b':Bool} {ot:Oper} (hi:ops[i]? =some o) (hg:o.guard=some (j,b')) (hj:ops[j]? =some ot) (hdt:ot.dst=some t) (hv:lk l t=some (.bool b)) (hb:b=b')
    (h:OW P n R l Ps As o (fun l' Ps' As'=>(Ps0.Sublist Ps'∧NearF ws Z0∈As')∧WE P n ops R ws Z0 Ps0 As0 r l' Ps' As')):WE P n ops R ws Z0 Ps0 As0 (.c i 2 r) l Ps As:=fun h0 Z w a hs ha hS=>by
  refine ⟨⟨o,hi⟩,?_⟩
  unfold wpOp
  simp only [hi]
  rw [if_pos (by simp [Region.wanted,hg,YO ha hj hdt hv,hb])]
  exact .inl (Oper.wp_mono (fun a w ⟨l,Z,Ps,As,h1,h2,h3,h4⟩=>⟨Near.of h2 h3.1 h3.2,h4 h0 Z w a h2 h1 (Near.of h2 h3.1 h3.2)⟩) (h Z w a hs ha))
theorem wpOp_OW {Kx:Nx} {Kw:Act→World→Prop} {Z:Nat→Prop} {w:World} {a:Act} (hi:ops[i]? =some o) (hg:o.guard=none) (h:OW P n R l Ps As o Kx) (hs:St Z w Ps As) (ha:Ag n l a)
    (hK: ∀l' Z' Ps' As' a' w',Kx l' Ps' As'→St Z' w' Ps' As'→Ag n l' a'→Kw a' w'):wpOp P ops (liftP n R) i Kw a w:=by
  unfold wpOp
  simp only [hi]
  rw [if_pos (by simp [Region.wanted,hg])]
  exact .inl (Oper.wp_mono (fun a w ⟨l,Z,Ps,As,h1,h2,h3⟩=>hK l Z Ps As a w h3 h2 h1) (h Z w a hs ha))
theorem Yd {j k m:Nat} {x y:OT} (h1:WE P n ops R ws Z0 Ps0 As0 (.c i 2 x) l Ps As) (h2:WE P n ops R ws Z0 Ps0 As0 (.c j 2 y) l Ps As):WE P n ops R ws Z0 Ps0 As0 (.b (.c i k x) (.c j m y)) l Ps As:=fun h0 Z w a hs ha hS=>
  ⟨(h1 h0 Z w a hs ha hS).2,(h2 h0 Z w a hs ha hS).2⟩
theorem Ed {j d1 d2 m:Nat} {T1 T2 ty1 ty2:TypeId} {pos1 pos2:String} {aft1 aft2:Array Edge} {z1 z2:Value} {sz1 sz2 by1 by2:Nat} {cs1 cs2:List Value} (hi:ops[i]? =some ⟨some d1, .alloc T1,ty1,pos1,aft1,none⟩) (hj:ops[j]? =some ⟨some d2, .alloc T2,ty2,pos2,aft2,none⟩)
    (ht1:ti P T1=some (some z1,sz1,by1)) (hc1:z1.cells=cs1.toArray) (ht2:ti P T2=some (some z2,sz2,by2)) (hc2:z2.cells=cs2.toArray) (hd1:d1<n.sz) (hd2:d2<n.sz) (hne:d1≠d2) (hP:Ps0.Sublist Ps) (hN:NearF ws Z0∈As)
    (h: ∀b1 b2,WE P n ops R ws Z0 Ps0 As0 r ((d2, .pointer (some ⟨b2,0,none⟩))::(d1, .pointer (some ⟨b1,0,none⟩))::l) ([(b2,JB cs2 T2)] :: [(b1,JB cs1 T1)] ::Ps) As):WE P n ops R ws Z0 Ps0 As0 (.c i 4 (.c j m r)) l Ps As:=fun h0 Z w a hs ha hS=>by
  have hc: ∀p:Part,Ps0.Sublist (p::Ps):=fun p=> .cons p hP
  have hcc: ∀p q:Part,Ps0.Sublist (p::q::Ps):=fun p q=> .cons p (.cons q hP)
  constructor
  · refine wpOp_OW (Kx:=fun l' Ps' As'=> ∃b1,l'=(d1, .pointer (some ⟨b1,0,none⟩))::l∧Ps'= [(b1,JB cs1 T1)] ::Ps∧As'=As) hi rfl (Ju ht1 hc1 hd1 fun b=>⟨b,rfl,rfl,rfl⟩) hs ha ?_
    rintro l' Z' Ps' As' a' w' ⟨b1,rfl,rfl,rfl⟩ hs' ha'
    refine ⟨Near.of hs' (hc _) hN,?_⟩
    refine wpOp_OW (Kx:=fun l' Ps' As''=> ∃b2,l'=(d2, .pointer (some ⟨b2,0,none⟩))::(d1, .pointer (some ⟨b1,0,none⟩))::l∧Ps'= [(b2,JB cs2 T2)] :: [(b1,JB cs1 T1)] ::Ps∧As''=As') hj rfl (Ju ht2 hc2 hd2 fun b=>⟨b,rfl,rfl,rfl⟩) hs' ha' ?_
    rintro l2 Z2 Ps2 As2 a2 w2 ⟨b2,rfl,rfl,rfl⟩ hs2 ha2
    exact ⟨Near.of hs2 (hcc _ _) hN,h b1 b2 h0 Z2 w2 a2 hs2 ha2 (Near.of hs2 (hcc _ _) hN)⟩
  · refine wpOp_OW (Kx:=fun l' Ps' As'=> ∃b2,l'=(d2, .pointer (some ⟨b2,0,none⟩))::l∧Ps'= [(b2,JB cs2 T2)] ::Ps∧As'=As) hj rfl (Ju ht2 hc2 hd2 fun b=>⟨b,rfl,rfl,rfl⟩) hs ha ?_
    rintro l' Z' Ps' As' a' w' ⟨b2,rfl,rfl,rfl⟩ hs' ha'
    refine ⟨Near.of hs' (hc _) hN,?_⟩
    refine wpOp_OW (Kx:=fun l' Ps' As''=> ∃b1,l'=(d1, .pointer (some ⟨b1,0,none⟩))::(d2, .pointer (some ⟨b2,0,none⟩))::l∧Ps'= [(b1,JB cs1 T1)] :: [(b2,JB cs2 T2)] ::Ps∧As''=As') hi rfl (Ju ht1 hc1 hd1 fun b=>⟨b,rfl,rfl,rfl⟩) hs' ha' ?_
    rintro l2 Z2 Ps2 As2 a2 w2 ⟨b1,rfl,rfl,rfl⟩ hs2 ha2
    have hs3:St Z2 w2 ([(b2,JB cs2 T2)] :: [(b1,JB cs1 T1)] ::Ps) As2:=hs2.permParts (by simp only [List.flatten_cons,List.cons_append,List.nil_append];exact List.Perm.swap _ _ _)
    have ha3:Ag n ((d2, .pointer (some ⟨b2,0,none⟩))::(d1, .pointer (some ⟨b1,0,none⟩))::l) a2:=by
      refine ⟨ha2.size,ha2.defers,fun t v ht=>ha2.get t v ?_⟩
      rw [Qz,Qz] at ht ⊢
      by_cases e1:t=d1
      · subst e1;rw [if_neg hne,if_pos rfl] at ht;rw [if_pos rfl];exact ht
      · by_cases e2:t=d2
        · subst e2;rw [if_pos rfl] at ht;rw [if_neg e1,if_pos rfl];exact ht
        · rw [if_neg e2,if_neg e1] at ht;rw [if_neg e1,if_neg e2];exact ht
    exact ⟨Near.of hs2 (hcc _ _) hN,h b1 b2 h0 Z2 w2 a2 hs3 ha3 (Near.of hs2 (hcc _ _) hN)⟩
theorem RdS.elem {α:Type} {e:De α} {Z:Nat→Prop} {w:World} {A:Option Addr} {cap:Nat} {xs:List α} (h:RdS e Z w A cap xs) {k:Nat} {u:α} (hu:xs[k]? =some u) {β:Type} {mk:β→List Value} {Fs:β→List Fact} (ho: ∀Z w cs,e.rep Z w u cs→ ∃y,cs=mk y∧ ∀B∈Fs y,B.holds Z w):
    ∃x:Nat×Nat×β,A=some ⟨x.1,x.2.1,none⟩∧ ∀B∈FzA x.1 (x.2.1+k*e.sz) (mk x.2.2)::Fs x.2.2,B.holds Z w:=by
  have hlt:k<xs.length:=by
    rcases Nat.lt_or_ge k xs.length with h | h
    · exact h
    · simp [List.getElem?_eq_none h] at hu
  obtain ⟨g1,g2,g3 | ⟨b,q,css,rfl,g4,g5,g6⟩⟩:=h
  · rw [g3.1] at hlt;simp at hlt
  · obtain ⟨cs,k1,k2⟩:=g5.at _ _ hu
    obtain ⟨y,k3,k4⟩:=ho Z w cs k2
    subst k3
    refine ⟨(b,q,y),rfl,fun B hB=> ?_⟩
    rcases List.mem_cons.1 hB with rfl | hB
    · exact ⟨g4,g6.part (k*e.sz) (Ey g5.lens _ _ k1)⟩
    · exact k4 B hB
theorem J7 {T E:TypeId} {x ix:Operand} {b q len cap:Nat} {k:Int} {z:Option Value} {sz by_:Nat} {dd:Option Tmp} {ty:TypeId} {pos:String} {aft:Array Edge} {g:Option (Nat×Bool)} (hu:P.underlying T=some (.slice E)) (ht:ti P E=some (z,sz,by_)) (hx:evs l x=some (.slice (some ⟨b,q,none⟩) len cap)) (hi:evs l ix=some (.int .i64 k)) (h0:0≤k) (h1:k<len):
    QR P l Ps As ⟨dd, .indexAddr T x ix,ty,pos,aft,g⟩ (.pointer (some ⟨b,q+k.toNat* sz,none⟩)):=fun Z w ρ hs hρ=>by
  simp only [execOp,hρ _ _ hx,hρ _ _ hi];rw [Sem.run_bind,Xv hu ht h0 h1];rfl
theorem Kd {α:Type} {e:De α} {A:Option Addr} {cap:Nat} {xs:List α} {k:Nat} {u:α} {β:Type} {mk:β→List Value} {Fs:β→List Fact} {c:Code} (hA:RdF e A cap xs∈As) (hu:xs[k]? =some u) (ho: ∀Z w cs,e.rep Z w u cs→ ∃y,cs=mk y∧ ∀B∈Fs y,B.holds Z w)
    (h: ∀b q y,A=some ⟨b,q,none⟩→WC P n c R l Ps (FzA b (q+k*e.sz) (mk y)::(Fs y++As))):WC P n c R l Ps As:=
  HY (Fs:=fun x:Nat×Nat×β=>FzA x.1 (x.2.1+k*e.sz) (mk x.2.2)::Fs x.2.2) hA (fun Z w hR=>RdS.elem hR hu ho) fun x hx=>h x.1 x.2.1 x.2.2 hx
end
section
variable {P:Program} {n:Dm} {R:Post} {l:Fr} {Ps Ps':List Part} {As:List Fact} {ops:Array Oper} {rest:List Oper} {K:Nx} {ty:TypeId} {pos:String} {aft:Array Edge} {g:Option (Nat×Bool)}
theorem Jf {c:Code} (h:WC P n c R l Ps As):VO (WC P n c R) R .normal l Ps As:=h
theorem Kp {R':Post} (h:K l Ps As):VO K R' .normal l Ps As:=h
theorem Js (h:R .ret l Ps As):VO K R .ret l Ps As:=h
theorem JL {id:Nat} (h:R (.exit id) l Ps As):VO K R (.exit id) l Ps As:=h
theorem Kc {id:Nat} (h:R .normal l Ps As):Vy id R (.exit id) l Ps As:=by unfold Vy;simpa using h
theorem G9 {id id':Nat} (hne:(id'==id)=false) (h:R (.exit id') l Ps As):Vy id R (.exit id') l Ps As:=by
  have:id'≠id:=by simpa using hne
  unfold Vy;simpa [this] using h
theorem Ka {id:Nat} (h:R .normal l Ps As):Vy id R .normal l Ps As:=h
theorem JG {id:Nat} (h:R .ret l Ps As):Vy id R .ret l Ps As:=h
theorem J4 {t:Nat} {b:Bool} (hv:lk l t=some (.bool b)) (h1:b=true→WL P n ops R rest l Ps As) (h2:b=false→WL P n ops R rest l Ps As):WL P n ops R rest l Ps As:=by
  cases b with
  | true=>exact h1 rfl
  | false=>exact h2 rfl
theorem Jat {t:Nat} {b:Bool} {Ps0:List Part} {As0:List Fact} {ws:World} {Z0:Nat→Prop} {r:OT} (hv:lk l t=some (.bool b)) (h1:b=true→WE P n ops R ws Z0 Ps0 As0 r l Ps As) (h2:b=false→WE P n ops R ws Z0 Ps0 As0 r l Ps As):WE P n ops R ws Z0 Ps0 As0 r l Ps As:=by
  cases b with
  | true=>exact h1 rfl
  | false=>exact h2 rfl
theorem Jw {α:Type} {L:List α} : ∀A∈([] :List α),A∈L:=fun _ h=>by cases h
theorem Jl {α:Type} {a:α} {l L:List α} (h:a∈L) (r: ∀A∈l,A∈L): ∀A∈a::l,A∈L:=fun A hA=>by
  rcases List.mem_cons.1 hA with rfl | hA
  · exact h
  · exact r A hA
theorem Jm {k:FuncId} {d:Nat} {xs:List Operand} {ts:Array TypeId} {args:List Value} {pre:List Fact} {res:Value→List Part→List Fact→Prop}
    (hsp:Sp P k args [] pre res) (hxs:Evs l xs args) (hd:d<n.sz) (hpre: ∀A∈pre,A∈As)
    (h: ∀v Lo fs,res v Lo fs→K ((d,v)::l) (Lo++Ps) (fs++As)):
    OW P n R l Ps As ⟨some d, .call ⟨.value (.func k),xs.toArray,ts⟩,ty,pos,aft,g⟩ K:=
  XZ hsp hxs hd (fun hs=>hs.subFacts fun A hA=>by
    rcases List.mem_append.1 hA with hA | hA
    · exact hpre A hA
    · exact hA) h
theorem JR {k:FuncId} {d:Nat} {xs:List Operand} {ts:Array TypeId} {args:List Value} {p:Part} {pre:List Fact} {res:Value→List Part→List Fact→Prop}
    (hsp:Sp P k args [p] pre res) (hxs:Evs l xs args) (hd:d<n.sz) (hp:DelAt Ps p Ps') (hpre: ∀A∈pre,A∈As)
    (h: ∀v Lo fs,res v Lo fs→K ((d,v)::l) (Lo++Ps') (fs++As)):
    OW P n R l Ps As ⟨some d, .call ⟨.value (.func k),xs.toArray,ts⟩,ty,pos,aft,g⟩ K:=
  XZ hsp hxs hd (fun hs=>(hs.permParts hp.perm).subFacts fun A hA=>by
    rcases List.mem_append.1 hA with hA | hA
    · exact hpre A hA
    · exact hA) h
theorem Sub.self {l' l:Fr} (h:Sub l' l):Sub l' l':=by
  intro q hq
  have key: ∀ {l':Fr},(∀p∈l',lk l p.1=some p.2)→ ∀q∈l',lk l' q.1=some q.2:=by
    intro l'
    induction l' with
    | nil=>intro _ q hq;cases hq
    | cons a r ih=>
      intro h q hq
      obtain ⟨k,v⟩:=a
      rw [Qz]
      by_cases e:q.1=k
      · rw [if_pos e]
        have h1:=h q hq
        have h2:=h (k,v) List.mem_cons_self
        rw [e,h2] at h1
        exact h1
      · rw [if_neg e]
        rcases List.mem_cons.1 hq with rfl | hq
        · exact absurd rfl e
        · exact ih (fun p hp=>h p (List.mem_cons_of_mem _ hp)) q hq
  exact key h q hq
theorem Kf {α:Type} (μ:α→Nat) (fr:α→Fr) (ps:α→List Part) (as_:α→List Fact) (p:α→Prop) {c:Code} (x:α) (h0:p x) (hl:Sub (fr x) l) (hP:(ps x).Sublist Ps) (hA: ∀A∈as_ x,A∈As)
    (round: ∀x,p x→WC P n c (VO (fun l' Ps' As'=> ∃x',(μ x'<μ x∧p x')∧Sub (fr x') l'∧(ps x').Sublist Ps'∧ ∀A∈as_ x',A∈As') R) (fr x) (ps x) (as_ x)):WC P n (.loop c) R l Ps As:=by
  refine Hw hl hP hA (Jbq μ (fun x l Ps As=>p x∧Sub (fr x) l∧(ps x).Sublist Ps∧ ∀A∈as_ x,A∈As) x ⟨h0,fun q hq=> ?_,List.Sublist.refl _,fun _ h=>h⟩ ?_)
  · exact hl.self q hq
  · rintro x l Ps As ⟨h1,h2,h3,h4⟩
    exact Hw h2 h3 h4 ((round x h1).mono fun e l Ps As h=>by
      cases e<;>first
        | (obtain ⟨x',h5,h6⟩:=h;exact ⟨x',h5.1,h5.2,h6⟩)
        | exact h)
section
variable {Ps0:List Part} {As0:List Fact} {r:OT} {ws:World} {Z0:Nat→Prop}
theorem Zr {α:Type} {e:De α} {T:TypeId} {v:Value} {m:Nat} {p:Part} {css:List (List Value)} {xs:List α} (h:Row T e.sz v m css.flatten p) (hp:DelAt Ps p Ps') (hn:m=xs.length) (hr:RepsF e xs css∈As)
    (hk: ∀A cap,v= .slice A xs.length cap→WE P n ops R ws Z0 Ps0 As0 r l Ps' (RdF e A cap xs::As)):WE P n ops R ws Z0 Ps0 As0 r l Ps As:=fun h0 Z w a hs ha=>by
  obtain ⟨A,cap,Z',h1,h2⟩:=hs.freezeRow hp h hn hr
  exact hk A cap h1 h0 Z' w a h2 ha
theorem Jbp {A:Fact} (hA: ∀Z w,St Z w Ps As→A.holds Z w) (h:WE P n ops R ws Z0 Ps0 As0 r l Ps (A::As)):WE P n ops R ws Z0 Ps0 As0 r l Ps As:=fun h0 Z w a hs ha=>h h0 Z w a (hs.addFact (hA Z w hs)) ha
end
theorem KR {w:World} {Z:Nat→Prop} {T:TypeId} {dd:TypeDesc} {t b o:Nat} {cs:List Value} {T':TypeId} {v:Value} {rs:List ResultVar} {vs:List Value} (hs:St Z w Ps As) (hu:P.underlying T=some dd) (hd:agg? dd=false) (h:lk l t=some (.pointer (some ⟨b,o,none⟩))) (hb:OwnAt Ps b (JB cs T')) (hv:cs[o]? =some v) (hr:RV P l w rs vs):RV P l w (.cell t T::rs) (v::vs):=by
  have h1:=(hs.cells hb).cell hv
  rw [Nat.zero_add] at h1
  exact .cell h (QT hu hd h1) hr
theorem JV {w:World} {Z:Nat→Prop} {T:TypeId} {dd:TypeDesc} {t b:Nat} {cs:List Value} {T':TypeId} {z:Option Value} {sz by_:Nat} {rs:List ResultVar} {vs:List Value} (hs:St Z w Ps As) (hu:P.underlying T=some dd) (hd:agg? dd=true) (ht:ti P T=some (z,sz,by_)) (h:lk l t=some (.pointer (some ⟨b,0,none⟩))) (hb:OwnAt Ps b (JB cs T')) (hl:cs.length=sz) (hr:RV P l w rs vs):RV P l w (.cell t T::rs) (.agg cs.toArray::vs):=
  .cell h (QS hu hd ht hl (hs.cells hb)) hr
theorem St.out {Z:Nat→Prop} {w:World} {Qs:List Part} {As':List Fact} (hs:St Z w Ps As) (hp:Qs.Sublist Ps) (ha: ∀A∈As',A∈As): ∃Z',St Z' w Qs As':=⟨Z,(hs.subParts hp).subFacts ha⟩
end
universe u
section
variable {P:Program} {n:Dm} {R:Post} {l:Fr} {Ps Ps0:List Part} {As As0:List Fact} {ops:Array Oper} {rest:List Oper} {ws:World} {Z0:Nat→Prop} {r:OT} {i:Nat}
theorem Lq {d:Nat} {v:Value} {op:Op} {ty:TypeId} {pos:String} {aft:Array Edge} (hq:QR P l Ps As ⟨some d,op,ty,pos,aft,none⟩ v) (h:WL P n ops R rest ((d,v)::l) Ps As) (hd:d<n.sz:=by decide):WL P n ops R (⟨some d,op,ty,pos,aft,none⟩::rest) l Ps As:=JQ hq hd h
theorem Qe {d:Nat} {v:Value} {op:Op} {ty:TypeId} {pos:String} {aft:Array Edge} (hi:ops[i]? =some ⟨some d,op,ty,pos,aft,none⟩) (hq:QR P l Ps0 As0 ⟨some d,op,ty,pos,aft,none⟩ v) (h:WE P n ops R ws Z0 Ps0 As0 r ((d,v)::l) Ps As) (hd:d<n.sz:=by decide):WE P n ops R ws Z0 Ps0 As0 (.c i 0 r) l Ps As:=JO hi hq hd h
theorem Lg {d j t:Nat} {v:Value} {op:Op} {ty:TypeId} {pos:String} {aft:Array Edge} {b:Bool} {ot:Oper} (hj:ops[j]? =some ot) (hdt:ot.dst=some t) (hv:lk l t=some (.bool b)) {b':Bool} (hb:b=b') (hq:QR P l Ps As ⟨some d,op,ty,pos,aft,some (j,b')⟩ v) (h:WL P n ops R rest ((d,v)::l) Ps As) (hd:d<n.sz:=by decide):WL P n ops R (⟨some d,op,ty,pos,aft,some (j,b')⟩::rest) l Ps As:=XG hj hdt hv hb hq hd h
theorem Ln {d j t:Nat} {op:Op} {ty:TypeId} {pos:String} {aft:Array Edge} {b b':Bool} {ot:Oper} (hj:ops[j]? =some ot) (hdt:ot.dst=some t) (hv:lk l t=some (.bool b)) (hb:b= !b') (h:WL P n ops R rest ((d,undef)::l) Ps As) (hd:d<n.sz:=by decide):WL P n ops R (⟨some d,op,ty,pos,aft,some (j,b')⟩::rest) l Ps As:=Jck hj hdt hv hb hd h
end
theorem SetAt.z1 {r0 p q:Part}{l:List Part}:SetAt (r0::p::l) p q (r0::q::l):=.s .z
theorem DelAt.z1 {r0 p:Part}{l:List Part}:DelAt (r0::p::l) p (r0::l):=.s .z
theorem SetL.z1 {r0 x v:Value}{l:List Value}:SetL (r0::x::l) 1 v (r0::v::l):=.s .z
theorem SetAt.z2 {r0 r1 p q:Part}{l:List Part}:SetAt (r0::r1::p::l) p q (r0::r1::q::l):=.s (.z1)
theorem DelAt.z2 {r0 r1 p:Part}{l:List Part}:DelAt (r0::r1::p::l) p (r0::r1::l):=.s (.z1)
theorem SetL.z2 {r0 r1 x v:Value}{l:List Value}:SetL (r0::r1::x::l) 2 v (r0::r1::v::l):=.s (.z1)
theorem SetAt.z3 {r0 r1 r2 p q:Part}{l:List Part}:SetAt (r0::r1::r2::p::l) p q (r0::r1::r2::q::l):=.s (.z2)
theorem DelAt.z3 {r0 r1 r2 p:Part}{l:List Part}:DelAt (r0::r1::r2::p::l) p (r0::r1::r2::l):=.s (.z2)
theorem SetL.z3 {r0 r1 r2 x v:Value}{l:List Value}:SetL (r0::r1::r2::x::l) 3 v (r0::r1::r2::v::l):=.s (.z2)
theorem SetAt.z4 {r0 r1 r2 r3 p q:Part}{l:List Part}:SetAt (r0::r1::r2::r3::p::l) p q (r0::r1::r2::r3::q::l):=.s (.z3)
theorem DelAt.z4 {r0 r1 r2 r3 p:Part}{l:List Part}:DelAt (r0::r1::r2::r3::p::l) p (r0::r1::r2::r3::l):=.s (.z3)
theorem SetL.z4 {r0 r1 r2 r3 x v:Value}{l:List Value}:SetL (r0::r1::r2::r3::x::l) 4 v (r0::r1::r2::r3::v::l):=.s (.z3)
theorem SetAt.z5 {r0 r1 r2 r3 r4 p q:Part}{l:List Part}:SetAt (r0::r1::r2::r3::r4::p::l) p q (r0::r1::r2::r3::r4::q::l):=.s (.z4)
theorem DelAt.z5 {r0 r1 r2 r3 r4 p:Part}{l:List Part}:DelAt (r0::r1::r2::r3::r4::p::l) p (r0::r1::r2::r3::r4::l):=.s (.z4)
theorem SetL.z5 {r0 r1 r2 r3 r4 x v:Value}{l:List Value}:SetL (r0::r1::r2::r3::r4::x::l) 5 v (r0::r1::r2::r3::r4::v::l):=.s (.z4)
theorem SetAt.z6 {r0 r1 r2 r3 r4 r5 p q:Part}{l:List Part}:SetAt (r0::r1::r2::r3::r4::r5::p::l) p q (r0::r1::r2::r3::r4::r5::q::l):=.s (.z5)
theorem DelAt.z6 {r0 r1 r2 r3 r4 r5 p:Part}{l:List Part}:DelAt (r0::r1::r2::r3::r4::r5::p::l) p (r0::r1::r2::r3::r4::r5::l):=.s (.z5)
theorem SetL.z6 {r0 r1 r2 r3 r4 r5 x v:Value}{l:List Value}:SetL (r0::r1::r2::r3::r4::r5::x::l) 6 v (r0::r1::r2::r3::r4::r5::v::l):=.s (.z5)
theorem SetAt.z7 {r0 r1 r2 r3 r4 r5 r6 p q:Part}{l:List Part}:SetAt (r0::r1::r2::r3::r4::r5::r6::p::l) p q (r0::r1::r2::r3::r4::r5::r6::q::l):=.s (.z6)
theorem DelAt.z7 {r0 r1 r2 r3 r4 r5 r6 p:Part}{l:List Part}:DelAt (r0::r1::r2::r3::r4::r5::r6::p::l) p (r0::r1::r2::r3::r4::r5::r6::l):=.s (.z6)
theorem SetL.z7 {r0 r1 r2 r3 r4 r5 r6 x v:Value}{l:List Value}:SetL (r0::r1::r2::r3::r4::r5::r6::x::l) 7 v (r0::r1::r2::r3::r4::r5::r6::v::l):=.s (.z6)
theorem SetAt.z8 {r0 r1 r2 r3 r4 r5 r6 r7 p q:Part}{l:List Part}:SetAt (r0::r1::r2::r3::r4::r5::r6::r7::p::l) p q (r0::r1::r2::r3::r4::r5::r6::r7::q::l):=.s (.z7)
theorem DelAt.z8 {r0 r1 r2 r3 r4 r5 r6 r7 p:Part}{l:List Part}:DelAt (r0::r1::r2::r3::r4::r5::r6::r7::p::l) p (r0::r1::r2::r3::r4::r5::r6::r7::l):=.s (.z7)
theorem SetL.z8 {r0 r1 r2 r3 r4 r5 r6 r7 x v:Value}{l:List Value}:SetL (r0::r1::r2::r3::r4::r5::r6::r7::x::l) 8 v (r0::r1::r2::r3::r4::r5::r6::r7::v::l):=.s (.z7)
theorem SetAt.z9 {r0 r1 r2 r3 r4 r5 r6 r7 r8 p q:Part}{l:List Part}:SetAt (r0::r1::r2::r3::r4::r5::r6::r7::r8::p::l) p q (r0::r1::r2::r3::r4::r5::r6::r7::r8::q::l):=.s (.z8)
theorem DelAt.z9 {r0 r1 r2 r3 r4 r5 r6 r7 r8 p:Part}{l:List Part}:DelAt (r0::r1::r2::r3::r4::r5::r6::r7::r8::p::l) p (r0::r1::r2::r3::r4::r5::r6::r7::r8::l):=.s (.z8)
theorem SetL.z9 {r0 r1 r2 r3 r4 r5 r6 r7 r8 x v:Value}{l:List Value}:SetL (r0::r1::r2::r3::r4::r5::r6::r7::r8::x::l) 9 v (r0::r1::r2::r3::r4::r5::r6::r7::r8::v::l):=.s (.z8)
theorem SetAt.z10 {r0 r1 r2 r3 r4 r5 r6 r7 r8 r9 p q:Part}{l:List Part}:SetAt (r0::r1::r2::r3::r4::r5::r6::r7::r8::r9::p::l) p q (r0::r1::r2::r3::r4::r5::r6::r7::r8::r9::q::l):=.s (.z9)
theorem DelAt.z10 {r0 r1 r2 r3 r4 r5 r6 r7 r8 r9 p:Part}{l:List Part}:DelAt (r0::r1::r2::r3::r4::r5::r6::r7::r8::r9::p::l) p (r0::r1::r2::r3::r4::r5::r6::r7::r8::r9::l):=.s (.z9)
theorem SetL.z10 {r0 r1 r2 r3 r4 r5 r6 r7 r8 r9 x v:Value}{l:List Value}:SetL (r0::r1::r2::r3::r4::r5::r6::r7::r8::r9::x::l) 10 v (r0::r1::r2::r3::r4::r5::r6::r7::r8::r9::v::l):=.s (.z9)
theorem SetAt.z11 {r0 r1 r2 r3 r4 r5 r6 r7 r8 r9 r10 p q:Part}{l:List Part}:SetAt (r0::r1::r2::r3::r4::r5::r6::r7::r8::r9::r10::p::l) p q (r0::r1::r2::r3::r4::r5::r6::r7::r8::r9::r10::q::l):=.s (.z10)
theorem DelAt.z11 {r0 r1 r2 r3 r4 r5 r6 r7 r8 r9 r10 p:Part}{l:List Part}:DelAt (r0::r1::r2::r3::r4::r5::r6::r7::r8::r9::r10::p::l) p (r0::r1::r2::r3::r4::r5::r6::r7::r8::r9::r10::l):=.s (.z10)
theorem SetL.z11 {r0 r1 r2 r3 r4 r5 r6 r7 r8 r9 r10 x v:Value}{l:List Value}:SetL (r0::r1::r2::r3::r4::r5::r6::r7::r8::r9::r10::x::l) 11 v (r0::r1::r2::r3::r4::r5::r6::r7::r8::r9::r10::v::l):=.s (.z10)
theorem Evs.n1 {l:Fr}{x0:Operand}{v0:Value}(h0:evs l x0=some v0):Evs l [x0] [v0]:=.cons h0 (.nil)
theorem Reps.n1 {α:Type}{r:α→List Value→Prop}{x0:α}{c0:List Value}(h0:r x0 c0):Reps r (x0::[]) (c0::[]):=.cons h0 (.nil)
theorem Evs.n2 {l:Fr}{x0 x1:Operand}{v0 v1:Value}(h0:evs l x0=some v0) (h1:evs l x1=some v1):Evs l [x0,x1] [v0,v1]:=.cons h0 (.cons h1 (.nil))
theorem Reps.n2 {α:Type}{r:α→List Value→Prop}{x0 x1:α}{c0 c1:List Value}(h0:r x0 c0) (h1:r x1 c1):Reps r (x0::x1::[]) (c0::c1::[]):=.cons h0 (.cons h1 (.nil))
theorem Evs.n3 {l:Fr}{x0 x1 x2:Operand}{v0 v1 v2:Value}(h0:evs l x0=some v0) (h1:evs l x1=some v1) (h2:evs l x2=some v2):Evs l [x0,x1,x2] [v0,v1,v2]:=.cons h0 (.cons h1 (.cons h2 (.nil)))
theorem Reps.n3 {α:Type}{r:α→List Value→Prop}{x0 x1 x2:α}{c0 c1 c2:List Value}(h0:r x0 c0) (h1:r x1 c1) (h2:r x2 c2):Reps r (x0::x1::x2::[]) (c0::c1::c2::[]):=.cons h0 (.cons h1 (.cons h2 (.nil)))
theorem Evs.n4 {l:Fr}{x0 x1 x2 x3:Operand}{v0 v1 v2 v3:Value}(h0:evs l x0=some v0) (h1:evs l x1=some v1) (h2:evs l x2=some v2) (h3:evs l x3=some v3):Evs l [x0,x1,x2,x3] [v0,v1,v2,v3]:=.cons h0 (.cons h1 (.cons h2 (.cons h3 (.nil))))
theorem Evs.n5 {l:Fr}{x0 x1 x2 x3 x4:Operand}{v0 v1 v2 v3 v4:Value}(h0:evs l x0=some v0) (h1:evs l x1=some v1) (h2:evs l x2=some v2) (h3:evs l x3=some v3) (h4:evs l x4=some v4):Evs l [x0,x1,x2,x3,x4] [v0,v1,v2,v3,v4]:=.cons h0 (.cons h1 (.cons h2 (.cons h3 (.cons h4 (.nil)))))
theorem Evs.n6 {l:Fr}{x0 x1 x2 x3 x4 x5:Operand}{v0 v1 v2 v3 v4 v5:Value}(h0:evs l x0=some v0) (h1:evs l x1=some v1) (h2:evs l x2=some v2) (h3:evs l x3=some v3) (h4:evs l x4=some v4) (h5:evs l x5=some v5):Evs l [x0,x1,x2,x3,x4,x5] [v0,v1,v2,v3,v4,v5]:=.cons h0 (.cons h1 (.cons h2 (.cons h3 (.cons h4 (.cons h5 (.nil))))))
theorem Evs.n8 {l:Fr}{x0 x1 x2 x3 x4 x5 x6 x7:Operand}{v0 v1 v2 v3 v4 v5 v6 v7:Value}(h0:evs l x0=some v0) (h1:evs l x1=some v1) (h2:evs l x2=some v2) (h3:evs l x3=some v3) (h4:evs l x4=some v4) (h5:evs l x5=some v5) (h6:evs l x6=some v6) (h7:evs l x7=some v7):Evs l [x0,x1,x2,x3,x4,x5,x6,x7] [v0,v1,v2,v3,v4,v5,v6,v7]:=.cons h0 (.cons h1 (.cons h2 (.cons h3 (.cons h4 (.cons h5 (.cons h6 (.cons h7 (.nil))))))))
theorem Sub.m1 {l:Fr}{k0:Nat}{v0:Value}(h0:lk l k0=some v0):Sub ((k0,v0)::[]) l:=.cons h0 (.nil _)
theorem Sub.m2 {l:Fr}{k0 k1:Nat}{v0 v1:Value}(h0:lk l k0=some v0) (h1:lk l k1=some v1):Sub ((k0,v0)::(k1,v1)::[]) l:=.cons h0 (.cons h1 (.nil _))
theorem Sub.m3 {l:Fr}{k0 k1 k2:Nat}{v0 v1 v2:Value}(h0:lk l k0=some v0) (h1:lk l k1=some v1) (h2:lk l k2=some v2):Sub ((k0,v0)::(k1,v1)::(k2,v2)::[]) l:=.cons h0 (.cons h1 (.cons h2 (.nil _)))
theorem Sub.m4 {l:Fr}{k0 k1 k2 k3:Nat}{v0 v1 v2 v3:Value}(h0:lk l k0=some v0) (h1:lk l k1=some v1) (h2:lk l k2=some v2) (h3:lk l k3=some v3):Sub ((k0,v0)::(k1,v1)::(k2,v2)::(k3,v3)::[]) l:=.cons h0 (.cons h1 (.cons h2 (.cons h3 (.nil _))))
theorem Sub.m5 {l:Fr}{k0 k1 k2 k3 k4:Nat}{v0 v1 v2 v3 v4:Value}(h0:lk l k0=some v0) (h1:lk l k1=some v1) (h2:lk l k2=some v2) (h3:lk l k3=some v3) (h4:lk l k4=some v4):Sub ((k0,v0)::(k1,v1)::(k2,v2)::(k3,v3)::(k4,v4)::[]) l:=.cons h0 (.cons h1 (.cons h2 (.cons h3 (.cons h4 (.nil _)))))
theorem Sub.m6 {l:Fr}{k0 k1 k2 k3 k4 k5:Nat}{v0 v1 v2 v3 v4 v5:Value}(h0:lk l k0=some v0) (h1:lk l k1=some v1) (h2:lk l k2=some v2) (h3:lk l k3=some v3) (h4:lk l k4=some v4) (h5:lk l k5=some v5):Sub ((k0,v0)::(k1,v1)::(k2,v2)::(k3,v3)::(k4,v4)::(k5,v5)::[]) l:=.cons h0 (.cons h1 (.cons h2 (.cons h3 (.cons h4 (.cons h5 (.nil _))))))
theorem Sub.m7 {l:Fr}{k0 k1 k2 k3 k4 k5 k6:Nat}{v0 v1 v2 v3 v4 v5 v6:Value}(h0:lk l k0=some v0) (h1:lk l k1=some v1) (h2:lk l k2=some v2) (h3:lk l k3=some v3) (h4:lk l k4=some v4) (h5:lk l k5=some v5) (h6:lk l k6=some v6):Sub ((k0,v0)::(k1,v1)::(k2,v2)::(k3,v3)::(k4,v4)::(k5,v5)::(k6,v6)::[]) l:=.cons h0 (.cons h1 (.cons h2 (.cons h3 (.cons h4 (.cons h5 (.cons h6 (.nil _)))))))
theorem Sub.m8 {l:Fr}{k0 k1 k2 k3 k4 k5 k6 k7:Nat}{v0 v1 v2 v3 v4 v5 v6 v7:Value}(h0:lk l k0=some v0) (h1:lk l k1=some v1) (h2:lk l k2=some v2) (h3:lk l k3=some v3) (h4:lk l k4=some v4) (h5:lk l k5=some v5) (h6:lk l k6=some v6) (h7:lk l k7=some v7):Sub ((k0,v0)::(k1,v1)::(k2,v2)::(k3,v3)::(k4,v4)::(k5,v5)::(k6,v6)::(k7,v7)::[]) l:=.cons h0 (.cons h1 (.cons h2 (.cons h3 (.cons h4 (.cons h5 (.cons h6 (.cons h7 (.nil _))))))))
theorem Sub.m9 {l:Fr}{k0 k1 k2 k3 k4 k5 k6 k7 k8:Nat}{v0 v1 v2 v3 v4 v5 v6 v7 v8:Value}(h0:lk l k0=some v0) (h1:lk l k1=some v1) (h2:lk l k2=some v2) (h3:lk l k3=some v3) (h4:lk l k4=some v4) (h5:lk l k5=some v5) (h6:lk l k6=some v6) (h7:lk l k7=some v7) (h8:lk l k8=some v8):Sub ((k0,v0)::(k1,v1)::(k2,v2)::(k3,v3)::(k4,v4)::(k5,v5)::(k6,v6)::(k7,v7)::(k8,v8)::[]) l:=.cons h0 (.cons h1 (.cons h2 (.cons h3 (.cons h4 (.cons h5 (.cons h6 (.cons h7 (.cons h8 (.nil _)))))))))
theorem Sub.m10 {l:Fr}{k0 k1 k2 k3 k4 k5 k6 k7 k8 k9:Nat}{v0 v1 v2 v3 v4 v5 v6 v7 v8 v9:Value}(h0:lk l k0=some v0) (h1:lk l k1=some v1) (h2:lk l k2=some v2) (h3:lk l k3=some v3) (h4:lk l k4=some v4) (h5:lk l k5=some v5) (h6:lk l k6=some v6) (h7:lk l k7=some v7) (h8:lk l k8=some v8) (h9:lk l k9=some v9):Sub ((k0,v0)::(k1,v1)::(k2,v2)::(k3,v3)::(k4,v4)::(k5,v5)::(k6,v6)::(k7,v7)::(k8,v8)::(k9,v9)::[]) l:=.cons h0 (.cons h1 (.cons h2 (.cons h3 (.cons h4 (.cons h5 (.cons h6 (.cons h7 (.cons h8 (.cons h9 (.nil _))))))))))
theorem O {α:Sort u}{a:α}:a=a:=rfl
theorem Bp:(∀ {p:Prop} [Decidable p],(decide p=true)=p)∧(∀ {p:Prop} {_:Decidable p},decide p=false↔ ¬p)∧(∀(a b:Bool),((a && b)=true)=(a=true∧b=true))∧(∀(b:Bool),((!b)=true)=(b=false))∧(∀(b:Bool),((!b)=false)=(b=true))∧(∀(b:Bool),(¬b=true)=(b=false))∧(∀(b:Bool),(¬b=false)=(b=true))∧(∀ {x y:Bool},(x && y)=false↔x=false∨y=false):=
  ⟨decide_eq_true_eq,decide_eq_false_iff_not,Bool.and_eq_true,Bool.not_eq_true',Bool.not_eq_false',Bool.not_eq_true,Bool.not_eq_false,Bool.and_eq_false_iff⟩
theorem Bq:(∀ {α:Type u} [BEq α] [LawfulBEq α] {a b:α},(a==b)=true↔a=b)∧(∀ {α:Type u} [BEq α] [LawfulBEq α] {a b:α},(a !=b)=true↔a≠b)∧(∀ {α:Type u} [BEq α] [LawfulBEq α] {a b:α},(a==b)=false↔a≠b)∧(∀ {α:Type u} (a b:α),(a≠b)= ¬a=b)∧(∀ {α:Type u} [BEq α] [LawfulBEq α] {a b:α},(a !=b)=false↔a=b):=
  ⟨beq_iff_eq,bne_iff_ne,beq_eq_false_iff_ne,fun _ _=>rfl,bne_eq_false_iff_eq⟩
section
variable {α:Type} {x a:α} {l m:List α}
theorem Sk (h:l.Sublist m):(x::l).Sublist (x::m):=h.cons_cons x
theorem Sd (h:l.Sublist m):l.Sublist (x::m):=h.cons x
theorem Sr:l.Sublist l:=List.Sublist.refl l
theorem Mm0:a∈a::l:= .head _
theorem Mm1 {x0:α} :a∈x0::a::l:= .tail _ Mm0
theorem Mm2 {x0 x1:α} :a∈x0::x1::a::l:= .tail _ Mm1
theorem Mm3 {x0 x1 x2:α} :a∈x0::x1::x2::a::l:= .tail _ Mm2
theorem Mm4 {x0 x1 x2 x3:α} :a∈x0::x1::x2::x3::a::l:= .tail _ Mm3
theorem Mm5 {x0 x1 x2 x3 x4:α} :a∈x0::x1::x2::x3::x4::a::l:= .tail _ Mm4
theorem Mm6 {x0 x1 x2 x3 x4 x5:α} :a∈x0::x1::x2::x3::x4::x5::a::l:= .tail _ Mm5
theorem Mm7 {x0 x1 x2 x3 x4 x5 x6:α} :a∈x0::x1::x2::x3::x4::x5::x6::a::l:= .tail _ Mm6
theorem Mm8 {x0 x1 x2 x3 x4 x5 x6 x7:α} :a∈x0::x1::x2::x3::x4::x5::x6::x7::a::l:= .tail _ Mm7
theorem Mm9 {x0 x1 x2 x3 x4 x5 x6 x7 x8:α} :a∈x0::x1::x2::x3::x4::x5::x6::x7::x8::a::l:= .tail _ Mm8
theorem Mm10 {x0 x1 x2 x3 x4 x5 x6 x7 x8 x9:α} :a∈x0::x1::x2::x3::x4::x5::x6::x7::x8::x9::a::l:= .tail _ Mm9
theorem Mm11 {x0 x1 x2 x3 x4 x5 x6 x7 x8 x9 x10:α} :a∈x0::x1::x2::x3::x4::x5::x6::x7::x8::x9::x10::a::l:= .tail _ Mm10
theorem Mm12 {x0 x1 x2 x3 x4 x5 x6 x7 x8 x9 x10 x11:α} :a∈x0::x1::x2::x3::x4::x5::x6::x7::x8::x9::x10::x11::a::l:= .tail _ Mm11
theorem Mm13 {x0 x1 x2 x3 x4 x5 x6 x7 x8 x9 x10 x11 x12:α} :a∈x0::x1::x2::x3::x4::x5::x6::x7::x8::x9::x10::x11::x12::a::l:= .tail _ Mm12
theorem Mm14 {x0 x1 x2 x3 x4 x5 x6 x7 x8 x9 x10 x11 x12 x13:α} :a∈x0::x1::x2::x3::x4::x5::x6::x7::x8::x9::x10::x11::x12::x13::a::l:= .tail _ Mm13
theorem Mm15 {x0 x1 x2 x3 x4 x5 x6 x7 x8 x9 x10 x11 x12 x13 x14:α} :a∈x0::x1::x2::x3::x4::x5::x6::x7::x8::x9::x10::x11::x12::x13::x14::a::l:= .tail _ Mm14
theorem Mm16 {x0 x1 x2 x3 x4 x5 x6 x7 x8 x9 x10 x11 x12 x13 x14 x15:α} :a∈x0::x1::x2::x3::x4::x5::x6::x7::x8::x9::x10::x11::x12::x13::x14::x15::a::l:= .tail _ Mm15
theorem Tt1 {x0:α} : ∀y,y∈l→y∈x0::l:=fun _ h=> .tail _ h
theorem Tt2 {x0 x1:α} : ∀y,y∈l→y∈x0::x1::l:=fun _ h=> .tail _ (Tt1 _ h)
theorem Tt3 {x0 x1 x2:α} : ∀y,y∈l→y∈x0::x1::x2::l:=fun _ h=> .tail _ (Tt2 _ h)
theorem Tt4 {x0 x1 x2 x3:α} : ∀y,y∈l→y∈x0::x1::x2::x3::l:=fun _ h=> .tail _ (Tt3 _ h)
theorem Tt5 {x0 x1 x2 x3 x4:α} : ∀y,y∈l→y∈x0::x1::x2::x3::x4::l:=fun _ h=> .tail _ (Tt4 _ h)
theorem Tt6 {x0 x1 x2 x3 x4 x5:α} : ∀y,y∈l→y∈x0::x1::x2::x3::x4::x5::l:=fun _ h=> .tail _ (Tt5 _ h)
theorem Tt7 {x0 x1 x2 x3 x4 x5 x6:α} : ∀y,y∈l→y∈x0::x1::x2::x3::x4::x5::x6::l:=fun _ h=> .tail _ (Tt6 _ h)
theorem Tt8 {x0 x1 x2 x3 x4 x5 x6 x7:α} : ∀y,y∈l→y∈x0::x1::x2::x3::x4::x5::x6::x7::l:=fun _ h=> .tail _ (Tt7 _ h)
theorem Tt9 {x0 x1 x2 x3 x4 x5 x6 x7 x8:α} : ∀y,y∈l→y∈x0::x1::x2::x3::x4::x5::x6::x7::x8::l:=fun _ h=> .tail _ (Tt8 _ h)
theorem Tt10 {x0 x1 x2 x3 x4 x5 x6 x7 x8 x9:α} : ∀y,y∈l→y∈x0::x1::x2::x3::x4::x5::x6::x7::x8::x9::l:=fun _ h=> .tail _ (Tt9 _ h)
theorem Tt11 {x0 x1 x2 x3 x4 x5 x6 x7 x8 x9 x10:α} : ∀y,y∈l→y∈x0::x1::x2::x3::x4::x5::x6::x7::x8::x9::x10::l:=fun _ h=> .tail _ (Tt10 _ h)
theorem Tt12 {x0 x1 x2 x3 x4 x5 x6 x7 x8 x9 x10 x11:α} : ∀y,y∈l→y∈x0::x1::x2::x3::x4::x5::x6::x7::x8::x9::x10::x11::l:=fun _ h=> .tail _ (Tt11 _ h)
theorem Tt13 {x0 x1 x2 x3 x4 x5 x6 x7 x8 x9 x10 x11 x12:α} : ∀y,y∈l→y∈x0::x1::x2::x3::x4::x5::x6::x7::x8::x9::x10::x11::x12::l:=fun _ h=> .tail _ (Tt12 _ h)
theorem Tt14 {x0 x1 x2 x3 x4 x5 x6 x7 x8 x9 x10 x11 x12 x13:α} : ∀y,y∈l→y∈x0::x1::x2::x3::x4::x5::x6::x7::x8::x9::x10::x11::x12::x13::l:=fun _ h=> .tail _ (Tt13 _ h)
theorem Tt15 {x0 x1 x2 x3 x4 x5 x6 x7 x8 x9 x10 x11 x12 x13 x14:α} : ∀y,y∈l→y∈x0::x1::x2::x3::x4::x5::x6::x7::x8::x9::x10::x11::x12::x13::x14::l:=fun _ h=> .tail _ (Tt14 _ h)
theorem Tt16 {x0 x1 x2 x3 x4 x5 x6 x7 x8 x9 x10 x11 x12 x13 x14 x15:α} : ∀y,y∈l→y∈x0::x1::x2::x3::x4::x5::x6::x7::x8::x9::x10::x11::x12::x13::x14::x15::l:=fun _ h=> .tail _ (Tt15 _ h)
end
theorem YR {P:Program} {T:TypeId} {dd:TypeDesc} {cs:List Value} {o:Nat} {v:Value} {w:World} (hu:P.underlying T=some dd) (hd:agg? dd=false) (hv:cs[o]? =some v):(part T cs.toArray o).run P w= .ok v w:=by
  unfold part
  rw [Sem.run_bind,VF hu,hd]
  simp [hv]
theorem Xj {P:Program} {T:TypeId} {dd:TypeDesc} {cs vs:List Value} {o:Nat} {z:Option Value} {sz by_:Nat} {w:World} (hu:P.underlying T=some dd) (hd:agg? dd=true) (ht:ti P T=some (z,sz,by_)) (hv:(cs.drop o).take sz=vs):(part T cs.toArray o).run P w= .ok (.agg vs.toArray) w:=by
  unfold part
  rw [Sem.run_bind,VF hu,hd]
  simp only [Result.andThen_ok,if_true,Sem.run_bind,KO ht,Sem.run_pure]
  subst hv
  have:cs.toArray.extract o (o+sz)=((cs.drop o).take sz).toArray:=by
    apply Array.ext'
    simp [List.extract_eq_take_drop]
  rw [this]
structure EqT (P:Program) (T:TypeId) (xs ys:Array Value) (r:Bool):Prop where
  guard:P.eqGuardType P.depth T=false
  run: ∀d w,(Op.equalIn (d+9) T (.agg xs) (.agg ys)).run P w= .ok r w
theorem eqT_id {P:Program} {T E:TypeId} {z:Option Value} {by_:Nat} (hu:P.underlying T=some (.array 2 E)) (he:P.underlying E=some (.int .i64)) (ht:ti P E=some (z,1,by_)) (hg:P.eqGuardType P.depth T=false) (a b c d:Int):
    EqT P T [.int .i64 a, .int .i64 b].toArray [.int .i64 c, .int .i64 d].toArray (a==c && b==d):=⟨hg,fun k w=>by
  have h1: ∀(cs:List Value) (o:Nat) (v:Value) w,cs[o]? =some v→(part E cs.toArray o).run P w= .ok v w:=fun cs o v w h=>YR he rfl h
  have h2: ∀(x y:Int) w,(Op.equalIn (k+8) E (.int .i64 x) (.int .i64 y)).run P w= .ok (x==y) w:=fun x y w=>run_equalIn_int w (k+7) E .i64 .i64 x y he
  rw [Op.equalIn]
  simp only [Sem.run_bind,run_underlying hu,Result.andThen_ok,KO ht,Nat.mul_one]
  simp only [Std.Legacy.Range.forIn_eq_forIn_range',Std.Legacy.Range.size,Nat.sub_zero,Nat.add_sub_cancel,Nat.div_one,List.range'_succ,List.range'_zero,List.forIn_cons,List.forIn_nil,Sem.run_bind,h1 [.int .i64 a, .int .i64 b] 0 _ _ rfl,h1 [.int .i64 c, .int .i64 d] 0 _ _ rfl,Result.andThen_ok,h2,Nat.zero_add,h1 [.int .i64 a, .int .i64 b] 1 _ _ rfl,h1 [.int .i64 c, .int .i64 d] 1 _ _ rfl]
  cases h3:(a==c)<;>cases h4:(b==d)<;>simp [h1 [.int .i64 a, .int .i64 b] 1 _ _ rfl,h1 [.int .i64 c, .int .i64 d] 1 _ _ rfl,h2,h4]⟩
section
variable {P:Program} {l:Fr} {Ps:List Part} {As:List Fact} {d:Option Tmp} {ty:TypeId} {pos:String} {aft:Array Edge} {g:Option (Nat×Bool)} {t t2:TypeId} {x y:Operand}
theorem Qo {xs ys:Array Value} {r:Bool} (hx:evs l x=some (.agg xs)) (hy:evs l y=some (.agg ys)) (he:EqT P t xs ys r):QR P l Ps As ⟨d, .binOp .eql t x y t2,ty,pos,aft,g⟩ (.bool r):=fun Z w ρ hs hρ=>by
  simp only [execOp,hρ _ _ hx,hρ _ _ hy,Sem.run_bind,run_eqGuard_agg w .eql t x y xs ys he.guard,Result.andThen_ok,run_eql_struct,he.run 9991 w];rfl
theorem Yq {xs ys:Array Value} {r:Bool} (hx:evs l x=some (.agg xs)) (hy:evs l y=some (.agg ys)) (he:EqT P t xs ys r):QR P l Ps As ⟨d, .binOp .neq t x y t2,ty,pos,aft,g⟩ (.bool (!r)):=fun Z w ρ hs hρ=>by
  simp only [execOp,hρ _ _ hx,hρ _ _ hy,Sem.run_bind,run_eqGuard_agg w .neq t x y xs ys he.guard,Result.andThen_ok,run_neq_struct,he.run 9991 w];rfl
theorem Gh {a b:ByteArray} (hx:evs l x=some (.string a)) (hy:evs l y=some (.string b)):QR P l Ps As ⟨d, .binOp .eql t x y t2,ty,pos,aft,g⟩ (.bool (a==b)):=fun Z w ρ hs hρ=>by
  rw [beq_toListBytes]
  simp [execOp,hρ _ _ hx,hρ _ _ hy,go_sem,binOp,Op.stringOp]
theorem Gg {a b:ByteArray} (hx:evs l x=some (.string a)) (hy:evs l y=some (.string b)):QR P l Ps As ⟨d, .binOp .neq t x y t2,ty,pos,aft,g⟩ (.bool (!(a==b))):=fun Z w ρ hs hρ=>by
  rw [beq_toListBytes]
  simp [execOp,hρ _ _ hx,hρ _ _ hy,go_sem,binOp,Op.stringOp]
theorem q_beql' {a b:Bool} (hu:P.underlying t=some .bool) (hx:evs l x=some (.bool a)) (hy:evs l y=some (.bool b)):QR P l Ps As ⟨d, .binOp .eql t x y t2,ty,pos,aft,g⟩ (.bool (a==b)):=fun Z w ρ hs hρ=>by
  have h:=run_equalIn_bool' (P:=P) w 9999 t a b hu
  simp [execOp,hρ _ _ hx,hρ _ _ hy,go_sem,binOp,Op.equal,Op.maxDepth,h]
theorem q_bneq' {a b:Bool} (hu:P.underlying t=some .bool) (hx:evs l x=some (.bool a)) (hy:evs l y=some (.bool b)):QR P l Ps As ⟨d, .binOp .neq t x y t2,ty,pos,aft,g⟩ (.bool (!(a==b))):=fun Z w ρ hs hρ=>by
  have h:=run_equalIn_bool' (P:=P) w 9999 t a b hu
  simp [execOp,hρ _ _ hx,hρ _ _ hy,go_sem,binOp,Op.equal,Op.maxDepth,h]
theorem HH {e:TypeId} {a b:Option Addr} (hu:P.underlying t=some (.pointer e)) (hn:a.isNone=true∨b.isNone=true) (k:Nat) (w:World):(Op.equalIn (k+1) t (.pointer a) (.pointer b)).run P w= .ok (a.isNone && b.isNone) w:=by
  rw [Op.equalIn,Sem.run_bind,run_underlying hu,Result.andThen_ok]
  rcases a with _ | a<;>rcases b with _ | b<;>first | rfl | simp at hn
theorem KN {e:TypeId} {a b:Option Addr} (hu:P.underlying t=some (.pointer e)) (hx:evs l x=some (.pointer a)) (hy:evs l y=some (.pointer b)) (hn:a.isNone=true∨b.isNone=true):QR P l Ps As ⟨d, .binOp .eql t x y t2,ty,pos,aft,g⟩ (.bool (a.isNone && b.isNone)):=fun Z w ρ hs hρ=>by
  have h0:binOp .eql t (.pointer a) (.pointer b)=(do pure (.bool (←Op.equalIn (9999+1) t (.pointer a) (.pointer b)))):=rfl
  simp only [execOp,hρ _ _ hx,hρ _ _ hy,eqGuard_at_pointer,h0,Sem.run_bind,HH hu hn,Result.andThen_ok,Sem.run_pure]
theorem QW {e:TypeId} {a b:Option Addr} (hu:P.underlying t=some (.pointer e)) (hx:evs l x=some (.pointer a)) (hy:evs l y=some (.pointer b)) (hn:a.isNone=true∨b.isNone=true):QR P l Ps As ⟨d, .binOp .neq t x y t2,ty,pos,aft,g⟩ (.bool (!(a.isNone && b.isNone))):=fun Z w ρ hs hρ=>by
  have h0:binOp .neq t (.pointer a) (.pointer b)=(do pure (.bool (!(←Op.equalIn (9999+1) t (.pointer a) (.pointer b))))):=rfl
  simp only [execOp,hρ _ _ hx,hρ _ _ hy,eqGuard_at_pointer,h0,Sem.run_bind,HH hu hn,Result.andThen_ok,Sem.run_pure]
inductive EvP (l:Fr):List (Nat×Operand)→List (Nat×Value)→Prop
  | nil:EvP l [] []
  | cons {i:Nat} {x:Operand} {v:Value} {xs:List (Nat×Operand)} {vs:List (Nat×Value)} (h:evs l x=some v) (hr:EvP l xs vs):EvP l ((i,x)::xs) ((i,v)::vs)
theorem EvP.n1 {l:Fr}{i0:Nat}{x0:Operand}{v0:Value}(h0:evs l x0=some v0):EvP l ((i0,x0)::[]) ((i0,v0)::[]):=.cons h0 (.nil)
theorem EvP.n2 {l:Fr}{i0 i1:Nat}{x0 x1:Operand}{v0 v1:Value}(h0:evs l x0=some v0) (h1:evs l x1=some v1):EvP l ((i0,x0)::(i1,x1)::[]) ((i0,v0)::(i1,v1)::[]):=.cons h0 (.cons h1 (.nil))
theorem EvP.n3 {l:Fr}{i0 i1 i2:Nat}{x0 x1 x2:Operand}{v0 v1 v2:Value}(h0:evs l x0=some v0) (h1:evs l x1=some v1) (h2:evs l x2=some v2):EvP l ((i0,x0)::(i1,x1)::(i2,x2)::[]) ((i0,v0)::(i1,v1)::(i2,v2)::[]):=.cons h0 (.cons h1 (.cons h2 (.nil)))
theorem EvP.n4 {l:Fr}{i0 i1 i2 i3:Nat}{x0 x1 x2 x3:Operand}{v0 v1 v2 v3:Value}(h0:evs l x0=some v0) (h1:evs l x1=some v1) (h2:evs l x2=some v2) (h3:evs l x3=some v3):EvP l ((i0,x0)::(i1,x1)::(i2,x2)::(i3,x3)::[]) ((i0,v0)::(i1,v1)::(i2,v2)::(i3,v3)::[]):=.cons h0 (.cons h1 (.cons h2 (.cons h3 (.nil))))
theorem EvP.n5 {l:Fr}{i0 i1 i2 i3 i4:Nat}{x0 x1 x2 x3 x4:Operand}{v0 v1 v2 v3 v4:Value}(h0:evs l x0=some v0) (h1:evs l x1=some v1) (h2:evs l x2=some v2) (h3:evs l x3=some v3) (h4:evs l x4=some v4):EvP l ((i0,x0)::(i1,x1)::(i2,x2)::(i3,x3)::(i4,x4)::[]) ((i0,v0)::(i1,v1)::(i2,v2)::(i3,v3)::(i4,v4)::[]):=.cons h0 (.cons h1 (.cons h2 (.cons h3 (.cons h4 (.nil)))))
theorem EvP.n6 {l:Fr}{i0 i1 i2 i3 i4 i5:Nat}{x0 x1 x2 x3 x4 x5:Operand}{v0 v1 v2 v3 v4 v5:Value}(h0:evs l x0=some v0) (h1:evs l x1=some v1) (h2:evs l x2=some v2) (h3:evs l x3=some v3) (h4:evs l x4=some v4) (h5:evs l x5=some v5):EvP l ((i0,x0)::(i1,x1)::(i2,x2)::(i3,x3)::(i4,x4)::(i5,x5)::[]) ((i0,v0)::(i1,v1)::(i2,v2)::(i3,v3)::(i4,v4)::(i5,v5)::[]):=.cons h0 (.cons h1 (.cons h2 (.cons h3 (.cons h4 (.cons h5 (.nil))))))
theorem EvP.n8 {l:Fr}{i0 i1 i2 i3 i4 i5 i6 i7:Nat}{x0 x1 x2 x3 x4 x5 x6 x7:Operand}{v0 v1 v2 v3 v4 v5 v6 v7:Value}(h0:evs l x0=some v0) (h1:evs l x1=some v1) (h2:evs l x2=some v2) (h3:evs l x3=some v3) (h4:evs l x4=some v4) (h5:evs l x5=some v5) (h6:evs l x6=some v6) (h7:evs l x7=some v7):EvP l ((i0,x0)::(i1,x1)::(i2,x2)::(i3,x3)::(i4,x4)::(i5,x5)::(i6,x6)::(i7,x7)::[]) ((i0,v0)::(i1,v1)::(i2,v2)::(i3,v3)::(i4,v4)::(i5,v5)::(i6,v6)::(i7,v7)::[]):=.cons h0 (.cons h1 (.cons h2 (.cons h3 (.cons h4 (.cons h5 (.cons h6 (.cons h7 (.nil))))))))
theorem EvP.map {l:Fr} {xs:List (Nat×Operand)} {vs:List (Nat×Value)} (h:EvP l xs vs) {ρ:Operand→Value} (hρ: ∀x v,evs l x=some v→ρ x=v):xs.map (fun (i,x)=>(i,ρ x))=vs:=by
  induction h with
  | nil=>rfl
  | cons h hr ih=>simp [hρ _ _ h,ih]
theorem JZ {T:TypeId} {xs:List (Nat×Operand)} {vs:List (Nat×Value)} {v:Value} (hx:EvP l xs vs) (hb: ∀w,(Instr.build T vs.toArray).run P w= .ok v w):QR P l Ps As ⟨d, .build T xs.toArray,ty,pos,aft,g⟩ v:=fun Z w ρ hs hρ=>by
  have h:=hx.map hρ
  simp only [execOp,List.map_toArray,h,Sem.run_bind,hb,Result.andThen_ok,Sem.run_pure]
theorem Yl {T:TypeId} {x:Operand} {f:Nat} {u v:Value} (hx:evs l x=some u) (hb: ∀w,(Instr.field T u f).run P w= .ok v w):QR P l Ps As ⟨d, .field T x f,ty,pos,aft,g⟩ v:=fun Z w ρ hs hρ=>by
  simp only [execOp,hρ _ _ hx,Sem.run_bind,hb,Result.andThen_ok,Sem.run_pure]
theorem Ym {src dst:TypeId} {x:Operand} {u v:Value} (hx:evs l x=some u) (hb: ∀w,(convert src dst u).run P w= .ok v w):QR P l Ps As ⟨d, .convert src dst x,ty,pos,aft,g⟩ v:=fun Z w ρ hs hρ=>by
  simp only [execOp,hρ _ _ hx,Sem.run_bind,hb,Result.andThen_ok,Sem.run_pure]
theorem Jcr {k:IntKind} {a b c:Int} (hx:evs l x=some (.int k a)) (hy:evs l y=some (.int k b)) (hb:b≠0) (hc:a.tmod b=c):QR P l Ps As ⟨d, .binOp .rem t x y t2,ty,pos,aft,g⟩ (.int k c):=fun Z w ρ hs hρ=>by
  subst hc
  simp [execOp,hρ _ _ hx,hρ _ _ hy,go_sem,Op.intDiv,hb]
theorem HK {k:IntKind} {a b c:Int} (hx:evs l x=some (.int k a)) (hy:evs l y=some (.int k b)) (hb:b≠0) (hc:k.wrap (a.tdiv b)=c):QR P l Ps As ⟨d, .binOp .quo t x y t2,ty,pos,aft,g⟩ (.int k c):=fun Z w ρ hs hρ=>by
  subst hc
  simp [execOp,hρ _ _ hx,hρ _ _ hy,go_sem,Op.intDiv,hb]
theorem Jcs {a b:ByteArray} (hx:evs l x=some (.string a)) (hy:evs l y=some (.string b)) (hl:a.size+b.size≤9223372036854775807):QR P l Ps As ⟨d, .binOp .add t x y t2,ty,pos,aft,g⟩ (.string (a++b)):=fun Z w ρ hs hρ=>by
  have h0:eqGuard .add t x y (.string a) (.string b)=pure ():=rfl
  have h1:binOp .add t (.string a) (.string b)=Op.stringOp .add a b:=rfl
  simp only [execOp,hρ _ _ hx,hρ _ _ hy,h0,h1,Sem.run_bind,Sem.run_pure,Result.andThen_ok,Op.stringOp]
  rw [if_neg (by simp;omega)]
  rfl
end
section
variable {P:Program} {n:Dm} {R:Post} {l:Fr} {Ps Ps':List Part} {As:List Fact} {ops:Array Oper} {rest:List Oper} {ty:TypeId} {pos:String} {aft:Array Edge} {g:Option (Nat×Bool)} {K:Nx} {d:Nat} {dd:Option Tmp}
theorem Hh {T:TypeId} {x lo:Operand} {s:ByteArray} {i:Int} (hu:P.underlying T=some .string) (hx:evs l x=some (.string s)) (hi:evs l lo=some (.int .i64 i)) (h0:0≤i) (h1:i≤s.size):
    QR P l Ps As ⟨dd, .slice T x (some lo) none none,ty,pos,aft,g⟩ (.string (s.extract i.toNat s.size)):=fun Z w ρ hs hρ=>by
  simp [execOp,Instr.sliceAt,Instr.slice,Instr.sliceBounds,Instr.sliceBound,asIntOf,run_underlying hu,hρ _ _ hx,hρ _ _ hi,h0,h1]
theorem Hi {T:TypeId} {x hi':Operand} {s:ByteArray} {i:Int} (hu:P.underlying T=some .string) (hx:evs l x=some (.string s)) (hi:evs l hi'=some (.int .i64 i)) (h0:0≤i) (h1:i≤s.size):
    QR P l Ps As ⟨dd, .slice T x none (some hi') none,ty,pos,aft,g⟩ (.string (s.extract 0 i.toNat)):=fun Z w ρ hs hρ=>by
  simp [execOp,Instr.sliceAt,Instr.slice,Instr.sliceBounds,Instr.sliceBound,asIntOf,run_underlying hu,hρ _ _ hx,hρ _ _ hi,h0,h1]
theorem St.setBlock {Z:Nat→Prop} {w:World} {b:Nat} {o o':Obj} (h:St Z w ([(b,o)] ::Ps) As):St Z { w with heap:=w.heap.setIfInBounds b o' } ([(b,o')] ::Ps) As:=by
  have hb:w.heap[b]? =some o:=(h.own (b,_) (by simp)).1
  have hlt:b<w.heap.size:=(Array.getElem?_eq_some_iff.1 hb).1
  refine h.turn O O O (by simp) (fun b' hb' hn=> ?_) (fun q hq=> ?_) (by simp)
  · have hne:b≠b':=fun e=>hn o (by subst e;exact List.mem_singleton.2 rfl)
    simp [Array.getElem?_setIfInBounds,hne]
  · simp only [List.mem_singleton] at hq
    subst hq
    refine ⟨by simp [Array.getElem?_setIfInBounds,hlt], .inl ⟨o,List.mem_singleton.2 O⟩⟩
theorem Ef {T:TypeId} {x:Operand} {s:ByteArray} (hu:P.underlying T=some .string) (hx:evs l x=some (.string s)) (hd:d<n.sz)
    (h: ∀b,K ((d, .pointer (some ⟨b,0,none⟩))::l) ([(b, .stringIter s 0)] ::Ps) As):OW P n R l Ps As ⟨some d, .range T x,ty,pos,aft,g⟩ K:=
  KU rfl hd fun Z w ρ hs hρ=>⟨_,w.alloc (.stringIter s 0),Z,_,As,by
    simp only [execOp,hρ _ _ hx,Instr.range,Sem.run_bind,run_underlying hu,Result.andThen_ok,Sem.run_pure,run_newObj];rfl,hs.alloc _,h _⟩
theorem ZQ {x:Operand} {s:ByteArray} {b p:Nat} (hx:evs l x=some (.pointer (some ⟨b,0,none⟩))) (hb:OwnAt Ps b (.stringIter s p)) (hp: ¬p<s.size):
    QR P l Ps As ⟨dd, .next x true,ty,pos,aft,g⟩ (.tuple #[.bool false]):=fun Z w ρ hs hρ=>by
  have h:=hs.block hb
  simp [execOp,hρ _ _ hx,Instr.next,getObj,Sem.run,h,hp]
theorem Eh {x:Operand} {s:ByteArray} {b p:Nat} (hx:evs l x=some (.pointer (some ⟨b,0,none⟩))) (hb:OwnAt Ps b (.stringIter s p)) (hp: ¬p<s.size) (hd:d<n.sz)
    (h:K ((d, .tuple #[.bool false])::l) Ps As):OW P n R l Ps As ⟨some d, .next x true,ty,pos,aft,g⟩ K:=
  KU rfl hd fun Z w ρ hs hρ=>⟨_,w,Z,Ps,As,ZQ hx hb hp Z w ρ hs hρ,hs,h⟩
theorem Eg {x:Operand} {s:ByteArray} {b p:Nat} (hx:evs l x=some (.pointer (some ⟨b,0,none⟩))) (hp:p<s.size) (hP:SetAt Ps [(b, .stringIter s p)] [(b, .stringIter s (p+(Utf8.decode s p).2))] Ps') (hd:d<n.sz)
    (h:K ((d, .tuple #[.bool true, .int .i64 p, .int .i32 (Utf8.decode s p).1])::l) Ps' As):OW P n R l Ps As ⟨some d, .next x true,ty,pos,aft,g⟩ K:=
  KU rfl hd fun Z w ρ hs hρ=>by
    have hb:w.heap[b]? =some (.stringIter s p):=by
      obtain ⟨Qs,h3,h4⟩:=hP.perm
      exact ((hs.permParts h3).own (b,_) (by simp)).1
    refine ⟨_,{ w with heap:=w.heap.setIfInBounds b (.stringIter s (p+(Utf8.decode s p).2)) },Z,Ps',As,?_,hs.setAt hP fun h=>h.setBlock,h⟩
    simp [execOp,hρ _ _ hx,Instr.next,getObj,setObj,Sem.run,hb,hp,goInt]
def cutA (A:Option Addr) (lo m sz:Nat):Option Addr:=if m=lo then A else A.map (·.add (lo*sz))
theorem QH {T E:TypeId} {A:Option Addr} {len cap lo hi m:Nat} {z:Option Value} {sz by_:Nat} {w:World} {vl vh vm:Option Value} (hu:P.underlying T=some (.slice E)) (ht:ti P E=some (z,sz,by_))
    (hb:(Instr.sliceBounds true len cap vl vh vm).run P w= .ok (lo,hi,m) w):(Instr.sliceAt T (.slice A len cap) vl vh vm).run P w= .ok (.slice (cutA A lo m sz) (hi-lo) (m-lo)) w:=by
  simp only [Instr.sliceAt,Instr.slice,Sem.run_bind,run_underlying hu,Result.andThen_ok,hb,KO ht,Sem.run_pure]
  rfl
theorem Ep {T E:TypeId} {x lo:Operand} {A:Option Addr} {len cap:Nat} {i:Int} {z:Option Value} {sz by_:Nat} (hu:P.underlying T=some (.slice E)) (ht:ti P E=some (z,sz,by_)) (hx:evs l x=some (.slice A len cap)) (hi:evs l lo=some (.int .i64 i)) (h0:0≤i) (h1:i≤len):
    QR P l Ps As ⟨dd, .slice T x (some lo) none none,ty,pos,aft,g⟩ (.slice (cutA A i.toNat cap sz) (len-i.toNat) (cap-i.toNat)):=fun Z w ρ hs hρ=>by
  have:=QH (P:=P) (A:=A) (len:=len) (cap:=cap) (lo:=i.toNat) (hi:=len) (m:=cap) (vl:=some (.int .i64 i)) (vh:=none) (vm:=none) (w:=w) hu ht (by simp [Instr.sliceBounds,Instr.sliceBound,asIntOf,h0,h1])
  simp only [execOp,hρ _ _ hx,hρ _ _ hi,Option.map_some,Option.map_none,Sem.run_bind,this,Result.andThen_ok,Sem.run_pure]
theorem HM {T E:TypeId} {x hi':Operand} {A:Option Addr} {len cap:Nat} {i:Int} {z:Option Value} {sz by_:Nat} (hu:P.underlying T=some (.slice E)) (ht:ti P E=some (z,sz,by_)) (hx:evs l x=some (.slice A len cap)) (hi:evs l hi'=some (.int .i64 i)) (h0:0≤i) (h1:i≤cap):
    QR P l Ps As ⟨dd, .slice T x none (some hi') none,ty,pos,aft,g⟩ (.slice (cutA A 0 cap sz) i.toNat cap):=fun Z w ρ hs hρ=>by
  have:=QH (P:=P) (A:=A) (len:=len) (cap:=cap) (lo:=0) (hi:=i.toNat) (m:=cap) (vl:=none) (vh:=some (.int .i64 i)) (vm:=none) (w:=w) hu ht (by simp [Instr.sliceBounds,Instr.sliceBound,asIntOf,h0,h1])
  simp only [execOp,hρ _ _ hx,hρ _ _ hi,Option.map_some,Option.map_none,Sem.run_bind,this,Result.andThen_ok,Sem.run_pure,Nat.sub_zero]
theorem GS {T E:TypeId} {x lo hi':Operand} {A:Option Addr} {len cap:Nat} {i j:Int} {z:Option Value} {sz by_:Nat} (hu:P.underlying T=some (.slice E)) (ht:ti P E=some (z,sz,by_)) (hx:evs l x=some (.slice A len cap)) (hl:evs l lo=some (.int .i64 i)) (hi:evs l hi'=some (.int .i64 j)) (h0:0≤i) (hij:i≤j) (h1:j≤cap):
    QR P l Ps As ⟨dd, .slice T x (some lo) (some hi') none,ty,pos,aft,g⟩ (.slice (cutA A i.toNat cap sz) (j.toNat - i.toNat) (cap-i.toNat)):=fun Z w ρ hs hρ=>by
  have h2:i≤j.toNat:=by omega
  have h3:0≤j:=by omega
  have:=QH (P:=P) (A:=A) (len:=len) (cap:=cap) (lo:=i.toNat) (hi:=j.toNat) (m:=cap) (vl:=some (.int .i64 i)) (vh:=some (.int .i64 j)) (vm:=none) (w:=w) hu ht (by simp [Instr.sliceBounds,Instr.sliceBound,asIntOf,h0,h1,Int.toNat_of_nonneg h3,hij,h3])
  simp only [execOp,hρ _ _ hx,hρ _ _ hi,hρ _ _ hl,Option.map_some,Option.map_none,Sem.run_bind,this,Result.andThen_ok,Sem.run_pure]
theorem Hl {T E:TypeId} {x hi' mx:Operand} {A:Option Addr} {len cap:Nat} {i j:Int} {z:Option Value} {sz by_:Nat} (hu:P.underlying T=some (.slice E)) (ht:ti P E=some (z,sz,by_)) (hx:evs l x=some (.slice A len cap)) (hi:evs l hi'=some (.int .i64 i)) (hm:evs l mx=some (.int .i64 j)) (h0:0≤i) (hij:i≤j) (h1:j≤cap):
    QR P l Ps As ⟨dd, .slice T x none (some hi') (some mx),ty,pos,aft,g⟩ (.slice (cutA A 0 j.toNat sz) i.toNat j.toNat):=fun Z w ρ hs hρ=>by
  have h2:i≤j.toNat:=by omega
  have h3:0≤j:=by omega
  have:=QH (P:=P) (A:=A) (len:=len) (cap:=cap) (lo:=0) (hi:=i.toNat) (m:=j.toNat) (vl:=none) (vh:=some (.int .i64 i)) (vm:=some (.int .i64 j)) (w:=w) hu ht (by simp [Instr.sliceBounds,Instr.sliceBound,asIntOf,h0,h1,Int.toNat_of_nonneg h3,hij,h3])
  simp only [execOp,hρ _ _ hx,hρ _ _ hi,hρ _ _ hm,Option.map_some,Option.map_none,Sem.run_bind,this,Result.andThen_ok,Sem.run_pure,Nat.sub_zero]
theorem RdS.cut {α:Type} {e:De α} {Z:Nat→Prop} {w:World} {A:Option Addr} {cap:Nat} {xs:List α} (h:RdS e Z w A cap xs) {lo hi m:Nat} (h1:lo≤hi) (h2:hi≤xs.length) (h3:hi≤m) (h4:m≤cap):
    RdS e Z w (cutA A lo m e.sz) (m-lo) ((xs.take hi).drop lo):=by
  obtain ⟨g1,g2,g3⟩:=h
  have hlen:((xs.take hi).drop lo).length=hi-lo:=by simp;omega
  refine ⟨by omega,by omega,?_⟩
  rcases g3 with ⟨rfl,g3⟩ | ⟨b,q,css,rfl,g4,g5,g6⟩
  · refine .inl ⟨by simp,fun hA=> ?_⟩
    unfold cutA at hA
    split at hA
    · omega
    · rcases A with _ | a
      · have:=g3 rfl;omega
      · simp at hA
  · unfold cutA
    split
    · rename_i he
      refine .inr ⟨b,q,[],O,g4,?_,?_⟩
      · have:(xs.take hi).drop lo= [] :=List.length_eq_zero_iff.1 (by omega)
        rw [this];exact .nil
      · obtain ⟨full,T,fr,k1,k2⟩:=g6
        exact ⟨full,T,fr,k1,fun j v hv=>by simp at hv⟩
    · refine .inr ⟨b,q+lo*e.sz,(css.take hi).drop lo,by simp [KT],g4,(g5.take hi).drop lo,?_⟩
      refine g6.part (lo*e.sz) fun j v hv=> ?_
      have hlens:=g5.lens
      have hlens': ∀cs∈css.take hi,cs.length=e.sz:=fun cs hcs=>hlens cs (List.mem_of_mem_take hcs)
      rw [VH hlens',List.getElem?_drop] at hv
      have hpre:(css.take hi).flatten<+:css.flatten:=by
        conv=>rhs;rw [←List.take_append_drop hi css]
        rw [List.flatten_append]
        exact List.prefix_append _ _
      obtain ⟨t,ht⟩:=hpre
      rw [←ht,List.getElem?_append_left ?_]
      · exact hv
      · rcases Nat.lt_or_ge (lo*e.sz+j) (css.take hi).flatten.length with h | h
        · exact h
        · rw [List.getElem?_eq_none h] at hv;cases hv
theorem Xe {α:Type} {e:De α} {c:Code} {A:Option Addr} {cap:Nat} {xs:List α} (hA:RdF e A cap xs∈As) (h:xs.length≤cap→cap≤maxLen→WC P n c R l Ps As):WC P n c R l Ps As:=
  fun Z w a hs ha=>by
    have h1:RdS e Z w A cap xs:=hs.facts _ hA
    exact h h1.1 h1.2.1 Z w a hs ha
theorem madeCells_rep {v:Value} {k:Nat} :(madeCells #[v] k).toList=List.replicate k v:=by
  apply List.ext_getElem
  · simp [madeCells]
  · intro i h1 h2
    simp [madeCells,Nat.mod_one]
theorem Jav {T E:TypeId} {x y:Operand} {zv:Value} {by_ k:Nat} (hu:P.underlying T=some (.slice E)) (ht:ti P E=some (some zv,1,by_)) (hz:zv.cells= #[zv]) (hx:evs l x=some (.int .i64 k)) (hy:evs l y=some (.int .i64 k)) (hk:k*by_≤281474976710656) (hm:k≤maxLen) (hd:d<n.sz)
    (h: ∀b,K ((d, .slice (some ⟨b,0,none⟩) k k)::l) ([(b,JB (List.replicate k zv) E)] ::Ps) As):OW P n R l Ps As ⟨some d, .makeSlice T x y,ty,pos,aft,g⟩ K:=
  KU rfl hd fun Z w ρ hs hρ=>by
    unfold ti at ht
    cases hi:P.info? E with
    | none=>rw [hi] at ht;cases ht
    | some i=>
      rw [hi] at ht
      simp only [Option.map_some,Option.some.injEq,Prod.mk.injEq] at ht
      have hm':=hm
      simp only [maxLen] at hm'
      have hb':(i.bytes:Int)*(k:Int)≤281474976710656:=by
        have h1:((i.bytes*k:Nat):Int)≤281474976710656:=by rw [ht.2.2,Nat.mul_comm];omega
        rwa [Int.natCast_mul] at h1
      have hr:=run_make (P:=P) w T E i zv hu hi ht.1 .i64 .i64 k k (by omega) (by omega) hb' (by omega)
      refine ⟨_,w.alloc (JB (List.replicate k zv) E),Z,_,As,?_,hs.alloc _,h w.heap.size⟩
      simp only [execOp,hρ _ _ hx,hρ _ _ hy,Sem.run_bind,hr,Result.andThen_ok,Sem.run_pure,Int.toNat_natCast]
      have:madeCells zv.cells (k*i.size)=(List.replicate k zv).toArray:=by
        apply Array.ext'
        rw [hz,ht.2.1,Nat.mul_one,madeCells_rep]
      rw [this]
end
structure MK where
  c:Int
  n:Int
  b:Nat
deriving DecidableEq
abbrev idV (c n:Int):Value:= .agg #[.int .i64 c, .int .i64 n]
def mkEs:List MK→Nat→List MapEntry
  | [],_=> []
  | x::r,i=>⟨idV x.c x.n, .pointer (some ⟨x.b,0,none⟩),i⟩::mkEs r (i+1)
abbrev mapO (L:List MK):Obj:= .map (mkEs L 0).toArray L.length
def mGet:List MK→Int→Int→Option Nat
  | [],_,_=>none
  | x::r,c,n=>if c=x.c∧n=x.n then some x.b else mGet r c n
theorem Xz: ∀(L:List MK) (x:MK) (i:Nat),mkEs (L++ [x]) i=mkEs L i++ [⟨idV x.c x.n, .pointer (some ⟨x.b,0,none⟩),i+L.length⟩]
  | [],x,i=>by simp [mkEs]
  | y::L,x,i=>by simp [mkEs,Xz L x (i+1)];omega
structure KeyT (P:Program) (K:TypeId):Prop where
  ex: ∃E z by_,P.underlying K=some (.array 2 E)∧P.underlying E=some (.int .i64)∧ti P E=some (z,1,by_)
  eq: ∀a b c d,EqT P K #[.int .i64 a, .int .i64 b] #[.int .i64 c, .int .i64 d] (a==c && b==d)
variable {P:Program}
theorem El {E:TypeId} {em:Bool} {a:Int} {w:World} (he:P.underlying E=some (.int .i64)) (k:Nat):(Instr.checkKey em (k+1) E (.int .i64 a)).run P w= .ok () w:=by
  rw [Instr.checkKey]
  simp [run_underlying he]
theorem Xw {K:TypeId} {em:Bool} {a b:Int} {w:World} (h:KeyT P K):(Instr.checkKey em 10000 K (idV a b)).run P w= .ok () w:=by
  obtain ⟨E,z,by_,hu,he,ht⟩:=h.ex
  have h1: ∀(cs:List Value) (o:Nat) (v:Value) w,cs[o]? =some v→(part E cs.toArray o).run P w= .ok v w:=fun cs o v w h=>YR he rfl h
  rw [show (10000:Nat)=9998+1+1 from rfl,Instr.checkKey]
  simp only [Sem.run_bind,run_underlying hu,Result.andThen_ok]
  simp only [Std.Legacy.Range.forIn_eq_forIn_range',Std.Legacy.Range.size,Nat.sub_zero,Nat.add_sub_cancel,Nat.div_one,List.range'_succ,List.range'_zero,List.forIn_cons,List.forIn_nil,Sem.run_bind,KO ht,Result.andThen_ok,Nat.mul_one,Nat.zero_add,h1 [.int .i64 a, .int .i64 b] 0 _ _ rfl,h1 [.int .i64 a, .int .i64 b] 1 _ _ rfl,El he,Sem.run_pure]
def mFind:List MK→Int→Int→Nat→Option (Nat×Value)
  | [],_,_,_=>none
  | x::r,c,n,i=>if c=x.c∧n=x.n then some (i, .pointer (some ⟨x.b,0,none⟩)) else mFind r c n (i+1)
theorem Xl: ∀(L:List MK) (c n:Int) (i:Nat),(mFind L c n i).map Prod.snd=(mGet L c n).map fun b=>Value.pointer (some ⟨b,0,none⟩)
  | [],_,_,_=>rfl
  | x::r,c,n,i=>by
    unfold mFind mGet
    split
    · rfl
    · exact Xl r c n (i+1)
theorem Vo {K:TypeId} (h:KeyT P K) (c n:Int) (w:World): ∀(L:List MK) (i0 i:Nat),(Instr.findAsking K (idV c n) (mkEs L i0) i).run P w= .ok (mFind L c n i) w
  | [],_,_=>rfl
  | x::L,i0,i=>by
    have h1:(Op.equal K (idV c n) (idV x.c x.n)).run P w= .ok (c==x.c && n==x.n) w:=(h.eq c n x.c x.n).run 9991 w
    unfold mkEs mFind Instr.findAsking
    simp only [Sem.run_bind,h1,Result.andThen_ok]
    by_cases hq:c=x.c∧n=x.n
    · simp [hq]
    · have h2:(c==x.c && n==x.n)=false:=by
        cases h3:(c==x.c && n==x.n) with
        | false=>rfl
        | true=>simp at h3;exact absurd h3 hq
      rw [h2,if_neg hq]
      exact Vo h c n w L (i0+1) (i+1)
theorem Gb {K:TypeId} (h:KeyT P K) (c n:Int) (w:World) (L:List MK):(Instr.findKey K (idV c n) (mkEs L 0)).run P w= .ok (mFind L c n 0) w:=by
  obtain ⟨E,z,by_,hu,he,ht⟩:=h.ex
  unfold Instr.findKey
  simp only [Sem.run_bind,run_underlying hu,Result.andThen_ok]
  cases L with
  | nil=>rfl
  | cons x L=>exact Vo h c n w (x::L) 0 0
section
variable {n:Dm} {R:Post} {l:Fr} {Ps Ps':List Part} {As:List Fact} {ops:Array Oper} {rest:List Oper} {ty:TypeId} {pos:String} {aft:Array Edge} {g:Option (Nat×Bool)} {K:Nx} {d:Nat} {dd:Option Tmp}
theorem ZR {T Kt E:TypeId} {x y:Operand} {m:Nat} {L:List MK} {c k:Int} {sz by_:Nat} (hk:KeyT P Kt) (hu:P.underlying T=some (.map Kt E)) (ht:ti P E=some (some (.pointer none),sz,by_)) (hx:evs l x=some (.map (some m))) (hy:evs l y=some (idV c k)) (hb:OwnAt Ps m (mapO L)):
    QR P l Ps As ⟨dd, .lookup T x y false,ty,pos,aft,g⟩ (.pointer ((mGet L c k).map fun b=>⟨b,0,none⟩)):=fun Z w ρ hs hρ=>by
  have h:=hs.block hb
  have h1:=Gb hk c k w L
  have h2:=Xl L c k 0
  simp only [execOp,hρ _ _ hx,hρ _ _ hy,Instr.lookup,Sem.run_bind,run_underlying hu,Result.andThen_ok]
  simp only [getObj,Sem.run,h,Xw hk,Result.andThen_ok,Sem.run_bind,h1]
  cases hf:mFind L c k 0 with
  | none=>
    rw [hf] at h2
    have h3:mGet L c k=none:=by cases hg:mGet L c k with
      | none=>rfl
      | some b=>rw [hg] at h2;cases h2
    rw [hf] at h1
    simp [h3,h1,Y6 ht,Sem.run]
  | some q=>
    rw [hf] at h2
    cases hg:mGet L c k with
    | none=>rw [hg] at h2;cases h2
    | some b=>
      rw [hg] at h2
      simp only [Option.map_some,Option.some.injEq] at h2
      obtain ⟨i,v⟩:=q
      simp only at h2
      subst h2
      rw [hf] at h1
      simp [h1,Sem.run]
theorem Hz {T:TypeId} (hd:d<n.sz) (h: ∀b,K ((d, .map (some b))::l) ([(b,mapO [])] ::Ps) As):OW P n R l Ps As ⟨some d, .makeMap T none,ty,pos,aft,g⟩ K:=
  KU rfl hd fun Z w ρ hs hρ=>⟨_,w.alloc (mapO []),Z,_,As,by simp only [execOp,Instr.makeMap,Option.map_none];rfl,hs.alloc _,h _⟩
theorem Zv {T Kt E:TypeId} {x y z:Operand} {m b:Nat} {L:List MK} {c k:Int} (hk:KeyT P Kt) (hu:P.underlying T=some (.map Kt E)) (hx:evs l x=some (.map (some m))) (hy:evs l y=some (idV c k)) (hz:evs l z=some (.pointer (some ⟨b,0,none⟩))) (hn:mGet L c k=none)
    (hP:SetAt Ps [(m,mapO L)] [(m,mapO (L++ [⟨c,k,b⟩]))] Ps') (h:K l Ps' As):OW P n R l Ps As ⟨none, .mapUpdate T x y z,ty,pos,aft,g⟩ K:=
  Xf rfl fun Z w ρ hs hρ=>by
    have hb:w.heap[m]? =some (mapO L):=by
      obtain ⟨Qs,h3,h4⟩:=hP.perm
      exact ((hs.permParts h3).own (m,_) (by simp)).1
    have h1:=Gb hk c k w L
    have h2:=Xl L c k 0
    have hf:mFind L c k 0=none:=by
      cases hf:mFind L c k 0 with
      | none=>rfl
      | some q=>rw [hf,hn] at h2;cases h2
    rw [hf] at h1
    refine ⟨{ w with heap:=w.heap.setIfInBounds m (mapO (L++ [⟨c,k,b⟩])) },Z,Ps',As,?_,hs.setAt hP fun h=>h.setBlock,h⟩
    have he:(mkEs L 0).toArray.push { key:=idV c k,val:= .pointer (some ⟨b,0,none⟩),born:=L.length } =(mkEs (L++ [⟨c,k,b⟩]) 0).toArray:=by
      rw [Xz];simp
    simp only [execOp,hρ _ _ hx,hρ _ _ hy,hρ _ _ hz,Instr.mapUpdate,Sem.run_bind,run_underlying hu,Result.andThen_ok,getObj,Sem.run,hb,Xw hk,h1]
    simp [setObj,Sem.run,hb,he,mapO]
theorem Row.grown {T:TypeId} {sz:Nat} {zv:Value} {w:World} {Z:Nat→Prop} {m k old:Nat} {olds news:List Value} (hs:St Z w Ps As) (hz:zv.cells.size=sz) (ho:olds.length=m*sz) (hl:news.length=k*sz) (hmx:m+k≤maxLen):
    ∃p',Row T sz (.slice (some ⟨w.heap.size,0,none⟩) (m+k) (grownCap w (m+k) old T)) (m+k) (olds++news) p'∧St Z (w.drew.alloc (.cells (olds.toArray++news.toArray++Builtin.zeroCells zv.cells (grownCap w (m+k) old T-(m+k))) T)) (p'::Ps) As:=by
  have h1:=grownCap_ge w (m+k) old T
  refine ⟨[(w.heap.size,JB ((olds++news)++(Builtin.zeroCells zv.cells (grownCap w (m+k) old T-(m+k))).toList) T)],⟨by rw [List.length_append,ho,hl,Nat.add_mul], .inr ⟨_,_,_,O,O,?_,h1,grownCap_le_maxLen w (m+k) old T hmx⟩⟩,?_⟩
  · rw [List.length_append,List.length_append,ho,hl,Array.length_toList,size_zeroCells,hz,←Nat.add_mul,←Nat.add_mul]
    congr 1;omega
  · have h2:=(hs.drew (w.drawn+1)).alloc (.cells (olds.toArray++news.toArray++Builtin.zeroCells zv.cells (grownCap w (m+k) old T-(m+k))) T)
    have e:(olds.toArray++news.toArray++Builtin.zeroCells zv.cells (grownCap w (m+k) old T-(m+k)))=((olds++news)++(Builtin.zeroCells zv.cells (grownCap w (m+k) old T-(m+k))).toList).toArray:=by
      apply Array.ext';simp
    unfold JB
    rw [←e]
    exact h2
theorem HA {α:Type} {e:De α} {T E:TypeId} {x y:Operand} {zv:Value} {by_ b c:Nat} {A:Option Addr} {xs:List α} {news:List Value} {T':TypeId} (hu:P.underlying T=some (.slice E)) (ht:ti P E=some (some zv,e.sz,by_)) (hz:zv.cells.size=e.sz) (hsz:0<e.sz) (hx:evs l x=some (.slice A xs.length xs.length)) (hy:evs l y=some (.slice (some ⟨b,0,none⟩) 1 c))
    (hA:RdF e A xs.length xs∈As) (hb:OwnAt Ps b (JB news T')) (hl:news.length=e.sz) (h1:news.all Value.oneCell'=true) (h63:(xs.length+1)*by_≤140737488355328) (hmx:xs.length+1≤maxLen) (hd:d<n.sz)
    (h: ∀v' p' css,Row E e.sz v' (xs.length+1) (css.flatten++news) p'→K ((d,v')::l) (p'::Ps) (RepsF e xs css::As)):OW P n R l Ps As ⟨some d, .call ⟨.builtin .append,#[x,y],#[T,T]⟩,ty,pos,aft,g⟩ K:=
  KU rfl hd fun Z w ρ hs hρ=>by
    have hc:CellsAt w b 0 news:=⟨_,_,_,hs.block hb,fun j v hv=>by simpa using hv⟩
    have hnews: ∀j u,news[j]? =some u→w.cell? ((⟨b,0,none⟩:Addr).add j)=some u:=fun j u hu=>by rw [KT];exact hc.cell hu
    have hm':=hmx
    simp only [maxLen] at hm'
    have grow: ∀(a:Addr) (css:List (List Value)),A=some a→Reps (e.rep Z w) xs css→(∀j u,css.flatten[j]? =some u→w.cell? (a.add j)=some u)→ ∃v w' Z' Ps' As',(execOp ρ ⟨some d, .call ⟨.builtin .append,#[x,y],#[T,T]⟩,ty,pos,aft,g⟩).run P w= .ok (.value v) w'∧St Z' w' Ps' As'∧K ((d,v)::l) Ps' As':=by
      intro a css hA1 hr hcells
      subst hA1
      have ht':=ht
      unfold ti at ht'
      cases hi:P.info? E with
      | none=>rw [hi] at ht';cases ht'
      | some i=>
        rw [hi] at ht'
        simp only [Option.map_some,Option.some.injEq,Prod.mk.injEq] at ht'
        obtain ⟨e1,e2,e3⟩:=ht'
        have hfl:css.flatten.length=xs.length*e.sz:=by rw [YJ hr.lens,hr.length]
        obtain ⟨p',k1,k2⟩:=Row.grown (T:=E) (old:=xs.length) (hs.addFact (A:=RepsF e xs css) hr) hz hfl (k:=1) (news:=news) (by simpa using hl) hmx
        have hrun:=run_append_grow (P:=P) w T ty E i zv hu hi e1 a xs.length xs.length css.flatten (by rw [hfl,e2]) hcells ⟨b,0,none⟩ 1 c news (by rw [hl,e2];simp) hnews (by omega) (by omega) (growslice_fits (by omega) (by rw [e3];exact h63))
        exact ⟨_,_,Z,_,_,by rw [K8 (hρ _ _ hx) (hρ _ _ hy),Sem.run_bind,hrun];rfl,k2,h _ p' css k1⟩
    obtain ⟨g1,g2,⟨rfl,g3⟩ | ⟨b',q,css,rfl,g4,g5,g6⟩⟩:RdS e Z w A xs.length xs:=hs.facts _ hA
    · rcases A with _ | a
      · obtain ⟨v',w',p',k1,k2,k3⟩:=Ql (ty:=ty) (c:=c) (p:= []) hu ht hz hsz (hs.nilPart.addFact (A:=RepsF e [] []) Reps.nil) (Row.nil E e.sz) (ad:=⟨b,0,none⟩) (m:=1) (news:=news) (by simp [hl]) hnews (fun u hu=>List.all_eq_true.1 h1 u hu) (by simpa using h63) (by simpa using hmx)
        refine ⟨v',w',Z,_,_,by rw [K8 (hρ _ _ hx) (hρ _ _ hy),Sem.run_bind];erw [k1];rfl,k3,h v' p' [] (by simpa using k2)⟩
      · exact grow a [] O .nil (by simp)
    · exact grow ⟨b',q,none⟩ css O g5 (fun j u hu=>by rw [KT];exact g6.cell hu)
theorem Y0 {k:FuncId} {xs:List Operand} {ts:Array TypeId} {args:List Value} {Lin Qs:List Part} {pre:List Fact} {res:Value→List Part→List Fact→Prop}
    (hsp:Sp P k args Lin pre res) (hxs:Evs l xs args) (hd:d<n.sz) (hp:(Lin++Qs).flatten.Perm Ps.flatten) (hpre: ∀A∈pre,A∈As)
    (h: ∀v Lo fs,res v Lo fs→K ((d,v)::l) (Lo++Qs) (fs++As)):
    OW P n R l Ps As ⟨some d, .call ⟨.value (.func k),xs.toArray,ts⟩,ty,pos,aft,g⟩ K:=
  XZ hsp hxs hd (fun hs=>(hs.permParts hp).subFacts fun A hA=>by
    rcases List.mem_append.1 hA with hA | hA
    · exact hpre A hA
    · exact hA) h
end
theorem Zn {sz:Nat} {css:List (List Value)} (h: ∀cs∈css,cs.length=sz) {i:Nat} {c:List Value} (hi:css[i]? =some c) (jk:List Value):((css.flatten++jk).drop (i*sz)).take sz=c:=by
  have hlt:i<css.length:=by
    rcases Nat.lt_or_ge i css.length with h | h
    · exact h
    · simp [List.getElem?_eq_none h] at hi
  have hc:css[i] =c:=by rw [List.getElem?_eq_getElem hlt] at hi;exact Option.some.inj hi
  have hle:i*sz≤css.flatten.length:=by rw [YJ h];exact Nat.mul_le_mul_right _ (by omega)
  rw [List.drop_append_of_le_length hle,←VH h,List.drop_eq_getElem_cons hlt,hc,List.flatten_cons,List.append_assoc]
  exact List.take_left' (h c (hc ▸ List.getElem_mem hlt))
theorem Xi: ∀(vs cs:List Value) (k:Nat),k+vs.length≤cs.length→setAll cs k vs=cs.take k++vs++cs.drop (k+vs.length)
  | [],cs,k,h=>by simp [setAll]
  | v::vs,cs,k,h=>by
    simp only [List.length_cons] at h
    rw [setAll,Xi vs (cs.set k v) (k+1) (by simp;omega)]
    have h1:(cs.set k v).take (k+1)=cs.take k++ [v] :=by
      rw [List.set_eq_take_append_cons_drop,if_pos (by omega),List.take_append]
      simp [List.length_take,List.take_take,Nat.min_eq_left (by omega:k≤cs.length)]
    have h2:(cs.set k v).drop (k+1+vs.length)=cs.drop (k+(v::vs).length):=by
      rw [List.drop_set_of_lt (by omega)]
      congr 1;simp;omega
    rw [h1,h2]
    simp
theorem Z8 {sz:Nat} {css:List (List Value)} (h: ∀cs∈css,cs.length=sz) {i:Nat} {c:List Value} (hi:i<css.length) (hc:c.length=sz) (jk:List Value):setAll (css.flatten++jk) (i*sz) c=(css.set i c).flatten++jk:=by
  have hle:i*sz≤css.flatten.length:=by rw [YJ h];exact Nat.mul_le_mul_right _ (by omega)
  have hle2:i*sz+sz≤css.flatten.length:=by
    have:(i+1)*sz≤css.length*sz:=Nat.mul_le_mul_right _ (by omega)
    rw [Nat.add_mul,Nat.one_mul] at this
    rw [YJ h];exact this
  rw [Xi _ _ _ (by rw [List.length_append,hc];omega),hc,List.take_append_of_le_length hle,List.drop_append_of_le_length hle2]
  have e1:(i+1)*sz=i*sz+sz:=by rw [Nat.add_mul,Nat.one_mul]
  rw [←e1,←VH h,List.set_eq_take_append_cons_drop,if_pos hi,List.flatten_append,List.flatten_cons]
  have e2:css.flatten.take (i*sz)=(css.take i).flatten:=by
    have h1:css.flatten=(css.take i).flatten++(css.drop i).flatten:=by rw [←List.flatten_append,List.take_append_drop]
    have h2:(css.take i).flatten.length=i*sz:=by
      rw [YJ (fun cs hcs=>h cs (List.mem_of_mem_take hcs)),List.length_take,Nat.min_eq_left (by omega)]
    rw [h1,List.take_left' h2]
  rw [e2]
  simp [List.append_assoc]
section
variable {P:Program} {n:Dm} {R:Post} {l:Fr} {Ps Ps':List Part} {As:List Fact} {ops:Array Oper} {rest:List Oper} {ty:TypeId} {pos:String} {aft:Array Edge} {g:Option (Nat×Bool)} {K:Nx} {d:Nat} {dd:Option Tmp}
theorem Reps.open {α:Type} {r:α→List Value→Prop} {xs:List α} {css:List (List Value)} (h:Reps r xs css) {k:Nat} {u:α} (hu:xs[k]? =some u): ∃cs,css[k]? =some cs∧r u cs:=h.at k u hu
theorem HX {α:Type} {e:De α} {c:Code} {xs:List α} {css:List (List Value)} {k:Nat} {u:α} {β:Type} {mk:β→List Value} {Fs:β→List Fact} (hA:RepsF e xs css∈As) (hu:xs[k]? =some u) (ho: ∀Z w cs,e.rep Z w u cs→ ∃y,cs=mk y∧ ∀B∈Fs y,B.holds Z w)
    (h: ∀y,css[k]? =some (mk y)→WC P n c R l Ps (Fs y++As)):WC P n c R l Ps As:=
  HY (Fs:=Fs) (p:=fun y=>css[k]? =some (mk y)) hA (fun Z w hR=>by
    obtain ⟨cs,h1,h2⟩:=(hR:Reps (e.rep Z w) xs css).at k u hu
    obtain ⟨y,h3,h4⟩:=ho Z w cs h2
    subst h3
    exact ⟨y,h1,h4⟩) h
theorem Vh {α:Type} {e:De α} {c:Code} {xs:List α} {css:List (List Value)} (hA:RepsF e xs css∈As) (h:css.length=xs.length→(∀cs∈css,cs.length=e.sz)→WC P n c R l Ps As):WC P n c R l Ps As:=fun Z w a hs ha=>
  h (Reps.length (hs.facts _ hA:Reps (e.rep Z w) xs css)) (Reps.lens (hs.facts _ hA:Reps (e.rep Z w) xs css)) Z w a hs ha
theorem HL {T:TypeId} {x:Operand} {de:TypeDesc} {b i o:Nat} {css:List (List Value)} {c jk:List Value} {T':TypeId} {z:Option Value} {sz by_:Nat} (hu:P.underlying T=some de) (hd:agg? de=true) (ht:ti P T=some (z,sz,by_)) (h:evs l x=some (.pointer (some ⟨b,o,none⟩))) (ho:o=i*sz)
    (hb:OwnAt Ps b (JB (css.flatten++jk) T')) (hlen: ∀cs∈css,cs.length=sz) (hi:css[i]? =some c):QR P l Ps As ⟨dd, .load T x,ty,pos,aft,g⟩ (.agg c.toArray):=by
  subst ho
  exact Jt hu hd ht h hb (Zn hlen hi jk) (hlen c (List.mem_of_getElem? hi))
theorem Ee {T:TypeId} {x y:Operand} {b o i sz:Nat} {css:List (List Value)} {c jk:List Value} {T':TypeId} {z:Option Value} {by_:Nat} (ht:ti P T=some (z,sz,by_)) (hx:evs l x=some (.pointer (some ⟨b,o,none⟩))) (ho:o=i*sz) (hy:evs l y=some (.agg c.toArray)) (hl:c.length=sz) (hv:c.all Value.oneCell'=true)
    (hlen: ∀cs∈css,cs.length=sz) (hi:i<css.length) (hp:SetAt Ps [(b,JB (css.flatten++jk) T')] [(b,JB ((css.set i c).flatten++jk) T')] Ps') (h:K l Ps' As):OW P n R l Ps As ⟨none, .store T x y,ty,pos,aft,g⟩ K:=by
  subst ho
  refine Jq ht hx hy hl hv (Z8 hlen hi hl jk) ?_ hp h
  have h1:(i+1)*sz≤css.length*sz:=Nat.mul_le_mul_right _ (by omega)
  rw [Nat.add_mul,Nat.one_mul] at h1
  rw [List.length_append,YJ hlen,hl];omega
def RowS (T:TypeId) (sz:Nat) (v:Value) (n:Nat) (cs:List Value) (p:Part):Prop:=
  cs.length=n*sz∧ ∃b cap jk,v= .slice (some ⟨b,0,none⟩) n cap∧p= [(b,JB (cs++jk) T)] ∧(cs++jk).length=cap*sz∧n≤cap∧cap≤maxLen
theorem RowS.row {T:TypeId} {sz m:Nat} {v:Value} {cs:List Value} {p:Part} (h:RowS T sz v m cs p):Row T sz v m cs p:=⟨h.1, .inr h.2⟩
theorem Row.toS {T:TypeId} {sz m:Nat} {v:Value} {cs:List Value} {p:Part} (h:Row T sz v m cs p) (hm:m≠0):RowS T sz v m cs p:=⟨h.1,by
  rcases h.2 with ⟨_,h0,_⟩ | h
  · exact absurd h0 hm
  · exact h⟩
theorem Row.again {T:TypeId} {sz m cap b:Nat} {css0 css:List (List Value)} {jk:List Value} (h1:css0.flatten.length=m*sz) (h2:(css0.flatten++jk).length=cap*sz) (h3:m≤cap) (h4:cap≤maxLen) (hl:css.length=m) (hls: ∀cs∈css,cs.length=sz):
    Row T sz (.slice (some ⟨b,0,none⟩) m cap) m css.flatten [(b,JB (css.flatten++jk) T)] :=by
  have e:css.flatten.length=m*sz:=by rw [YJ hls,hl]
  refine ⟨e, .inr ⟨b,cap,jk,O,O,?_,h3,h4⟩⟩
  rw [List.length_append] at h2 ⊢
  omega
theorem Jaw {T E:TypeId} {x y:Operand} {zv:Value} {sz by_ k:Nat} (hu:P.underlying T=some (.slice E)) (ht:ti P E=some (some zv,sz,by_)) (hx:evs l x=some (.int .i64 0)) (hy:evs l y=some (.int .i64 k)) (hk:by_*k≤281474976710656) (hm:k≤maxLen) (hd:d<n.sz)
    (h: ∀v p,RowS E sz v 0 [] p→K ((d,v)::l) (p::Ps) As):OW P n R l Ps As ⟨some d, .makeSlice T x y,ty,pos,aft,g⟩ K:=
  KU rfl hd fun Z w ρ hs hρ=>by
    unfold ti at ht
    cases hi:P.info? E with
    | none=>rw [hi] at ht;cases ht
    | some i=>
      rw [hi] at ht
      simp only [Option.map_some,Option.some.injEq,Prod.mk.injEq] at ht
      have hm':=hm
      simp only [maxLen] at hm'
      have hb':(i.bytes:Int)*(k:Int)≤281474976710656:=by
        have h1:((i.bytes*k:Nat):Int)≤281474976710656:=by rw [ht.2.2];omega
        rwa [Int.natCast_mul] at h1
      have hr:=run_make (P:=P) w T E i zv hu hi ht.1 .i64 .i64 0 k (Int.le_refl _) (by omega) hb' (by omega)
      refine ⟨_,w.alloc (JB ([] ++(madeCells zv.cells (k*i.size)).toList) E),Z,_,As,?_,hs.alloc _,h _ _ ⟨by simp,w.heap.size,k,(madeCells zv.cells (k*i.size)).toList,O,O,?_,Nat.zero_le _,hm⟩⟩
      · simp only [execOp,hρ _ _ hx,hρ _ _ hy,Sem.run_bind,hr,Result.andThen_ok,Sem.run_pure,Int.toNat_natCast,Int.toNat_zero]
        simp [JB]
      · simp [size_madeCells,ht.2.1]
theorem Vi {α:Type} {e:De α} {c:Code} {xs xs':List α} {css:List (List Value)} {u:α} {cs:List Value} (hA:RepsF e xs css∈As) (hu: ∀Z w,St Z w Ps As→e.rep Z w u cs) (hx:xs'=xs++ [u]) (h:WC P n c R l Ps (RepsF e xs' (css++ [cs])::As)):WC P n c R l Ps As:=by
  subst hx
  exact Ke (A:=RepsF e (xs++ [u]) (css++ [cs])) (fun Z w hs=>Reps.append (hs.facts _ hA:Reps (e.rep Z w) xs css) (.n1 (hu Z w hs))) h
theorem GH {α:Type} {e:De α} {xs xs':List α} {css:List (List Value)} {u:α} {cs:List Value} (i:Nat) (hA:RepsF e xs css∈As) (hu: ∀Z w,St Z w Ps As→e.rep Z w u cs) (hx:xs'=xs.set i u) (h:WL P n ops R rest l Ps (RepsF e xs' (css.set i cs)::As)):WL P n ops R rest l Ps As:=by
  subst hx
  exact Jbo (A:=RepsF e (xs.set i u) (css.set i cs)) (fun Z w hs=>Reps.set (hs.facts _ hA:Reps (e.rep Z w) xs css) i u cs (hu Z w hs)) h
end
section
variable {P:Program} {n:Dm} {R:Post} {l:Fr} {Ps Ps':List Part} {As:List Fact} {ops:Array Oper} {rest:List Oper} {ty:TypeId} {pos:String} {aft:Array Edge} {g:Option (Nat×Bool)} {K:Nx} {d:Nat} {dd:Option Tmp}
theorem St.pick {Z:Nat→Prop} {w:World} {p:Part} (h:St Z w Ps As) (hd:DelAt Ps p Ps'):St Z w (p::Ps') As:=h.permParts hd.perm
theorem St.setCellP {Z:Nat→Prop} {w:World} {p:Part} {b i k:Nat} {cs:List Value} {T:TypeId} (h:St Z w (p::Ps) As) (hi:p[i]? =some (b,JB cs T)) (v:Value):St Z (w.setCell ⟨b,k,none⟩ v) (p.set i (b,JB (cs.set k v) T)::Ps) As:=by
  have hm:(b,JB cs T)∈p:=List.mem_of_getElem? hi
  have hb:w.heap[b]? =some (JB cs T):=(h.own (b,_) (by simp [hm])).1
  have hnd:=h.nodup
  rw [List.flatten_cons,List.map_append,List.nodup_append] at hnd
  have hlt:i<p.length:=by
    rcases Nat.lt_or_ge i p.length with h | h
    · exact h
    · simp [List.getElem?_eq_none h] at hi
  have hpi:p[i] =(b,JB cs T):=by rw [List.getElem?_eq_getElem hlt] at hi;exact Option.some.inj hi
  have hfst:(p.set i (b,JB (cs.set k v) T)).map Prod.fst=p.map Prod.fst:=by
    rw [List.map_set]
    apply List.ext_getElem
    · simp
    · intro j h1 h2
      rw [List.getElem_set]
      split
      · rename_i e;subst e;simp [hpi]
      · rfl
  refine h.turn O O O (by simp [World.setCell]) (fun b' hb' hn=>setCell_other v (fun e=>hn _ (by subst e;exact hm))) (fun q hq=> ?_) (by rw [hfst];exact hnd.1)
  obtain ⟨j,hj,rfl⟩:=List.mem_iff_getElem.1 hq
  rw [List.getElem_set]
  split
  · exact ⟨setCell_block hb v, .inl ⟨_,hm⟩⟩
  · rename_i hne
    have hj':j<p.length:=by simpa using hj
    have hmj:p[j] ∈p:=List.getElem_mem hj'
    refine ⟨?_, .inl ⟨_,hmj⟩⟩
    have h1:p[j].1≠b:=fun e=>by
      have h2:(p.map Prod.fst)[j]'(by simpa using hj')=(p.map Prod.fst)[i]'(by simpa using hlt):=by simp [hpi,e]
      exact hne ((List.getElem_inj hnd.1).1 h2).symm
    rw [setCell_other v h1]
    exact (h.own _ (by simp [hmj])).1
theorem Xq {T:TypeId} {x y:Operand} {b o i:Nat} {v:Value} {cs cs':List Value} {T':TypeId} {z:Option Value} {by_:Nat} {p:Part} (ht:ti P T=some (z,1,by_)) (hx:evs l x=some (.pointer (some ⟨b,o,none⟩))) (hy:evs l y=some v) (hv:v.oneCell'=true)
    (hi:p[i]? =some (b,JB cs T')) (hc:SetL cs o v cs') (hp:SetAt Ps p (p.set i (b,JB cs' T')) Ps') (h:K l Ps' As):OW P n R l Ps As ⟨none, .store T x y,ty,pos,aft,g⟩ K:=
  Xf rfl fun Z w ρ hs hρ=>by
    obtain ⟨h1,h2⟩:=hc.eq
    have hm:(b,JB cs T')∈p:=List.mem_of_getElem? hi
    have hb:w.heap[b]? =some (JB cs T'):=by
      obtain ⟨Qs,h3,h4⟩:=hp.perm
      exact ((hs.permParts h3).own (b,_) (by simp [hm])).1
    have hcell:v.cells= #[v] :=by cases v<;>first | rfl | (simp [Value.oneCell'] at hv;done)
    refine ⟨w.setCell ⟨b,o,none⟩ v,Z,Ps',As,?_,?_,h⟩
    · simp only [execOp,hρ _ _ hx,hρ _ _ hy,Instr.storeAt,Instr.sureAddr,storeVar,Sem.run_bind,Sem.run_pure,Result.andThen_ok,KO ht,hcell]
      simp [storeCells,KT,QQ hb h1 hv]
    · subst h2;exact hs.setAt hp fun h=>h.setCellP hi v
theorem Kv {k:FuncId} {xs:List Operand} {ts:Array TypeId} {args:List Value} {p1 p2:Part} {Q1 Q2:List Part} {pre:List Fact} {res:Value→List Part→List Fact→Prop}
    (hsp:Sp P k args [p1,p2] pre res) (hxs:Evs l xs args) (hd:d<n.sz) (h1:DelAt Ps p1 Q1) (h2:DelAt Q1 p2 Q2) (hpre: ∀A∈pre,A∈As)
    (h: ∀v Lo fs,res v Lo fs→K ((d,v)::l) (Lo++Q2) (fs++As)):
    OW P n R l Ps As ⟨some d, .call ⟨.value (.func k),xs.toArray,ts⟩,ty,pos,aft,g⟩ K:=
  Y0 hsp hxs hd (by
    have e1:=h1.perm;have e2:=h2.perm
    simp only [List.flatten_cons,List.cons_append,List.nil_append] at e1 e2 ⊢
    exact (List.Perm.append_left p1 e2).trans e1) hpre h
theorem KB {k:FuncId} {xs:List Operand} {ts:Array TypeId} {args:List Value} {p1 p2 p3:Part} {Q1 Q2 Q3:List Part} {pre:List Fact} {res:Value→List Part→List Fact→Prop}
    (hsp:Sp P k args [p1,p2,p3] pre res) (hxs:Evs l xs args) (hd:d<n.sz) (h1:DelAt Ps p1 Q1) (h2:DelAt Q1 p2 Q2) (h3:DelAt Q2 p3 Q3) (hpre: ∀A∈pre,A∈As)
    (h: ∀v Lo fs,res v Lo fs→K ((d,v)::l) (Lo++Q3) (fs++As)):
    OW P n R l Ps As ⟨some d, .call ⟨.value (.func k),xs.toArray,ts⟩,ty,pos,aft,g⟩ K:=
  Y0 hsp hxs hd (by
    have e1:=h1.perm;have e2:=h2.perm;have e3:=h3.perm
    simp only [List.flatten_cons,List.cons_append,List.nil_append] at e1 e2 e3 ⊢
    exact (List.Perm.append_left p1 ((List.Perm.append_left p2 e3).trans e2)).trans e1) hpre h
theorem XT {T Kt E:TypeId} {x y:Operand} {m:Nat} {L:List MK} {c k:Int} {sz by_:Nat} (hk:KeyT P Kt) (hg:mGet L c k=none) (hu:P.underlying T=some (.map Kt E)) (ht:ti P E=some (some (.pointer none),sz,by_)) (hx:evs l x=some (.map (some m))) (hy:evs l y=some (idV c k)) (hb:OwnAt Ps m (mapO L)):
    QR P l Ps As ⟨dd, .lookup T x y false,ty,pos,aft,g⟩ (.pointer none):=by
  have:=ZR (dd:=dd) (As:=As) (ty:=ty) (pos:=pos) (aft:=aft) (g:=g) hk hu ht hx hy hb
  rw [hg] at this;exact this
theorem Y7 {T Kt E:TypeId} {x y:Operand} {m b:Nat} {L:List MK} {c k:Int} {sz by_:Nat} (hk:KeyT P Kt) (hg:mGet L c k=some b) (hu:P.underlying T=some (.map Kt E)) (ht:ti P E=some (some (.pointer none),sz,by_)) (hx:evs l x=some (.map (some m))) (hy:evs l y=some (idV c k)) (hb:OwnAt Ps m (mapO L)):
    QR P l Ps As ⟨dd, .lookup T x y false,ty,pos,aft,g⟩ (.pointer (some ⟨b,0,none⟩)):=by
  have:=ZR (dd:=dd) (As:=As) (ty:=ty) (pos:=pos) (aft:=aft) (g:=g) hk hu ht hx hy hb
  rw [hg] at this;exact this
theorem XY {α:Type} (fr:α→Fr) (ps:α→List Part) (as_:α→List Fact) (p:α→Prop) {c e:Code} (h1:WC P n c (VO (fun l Ps As=> ∃x,p x∧Sub (fr x) l∧(ps x).Sublist Ps∧ ∀A∈as_ x,A∈As) R) l Ps As) (h2: ∀x,p x→WC P n e R (fr x) (ps x) (as_ x)):WC P n (.seq c e) R l Ps As:=
  Jbr (fun l Ps As=> ∃x,p x∧Sub (fr x) l∧(ps x).Sublist Ps∧ ∀A∈as_ x,A∈As) h1 fun l Ps As ⟨x,hp,hl,hP,hA⟩=>Hw hl hP hA (h2 x hp)
theorem JA {c:Code} {p:Part} (hd:DelAt Ps p Ps') (k:WC P n c R l (p::Ps') As):WC P n c R l Ps As:=fun Z w a hs ha=>k Z w a (hs.pick hd) ha
theorem Ve {p:Part} (hd:DelAt Ps p Ps') (k:WL P n ops R rest l (p::Ps') As):WL P n ops R rest l Ps As:=fun Z w a hs ha=>k Z w a (hs.pick hd) ha
theorem Jbs {c:Code} {p q:Part} (k:WC P n c R l ((q++p)::Ps) As):WC P n c R l (p::q::Ps) As:=fun Z w a hs ha=>k Z w a (hs.permParts (by
  simp only [List.flatten_cons,List.append_assoc]
  exact List.perm_append_comm_assoc q p _)) ha
theorem St.freeze1 {α:Type} {e:De α} {T:TypeId} {b:Nat} {cs:List Value} {u:α} {Z:Nat→Prop} {w:World} (hs:St Z w Ps As) (hp:DelAt Ps [(b,JB cs T)] Ps') (hr:e.rep Z w u cs): ∃Z',St Z' w Ps' (RdF e (some ⟨b,0,none⟩) 1 [u] ::As):=by
  have hl:=e.len hr
  have hrow:Row T e.sz (.slice (some ⟨b,0,none⟩) 1 1) 1 [cs].flatten [(b,JB cs T)] :=by
    refine ⟨by simp [hl], .inr ⟨b,1,[],O,by simp,by simp [hl],Nat.le_refl _,by simp [maxLen]⟩⟩
  obtain ⟨A,cap,Z',h1,h2⟩:=(hs.addFact (A:=RepsF e [u] [cs]) (.n1 hr)).freezeRow hp hrow rfl (.head _)
  obtain ⟨rfl,_,rfl⟩:=Value.slice.inj h1
  exact ⟨Z',h2.subFacts fun A hA=>by
    rcases List.mem_cons.1 hA with rfl | hA
    · exact .head _
    · exact .tail _ (.tail _ hA)⟩
theorem GI {α:Type} {e:De α} {T:TypeId} {b:Nat} {cs:List Value} {u:α} {ws:World} {Z0:Nat→Prop} {Ps0:List Part} {As0:List Fact} {r:OT} (hp:DelAt Ps [(b,JB cs T)] Ps') (hr: ∀Z w,St Z w Ps As→e.rep Z w u cs)
    (k:WE P n ops R ws Z0 Ps0 As0 r l Ps' (RdF e (some ⟨b,0,none⟩) 1 [u] ::As)):WE P n ops R ws Z0 Ps0 As0 r l Ps As:=fun h0 Z w a hs ha=>by
  obtain ⟨Z',h2⟩:=hs.freeze1 hp (hr Z w hs)
  exact k h0 Z' w a h2 ha
def AllF {α:Type} (xs:List α) (f:α→Fact):Fact where
  holds Z w:= ∀x∈xs,(f x).holds Z w
  stable hz hh h1 h2 h3 h:=fun x hx=>(f x).stable hz hh h1 h2 h3 (h x hx)
theorem Hy {α:Type} {c:Code} {xs:List α} {f:α→Fact} (x:α) (hA:AllF xs f∈As) (hx:x∈xs) (h:WC P n c R l Ps (f x::As)):WC P n c R l Ps As:=Ke (fun Z w hs=>hs.facts _ hA x hx) h
end
def EqD (P:Program) (D:Nat) (T:TypeId) (xs ys:Array Value) (r:Bool):Prop:= ∀d w,(Op.equalIn (d+D) T (.agg xs) (.agg ys)).run P w= .ok r w
theorem EqD.eqT {P:Program} {D:Nat} {T:TypeId} {xs ys:Array Value} {r:Bool} (h:EqD P D T xs ys r) (hD:D≤9) (hg:P.eqGuardType P.depth T=false):EqT P T xs ys r:=⟨hg,fun d w=>by
  have:=h (d+(9-D)) w
  rwa [show d+(9-D)+D=d+9 from by omega] at this⟩
theorem EqD.mono {P:Program} {D D':Nat} {T:TypeId} {xs ys:Array Value} {r:Bool} (h:EqD P D T xs ys r) (hD:D≤D'):EqD P D' T xs ys r:=fun d w=>by
  have:=h (d+(D'-D)) w
  rwa [show d+(D'-D)+D=d+D' from by omega] at this
inductive EqFs (P:Program) (D:Nat) (xs ys:List Value):List (TypeId×Nat)→Bool→Prop
  | nil:EqFs P D xs ys [] true
  | int {t:TypeId} {o:Nat} {k:IntKind} {a b:Int} {l:List (TypeId×Nat)} {r:Bool} (hu:P.underlying t=some (.int k)) (hx:xs[o]? =some (.int k a)) (hy:ys[o]? =some (.int k b)) (h:EqFs P D xs ys l r):EqFs P D xs ys ((t,o)::l) ((a==b) && r)
  | str {t:TypeId} {o:Nat} {a b:ByteArray} {l:List (TypeId×Nat)} {r:Bool} (hu:P.underlying t=some .string) (hx:xs[o]? =some (.string a)) (hy:ys[o]? =some (.string b)) (h:EqFs P D xs ys l r):EqFs P D xs ys ((t,o)::l) ((a==b) && r)
  | bool {t:TypeId} {o:Nat} {a b:Bool} {l:List (TypeId×Nat)} {r:Bool} (hu:P.underlying t=some .bool) (hx:xs[o]? =some (.bool a)) (hy:ys[o]? =some (.bool b)) (h:EqFs P D xs ys l r):EqFs P D xs ys ((t,o)::l) ((a==b) && r)
  | agg {t:TypeId} {o sz by_:Nat} {dd:TypeDesc} {z:Option Value} {us vs:List Value} {l:List (TypeId×Nat)} {q r:Bool} (hu:P.underlying t=some dd) (hd:agg? dd=true) (ht:ti P t=some (z,sz,by_)) (hx:(xs.drop o).take sz=us) (hy:(ys.drop o).take sz=vs) (hq:EqD P D t us.toArray vs.toArray q) (h:EqFs P D xs ys l r):EqFs P D xs ys ((t,o)::l) (q && r)
def fieldsB (P : Program) (T : TypeId) (l : List (TypeId × Nat)) : Bool := (P.fieldsOf T).toList.map (fun f => ((f.type, f.offset), f.name == "_")) == l.map fun x => (x, false)
theorem ZM {P : Program} {D : Nat} {xs ys : List Value} {l : List (TypeId × Nat)} {r : Bool} (h : EqFs P (D + 1) xs ys l r) (d : Nat) (w : World) : ∀ (fs : List Field), fs.map (fun f => ((f.type, f.offset), f.name == "_")) = l.map (fun x => (x, false)) → (Op.eqFields (d + (D + 1)) xs.toArray ys.toArray fs).run P w = .ok r w := by
  have key: ∀ {t:TypeId} {o:Nat} {l:List (TypeId×Nat)} {q r:Bool} {u v:Value},(part t xs.toArray o).run P w= .ok u w→(part t ys.toArray o).run P w= .ok v w→(Op.equalIn (d+(D+1)) t u v).run P w= .ok q w→
      (∀ (fs : List Field), fs.map (fun f => ((f.type, f.offset), f.name == "_")) = l.map (fun x => (x, false)) → (Op.eqFields (d + (D + 1)) xs.toArray ys.toArray fs).run P w = .ok r w) →
      ∀ (fs : List Field), fs.map (fun f => ((f.type, f.offset), f.name == "_")) = ((t, o) :: l).map (fun x => (x, false)) → (Op.eqFields (d + (D + 1)) xs.toArray ys.toArray fs).run P w = .ok (q && r) w := by
    intro t o l q r u v h1 h2 h3 ih fs hf
    cases fs with
    | nil=>simp at hf
    | cons f fs=>
      simp only [List.map_cons,List.cons.injEq,Prod.mk.injEq] at hf
      obtain ⟨⟨⟨e1,e2⟩,e3⟩,hr⟩:=hf
      have e4 : f.name ≠ "_" := by simpa using e3
      subst e1;subst e2
      simp only [Op.eqFields,e4,ne_eq,not_false_eq_true,if_true,Sem.run_bind,h1,h2,h3,Result.andThen_ok]
      cases q
      · simp
      · simp [ih fs hr]
  induction h with
  | nil=>
    intro fs hf
    have:fs= [] :=by simpa using hf
    subst this;rfl
  | int hu hx hy h ih=>exact key (YR hu rfl hx) (YR hu rfl hy) (run_equalIn_int w (d+D) _ _ _ _ _ hu) ih
  | str hu hx hy h ih=>exact key (YR hu rfl hx) (YR hu rfl hy) ((run_equalIn_string w (d+D) _ _ _ hu).trans (by rw [beq_toListBytes])) ih
  | bool hu hx hy h ih=>exact key (YR hu rfl hx) (YR hu rfl hy) (run_equalIn_bool' w (d+D) _ _ _ hu) ih
  | agg hu hd ht hx hy hq h ih=>exact key (Xj hu hd ht hx) (Xj hu hd ht hy) (hq d w) ih
theorem EqD.struct {P:Program} {D:Nat} {T:TypeId} {xs ys:List Value} {l:List (TypeId×Nat)} {r:Bool} (hu:P.underlying T=some (.struct (P.fieldsOf T))) (hp:P.stoodInHeld T=false) (hf:fieldsB P T l=true) (h:EqFs P (D+1) xs ys l r):EqD P (D+2) T xs.toArray ys.toArray r:=fun d w=>by
  rw [show d+(D+2)=(d+(D+1))+1 from rfl,run_equalIn_struct w (d+(D+1)) T _ _ hu hp]
  exact ZM h d w _ (by simpa [fieldsB] using hf)
section
variable {P:Program} {n:Dm} {R:Post} {l:Fr} {Ps Ps':List Part} {As:List Fact} {ops:Array Oper} {rest:List Oper} {ty:TypeId} {pos:String} {aft:Array Edge} {g:Option (Nat×Bool)} {K:Nx} {d:Nat} {dd:Option Tmp}
theorem Vt {T E:TypeId} {x hi':Operand} {A:Option Addr} {len cap m:Nat} {i:Int} {z:Option Value} {sz by_:Nat} (hm:i.toNat=m) (hu:P.underlying T=some (.slice E)) (ht:ti P E=some (z,sz,by_)) (hx:evs l x=some (.slice A len cap)) (hi:evs l hi'=some (.int .i64 i)) (h0:0≤i) (h1:i≤cap):
    QR P l Ps As ⟨dd, .slice T x none (some hi') none,ty,pos,aft,g⟩ (.slice (cutA A 0 cap sz) m cap):=by subst hm;exact HM hu ht hx hi h0 h1
theorem Vs {T E:TypeId} {x lo:Operand} {A:Option Addr} {len cap m j:Nat} {i:Int} {z:Option Value} {sz by_:Nat} (hj:i.toNat=j) (hm:len-j=m) (hu:P.underlying T=some (.slice E)) (ht:ti P E=some (z,sz,by_)) (hx:evs l x=some (.slice A len cap)) (hi:evs l lo=some (.int .i64 i)) (h0:0≤i) (h1:i≤len):
    QR P l Ps As ⟨dd, .slice T x (some lo) none none,ty,pos,aft,g⟩ (.slice (cutA A j cap sz) m (cap-j)):=by subst hm;subst hj;exact Ep hu ht hx hi h0 h1
theorem Gk {T E:TypeId} {x lo hi':Operand} {A:Option Addr} {len cap k m:Nat} {i j:Int} {z:Option Value} {sz by_:Nat} (hk:i.toNat=k) (hm:j.toNat - k=m) (hu:P.underlying T=some (.slice E)) (ht:ti P E=some (z,sz,by_)) (hx:evs l x=some (.slice A len cap)) (hl:evs l lo=some (.int .i64 i)) (hi:evs l hi'=some (.int .i64 j)) (h0:0≤i) (hij:i≤j) (h1:j≤cap):
    QR P l Ps As ⟨dd, .slice T x (some lo) (some hi') none,ty,pos,aft,g⟩ (.slice (cutA A k cap sz) m (cap-k)):=by subst hm;subst hk;exact GS hu ht hx hl hi h0 hij h1
theorem Xd {α:Type} {e:De α} {c:Code} {A:Option Addr} {cap:Nat} {xs:List α} (k:Nat) (hA:RdF e A cap xs∈As) (h1:k≤xs.length) (h:WC P n c R l Ps (RdF e (cutA A 0 cap e.sz) cap (xs.take k)::As)):WC P n c R l Ps As:=
  Ke (A:=RdF e (cutA A 0 cap e.sz) cap (xs.take k)) (fun Z w hs=>by
    have h0:RdS e Z w A cap xs:=hs.facts _ hA
    have:=RdS.cut h0 (lo:=0) (hi:=k) (m:=cap) (Nat.zero_le _) h1 (Nat.le_trans h1 h0.1) (Nat.le_refl _)
    simp only [Nat.sub_zero,List.drop_zero] at this
    exact this) h
theorem Xc {α:Type} {e:De α} {c:Code} {A:Option Addr} {cap:Nat} {xs:List α} (k:Nat) (hA:RdF e A cap xs∈As) (h1:k≤xs.length) (h:WC P n c R l Ps (RdF e (cutA A k cap e.sz) (cap-k) (xs.drop k)::As)):WC P n c R l Ps As:=
  Ke (A:=RdF e (cutA A k cap e.sz) (cap-k) (xs.drop k)) (fun Z w hs=>by
    have h0:RdS e Z w A cap xs:=hs.facts _ hA
    have:=RdS.cut h0 (lo:=k) (hi:=xs.length) (m:=cap) h1 (Nat.le_refl _) h0.1 (Nat.le_refl _)
    rw [List.take_length] at this
    exact this) h
theorem Hx {α:Type} {e:De α} {c:Code} {A:Option Addr} {cap:Nat} {xs:List α} (k m:Nat) (hA:RdF e A cap xs∈As) (h0:k≤m) (h1:m≤xs.length) (h:WC P n c R l Ps (RdF e (cutA A k cap e.sz) (cap-k) ((xs.take m).drop k)::As)):WC P n c R l Ps As:=
  Ke (A:=RdF e (cutA A k cap e.sz) (cap-k) ((xs.take m).drop k)) (fun Z w hs=>by
    have h2:RdS e Z w A cap xs:=hs.facts _ hA
    exact RdS.cut h2 h0 h1 (Nat.le_trans h1 h2.1) (Nat.le_refl _)) h
theorem GL {α:Type} {e:De α} {c:Code} {A:Option Addr} {cap:Nat} {xs:List α} (hA:RdF e A cap xs∈As) (h:xs.length≤cap→WC P n c R l Ps As):WC P n c R l Ps As:=fun Z w a hs ha=>h ((hs.facts _ hA:RdS e Z w A cap xs).1) Z w a hs ha
theorem GK {α:Type} {e:De α} {b q cap:Nat} {xs:List α} {k:Nat} {u:α} {β:Type} {mk:β→List Value} {Fs:β→List Fact} {c:Code} (hA:RdF e (some ⟨b,q,none⟩) cap xs∈As) (hu:xs[k]? =some u) (ho: ∀Z w cs,e.rep Z w u cs→ ∃y,cs=mk y∧ ∀B∈Fs y,B.holds Z w)
    (h: ∀y,WC P n c R l Ps (FzA b (q+k*e.sz) (mk y)::(Fs y++As))):WC P n c R l Ps As:=
  Kd hA hu ho fun b' q' y e=>by cases e;exact h y
theorem GJ {α:Type} {e:De α} {c:Code} {xs ys:List α} {css dss:List (List Value)} (h1:RepsF e xs css∈As) (h2:RepsF e ys dss∈As) (h:WC P n c R l Ps (RepsF e (xs++ys) (css++dss)::As)):WC P n c R l Ps As:=
  Ke (A:=RepsF e (xs++ys) (css++dss)) (fun Z w hs=>Reps.append (hs.facts _ h1:Reps (e.rep Z w) xs css) (hs.facts _ h2:Reps (e.rep Z w) ys dss)) h
end
end Go.GW
namespace Go.Proofs.YtgedhdmpiciikaaGreatDoor
open Go Go.GW
theorem ti1:ti Tryz.prog 1=some (some (.nilFunc),1,8):=by kernel_rfl
theorem ti3:ti Tryz.prog 3=some (some (.int .i64 0),1,8):=by kernel_rfl
theorem ti4:ti Tryz.prog 4=some (some (.bool false),1,1):=by kernel_rfl
theorem ti5:ti Tryz.prog 5=some (some (.int .u8 0),1,1):=by kernel_rfl
theorem ti9:ti Tryz.prog 9=some (some (.string ⟨#[]⟩),1,16):=by kernel_rfl
theorem V1:ti Tryz.prog 21=some (some (.int .i32 0),1,4):=by kernel_rfl
theorem Jcn:ti Tryz.prog 22=some (some (.slice none 0 0),1,24):=by kernel_rfl
theorem Hc:ti Tryz.prog 29=some (some (.pointer none),1,8):=by kernel_rfl
theorem YT:ti Tryz.prog 30=some (some (.slice none 0 0),1,24):=by kernel_rfl
theorem VM:ti Tryz.prog 33=some (some (.pointer none),1,8):=by kernel_rfl
theorem GM:ti Tryz.prog 34=some (some (.pointer none),1,8):=by kernel_rfl
theorem Yk:ti Tryz.prog 36=some (some (.agg #[.pointer none, .pointer none]),2,16):=by kernel_rfl
theorem Ek:ti Tryz.prog 38=some (some (.agg #[.int .i64 0, .int .i64 0, .int .i64 0]),3,24):=by kernel_rfl
theorem EG:ti Tryz.prog 39=some (some (.agg #[.int .i64 0, .int .i64 0, .int .i64 0, .int .i64 0, .int .i64 0, .int .i64 0, .int .i64 0, .int .i64 0, .int .i64 0]),9,72):=by kernel_rfl
theorem Zc:ti Tryz.prog 40=some (some (.pointer none),1,8):=by kernel_rfl
theorem JW:ti Tryz.prog 46=some (some (.agg #[.int .i64 0, .int .i64 0]),2,16):=by kernel_rfl
theorem Yt:ti Tryz.prog 47=some (some (.int .i64 0),1,8):=by kernel_rfl
theorem KW:ti Tryz.prog 49=some (some (.agg #[.int .i64 0, .int .i64 0, .int .i64 0]),3,24):=by kernel_rfl
theorem Ya:ti Tryz.prog 50=some (some (.slice none 0 0),1,24):=by kernel_rfl
theorem JD:ti Tryz.prog 52=some (some (.agg #[.int .i64 0, .int .i64 0, .int .i64 0, .int .i64 0, .string ⟨#[]⟩, .slice none 0 0, .int .i64 0, .int .i64 0, .bool false]),9,96):=by kernel_rfl
theorem Yw:ti Tryz.prog 54=some (some (.nilIface),1,16):=by kernel_rfl
theorem Y3:ti Tryz.prog 62=some (some (.agg #[.int .i64 0, .int .i64 0, .int .i64 0, .bool false, .slice none 0 0, .int .i64 0, .int .i64 0]),7,72):=by kernel_rfl
theorem Jcm:ti Tryz.prog 67=some (some (.slice none 0 0),1,24):=by kernel_rfl
theorem KZ:ti Tryz.prog 74=some (some (.agg #[.int .i64 0, .int .i64 0]),2,16):=by kernel_rfl
theorem QA:ti Tryz.prog 78=some (some (.slice none 0 0),1,24):=by kernel_rfl
theorem ZF:ti Tryz.prog 93=some (some (.agg #[.int .i64 0, .int .i64 0, .int .i64 0, .int .i64 0, .string ⟨#[]⟩, .bool false]),6,56):=by kernel_rfl
theorem Jbu:ti Tryz.prog 116=some (some (.pointer none),1,8):=by kernel_rfl
theorem V2:ti Tryz.prog 121=some (some (.agg #[.string ⟨#[]⟩, .int .i64 0]),2,24):=by kernel_rfl
theorem YU:ti Tryz.prog 141=some (some (.pointer none),1,8):=by kernel_rfl
theorem J0:ti Tryz.prog 145=some (some (.agg #[.slice none 0 0, .int .i64 0]),2,32):=by kernel_rfl
theorem Ku:ti Tryz.prog 149=some (some (.agg #[.int .i64 0, .int .i64 0, .int .i64 0, .int .i64 0, .int .i64 0, .int .i64 0]),6,48):=by kernel_rfl
theorem Qj:ti Tryz.prog 152=some (some (.slice none 0 0),1,24):=by kernel_rfl
theorem Qi:ti Tryz.prog 157=some (some (.map none),1,8):=by kernel_rfl
theorem Qw:ti Tryz.prog 160=some (some (.pointer none),1,8):=by kernel_rfl
theorem X7:ti Tryz.prog 167=some (some (.pointer none),1,8):=by kernel_rfl
theorem Vj:ti Tryz.prog 168=some (some (.slice none 0 0),1,24):=by kernel_rfl
theorem ZI:ti Tryz.prog 170=some (some (.agg #[.pointer none, .slice none 0 0]),2,32):=by kernel_rfl
theorem ZH:ti Tryz.prog 195=some (some (.agg #[.int .i32 0, .int .i32 0]),2,8):=by kernel_rfl
theorem Jco:ti Tryz.prog 196=some (some (.agg #[.int .i32 0, .int .i32 0, .int .i32 0, .int .i32 0, .int .i32 0, .int .i32 0, .int .i32 0, .int .i32 0, .int .i32 0, .int .i32 0]),10,40):=by kernel_rfl
theorem ZG:ti Tryz.prog 198=some (some (.agg #[.int .i64 0, .int .i64 0, .int .i64 0, .int .i64 0, .int .i64 0, .int .i64 0, .pointer none, .pointer none, .slice none 0 0, .int .i64 0, .int .i64 0]),11,104):=by kernel_rfl
theorem mixed:Tryz.prog.follows .mixedOrders=true:=by kernel_rfl
@[ext] structure Rg where
  lo:Int
  hi:Int
deriving DecidableEq,Repr
@[ext] structure GOp where
  c:Int
  n:Int
  kind:Int
  at_:Int
  text:ByteArray
  rs:List Rg
  tc:Int
  tn:Int
  on:Bool
def rgC (x:Rg):List Value:= [.int .i64 x.lo, .int .i64 x.hi]
def rgD:De Rg where
  sz:=2
  rep _ _ x cs:=cs=rgC x
  len h:=by subst h;rfl
  one h:=by subst h;rfl
  stable _ _ _ _ _ h:=h
def opC (o:GOp) (A:Option Addr) (c:Nat):List Value:=
  [.int .i64 o.c, .int .i64 o.n, .int .i64 o.kind, .int .i64 o.at_, .string o.text, .slice A o.rs.length c, .int .i64 o.tc, .int .i64 o.tn, .bool o.on]
def opV (o:GOp) (A:Option Addr) (c:Nat):Value:= .agg (opC o A c).toArray
def opD:De GOp where
  sz:=9
  rep Z w o cs:= ∃A c,cs=opC o A c∧RdS rgD Z w A c o.rs
  len h:=by obtain ⟨A,c,rfl,_⟩:=h;rfl
  one h:=by obtain ⟨A,c,rfl,_⟩:=h;rfl
  stable hz hh h1 h2 h3 h:=by
    obtain ⟨A,c,g1,g2⟩:=h
    exact ⟨A,c,g1,(RdF rgD A c _).stable hz hh h1 h2 h3 g2⟩
theorem rg_open (u:Rg): ∀Z w cs,rgD.rep Z w u cs→ ∃y:Unit,cs=rgC u∧ ∀B∈([] :List Fact),B.holds Z w:=fun _ _ _ h=>⟨(),h,fun _ h=>by cases h⟩
theorem op_open (u:GOp): ∀Z w cs,opD.rep Z w u cs→ ∃y:Option Addr×Nat,cs=opC u y.1 y.2∧ ∀B∈ [RdF rgD y.1 y.2 u.rs],B.holds Z w:=fun _ _ _ h=>by
  obtain ⟨A,c,h1,h2⟩:=h
  exact ⟨(A,c),h1,fun B hB=>by simp only [List.mem_singleton] at hB;subst hB;exact h2⟩
theorem eq46 (a b c d:Int):EqT Tryz.prog 46 #[.int .i64 a, .int .i64 b] #[.int .i64 c, .int .i64 d] (a==c && b==d):=eqT_id Tryz.underlying46 Tryz.underlying3 ti3 (by kernel_rfl) a b c d
def Is (u:Value):Value→List Part→List Fact→Prop:=fun v Lo fs=>v=u∧Lo= [] ∧fs= []
def rgs (xs:List Rg):List Value:=(xs.map rgC).flatten
theorem Qn (xs ys:List Rg):rgs (xs++ys)=rgs xs++rgs ys:=by simp [rgs]
theorem Yx (xs:List Rg):(rgs xs).length=xs.length*2:=by
 induction xs with
 | nil=>rfl
 | cons x xs ih=>simp only [rgs,List.map_cons,List.flatten_cons,List.length_append,List.length_cons] at ih ⊢;rw [ih];simp [rgC];omega
theorem QU (x:Rg):rgs [x] =rgC x:=by simp [rgs]
theorem rgs_reps (xs:List Rg) (Z:Nat→Prop) (w:World):Reps (rgD.rep Z w) xs (xs.map rgC):=by
 induction xs with
 | nil=>exact .nil
 | cons x xs ih=>exact .cons rfl ih
theorem rgs_last (ys:List Rg) (r:Rg) (jk:List Value):(rgs (ys++ [r])++jk)[ys.length*2+1]? =some (.int .i64 r.hi):=by
 rw [Qn,QU,List.append_assoc,List.getElem?_append_right (by rw [Yx];omega),Yx,show ys.length*2+1-ys.length*2=1 from by omega]
 rfl
theorem HI (ys:List Rg) (r:Rg) (m:Int) (jk:List Value):(rgs (ys++ [r])++jk).set (ys.length*2+1) (.int .i64 m)=rgs (ys++ [⟨r.lo,m⟩])++jk:=by
 rw [Qn,QU,List.append_assoc,Qn,QU,List.append_assoc,List.set_append_right _ _ (by rw [Yx];omega),Yx,show ys.length*2+1-ys.length*2=1 from by omega]
 rfl
def addF (xs:List Rg) (lo hi:Int):List Rg:=
 if hi≤lo then xs else match xs.getLast? with
  | some r=>if lo≤r.hi then xs.dropLast++ [⟨r.lo,max r.hi hi⟩] else xs++ [⟨lo,hi⟩]
  | none=> [⟨lo,hi⟩]
theorem VA (xs:List Rg) (lo hi:Int):(addF xs lo hi).length≤xs.length+1:=by
 unfold addF
 split
 ·omega
 ·split
  ·rename_i r hr
   split
   ·simp
   ·simp
  ·simp
theorem Eb {xs:List Rg} {lo hi:Int} (h:hi≤lo):addF xs lo hi=xs:=by simp [addF,h]
theorem GG {lo hi:Int} (h: ¬hi≤lo):addF [] lo hi= [⟨lo,hi⟩] :=by simp [addF,h]
theorem Xo {ys:List Rg} {r:Rg} {lo hi:Int} (h: ¬hi≤lo) (h2:lo≤r.hi):addF (ys++ [r]) lo hi=ys++ [⟨r.lo,max r.hi hi⟩] :=by simp [addF,h,h2]
theorem Xn {ys:List Rg} {r:Rg} {lo hi:Int} (h: ¬hi≤lo) (h2: ¬lo≤r.hi):addF (ys++ [r]) lo hi=ys++ [r] ++ [⟨lo,hi⟩] :=by simp [addF,h,h2]
def ckAt (i:Int):Option Rg→List Rg→Int×Int
 | _,[] =>(0,0)
 | p,r::rs=>
  if r.lo<0∨r.hi>1048576∨r.lo≥r.hi then (i,20)
  else if (match p with | some q=>decide (r.lo≤q.hi) | none=>false)=true then (i,22)
  else ckAt (i+1) (some r) rs
def ckF (xs:List Rg):Int×Int:=if xs.length>32768 then (32768,21) else ckAt 0 none xs
def thrL (at_ n:Int) (acc:List Rg):List Rg→List Rg
 | [] =>acc
 | r::rs=>thrL at_ n (addF (addF acc r.lo (min r.hi at_)) (max r.lo at_+n) (r.hi+n)) rs
def boundF (xs:List Rg):List Rg×Int:=if xs.length>32768 then ([],21) else (xs,0)
def thrF (xs:List Rg) (at_ n:Int):List Rg×Int:=
 if (ckF xs).2≠0 then ([],(ckF xs).2)
 else if at_<0∨at_>1048576∨n<0∨n>1048576 then ([],12)
 else match xs.getLast? with
  | some r=>if r.hi>at_∧r.hi+n>1048576 then ([],24) else boundF (thrL at_ n [] xs)
  | none=>boundF (thrL at_ n [] xs)
theorem ckAt_bad {i:Int} {p:Option Rg} {r:Rg} {rs:List Rg} (h:r.lo<0∨r.hi>1048576∨r.lo≥r.hi):ckAt i p (r::rs)=(i,20):=by
 cases p<;>rw [ckAt,if_pos h]
theorem ckAt_ord {i:Int} {q r:Rg} {rs:List Rg} (h: ¬(r.lo<0∨r.hi>1048576∨r.lo≥r.hi)) (h2:r.lo≤q.hi):ckAt i (some q) (r::rs)=(i,22):=by
 rw [ckAt,if_neg h,if_pos (by simpa using h2)]
theorem ckAt_next {i:Int} {q r:Rg} {rs:List Rg} (h: ¬(r.lo<0∨r.hi>1048576∨r.lo≥r.hi)) (h2: ¬r.lo≤q.hi):ckAt i (some q) (r::rs)=ckAt (i+1) (some r) rs:=by
 rw [ckAt,if_neg h,if_neg (by simpa using h2)]
theorem ckAt_first {i:Int} {r:Rg} {rs:List Rg} (h: ¬(r.lo<0∨r.hi>1048576∨r.lo≥r.hi)):ckAt i none (r::rs)=ckAt (i+1) (some r) rs:=by
 rw [ckAt,if_neg h,if_neg (by simp)]
def pv (xs:List Rg) (k:Nat):Option Rg:=if k=0 then none else xs[k-1]?
def CkI (xs:List Rg) (k:Nat):Prop:=k≤xs.length∧ckF xs=ckAt k (pv xs k) (xs.drop k)
theorem CkI.zero {xs:List Rg} (h: ¬xs.length>32768):CkI xs 0:=⟨Nat.zero_le _,by simp [ckF,h,pv]⟩
theorem CkI.done {xs:List Rg} {k:Nat} (h:CkI xs k) (hk: ¬k<xs.length):ckF xs=(0,0):=by
 have:k=xs.length:=by have:=h.1;omega
 rw [h.2,List.drop_eq_nil_of_le (by omega)]
 cases pv xs k<;>rfl
theorem CkI.drop {xs:List Rg} {k:Nat} (hk:k<xs.length):xs.drop k=xs[k] ::xs.drop (k+1):=List.drop_eq_getElem_cons hk
theorem CkI.bad {xs:List Rg} {k:Nat} (h:CkI xs k) (hk:k<xs.length) (hb:xs[k].lo<0∨xs[k].hi>1048576∨xs[k].lo≥xs[k].hi):ckF xs=(↑k,20):=by
 rw [h.2,CkI.drop hk,ckAt_bad hb]
theorem CkI.ord {xs:List Rg} {k:Nat} (h:CkI xs (k+1)) (hk:k+1<xs.length) (hb: ¬(xs[k+1].lo<0∨xs[k+1].hi>1048576∨xs[k+1].lo≥xs[k+1].hi)) (h2:xs[k+1].lo≤(xs[k]'(by omega)).hi):ckF xs=(↑(k+1),22):=by
 rw [h.2,CkI.drop hk,pv,if_neg (by omega),Nat.add_sub_cancel,List.getElem?_eq_getElem (by omega),ckAt_ord hb h2]
theorem CkI.next {xs:List Rg} {k:Nat} (h:CkI xs (k+1)) (hk:k+1<xs.length) (hb: ¬(xs[k+1].lo<0∨xs[k+1].hi>1048576∨xs[k+1].lo≥xs[k+1].hi)) (h2: ¬xs[k+1].lo≤(xs[k]'(by omega)).hi):CkI xs (k+1+1):=by
 refine ⟨hk,?_⟩
 rw [h.2,CkI.drop hk,pv,if_neg (by omega),Nat.add_sub_cancel,List.getElem?_eq_getElem (by omega),ckAt_next hb h2,pv,if_neg (by omega),Nat.add_sub_cancel,List.getElem?_eq_getElem hk]
 rfl
theorem CkI.first {xs:List Rg} (h:CkI xs 0) (hk:0<xs.length) (hb: ¬(xs[0].lo<0∨xs[0].hi>1048576∨xs[0].lo≥xs[0].hi)):CkI xs (0+1):=by
 refine ⟨hk,?_⟩
 rw [h.2,CkI.drop hk,pv,if_pos rfl,ckAt_first hb,pv,if_neg (by omega),Nat.add_sub_cancel,List.getElem?_eq_getElem hk]
 rfl
theorem ckAt_good: ∀(rs:List Rg) (i:Int) (p:Option Rg),(ckAt i p rs).2=0→ ∀r∈rs,0≤r.lo∧r.lo<r.hi∧r.hi≤1048576
 | [],_,_,_,r,hr=>by cases hr
 | x::rs,i,p,h,r,hr=>by
  by_cases hb:x.lo<0∨x.hi>1048576∨x.lo≥x.hi
  ·rw [ckAt_bad hb] at h;cases h
  ·rcases List.mem_cons.1 hr with rfl | hr
   ·omega
   ·rcases p with _ | q
    ·rw [ckAt_first hb] at h;exact ckAt_good rs _ _ h r hr
    ·by_cases h2:x.lo≤q.hi
     ·rw [ckAt_ord hb h2] at h;cases h
     ·rw [ckAt_next hb h2] at h;exact ckAt_good rs _ _ h r hr
theorem QL {xs:List Rg} (h:(ckF xs).2=0):xs.length≤32768∧ ∀r∈xs,0≤r.lo∧r.lo<r.hi∧r.hi≤1048576:=by
 unfold ckF at h
 split at h
 ·cases h
 ·exact ⟨by omega,ckAt_good xs _ _ h⟩
theorem EA {xs:List Rg} (h:(ckF xs).2=0) {k:Nat} (hk:k<xs.length):0≤xs[k].lo∧xs[k].lo<xs[k].hi∧xs[k].hi≤1048576:=(QL h).2 _ (List.getElem_mem hk)
theorem Ja1 {xs:List Rg} {at_ n:Int} (h:(ckF xs).2≠0):thrF xs at_ n=([],(ckF xs).2):=by unfold thrF;rw [if_pos h]
theorem EH {xs:List Rg} {at_ n:Int} (h:(ckF xs).2=0) (h2:at_<0∨at_>1048576∨n<0∨n>1048576):thrF xs at_ n=([],12):=by
 unfold thrF;rw [if_neg (by simpa using h),if_pos h2]
theorem Zd {xs:List Rg} {at_ n:Int} (h:(ckF xs).2=0) (h2: ¬(at_<0∨at_>1048576∨n<0∨n>1048576)) (hk:xs.length-1<xs.length) (h3:xs[xs.length-1].hi>at_∧xs[xs.length-1].hi+n>1048576):thrF xs at_ n=([],24):=by
 unfold thrF;rw [if_neg (by simpa using h),if_neg h2]
 rw [List.getLast?_eq_getElem?,List.getElem?_eq_getElem hk]
 simp [h3]
theorem V3 {at_ n:Int} (h2: ¬(at_<0∨at_>1048576∨n<0∨n>1048576)):thrF [] at_ n=boundF (thrL at_ n [] []):=by
 unfold thrF;rw [if_neg (by simp [ckF,ckAt]),if_neg h2];rfl
theorem XN {xs:List Rg} {at_ n:Int} (h:(ckF xs).2=0) (h2: ¬(at_<0∨at_>1048576∨n<0∨n>1048576)) (hk:xs.length-1<xs.length) (h3: ¬(xs[xs.length-1].hi>at_∧xs[xs.length-1].hi+n>1048576)):thrF xs at_ n=boundF (thrL at_ n [] xs):=by
 unfold thrF;rw [if_neg (by simpa using h),if_neg h2]
 rw [List.getLast?_eq_getElem?,List.getElem?_eq_getElem hk]
 simp only [if_neg h3]
structure ThI (xs:List Rg) (at_ n:Int) (k:Nat) (acc:List Rg) (v:Value) (p:Part):Prop where
 le:k≤xs.length
 row:Row 74 2 v acc.length (rgs acc) p
 len:acc.length≤2*k
 eq:thrL at_ n [] xs=thrL at_ n acc (xs.drop k)
theorem ThI.next {xs:List Rg} {at_ n:Int} {k:Nat} {acc:List Rg} {v v':Value} {p p':Part} (h:ThI xs at_ n k acc v p) (hk:k<xs.length)
  (hr:Row 74 2 v' (addF (addF acc xs[k].lo (min xs[k].hi at_)) (max xs[k].lo at_+n) (xs[k].hi+n)).length (rgs (addF (addF acc xs[k].lo (min xs[k].hi at_)) (max xs[k].lo at_+n) (xs[k].hi+n))) p'):
  ThI xs at_ n (k+1) (addF (addF acc xs[k].lo (min xs[k].hi at_)) (max xs[k].lo at_+n) (xs[k].hi+n)) v' p':=by
 refine ⟨hk,hr,?_,?_⟩
 ·have h1:=VA (addF acc xs[k].lo (min xs[k].hi at_)) (max xs[k].lo at_+n) (xs[k].hi+n)
  have h2:=VA acc xs[k].lo (min xs[k].hi at_)
  have:=h.len
  omega
 ·rw [h.eq,List.drop_eq_getElem_cons hk];rfl
theorem ThI.done {xs:List Rg} {at_ n:Int} {k:Nat} {acc:List Rg} {v:Value} {p:Part} (h:ThI xs at_ n k acc v p) (hk: ¬k<xs.length):thrL at_ n [] xs=acc:=by
 rw [h.eq,List.drop_eq_nil_of_le (by omega)];rfl
end Go.Proofs.YtgedhdmpiciikaaGreatDoor
namespace Go.GW
open Go
theorem Vk {P:Program} {l:Fr} {Ps:List Part} {As:List Fact} {d:Option Tmp} {ty:TypeId} {pos:String} {aft:Array Edge} {g:Option (Nat×Bool)} {t t2:TypeId} {x y:Operand} {k:IntKind} {a b c:Int} (hx:evs l x=some (.int k a)) (hy:evs l y=some (.int k b)) (hw:bits .and k a b=c):QR P l Ps As ⟨d, .binOp .and t x y t2,ty,pos,aft,g⟩ (.int k c):=fun Z w ρ hs hρ=>by
 subst hw;simp [execOp,hρ _ _ hx,hρ _ _ hy,go_sem]
theorem i32_and65535 (n:Int):bits .and .i32 n 65535=n % 65536:=by
 have h127:(BitVec.ofInt 32 65535).toNat=2 ^ 16-1:=by decide
 have key:(BitVec.ofInt 32 n &&& BitVec.ofInt 32 65535).toNat=(n % ((2 ^ 32:Nat):Int)).toNat % 2 ^ 16:=by
  rw [BitVec.toNat_and,BitVec.toNat_ofInt,h127,Nat.and_two_pow_sub_one_eq_mod]
 show IntKind.i32.wrap ((BitVec.ofInt 32 n &&& BitVec.ofInt 32 65535).toNat:Nat)=n % 65536
 rw [key,IntKind.wrap_i32]
 omega
theorem ZS {P:Program} {l:Fr} {Ps:List Part} {As:List Fact} {d:Option Tmp} {ty:TypeId} {pos:String} {aft:Array Edge} {g:Option (Nat×Bool)} {T E:TypeId} {x y:Operand} {cs vs:List Value} {len:Nat} {i:Int} {de:TypeDesc} {z:Option Value} {sz by_:Nat} (hu:P.underlying T=some (.array len E)) (he:P.underlying E=some de) (hd:agg? de=true) (ht:ti P E=some (z,sz,by_))
  (hx:evs l x=some (.agg cs.toArray)) (hy:evs l y=some (.int .i64 i)) (h0:0≤i) (h1:i<len) (hv:(cs.drop (i.toNat* sz)).take sz=vs):QR P l Ps As ⟨d, .index T x y,ty,pos,aft,g⟩ (.agg vs.toArray):=fun Z w ρ hs hρ=>by
 have h2:=Xj (P:=P) (w:=w) (cs:=cs) (o:=i.toNat* sz) he hd ht hv
 simp only [execOp,hρ _ _ hx,hρ _ _ hy,Instr.index,asIntOf,Sem.run_bind,Sem.run_pure,run_underlying hu,Result.andThen_ok,h0,h1,and_self,if_true,KO ht,h2]
end Go.GW
namespace Go.Proofs.YtgedhdmpiciikaaGreatDoor
open Go Go.GW
def barL:List (Int×Int):= [(0x00,0x08),(0x0b,0x1f),(0x7f,0x9f),(0xfdd0,0xfdef),(0xfeff,0xfeff)]
def barC:List Value:= [.int .i32 0x00, .int .i32 0x08, .int .i32 0x0b, .int .i32 0x1f, .int .i32 0x7f, .int .i32 0x9f, .int .i32 0xfdd0, .int .i32 0xfdef, .int .i32 0xfeff, .int .i32 0xfeff]
abbrev barF:Fact:=FzA 1 0 barC
theorem Jci: ∀k (h:k<barL.length),(barC.drop ((k:Int).toNat* 2)).take 2= [.int .i32 barL[k].1, .int .i32 barL[k].2] :=by
 intro k h
 match k,h with
 | 0,_=>rfl
 | 1,_=>rfl
 | 2,_=>rfl
 | 3,_=>rfl
 | 4,_=>rfl
def letF (c:Int):Bool:=(barL.all fun b=> !(decide (b.1≤c) && decide (c≤b.2))) && decide (c % 65536<65534)
def fffd:ByteArray:=⟨#[0xEF,0xBF,0xBD]⟩
def prefF (s t:ByteArray):Bool:=decide (t.size≤s.size) && (s.extract 0 t.size==t)
def begF (s:ByteArray) (p:Nat) (c:Int):Bool:=decide (c≠65533) || prefF (s.extract p s.size) fffd
theorem decode_pos (s:ByteArray) (p:Nat):0<(Utf8.decode s p).2:=by
 unfold Utf8.decode
 simp only
 repeat' split
 all_goals simp
theorem decode_leP {s:ByteArray} {p:Nat} (h:p<s.size):p+(Utf8.decode s p).2≤s.size:=by
 unfold Utf8.decode
 simp only
 repeat' split
 all_goals simp_all
 all_goals omega
def utAt (s:ByteArray) (p k:Nat):Int×Int×Int:=
 if h:p<s.size then
  let c:=Utf8.decode s p
  if begF s p c.1=false then (0,p,10)
  else if letF c.1=false then (0,p,11)
  else utAt s (p+c.2) (k+1)
 else (k,0,0)
 termination_by s.size-p
 decreasing_by
  have:=decode_pos s p
  omega
def utF (s:ByteArray):Int×Int×Int:=utAt s 0 0
theorem utAt_end {s:ByteArray} {p k:Nat} (h: ¬p<s.size):utAt s p k=((k:Int),0,0):=by unfold utAt;rw [dif_neg h]
theorem utAt_utf8 {s:ByteArray} {p k:Nat} (h:p<s.size) (h1:begF s p (Utf8.decode s p).1=false):utAt s p k=((0:Int),(p:Int),10):=by unfold utAt;rw [dif_pos h,if_pos h1]
theorem utAt_rune {s:ByteArray} {p k:Nat} (h:p<s.size) (h1: ¬begF s p (Utf8.decode s p).1=false) (h2:letF (Utf8.decode s p).1=false):utAt s p k=((0:Int),(p:Int),11):=by unfold utAt;rw [dif_pos h,if_neg h1,if_pos h2]
theorem utAt_next {s:ByteArray} {p k:Nat} (h:p<s.size) (h1: ¬begF s p (Utf8.decode s p).1=false) (h2: ¬letF (Utf8.decode s p).1=false):utAt s p k=utAt s (p+(Utf8.decode s p).2) (k+1):=by
 conv=>lhs;unfold utAt
 rw [dif_pos h,if_neg h1,if_neg h2]
end Go.Proofs.YtgedhdmpiciikaaGreatDoor
namespace Go.GW
open Go
section
variable {P:Program} {n:Dm} {R:Post} {l:Fr} {Ps:List Part} {As:List Fact} {d:Option Tmp} {ty:TypeId} {pos:String} {aft:Array Edge} {g:Option (Nat×Bool)} {K:Nx}
theorem QY {k:FuncId} {xs:List Operand} {vs:List Value} (hxs:Evs l xs vs):QR P l Ps As ⟨d, .makeFunc (.func k) #[] xs.toArray,ty,pos,aft,g⟩ (.func (.func k) #[] vs.toArray):=fun Z w ρ hs hρ=>by
  have h1:=hxs.map hρ
  simp only [execOp,List.map_toArray,h1,Instr.makeFunc]
  simp
theorem Qv {k:FuncId} {d:Nat} {x:Operand} {caps:List Value} {xs:List Operand} {ts:Array TypeId} {args:List Value} {Lin Ps':List Part} {pre:List Fact} {res:Value→List Part→List Fact→Prop}
    (hx:evs l x=some (.func (.func k) #[] caps.toArray)) (hsp:Sp P k (args++caps) Lin pre res) (hxs:Evs l xs args) (hd:d<n.sz) (hp:(Lin++Ps').flatten.Perm Ps.flatten) (hpre: ∀A∈pre,A∈As)
    (h: ∀v Lo fs,res v Lo fs→K ((d,v)::l) (Lo++Ps') (fs++As)):
    OW P n R l Ps As ⟨some d, .call ⟨.value x,xs.toArray,ts⟩,ty,pos,aft,g⟩ K:=by
  intro Z w a hs ha
  have hP:St Z w (Lin++Ps') (pre++As):=(hs.permParts hp).subFacts fun A hA=>by
    rcases List.mem_append.1 hA with hA | hA
    · exact hpre A hA
    · exact hA
  have hrun:(execOp a.eval ⟨some d, .call ⟨.value x,xs.toArray,ts⟩,ty,pos,aft,g⟩).run P w= .ok (.enter k (args++caps).toArray) w:=by
    have h1:=hxs.map fun x v hx=>ha.eval hx
    have h2:=Qd hsp.enters (args++caps).toArray w
    have h3:=ha.eval hx
    simp only [execOp,resolve,Deferred.ofValue,invoke,h3,List.map_toArray,h1,Sem.run_bind,Sem.run_pure,Result.andThen_ok]
    simpa using h2
  unfold Oper.wp
  rw [hrun,Oper.upon_enter]
  refine (hsp.calls Z w Ps' As hP).mono ?_
  rintro e w' ⟨v,rfl,Z',Lo,fs,h1,h2⟩
  refine ⟨(d,v)::l,Z',Lo++Ps',fs++As,ha.put hd v,h2.subFacts ?_,h v Lo fs h1⟩
  intro A hA
  rcases List.mem_append.1 hA with h | h
  · exact List.mem_append.2 (.inl h)
  · exact List.mem_append.2 (.inr (List.mem_append.2 (.inr h)))
theorem Sp.flat {k:FuncId} {args:List Value} {Lin:List Part} {pre:List Fact} {res:Value→List Part→List Fact→Prop} (h:Sp P k args Lin pre res):Sp P k args [Lin.flatten] pre (fun v Lo fs=> ∃Lo',res v Lo' fs∧Lo= [Lo'.flatten]):=by
  refine ⟨h.enters,fun Z w Ps As hs=> ?_⟩
  have hs':St Z w (Lin++Ps) (pre++As):=by
    refine hs.permParts ?_
    simp
  refine (h.calls Z w Ps As hs').mono ?_
  rintro e w' ⟨v,he,Z',Lo,fs,h1,h2⟩
  exact ⟨v,he,Z',[Lo.flatten],fs,⟨Lo,h1,O⟩,h2.permParts (by simp)⟩
theorem Xp {c:Code} {Qs:List Part} (h:WC P n c R l (Qs++Ps) As):WC P n c R l (Qs.flatten::Ps) As:=fun Z w a hs ha=>h Z w a (hs.permParts (by simp)) ha
theorem Jbt {c:Code} {Qs:List Part} (h:WC P n c R l (Qs.flatten::Ps) As):WC P n c R l (Qs++Ps) As:=fun Z w a hs ha=>h Z w a (hs.permParts (by simp)) ha
theorem Vr {k yk:IntKind} {a b c:Int} {t t2:TypeId} {x y:Operand} (hx:evs l x=some (.int k a)) (hy:evs l y=some (.int yk b)) (hb:0≤b) (hw:a.fdiv (2 ^ (min b.toNat k.bits))=c):QR P l Ps As ⟨d, .binOp .shr t x y t2,ty,pos,aft,g⟩ (.int k c):=fun Z w ρ hs hρ=>by
  subst hw
  have h1: ¬b<0:=by omega
  simp [execOp,hρ _ _ hx,hρ _ _ hy,binOp,eqGuard,Op.shift,h1]
theorem VN {t t2:TypeId} {x y:Operand} {k:IntKind} {a b c:Int} (hx:evs l x=some (.int k a)) (hy:evs l y=some (.int k b)) (hw:bits .or k a b=c):QR P l Ps As ⟨d, .binOp .or t x y t2,ty,pos,aft,g⟩ (.int k c):=fun Z w ρ hs hρ=>by
  subst hw;simp [execOp,hρ _ _ hx,hρ _ _ hy,go_sem]
theorem VB {d:Nat} {op:Op} {v:Value} (hq:QR P l Ps As ⟨some d,op,ty,pos,aft,g⟩ v) (hd:d<n.sz) (h:K ((d,v)::l) Ps As):OW P n R l Ps As ⟨some d,op,ty,pos,aft,g⟩ K:=
  KU rfl hd fun Z w ρ hs hρ=>⟨v,w,Z,Ps,As,hq Z w ρ hs hρ,hs,h⟩
theorem YG {T E:TypeId} {d:Nat} {m:Nat} {xs:List (Nat×Operand)} {vs:List (Nat×Value)} {cs:List Value} (hx:EvP l xs vs) (hb: ∀w:World,(Instr.buildSlice T m vs.toArray).run P w= .ok (.slice (some ⟨w.heap.size,0,none⟩) m m) (w.alloc (JB cs E))) (hd:d<n.sz)
    (h: ∀b,K ((d, .slice (some ⟨b,0,none⟩) m m)::l) ([(b,JB cs E)] ::Ps) As):OW P n R l Ps As ⟨some d, .buildSlice T m xs.toArray,ty,pos,aft,g⟩ K:=
  KU rfl hd fun Z w ρ hs hρ=>by
    refine ⟨_,w.alloc (JB cs E),Z,_,As,?_,hs.alloc _,h w.heap.size⟩
    have h1:=hx.map hρ
    simp only [execOp,List.map_toArray,h1,Sem.run_bind,hb];rfl
theorem Yp {T E:TypeId} {d:Nat} {x y:Operand} {zv:Value} {sz by_ k b c m:Nat} {v:Value} {cs news:List Value} {T':TypeId} {p:Part} {Qs:List Part} (hu:P.underlying T=some (.slice E)) (ht:ti P E=some (some zv,sz,by_)) (hz:zv.cells.size=sz) (hsz:0<sz) (hx:evs l x=some v) (hy:evs l y=some (.slice (some ⟨b,0,none⟩) m c))
    (hr:Row E sz v k cs p) (hb:OwnAt Qs b (JB news T')) (hl:news.length=m*sz) (h1:news.all Value.oneCell'=true) (h63:(k+m)*by_≤140737488355328) (hmx:k+m≤maxLen) (hd:d<n.sz) (hQ:(p::Qs).flatten.Perm Ps.flatten)
    (h: ∀v' p',Row E sz v' (k+m) (cs++news) p'→K ((d,v')::l) (p'::Qs) As):OW P n R l Ps As ⟨some d, .call ⟨.builtin .append,#[x,y],#[T,T]⟩,ty,pos,aft,g⟩ K:=
  KU rfl hd fun Z w ρ hs hρ=>by
    have hs':=hs.permParts hQ
    have hc:CellsAt w b 0 news:=⟨_,_,_,hs'.block (Ji hb),fun j v hv=>by simpa using hv⟩
    obtain ⟨v',w',p',g1,g2,g3⟩:=Ql (ty:=ty) (c:=c) hu ht hz hsz hs' hr (ad:=⟨b,0,none⟩) (m:=m) (news:=news) hl (fun j u hu=>by rw [KT];exact hc.cell hu) (fun u hu=>List.all_eq_true.1 h1 u hu) h63 hmx
    exact ⟨v',w',Z,_,As,by rw [K8 (hρ _ _ hx) (hρ _ _ hy),Sem.run_bind,g1];rfl,g3,h v' p' g2⟩
theorem shape_own {Z:Nat→Prop} {w:World} (hs:St Z w Ps As) {b:Nat} {cs:List Value} {T:TypeId} (hb:OwnAt Ps b (JB cs T)):w.shape? b=some (T,cs.length):=by
  have:=hs.block hb
  unfold World.shape? JB at *
  rw [this];simp
theorem Hg {src dst t:TypeId} {x:Operand} {j:TypeInfo} {b T:Nat} {cs:List Value} (hs:P.underlying src=some (.pointer t)) (hd:P.underlying dst=some .unsafePointer) (ht:P.info? t=some j) (hj:j.size≠0) (hx:evs l x=some (.pointer (some ⟨b,0,none⟩))) (hb:OwnAt Ps b (JB cs T)) (hc:0<cs.length):
    QR P l Ps As ⟨d, .convert src dst x,ty,pos,aft,g⟩ (.pointer (some ⟨b,0,none⟩)):=fun Z w ρ hst hρ=>by
  have h:=Lib.run_to_unsafe (P:=P) (w:=w) ⟨b,0,none⟩ hs hd ht hj (shape_own hst hb) hc
  simp only [execOp,hρ _ _ hx,Sem.run_bind,h,Result.andThen_ok,Sem.run_pure]
theorem Eo {src dst u:TypeId} {x:Operand} {j:TypeInfo} {b T:Nat} {cs:List Value} (hs:P.underlying src=some .unsafePointer) (hd:P.underlying dst=some (.pointer u)) (hu:P.info? u=some j) (hx:evs l x=some (.pointer (some ⟨b,0,none⟩))) (hb:OwnAt Ps b (JB cs T)) (hl:liesAt P P.depth T (cs.length / P.cellsOf T) 0 u 1=true):
    QR P l Ps As ⟨d, .convert src dst x,ty,pos,aft,g⟩ (.pointer (some ⟨b,0,none⟩)):=fun Z w ρ hst hρ=>by
  have h:=Lib.run_from_unsafe (P:=P) (w:=w) ⟨b,0,none⟩ hs hd hu (shape_own hst hb) hl
  simp only [execOp,hρ _ _ hx,Sem.run_bind,h,Result.andThen_ok,Sem.run_pure]
theorem ZT {f:FuncId} {x:Operand} {v:Value} {ts:Array TypeId} (hb: ∀w,(callFunc f #[v]).run P w= .ok (.value v) w) (hx:evs l x=some v):QR P l Ps As ⟨d, .call ⟨.value (.func f),#[x],ts⟩,ty,pos,aft,g⟩ v:=fun Z w ρ hs hρ=>by
  have h0:ρ (.func f)= .func (.func f) #[] #[] :=hρ _ _ rfl
  simp only [execOp,resolve,Deferred.ofValue,invoke,h0,List.map_toArray,List.map_cons,List.map_nil,hρ _ _ hx,Sem.run_bind,Sem.run_pure,Result.andThen_ok]
  simpa using hb w
theorem EP {T:TypeId} {x:Operand} {A:Addr} {m c:Nat} (hc:c≠0) (hx:evs l x=some (.slice (some A) m c)):QR P l Ps As ⟨d, .call ⟨.builtin .unsafeSliceData,#[x],#[T]⟩,ty,pos,aft,g⟩ (.pointer (some A)):=fun Z w ρ hs hρ=>by
  simp only [execOp,resolve,invoke,List.map_toArray,List.map_cons,List.map_nil,hρ _ _ hx,Sem.run_bind,Sem.run_pure,Result.andThen_ok]
  show ((do pure (Next.value (←Builtin.unsafeSliceData_ #[T] ty #[.slice (some A) m c])):Sem Next)).run P w=_
  rw [Sem.run_bind,Lib.run_unsafeSliceData_row _ _ _ _ _ _ hc];rfl
theorem Hj {t e t2:TypeId} {x y:Operand} {a:Addr} {j:TypeInfo} (hu:P.underlying t=some (.pointer e)) (hj:P.info? e=some j) (hx:evs l x=some (.pointer (some a))) (hy:evs l y=some (.pointer (some a))):QR P l Ps As ⟨d, .binOp .neq t x y t2,ty,pos,aft,g⟩ (.bool false):=fun Z w ρ hs hρ=>by
  have h:=Lib.run_neq_ptr_same (P:=P) w a hu hj
  simp only [execOp,hρ _ _ hx,hρ _ _ hy,eqGuard_at_pointer,Sem.run_bind,h,Result.andThen_ok,Sem.run_pure]
def By (bs:List Int):Prop:= ∀x∈bs,0≤x∧x<256
def bytesU (bs:List Int):List UInt8:=bs.map fun x=>UInt8.ofNat x.toNat
def strOf (bs:List Int):ByteArray:=⟨(bytesU bs).toArray⟩
theorem XJ {d:Nat} {pt it e:TypeId} {x y:Operand} {b T:Nat} {bs:List Int} {jk:List Value} {Ps':List Part} (hp:P.underlying pt=some (.pointer T)) (hc:P.cellsOf T=1) (hby:By bs) (hne:bs≠ []) (h63:bs.length≤9223372036854775807)
    (hx:evs l x=some (.pointer (some ⟨b,0,none⟩))) (hy:evs l y=some (.int .i64 (bs.length:Nat))) (hd:d<n.sz) (hD:DelAt Ps [(b,JB (bs.map (Value.int .u8)++jk) T)] Ps') (h:K ((d, .string (strOf bs))::l) Ps' As):
    OW P n R l Ps As ⟨some d, .call ⟨.builtin .unsafeString,#[x,y],#[pt,it]⟩,ty,pos,aft,g⟩ K:=
  KU rfl hd fun Z w ρ hs hρ=>by
    have hs':=hs.permParts hD.perm
    have hcell:=hs'.cells (b:=b) Jn
    have hrun:=Lib.run_unsafeString_row (P:=P) (w:=w) pt it ty T hp hc b _ (shape_own hs' Jn) (bytesU bs) (by unfold bytesU;simpa using hne) (by unfold bytesU;simp) (by unfold bytesU;simpa using h63) (fun j u hu=>by
      unfold bytesU at hu
      rw [List.getElem?_map] at hu
      cases hj:bs[j]? with
      | none=>rw [hj] at hu;cases hu
      | some z=>
        rw [hj] at hu
        have hz:=hby z (List.mem_of_getElem? hj)
        have hlt:j<bs.length:=by
          rcases Nat.lt_or_ge j bs.length with h | h
          · exact h
          · rw [List.getElem?_eq_none h] at hj;cases hj
        obtain rfl:=Option.some.inj hu
        have h2:(bs.map (Value.int .u8)++jk)[j]? =some (.int .u8 z):=by rw [List.getElem?_append_left (by simpa using hlt),List.getElem?_map,hj];rfl
        have h3:=hcell.cell h2
        have h4:((UInt8.ofNat z.toNat).toNat:Int)=z:=by rw [UInt8.toNat_ofNat'];omega
        rw [KT,h4]
        simpa using h3)
    have hlen:(bytesU bs).length=bs.length:=by unfold bytesU;simp
    rw [hlen] at hrun
    refine ⟨_,w.freeze ⟨b,0,none⟩ bs.length,Z,Ps',As,?_,?_,h⟩
    · simp only [execOp,resolve,invoke,List.map_toArray,List.map_cons,List.map_nil,hρ _ _ hx,hρ _ _ hy,Sem.run_bind,Sem.run_pure,Result.andThen_ok]
      show ((do pure (Next.value (←Builtin.unsafeString_ #[pt,it] ty #[.pointer (some ⟨b,0,none⟩), .int .i64 (bs.length:Nat)])):Sem Next)).run P w=_
      rw [Sem.run_bind,hrun];rfl
    · have hb:=hs'.own (b,JB (bs.map (Value.int .u8)++jk) T) (by simp)
      have hnb: ∀q∈Ps'.flatten,q.1≠b:=fun q hq e=>by
        have:=hs'.nodup
        rw [List.flatten_cons,List.map_append,List.nodup_append] at this
        exact this.2.2 b (by simp) q.1 (List.mem_map.2 ⟨q,hq,O⟩) e.symm
      have hne0:bs.length≠0:=by simpa using hne
      have hh: ∀c,c≠b→(w.freeze ⟨b,0,none⟩ bs.length).heap[c]? =w.heap[c]? :=fun c hcb=>by
        unfold World.freeze
        rw [if_neg hne0]
        simp only [Array.getElem?_modify]
        rw [if_neg (fun e=>hcb e.symm)]
      have hos:(w.freeze ⟨b,0,none⟩ bs.length).os=w.os∧(w.freeze ⟨b,0,none⟩ bs.length).tape=w.tape∧(w.freeze ⟨b,0,none⟩ bs.length).output=w.output∧(w.freeze ⟨b,0,none⟩ bs.length).heap.size=w.heap.size:=by
        unfold World.freeze;rw [if_neg hne0];exact ⟨rfl,rfl,rfl,by simp⟩
      refine ⟨fun c hc=>by rw [hos.2.2.2];exact hs.zlt c hc,fun q hq=> ?_,?_,fun A hA=>A.stable (fun _ h=>h) (fun c hc=>hh c fun e=>hb.2 (e ▸ hc)) hos.1 hos.2.1 hos.2.2.1 (hs.facts A hA)⟩
      · have:=hs'.own q (by rw [List.flatten_cons];exact List.mem_append_right _ hq)
        exact ⟨by rw [hh _ (hnb q hq)];exact this.1,this.2⟩
      · have:=hs'.nodup
        rw [List.flatten_cons,List.map_append,List.nodup_append] at this
        exact this.2.1
end
section
variable {P:Program} {n:Dm} {R:Post} {l:Fr} {Ps:List Part} {As:List Fact} {ty:TypeId} {pos:String} {aft:Array Edge} {g:Option (Nat×Bool)} {K:Nx}
theorem Sp.thaw {α:Type} {e:De α} {k:FuncId} {args:List Value} {Lin:List Part} {pre:List Fact} {res:Value→List Part→List Fact→Prop} {b cap:Nat} {T':TypeId} {xs:List α} {css:List (List Value)} {jk:List Value} (h:Sp P k args Lin (RdF e (some ⟨b,0,none⟩) cap xs::pre) res) (hres: ∀v Lo fs,res v Lo fs→fs= []) (hc:xs.length≤cap∧cap≤maxLen):
    Sp P k args ([(b,JB (css.flatten++jk) T')] ::Lin) (RepsF e xs css::pre) (fun v Lo fs=> ∃Lo',res v Lo' [] ∧Lo= [(b,JB (css.flatten++jk) T')] ::Lo'∧fs= []):=by
  refine ⟨h.enters,fun Z w Ps As hs=> ?_⟩
  have hb:=hs.own (b,JB (css.flatten++jk) T') (by simp)
  have hf:=St.freeze (p:= [(b,JB (css.flatten++jk) T')]) (Ps:=Lin++Ps) hs
  have hrep:Reps (e.rep (fun c=>Z c∨ ∃o,(c,o)∈ [(b,JB (css.flatten++jk) T')]) w) xs css:=hf.facts (RepsF e xs css) (by simp)
  have hzb: ∃o,(b,o)∈ [(b,JB (css.flatten++jk) T')] :=⟨_,List.mem_singleton.2 rfl⟩
  have h1:=hf.addFact (A:=NearF w (fun c=>Z c∨ ∃o,(c,o)∈ [(b,JB (css.flatten++jk) T')])) ⟨fun c hc=>⟨hc,rfl⟩,rfl,rfl,rfl⟩
  have h2:=h1.addFact (A:=RdF e (some ⟨b,0,none⟩) cap xs) ⟨hc.1,hc.2, .inr ⟨b,0,css,rfl, .inr hzb,hrep,⟨_,_,_,hb.1,fun j v hv=>by
    have hj:(css.flatten++jk)[j]? =some v:=by
      rw [List.getElem?_append_left]
      · exact hv
      · rcases Nat.lt_or_ge j css.flatten.length with h | h
        · exact h
        · rw [List.getElem?_eq_none h] at hv;cases hv
    simpa using hj⟩⟩⟩
  have h3:St (fun c=>Z c∨ ∃o,(c,o)∈ [(b,JB (css.flatten++jk) T')]) w (Lin++Ps) ((RdF e (some ⟨b,0,none⟩) cap xs::pre)++(NearF w (fun c=>Z c∨ ∃o,(c,o)∈ [(b,JB (css.flatten++jk) T')])::As)):=h2.subFacts fun A hA=>by
    rcases List.mem_append.1 hA with hA | hA
    · rcases List.mem_cons.1 hA with rfl | hA
      · exact List.mem_cons_self
      · exact List.mem_cons_of_mem _ (List.mem_cons_of_mem _ (List.mem_append_left _ (List.mem_cons_of_mem _ hA)))
    · rcases List.mem_cons.1 hA with rfl | hA
      · exact List.mem_cons_of_mem _ List.mem_cons_self
      · exact List.mem_cons_of_mem _ (List.mem_cons_of_mem _ (List.mem_append_right _ hA))
  refine (h.calls _ w Ps _ h3).mono ?_
  rintro en w' ⟨v,rfl,Z',Lo,fs,g1,g2⟩
  obtain rfl:=hres _ _ _ g1
  have hn:=g2.facts (NearF w (fun c=>Z c∨ ∃o,(c,o)∈ [(b,JB (css.flatten++jk) T')])) (by simp)
  have hZb:Z' b:=(hn.1 b (.inr hzb)).1
  have hwb:w'.heap[b]? =some (JB (css.flatten++jk) T'):=by rw [(hn.1 b (.inr hzb)).2];exact hb.1
  refine ⟨v,O,fun c=>Z' c∧c≠b,_,[],⟨Lo,g1,O,O⟩,?_⟩
  have hst: ∀A:Fact,A.holds Z w→A.holds (fun c=>Z' c∧c≠b) w':=fun A hA=>A.stable (fun c hc=>⟨(hn.1 c (.inl hc)).1,fun hcb=>hb.2 (hcb ▸ hc)⟩) (fun c hc=>(hn.1 c (.inl hc)).2) hn.2.1 hn.2.2.1 hn.2.2.2 hA
  refine ⟨fun c hc=>g2.zlt c hc.1,fun q hq=> ?_,?_,fun A hA=>hst A (hs.facts A (by simpa using hA))⟩
  · rcases List.mem_append.1 (by simpa using hq:q∈ [(b,JB (css.flatten++jk) T')] ++(Lo++Ps).flatten) with hq | hq
    · rw [List.mem_singleton] at hq;subst hq
      exact ⟨hwb,fun hh=>hh.2 O⟩
    · have:=g2.own q hq
      exact ⟨this.1,fun hh=>this.2 hh.1⟩
  · have hnd:=g2.nodup
    show ((([(b,JB (css.flatten++jk) T')] ::Lo)++Ps).flatten.map Prod.fst).Nodup
    rw [List.cons_append,List.flatten_cons,List.map_append,List.nodup_append]
    refine ⟨by simp,hnd,fun x hx y hy hxy=> ?_⟩
    subst hxy
    simp only [List.map_cons,List.map_nil,List.mem_singleton] at hx
    subst hx
    obtain ⟨q,hq,hqb⟩:=List.mem_map.1 hy
    exact (g2.own q hq).2 (hqb ▸ hZb)
end
def noP (R:Post):Post:=fun e l Ps As=>match e with | .panic _=>False | e=>R e l Ps As
theorem YL {P:Program} {n:Dm} {R:Post} {l:Fr} {Ps:List Part} {As:List Fact} {c:Code} (h:WC P n c (noP R) l Ps As):WC P n c R l Ps As:=h.mono fun e l Ps As he=>by
  cases e<;>first | exact he.elim | exact he
structure SpP (P:Program) (k:FuncId) (args:List Value) (Lin:List Part) (pre:List Fact) (res:Value→List Part→List Fact→Prop):Prop where
  enters: ∃c rs n,Enters P k c rs n
  calls: ∀Z w Ps As,St Z w (Lin++Ps) (pre++As)→Calls P k args.toArray w fun e w'=> ∃v,e= .panicked [{ v:=v,recovered:=false }] ∧ ∃Z' Lo fs,res v Lo fs∧St Z' w' (Lo++Ps) (fs++(pre++As))
def finP (res:Value→List Part→List Fact→Prop) (Ps:List Part) (As:List Fact):Post:=fun e l Ps' As'=>match e with
  | .panic ch=> ∃v Lo fs,ch= [{ v:=v,recovered:=false }] ∧res v Lo fs∧(∀Z w,St Z w Ps' As'→ ∃Z',St Z' w (Lo++Ps) (fs++As))
  | _=>False
theorem ag_args {n:Nat} {args:List Value} (hn:args.length≤n):Ag ⟨n,[]⟩ (argsFr args 0) { tmps:=args.toArray++Array.replicate (n-args.toArray.size) undef,defers:= [] } :=by
  refine ⟨?_,O,?_⟩
  · simp;omega
  · intro t v ht
    obtain ⟨_,h7⟩:=lk_argsFr args 0 t v ht
    have h8:t<args.length:=by
      rcases Nat.lt_or_ge t args.length with h | h
      · exact h
      · simp [List.getElem?_eq_none h] at h7
    simp only [Nat.sub_zero] at h7
    rw [Array.getD_eq_getD_getElem?,Array.getElem?_append_left (by simpa using h8)]
    simp [h7]
theorem SpP.of {P:Program} {k:FuncId} {args:List Value} {Lin:List Part} {pre:List Fact} {res:Value→List Part→List Fact→Prop} {c:Code} {rs:List ResultVar} {n:Nat}
    (he:Enters P k c rs n) (hn:args.length≤n) (h: ∀Ps As,WC P ⟨n,[]⟩ c (finP res Ps (pre++As)) (argsFr args 0) (Lin++Ps) (pre++As)):SpP P k args Lin pre res:=by
  refine ⟨⟨c,rs,n,he⟩,fun Z w Ps As hs=> ?_⟩
  obtain ⟨fn,h1,h2,h3,h4,h5⟩:=he.ex
  refine calls_of_wp h1 h2 (wp_mono (h Ps As Z w _ hs (by rw [h4];exact ag_args hn)) ?_)
  rintro e a w' ⟨l,Z',Ps',As',g1,g2,g3⟩
  cases e with
  | panic ch=>
    obtain ⟨v,Lo,fs,rfl,k2,k3⟩:=g3
    obtain ⟨Z2,k4⟩:=k3 Z' w' g2
    exact ⟨g1.defers,v,O,Z2,Lo,fs,k2,k4⟩
  | _=>exact g3.elim
theorem SpP.mono {P:Program} {k:FuncId} {args:List Value} {Lin:List Part} {pre:List Fact} {res res':Value→List Part→List Fact→Prop} (h:SpP P k args Lin pre res) (hr: ∀v Lo fs,res v Lo fs→res' v Lo fs):SpP P k args Lin pre res':=
  ⟨h.enters,fun Z w Ps As hs=>(h.calls Z w Ps As hs).mono fun e w' ⟨v,he,Z',Lo,fs,h1,h2⟩=>⟨v,he,Z',Lo,fs,hr _ _ _ h1,h2⟩⟩
section
variable {P:Program} {n:Dm} {R:Post} {l:Fr} {Ps Ps':List Part} {As:List Fact} {ty:TypeId} {pos:String} {aft:Array Edge} {g:Option (Nat×Bool)} {K:Nx}
theorem Jay {k:FuncId} {d:Option Tmp} {xs:List Operand} {ts:Array TypeId} {args:List Value} {Lin:List Part} {pre:List Fact} {res:Value→List Part→List Fact→Prop}
    (hsp:SpP P k args Lin pre res) (hxs:Evs l xs args) (hP: ∀ {Z w},St Z w Ps As→St Z w (Lin++Ps') (pre++As))
    (h: ∀v Lo fs,res v Lo fs→R (.panic [{ v:=v,recovered:=false }]) l (Lo++Ps') (fs++As)):
    OW P n R l Ps As ⟨d, .call ⟨.value (.func k),xs.toArray,ts⟩,ty,pos,aft,g⟩ K:=by
  intro Z w a hs ha
  have hrun:(execOp a.eval ⟨d, .call ⟨.value (.func k),xs.toArray,ts⟩,ty,pos,aft,g⟩).run P w= .ok (.enter k args.toArray) w:=by
    have h1:=hxs.map fun x v hx=>ha.eval hx
    have h2:=Qd hsp.enters args.toArray w
    simp only [execOp,resolve,Deferred.ofValue,invoke,Act.eval,List.map_toArray,h1,Sem.run_bind,Sem.run_pure,Result.andThen_ok]
    simpa using h2
  unfold Oper.wp
  rw [hrun,Oper.upon_enter]
  refine (hsp.calls Z w Ps' As (hP hs)).mono ?_
  rintro e w' ⟨v,rfl,Z',Lo,fs,h1,h2⟩
  refine ⟨l,Z',Lo++Ps',fs++As,ha,h2.subFacts ?_,h v Lo fs h1⟩
  intro A hA
  rcases List.mem_append.1 hA with h | h
  · exact List.mem_append.2 (.inl h)
  · exact List.mem_append.2 (.inr (List.mem_append.2 (.inr h)))
theorem Ha {d:Option Tmp} {x:Operand} {t:TypeId} {v:Value} (hx:evs l x=some (.iface t v)) (h:R (.panic [{ v:= .iface t v,recovered:=false }]) l Ps As):
    OW P n R l Ps As ⟨d, .panic x,ty,pos,aft,g⟩ K:=by
  intro Z w a hs ha
  have hrun:(execOp a.eval ⟨d, .panic x,ty,pos,aft,g⟩).run P w= .halt (.panic (.iface t v)) w:=by
    simp only [execOp,ha.eval hx,Instr.panic]
    rfl
  unfold Oper.wp
  rw [hrun,Oper.upon_panic]
  exact ⟨l,Z,Ps,As,ha,hs,h⟩
end
structure Catches (P:Program) (d:Deferred) (ok:Value→Prop) (Lc:List Part→Prop) (Lc':Value→List Part):Prop where
  inv: ∃fv cap f args,d.target= .fn fv cap∧(∀w,(invoke d.target d.args).run P w= .ok (.enter f args) w)∧
    (∀Z w Ps As,St Z w Ps As→CallsD P f args .returning w fun e u' w'=>(∃v,e= .returned v)∧u'= .returning∧ ∃Z',St Z' w' Ps As)∧
    (∀v Z w Ps As L,ok v→Lc L→St Z w (L++Ps) As→CallsD P f args (.panicking [{ v:=v,recovered:=false }]) w fun e u' w'=>(∃x,e= .returned x)∧u'= .panicking [{ v:=v,recovered:=true }] ∧ ∃Z',St Z' w' (Lc' v++Ps) As)
def finD (P:Program) (rs:List ResultVar) (ok:Value→Prop) (Lc:List Part→Prop) (Lc':Value→List Part) (res:Value→List Part→List Fact→Prop) (Ps:List Part) (As:List Fact):Post:=fun e l Ps' As'=>match e with
  | .normal | .ret=> ∃vs Lo fs,(∀Z w,St Z w Ps' As'→RV P l w rs vs)∧res (tup vs) Lo fs∧(∀Z w,St Z w Ps' As'→ ∃Z',St Z' w (Lo++Ps) (fs++As))
  | .panic ch=> ∃v L Ps2 vs Lo fs,ch= [{ v:=v,recovered:=false }] ∧ok v∧Lc L∧(∀Z w,St Z w Ps' As'→St Z w (L++Ps2) As')∧(∀Z w,St Z w (Lc' v++Ps2) As'→RV P l w rs vs)∧res (tup vs) Lo fs∧(∀Z w,St Z w (Lc' v++Ps2) As'→ ∃Z',St Z' w (Lo++Ps) (fs++As))
  | _=>False
def DefReg (P:Program) (n:Nat) (c:Code) (d:Deferred) (l l2:Fr):Prop:= ∀a w Q,Ag ⟨n,[]⟩ l a→(∀a',Ag ⟨n,[d]⟩ l2 a'→Q .normal a' w)→c.wp P Q a w
theorem Sp.ofD {P:Program} {k:FuncId} {args:List Value} {Lin:List Part} {pre:List Fact} {res:Value→List Part→List Fact→Prop} {c0 c1 c2:Code} {rs:List ResultVar} {n:Nat}
    (he:Enters P k (.seq c0 (.seq c1 c2)) rs n) (hn:args.length≤n)
    (h: ∀Ps As,WC P ⟨n,[]⟩ c0 (fun e l' Ps' As'=>e= .normal∧ ∃d ok Lc Lc' l2,Catches P d ok Lc Lc'∧DefReg P n c1 d l' l2∧WC P ⟨n,[d]⟩ c2 (finD P rs ok Lc Lc' res Ps (pre++As)) l2 Ps' As') (argsFr args 0) (Lin++Ps) (pre++As)):Sp P k args Lin pre res:=by
  refine ⟨⟨_,rs,n,he⟩,fun Z w Ps As hs=> ?_⟩
  obtain ⟨fn,h1,h2,h3,h4,h5⟩:=he.ex
  refine calls_of_wp_defers h1 h2 (wp_seq (wp_mono (h Ps As Z w _ hs (by rw [h4];exact ag_args hn)) ?_))
  rintro e a w' ⟨l',Z',Ps',As',g1,g2,rfl,d,ok,Lc,Lc',l2,hc,hd,g3⟩
  show (Code.seq c1 c2).wp P _ a w'
  refine wp_seq (hd a w' _ g1 fun a' g4=> ?_)
  show c2.wp P _ a' w'
  refine wp_mono (g3 Z' w' a' g2 g4) ?_
  rintro e a2 w2 ⟨l3,Z3,Ps3,As3,k1,k2,k3⟩
  obtain ⟨fv,cap,f,cargs,q1,q2,q3,q4⟩:=hc.inv
  have hdf:a2.defers= [d] :=k1.defers
  have hret:(∃vs Lo fs,(∀Z w,St Z w Ps3 As3→RV P l3 w rs vs)∧res (tup vs) Lo fs∧(∀Z w,St Z w Ps3 As3→ ∃Z',St Z' w (Lo++Ps) (fs++(pre++As))))→
      Leaves P fn a2.tmps (fun e w'=> ∃v,e= .returned v∧ ∃Z' Lo fs,res v Lo fs∧St Z' w' (Lo++Ps) (fs++(pre++As))) a2.defers .returning w2:=by
    rintro ⟨vs,Lo,fs,r1,r2,r3⟩
    rw [hdf]
    refine ⟨by simp,fv,cap,f,cargs,q1,q2 w2,(q3 Z3 w2 _ _ k2).mono ?_⟩
    rintro e u' w' ⟨⟨v,rfl⟩,rfl,Z4,k4⟩
    obtain ⟨Z5,s5⟩:=r3 Z4 _ k4
    exact ⟨tup vs,Y4 k1 (h3 ▸ r1 Z4 _ k4),_,O,Z5,Lo,fs,r2,s5⟩
  cases e with
  | normal=>exact hret k3
  | ret=>exact hret k3
  | panic ch=>
    obtain ⟨v,L,Ps2,vs,Lo,fs,rfl,hok,hL,hst,hrv,hres,hfin⟩:=k3
    show Leaves P fn a2.tmps _ a2.defers (.panicking [{ v:=v,recovered:=false }]) w2
    rw [hdf]
    refine ⟨by simp,fv,cap,f,cargs,q1,q2 w2,(q4 v Z3 w2 Ps2 As3 L hok hL (hst Z3 w2 k2)).mono ?_⟩
    rintro e u' w' ⟨⟨x,rfl⟩,rfl,Z4,s4⟩
    obtain ⟨Z5,s5⟩:=hfin Z4 w' s4
    exact ⟨tup vs,Y4 k1 (h3 ▸ hrv Z4 w' s4),_,O,Z5,Lo,fs,hres,s5⟩
  | _=>exact k3.elim
theorem DefReg.mk {P:Program} {n:Nat} {l:Fr} {id t kf:Nat} {cs:List Operand} {vs:List Value} {ty ty2:TypeId} {pos pos2:String} {aft aft2:Array Edge} (hcs:Evs l cs vs) (ht:t<n):
    DefReg P n (.region id [⟨some t, .makeFunc (.func kf) #[] cs.toArray,ty,pos,aft,none⟩,⟨none, .defer ⟨.value (.tmp t),#[],#[]⟩,ty2,pos2,aft2,none⟩].toArray false) ⟨.fn (.func kf) vs.toArray,#[]⟩ l ((t, .func (.func kf) #[] vs.toArray)::l):=by
  intro a w Q ha hq
  refine wp_region_lit (wpList_plain O fun K hK=> ?_)
  have h1:=hcs.map fun x v hx=>ha.eval hx
  unfold Oper.wp
  have e1:(execOp a.eval ⟨some t, .makeFunc (.func kf) #[] cs.toArray,ty,pos,aft,none⟩).run P w= .ok (.value (.func (.func kf) #[] vs.toArray)) w:=by
    simp only [execOp,List.map_toArray,h1,Instr.makeFunc,Sem.run_bind,Sem.run_pure,Result.andThen_ok]
    simp
  rw [e1]
  have ha1:=ha.put ht (.func (.func kf) #[] vs.toArray)
  refine hK _ _ (wpList_plain O fun K hK=> ?_)
  unfold Oper.wp
  have e2:(execOp (a.put (some t) (.func (.func kf) #[] vs.toArray)).eval ⟨none, .defer ⟨.value (.tmp t),#[],#[]⟩,ty2,pos2,aft2,none⟩).run P w= .ok (.defer ⟨.fn (.func kf) vs.toArray,#[]⟩) w:=by
    have h3:(a.put (some t) (.func (.func kf) #[] vs.toArray)).eval (.tmp t)= .func (.func kf) #[] vs.toArray:=ha1.eval (by simp [evs,Qz])
    simp only [execOp,resolve,h3,Deferred.ofValue,Sem.run_bind,Sem.run_pure,Result.andThen_ok]
    simp
  rw [e2,Oper.upon_defer]
  refine hK _ _ (wpList_nil (hq _ ?_))
  exact ⟨ha1.size,by show _::_=_;rw [ha1.defers],ha1.get⟩
theorem Xs {K:Nx} {R:Post} {c:List PanicEntry} {l:Fr} {Ps:List Part} {As:List Fact} (h:R (.panic c) l Ps As):VO K R (.panic c) l Ps As:=h
theorem dl {d:Nat} {n:Dm} (h:Nat.ble (d+1) n.sz=true):d<n.sz:=Nat.le_of_ble_eq_true h
theorem wpS_recover {P:Program} {i0 a b n:Nat} {l:Fr} {act:Act} {cs cs':List Frame} {v:Value} {w:World} {ts:Array TypeId} {ty ty2:TypeId} {pos pos2:String} {aft aft2:Array Edge} {Q:Exit→Act→List Frame→World→Prop}
    (ha:Ag ⟨n,[]⟩ l act) (han:a<n) (hbn:b<n) (hr:(recoverD cs=some (v,cs'))∨(recoverD cs=none∧v= .nilIface∧cs'=cs)) (h: ∀act',Ag ⟨n,[]⟩ ((b,v)::(a,v)::l) act'→Q .normal act' cs' w):
    (Code.region i0 [⟨some a, .call ⟨.builtin .recover,#[],ts⟩,ty,pos,aft,none⟩,⟨some b, .assign (.tmp a),ty2,pos2,aft2,none⟩].toArray false).wpS P Q act cs w:=by
  apply wpS_region
  have e0:(execOp act.eval ⟨some a, .call ⟨.builtin .recover,#[],ts⟩,ty,pos,aft,none⟩).run P w= .ok .recover w:=by
    simp [execOp,resolve,invoke,builtin]
  have a1:=Ag.put (n:=⟨n,[]⟩) ha han v
  have e1:(execOp (act.put (some a) v).eval ⟨some b, .assign (.tmp a),ty2,pos2,aft2,none⟩).run P w= .ok (.value v) w:=by
    have:(act.put (some a) v).eval (.tmp a)=v:=a1.eval (by simp [evs,Qz])
    simp only [execOp,this];rfl
  have a2:=Ag.put (n:=⟨n,[]⟩) a1 hbn v
  have hl:List.range ([⟨some a, .call ⟨.builtin .recover,#[],ts⟩,ty,pos,aft,none⟩,⟨some b, .assign (.tmp a),ty2,pos2,aft2,none⟩] :List Oper).toArray.size= [0,1] :=rfl
  rw [hl]
  have g0: ∀r,Region.wanted ⟨some a, .call ⟨.builtin .recover,#[],ts⟩,ty,pos,aft,none⟩ r=true:=fun _=>rfl
  have g1: ∀r,Region.wanted ⟨some b, .assign (.tmp a),ty2,pos2,aft2,none⟩ r=true:=fun _=>rfl
  simp only [wpOpsS,List.getElem?_toArray,List.getElem?_cons_zero,List.getElem?_cons_succ,g0,g1,if_true,e0]
  rcases hr with hr | ⟨hr,rfl,rfl⟩
  · rw [hr]
    simp only [e1,Oper.upon_value]
    exact h _ a2
  · rw [hr]
    simp only [e1,Oper.upon_value]
    exact h _ a2
theorem Catches.of {P:Program} {k:FuncId} {fn:Func} {i0 a b n:Nat} {c2:Code} {ts:Array TypeId} {ty ty2:TypeId} {pos pos2:String} {aft aft2:Array Edge} {caps:List Value} {ok:Value→Prop} {Lc:List Part→Prop} {Lc':Value→List Part}
    (hf : P.funcs[k]? = some fn) (hb : fn.body = some (.seq (.region i0 [⟨some a, .call ⟨.builtin .recover, #[], ts⟩, ty, pos, aft, none⟩, ⟨some b, .assign (.tmp a), ty2, pos2, aft2, none⟩].toArray false) c2)) (hr : fn.results.toList = []) (hn : fn.ntmps = n) (hnm : (fn.name == "runtime.NumGoroutine") = false) (hcap : caps.length ≤ n) (han : a < n) (hbn : b < n)
    (h0: ∀Ps As,WC P ⟨n,[]⟩ c2 (fun e l Ps' As'=>e= .normal∧Ps'=Ps∧As'=As) ((b, .nilIface)::(a, .nilIface)::argsFr caps 0) Ps As)
    (h1: ∀v L Ps As,ok v→Lc L→WC P ⟨n,[]⟩ c2 (fun e l Ps' As'=>e= .normal∧ ∀Z w,St Z w Ps' As'→ ∃Z',St Z' w (Lc' v++Ps) As) ((b,v)::(a,v)::argsFr caps 0) (L++Ps) As):
    Catches P ⟨.fn (.func k) caps.toArray,#[]⟩ ok Lc Lc':=by
  refine ⟨_,_,k,caps.toArray,O,fun w=> ?_,fun Z w Ps As hs=> ?_,fun v Z w Ps As L hok hL hs=> ?_⟩
  · have h2:=Qd (P:=P) (k:=k) ⟨_,_,n,fn,hf,hb,rfl,hn,hnm⟩ caps.toArray w
    simpa [invoke] using h2
  · refine callsD_of_wpS hf hb fun c₀ cs hu=>wpS_seq ?_
    refine wpS_recover (v:= .nilIface) (by rw [hn];exact ag_args hcap) han hbn (.inr ⟨by simp [recoverD,hu],O,O⟩) fun act' ha'=> ?_
    show c2.wpS P _ act' _ w
    refine wpS_of_wp (wp_mono (h0 Ps As Z w act' hs ha') ?_)
    rintro e a w' ⟨l,Z',Ps',As',g1,g2,rfl,rfl,rfl⟩
    exact ⟨g1.defers, .returning,by cases c₀;simp_all,_,Y4 g1 (hr ▸ RV.nil),⟨_,rfl⟩,rfl,Z',g2⟩
  · refine callsD_of_wpS hf hb fun c₀ cs hu=>wpS_seq ?_
    refine wpS_recover (v:=v) (cs':= { c₀ with mode:= .panicking [{ v:=v,recovered:=true }] } ::cs) (by rw [hn];exact ag_args hcap) han hbn (.inl (by simp [recoverD,hu])) fun act' ha'=> ?_
    show c2.wpS P _ act' _ w
    refine wpS_of_wp (wp_mono (h1 v L Ps As hok hL Z w act' hs ha') ?_)
    rintro e a w' ⟨l,Z',Ps',As',g1,g2,rfl,g3⟩
    exact ⟨g1.defers,_,O,_,Y4 g1 (hr ▸ RV.nil),⟨_,O⟩,O,g3 Z' w' g2⟩
section
variable {P:Program} {n:Dm} {R:Post} {l:Fr} {Ps:List Part} {As:List Fact} {d:Option Tmp} {ty:TypeId} {pos:String} {aft:Array Edge} {g:Option (Nat×Bool)} {K:Nx}
def concrete:Option TypeDesc→Bool
  | some (.interface _)=>false
  | some .invalid=>false
  | none=>false
  | _=>true
theorem Gi {T:TypeId} {x:Operand} {v:Value} (hc:concrete (P.underlying T)=true) (hx:evs l x=some v):QR P l Ps As ⟨d, .makeInterface T x,ty,pos,aft,g⟩ (.iface T v):=fun Z w ρ hs hρ=>by
  cases hu:P.underlying T with
  | none=>rw [hu] at hc;cases hc
  | some u=>
    rw [hu] at hc
    have h1:=run_underlying' (P:=P) (w:=w) hu
    simp only [execOp,hρ _ _ hx,Instr.makeInterface,Sem.run_bind,h1,Result.andThen_ok]
    cases u<;>first | rfl | cases hc
theorem ZV {t T:TypeId} {x:Operand} {v:Value} (hc:concrete (P.underlying T)=true) (hx:evs l x=some (.iface T v)):QR P l Ps As ⟨d, .typeAssert x t T true,ty,pos,aft,g⟩ (.tuple #[v, .bool true]):=fun Z w ρ hs hρ=>by
  cases hu:P.underlying T with
  | none=>rw [hu] at hc;cases hc
  | some u=>
    rw [hu] at hc
    have h1:=run_underlying' (P:=P) (w:=w) hu
    simp only [execOp,hρ _ _ hx,Instr.typeAssert,Sem.run_bind,h1,Result.andThen_ok]
    cases u<;>first | rfl | (simp only [Sem.run_bind,Sem.run_pure,Result.andThen_ok,if_true,ite_true];done) | (simp;done) | (cases hc;done)
theorem ZL {t:TypeId} {ms:Array (String×TypeId)} {w:World} {T:TypeId} {v:Value} (hu:P.underlying t=some (.interface ms)):(Op.equalIn (9999+1) t (.iface T v) .nilIface).run P w= .ok false w:=by
  unfold Op.equalIn
  simp only [Sem.run_bind,run_underlying' hu,Result.andThen_ok]
  rfl
theorem EK {t:TypeId} {ms:Array (String×TypeId)} {w:World} (hu:P.underlying t=some (.interface ms)):(Op.equalIn (9999+1) t .nilIface .nilIface).run P w= .ok true w:=by
  unfold Op.equalIn
  simp only [Sem.run_bind,run_underlying' hu,Result.andThen_ok]
  rfl
theorem Qy {t t2 T:TypeId} {ms:Array (String×TypeId)} {x y:Operand} {v:Value} (hu:P.underlying t=some (.interface ms)) (hx:evs l x=some (.iface T v)) (hy:evs l y=some .nilIface):QR P l Ps As ⟨d, .binOp .neq t x y t2,ty,pos,aft,g⟩ (.bool true):=fun Z w ρ hs hρ=>by
  have h0:binOp .neq t (.iface T v) .nilIface=(do pure (.bool (!(←Op.equalIn (9999+1) t (.iface T v) .nilIface)))):=rfl
  have h1:eqGuard .neq t x y (.iface T v) .nilIface=pure ():=by unfold eqGuard;rfl
  simp only [execOp,hρ _ _ hx,hρ _ _ hy,h1,h0,Sem.run_bind,ZL hu,Result.andThen_ok,Sem.run_pure]
  rfl
theorem KX {t t2:TypeId} {ms:Array (String×TypeId)} {x:Operand} (hu:P.underlying t=some (.interface ms)) (hx:evs l x=some .nilIface):QR P l Ps As ⟨d, .binOp .neq t x (.const .nilIface) t2,ty,pos,aft,g⟩ (.bool false):=fun Z w ρ hs hρ=>by
  have h0:binOp .neq t .nilIface .nilIface=(do pure (.bool (!(←Op.equalIn (9999+1) t .nilIface .nilIface)))):=rfl
  have h1:eqGuard .neq t x (.const .nilIface) .nilIface .nilIface=pure ():=by unfold eqGuard;simp
  have hy:ρ (.const .nilIface)= .nilIface:=hρ _ _ rfl
  simp only [execOp,hρ _ _ hx,hy,h1,h0,Sem.run_bind,EK hu,Result.andThen_ok,Sem.run_pure]
  rfl
theorem QX {t t2:TypeId} {ms:Array (String×TypeId)} {x:Operand} (hu:P.underlying t=some (.interface ms)) (hx:evs l x=some .nilIface):QR P l Ps As ⟨d, .binOp .eql t x (.const .nilIface) t2,ty,pos,aft,g⟩ (.bool true):=fun Z w ρ hs hρ=>by
  have h0:binOp .eql t .nilIface .nilIface=(do pure (.bool (←Op.equalIn (9999+1) t .nilIface .nilIface))):=rfl
  have h1:eqGuard .eql t x (.const .nilIface) .nilIface .nilIface=pure ():=by unfold eqGuard;simp
  have hy:ρ (.const .nilIface)= .nilIface:=hρ _ _ rfl
  simp only [execOp,hρ _ _ hx,hy,h1,h0,Sem.run_bind,EK hu,Result.andThen_ok,Sem.run_pure]
theorem YS {k:FuncId} {xs:List Operand} {ts:Array TypeId} {args:List Value} {pre:List Fact} {res:Value→List Part→List Fact→Prop}
    (hsp:SpP P k args [] pre res) (hxs:Evs l xs args) (hpre: ∀A∈pre,A∈As)
    (h: ∀v Lo fs,res v Lo fs→R (.panic [{ v:=v,recovered:=false }]) l (Lo++Ps) (fs++As)):
    OW P n R l Ps As ⟨d, .call ⟨.value (.func k),xs.toArray,ts⟩,ty,pos,aft,g⟩ K:=
  Jay hsp hxs (fun hs=>hs.subFacts fun A hA=>by
    rcases List.mem_append.1 hA with hA | hA
    · exact hpre A hA
    · exact hA) h
inductive DelL:List Part→List Part→List Part→Prop
  | nil {Ps:List Part} :DelL Ps [] Ps
  | cons {p:Part} {ps Ps Q Ps':List Part} (h:DelAt Ps p Q) (r:DelL Q ps Ps'):DelL Ps (p::ps) Ps'
theorem DelL.n1 {p0:Part}{Q0 Q1:List Part}(h0:DelAt Q0 p0 Q1):DelL Q0 ([p0]) Q1:=.cons h0 (.nil)
theorem DelL.n2 {p0 p1:Part}{Q0 Q1 Q2:List Part}(h0:DelAt Q0 p0 Q1)(h1:DelAt Q1 p1 Q2):DelL Q0 ([p0,p1]) Q2:=.cons h0 (.cons h1 (.nil))
theorem DelL.n3 {p0 p1 p2:Part}{Q0 Q1 Q2 Q3:List Part}(h0:DelAt Q0 p0 Q1)(h1:DelAt Q1 p1 Q2)(h2:DelAt Q2 p2 Q3):DelL Q0 ([p0,p1,p2]) Q3:=.cons h0 (.cons h1 (.cons h2 (.nil)))
theorem DelL.n4 {p0 p1 p2 p3:Part}{Q0 Q1 Q2 Q3 Q4:List Part}(h0:DelAt Q0 p0 Q1)(h1:DelAt Q1 p1 Q2)(h2:DelAt Q2 p2 Q3)(h3:DelAt Q3 p3 Q4):DelL Q0 ([p0,p1,p2,p3]) Q4:=.cons h0 (.cons h1 (.cons h2 (.cons h3 (.nil))))
theorem DelL.n5 {p0 p1 p2 p3 p4:Part}{Q0 Q1 Q2 Q3 Q4 Q5:List Part}(h0:DelAt Q0 p0 Q1)(h1:DelAt Q1 p1 Q2)(h2:DelAt Q2 p2 Q3)(h3:DelAt Q3 p3 Q4)(h4:DelAt Q4 p4 Q5):DelL Q0 ([p0,p1,p2,p3,p4]) Q5:=.cons h0 (.cons h1 (.cons h2 (.cons h3 (.cons h4 (.nil)))))
theorem DelL.n6 {p0 p1 p2 p3 p4 p5:Part}{Q0 Q1 Q2 Q3 Q4 Q5 Q6:List Part}(h0:DelAt Q0 p0 Q1)(h1:DelAt Q1 p1 Q2)(h2:DelAt Q2 p2 Q3)(h3:DelAt Q3 p3 Q4)(h4:DelAt Q4 p4 Q5)(h5:DelAt Q5 p5 Q6):DelL Q0 ([p0,p1,p2,p3,p4,p5]) Q6:=.cons h0 (.cons h1 (.cons h2 (.cons h3 (.cons h4 (.cons h5 (.nil))))))
theorem DelL.n8 {p0 p1 p2 p3 p4 p5 p6 p7:Part}{Q0 Q1 Q2 Q3 Q4 Q5 Q6 Q7 Q8:List Part}(h0:DelAt Q0 p0 Q1)(h1:DelAt Q1 p1 Q2)(h2:DelAt Q2 p2 Q3)(h3:DelAt Q3 p3 Q4)(h4:DelAt Q4 p4 Q5)(h5:DelAt Q5 p5 Q6)(h6:DelAt Q6 p6 Q7)(h7:DelAt Q7 p7 Q8):DelL Q0 ([p0,p1,p2,p3,p4,p5,p6,p7]) Q8:=.cons h0 (.cons h1 (.cons h2 (.cons h3 (.cons h4 (.cons h5 (.cons h6 (.cons h7 (.nil))))))))
theorem DelL.perm {Ps ps Ps':List Part} (h:DelL Ps ps Ps'):(ps++Ps').flatten.Perm Ps.flatten:=by
  induction h with
  | nil=>exact List.Perm.refl _
  | cons h r ih=>
    have e:=h.perm
    simp only [List.flatten_cons,List.cons_append] at e ⊢
    exact (List.Perm.append_left _ ih).trans e
theorem J6 {Ps':List Part} {k:FuncId} {d:Nat} {xs:List Operand} {ts:Array TypeId} {args:List Value} {Lin:List Part} {pre:List Fact} {res:Value→List Part→List Fact→Prop}
    (hsp:Sp P k args Lin pre res) (hxs:Evs l xs args) (hd:d<n.sz) (hp:DelL Ps Lin Ps') (hpre: ∀A∈pre,A∈As)
    (h: ∀v Lo fs,res v Lo fs→K ((d,v)::l) (Lo++Ps') (fs++As)):
    OW P n R l Ps As ⟨some d, .call ⟨.value (.func k),xs.toArray,ts⟩,ty,pos,aft,g⟩ K:=
  XZ hsp hxs hd (fun hs=>(hs.permParts hp.perm).subFacts fun A hA=>by
    rcases List.mem_append.1 hA with hA | hA
    · exact hpre A hA
    · exact hA) h
end
end Go.GW
namespace Go.Proofs.YtgedhdmpiciikaaGreatDoor
open Go Go.GW
def Jx (o:GOp):Int:=if o.kind=1 then (utF o.text).1 else 0
def rightF (c n:Int):Bool:=decide (1≤c∧c≤8∧1≤n∧n≤1024)
def extraF (o:GOp):Bool:=
 (decide (o.kind≠1) && (decide (o.at_≠0) || !(o.text==⟨#[]⟩))) || ((decide (o.kind≠2) && decide (o.kind≠3)) && decide (0<o.rs.length)) || (decide (o.kind≠4) && ((decide (o.tc≠0) || decide (o.tn≠0)) || o.on))
def insF (o:GOp) (total:Int):Int:=
 if (utF o.text).2.2≠0 then (utF o.text).2.2
 else if (utF o.text).1=0 then 15
 else if (utF o.text).1>256 then 14
 else if o.at_<0∨o.at_>total then 12
 else if total+(utF o.text).1>1048576 then 24
 else 0
def YV (xs:List Rg) (total:Int):Int:=
 match xs.getLast? with
 | none=>43
 | some r=>if (ckF xs).2≠0 then (ckF xs).2 else if r.hi>total then 12 else 0
theorem Qx {xs:List Rg} {total:Int} (h:xs.length=0):YV xs total=43:=by
 rw [List.length_eq_zero_iff.1 h];rfl
theorem QV {xs:List Rg} {total:Int} (h: ¬xs.length=0) (h2:(ckF xs).2≠0):YV xs total=(ckF xs).2:=by
 have hk:xs.length-1<xs.length:=by omega
 unfold YV
 rw [List.getLast?_eq_getElem?,List.getElem?_eq_getElem hk]
 simp only [if_pos h2]
theorem Yy {xs:List Rg} {total:Int} (hk:xs.length-1<xs.length) (h2:(ckF xs).2=0):YV xs total=if xs[xs.length-1].hi>total then 12 else 0:=by
 unfold YV
 rw [List.getLast?_eq_getElem?,List.getElem?_eq_getElem hk]
 simp only [ne_eq,h2,not_true_eq_false,if_false]
def checkF (o:GOp) (total:Int):Int:=
 if total<0∨total>1048576 then 12
 else if o.kind<1∨o.kind>4 then 40
 else if (o.c≠0∨o.n≠0)∧rightF o.c o.n=false then 41
 else if extraF o=true then 42
 else if o.kind=1 then insF o total
 else if o.kind=4 then (if rightF o.tc o.tn=false∨(o.tc=o.c∧o.tn=o.n) then 63 else 0)
 else YV o.rs total
theorem utAt_n {s:ByteArray} : ∀(m p k:Nat),s.size-p≤m→p≤s.size→0≤(utAt s p k).1∧(utAt s p k).1≤k+(s.size-p:Nat)
 | m,p,k,hm,hp=>by
  by_cases h:p<s.size
  ·by_cases h1:begF s p (Utf8.decode s p).1=false
   ·rw [utAt_utf8 h h1];simp;omega
   ·by_cases h2:letF (Utf8.decode s p).1=false
    ·rw [utAt_rune h h1 h2];simp;omega
    ·rw [utAt_next h h1 h2]
     have h3:=decode_pos s p
     have h4:=decode_leP h
     cases m with
     | zero=>omega
     | succ m=>
      have:=utAt_n m (p+(Utf8.decode s p).2) (k+1) (by omega) h4
      omega
  ·rw [utAt_end h];constructor<;>simp<;>omega
theorem Zz (s:ByteArray):0≤(utF s).1∧(utF s).1≤s.size:=by
 have:=utAt_n (s:=s) s.size 0 0 (by omega) (Nat.zero_le _)
 unfold utF;omega
theorem KV (o:GOp):0≤Jx o∧Jx o≤o.text.size:=by
 unfold Jx
 split
 ·exact Zz _
 ·omega
def zeroOp:GOp:=⟨0,0,0,0,⟨#[]⟩,[],0,0,false⟩
structure Fit (o:GOp):Prop where
 text:o.text.size≤2305843009213693952
 rs:o.rs.length≤4398046511104
 lo: -2305843009213693952≤o.at_
 hi:o.at_≤2305843009213693952
def ownF (o:GOp):Int:=if o.kind=1∧0≤o.at_∧o.at_≤1048576 then checkF o o.at_ else checkF o 1048576
def ownsF:List GOp→Int
 | [] =>0
 | o::r=>if ownF o≠0 then ownF o else ownsF r
def clashF (a b:GOp):Prop:=a.c=b.c∧a.n=b.n∧ ¬(a.c=0∧a.n=0)
instance (a b:GOp):Decidable (clashF a b):=by unfold clashF;infer_instance
def movedF (a:GOp) (at_:Int):GOp×Int:=if at_+Jx a>1048576 then (zeroOp,24) else ({ a with at_:=at_,rs:= [] },0)
def rangedF (a:GOp) (l:List Rg) (e:Int):GOp×Int:=if e≠0 then (zeroOp,e) else ({ a with rs:=l },0)
def JK (a b:GOp) (earlier:Bool):GOp×Int:=
 if clashF a b then (zeroOp,50)
 else if b.kind≠1 then (a,0)
 else if a.kind=1 then (if b.at_<a.at_∨(b.at_=a.at_∧earlier=true) then movedF a (a.at_+Jx b) else (a,0))
 else if a.kind=2∨a.kind=3 then rangedF a (thrF a.rs b.at_ (Jx b)).1 (thrF a.rs b.at_ (Jx b)).2
 else (a,0)
def crossIn:GOp→List GOp→Except Int (GOp×List GOp)
 | l,[] => .ok (l,[])
 | l,f::fs=>
  if (JK l f true).2≠0 then .error (JK l f true).2
  else if (JK f l false).2≠0 then .error (JK f l false).2
  else match crossIn (JK l f true).1 fs with
   | .error e=> .error e
   | .ok (l',fs')=> .ok (l',(JK f l false).1::fs')
def crossOut:List GOp→List GOp→Except Int (List GOp×List GOp)
 | fs,[] => .ok (fs,[])
 | fs,l::ls=>match crossIn l fs with
  | .error e=> .error e
  | .ok (l',fs')=>match crossOut fs' ls with
   | .error e=> .error e
   | .ok (fs2,ls2)=> .ok (fs2,l'::ls2)
def crossF (xs ys:List GOp):List GOp×List GOp×Int:=
 if ownsF xs≠0 then ([],[],ownsF xs)
 else if ownsF ys≠0 then ([],[],ownsF ys)
 else match crossOut xs ys with
  | .error e=>([],[],e)
  | .ok (a,b)=>(a,b,0)
def putIn (fs:List GOp):Except Int (GOp×List GOp)→Except Int (GOp×List GOp)
 | .error e=> .error e
 | .ok (l,r)=> .ok (l,fs++r)
def putOut (ls:List GOp):Except Int (List GOp×List GOp)→Except Int (List GOp×List GOp)
 | .error e=> .error e
 | .ok (f,r)=> .ok (f,ls++r)
def restOut (ls:List GOp):Except Int (GOp×List GOp)→Except Int (List GOp×List GOp)
 | .error e=> .error e
 | .ok (l',fs')=>match crossOut fs' ls with
   | .error e=> .error e
   | .ok (fs2,ls2)=> .ok (fs2,l'::ls2)
theorem Ys (fs:List GOp) (l:GOp) (ls:List GOp):crossOut fs (l::ls)=restOut ls (crossIn l fs):=by
 rw [crossOut];unfold restOut;rfl
theorem crossIn_err1 {l f:GOp} {fs:List GOp} (h:(JK l f true).2≠0):crossIn l (f::fs)= .error (JK l f true).2:=by rw [crossIn,if_pos h]
theorem crossIn_err2 {l f:GOp} {fs:List GOp} (h: ¬(JK l f true).2≠0) (h2:(JK f l false).2≠0):crossIn l (f::fs)= .error (JK f l false).2:=by rw [crossIn,if_neg h,if_pos h2]
theorem Qu {l f:GOp} {fs:List GOp} (h: ¬(JK l f true).2≠0) (h2: ¬(JK f l false).2≠0):crossIn l (f::fs)=putIn [(JK f l false).1] (crossIn (JK l f true).1 fs):=by
 rw [crossIn,if_neg h,if_neg h2];cases crossIn (JK l f true).1 fs<;>rfl
structure CiI (l0:GOp) (F0 F:List GOp) (l:GOp) (k:Nat):Prop where
 le:k≤F.length
 len:F.length=F0.length
 fit: ∀o∈F,Fit o
 fitl:Fit l
 eq:crossIn l0 F0=putIn (F.take k) (crossIn l (F.drop k))
structure CoI (xs ys F L:List GOp) (i:Nat):Prop where
 le:i≤L.length
 lenF:F.length=xs.length
 lenL:L.length=ys.length
 fitF: ∀o∈F,Fit o
 fitL: ∀o∈L,Fit o
 eq:crossOut xs ys=putOut (L.take i) (crossOut F (L.drop i))
theorem GE (xs:List Rg):(boundF xs).1.length≤32768:=by
 unfold boundF;split
 ·simp
 ·simp only;omega
theorem EI (xs:List Rg) (at_ n:Int):(thrF xs at_ n).1.length≤32768:=by
 unfold thrF
 split
 ·simp
 ·split
  ·simp
  ·split
   ·split
    ·simp
    ·exact GE _
   ·exact GE _
theorem Fit.zero:Fit zeroOp:=⟨by decide,by decide,by decide,by decide⟩
theorem Fit.include {a b:GOp} (ha:Fit a) (hb:Fit b) (e:Bool):Fit (JK a b e).1:=by
 have h1:=KV a
 have h2:=KV b
 have h3:=hb.text
 have h4:=ha.lo
 have h5:=ha.hi
 unfold JK
 split
 ·exact Fit.zero
 ·split
  ·exact ha
  ·split
   ·split
    ·unfold movedF
     split
     ·exact Fit.zero
     ·exact ⟨ha.text,by simp,by show _≤a.at_+Jx b;omega,by show a.at_+Jx b≤_;omega⟩
    ·exact ha
   ·split
    ·unfold rangedF
     split
     ·exact Fit.zero
     ·exact ⟨ha.text,by have:=EI a.rs b.at_ (Jx b);show (thrF a.rs b.at_ (Jx b)).1.length≤_;omega,ha.lo,ha.hi⟩
    ·exact ha
theorem CiI.zero {l0:GOp} {F0:List GOp} (hF: ∀o∈F0,Fit o) (hl:Fit l0):CiI l0 F0 F0 l0 0:=⟨Nat.zero_le _,rfl,hF,hl,by
 simp only [List.take_zero,List.drop_zero];cases crossIn l0 F0<;>rfl⟩
theorem CiI.err1 {l0 l:GOp} {F0 F:List GOp} {k:Nat} (h:CiI l0 F0 F l k) (hk:k<F.length) (h1:(JK l F[k] true).2≠0):crossIn l0 F0= .error (JK l F[k] true).2:=by
 rw [h.eq,List.drop_eq_getElem_cons hk,crossIn_err1 h1];rfl
theorem CiI.err2 {l0 l:GOp} {F0 F:List GOp} {k:Nat} (h:CiI l0 F0 F l k) (hk:k<F.length) (h1: ¬(JK l F[k] true).2≠0) (h2:(JK F[k] l false).2≠0):crossIn l0 F0= .error (JK F[k] l false).2:=by
 rw [h.eq,List.drop_eq_getElem_cons hk,crossIn_err2 h1 h2];rfl
theorem CiI.next {l0 l:GOp} {F0 F:List GOp} {k:Nat} (h:CiI l0 F0 F l k) (hk:k<F.length) (h1: ¬(JK l F[k] true).2≠0) (h2: ¬(JK F[k] l false).2≠0):CiI l0 F0 (F.set k (JK F[k] l false).1) (JK l F[k] true).1 (k+1):=by
 have hfk:Fit F[k] :=h.fit _ (List.getElem_mem hk)
 refine ⟨by simp;omega,by simp [h.len],fun o ho=> ?_,h.fitl.include hfk _,?_⟩
 ·rcases List.mem_or_eq_of_mem_set ho with ho | rfl
  ·exact h.fit o ho
  ·exact hfk.include h.fitl _
 ·rw [h.eq,List.drop_eq_getElem_cons hk,Qu h1 h2]
  have e1:(F.set k (JK F[k] l false).1).take (k+1)=F.take k++ [(JK F[k] l false).1] :=by
   rw [List.set_eq_take_append_cons_drop,if_pos hk,List.take_append]
   simp [List.length_take,List.take_take,Nat.min_eq_left (by omega:k≤F.length)]
  have e2:(F.set k (JK F[k] l false).1).drop (k+1)=F.drop (k+1):=by
   rw [List.drop_set_of_lt (by omega)]
  rw [e1,e2]
  cases crossIn (JK l F[k] true).1 (F.drop (k+1)) with
  | error e=>rfl
  | ok r=>simp [putIn]
theorem CiI.done {l0 l:GOp} {F0 F:List GOp} {k:Nat} (h:CiI l0 F0 F l k) (hk: ¬k<F.length):crossIn l0 F0= .ok (l,F):=by
 have:=h.le
 rw [h.eq,List.drop_eq_nil_of_le (by omega),List.take_of_length_le (by omega)]
 simp [crossIn,putIn]
theorem CoI.zero {xs ys:List GOp} (hx: ∀o∈xs,Fit o) (hy: ∀o∈ys,Fit o):CoI xs ys xs ys 0:=⟨Nat.zero_le _,rfl,rfl,hx,hy,by
 simp only [List.take_zero,List.drop_zero];cases crossOut xs ys<;>rfl⟩
theorem CoI.err {xs ys F L:List GOp} {i:Nat} {e:Int} (h:CoI xs ys F L i) (hi:i<L.length) (h1:crossIn L[i] F= .error e):crossOut xs ys= .error e:=by
 rw [h.eq,List.drop_eq_getElem_cons hi,Ys,h1];rfl
theorem CoI.next {xs ys F L F':List GOp} {i:Nat} {l':GOp} (h:CoI xs ys F L i) (hi:i<L.length) (h1:crossIn L[i] F= .ok (l',F')) (hlen:F'.length=F.length) (hF: ∀o∈F',Fit o) (hl:Fit l'):CoI xs ys F' (L.set i l') (i+1):=by
 refine ⟨by simp;omega,by rw [hlen,h.lenF],by simp [h.lenL],hF,fun o ho=> ?_,?_⟩
 ·rcases List.mem_or_eq_of_mem_set ho with ho | rfl
  ·exact h.fitL o ho
  ·exact hl
 ·rw [h.eq,List.drop_eq_getElem_cons hi,Ys,h1]
  have e1:(L.set i l').take (i+1)=L.take i++ [l'] :=by
   rw [List.set_eq_take_append_cons_drop,if_pos hi,List.take_append]
   simp [List.length_take,List.take_take,Nat.min_eq_left (by omega:i≤L.length)]
  have e2:(L.set i l').drop (i+1)=L.drop (i+1):=by
   rw [List.drop_set_of_lt (by omega)]
  rw [e1,e2]
  unfold restOut
  simp only
  cases crossOut F' (L.drop (i+1)) with
  | error e=>rfl
  | ok r=>simp [putOut]
theorem CoI.done {xs ys F L:List GOp} {i:Nat} (h:CoI xs ys F L i) (hi: ¬i<L.length):crossOut xs ys= .ok (F,L):=by
 have:=h.le
 rw [h.eq,List.drop_eq_nil_of_le (by omega),List.take_of_length_le (by omega)]
 simp [crossOut,putOut]
def OpP (r:GOp×Int):Value→List Part→List Fact→Prop:=fun v Lo fs=> ∃(A':Option Addr) (c':Nat),v= .tuple #[opV r.1 A' c', .int .i64 r.2] ∧Lo= [] ∧fs= [RdF rgD A' c' r.1.rs]
def CrP (r:List GOp×List GOp×Int):Value→List Part→List Fact→Prop:=fun v Lo fs=> ∃(A1:Option Addr) (c1:Nat) (A2:Option Addr) (c2:Nat),v= .tuple #[.slice A1 r.1.length c1, .slice A2 r.2.1.length c2, .int .i64 r.2.2] ∧Lo= [] ∧fs= [RdF opD A1 c1 r.1,RdF opD A2 c2 r.2.1]
theorem EZ {xs ys:List GOp} (h:ownsF xs≠0):crossF xs ys=([],[],ownsF xs):=by unfold crossF;rw [if_pos h]
theorem EY {xs ys:List GOp} (h:ownsF xs=0) (h2:ownsF ys≠0):crossF xs ys=([],[],ownsF ys):=by unfold crossF;rw [if_neg (by simpa using h),if_pos h2]
theorem Gv {xs ys:List GOp} {e:Int} (h:ownsF xs=0) (h2:ownsF ys=0) (h3:crossOut xs ys= .error e):crossF xs ys=([],[],e):=by unfold crossF;rw [if_neg (by simpa using h),if_neg (by simpa using h2),h3]
theorem Gu {xs ys a b:List GOp} (h:ownsF xs=0) (h2:ownsF ys=0) (h3:crossOut xs ys= .ok (a,b)):crossF xs ys=(a,b,0):=by unfold crossF;rw [if_neg (by simpa using h),if_neg (by simpa using h2),h3]
def FltV (v:Value):Prop:= ∃p,v= .iface 116 (.pointer (some ⟨p,0,none⟩))
def FltR:Value→List Part→List Fact→Prop:=fun v Lo fs=>FltV v∧Lo= [] ∧fs= []
set_option maxRecDepth 10000 in
theorem fault_0 (s:ByteArray) (at_:Int):Sp Tryz.prog 60 [.string s, .int .i64 at_, .int .i64 0] [] [] (Is .nilIface):=by
 refine Sp.of (n:=16) ⟨_,Tryz.func60,O,O,O,O⟩ (Nat.le_of_ble_eq_true O) fun Ps As=>Jc (Ja (Lq (Jd O) (Je (Jf (Jc (Jc (Ja (Lq (Jb O) (Lq (Kh O O) (Je (Jf (J1 O O (Jc (Ja (Lq (Jd O) (Je (Jf (Jo (Js ?_)))))))))))))))))))
 refine ⟨_,[],[],fun Z w hs=> .tmp O .nil,?_,fun Z w hs=>hs.out (Sr) (fun _ h=>h)⟩
 exact ⟨O,O,O⟩
theorem bd118_0_1_2Xg1 (x0_:ByteArray) (x1_:Int) (x2_t:TypeId) (x2_v:Value) (w:World):(Instr.build 118 #[(0, .string x0_),(1, .int .i64 x1_),(2, .iface x2_t x2_v)]).run Tryz.prog w= .ok (.agg #[.string x0_, .int .i64 x1_, .iface x2_t x2_v]) w:=by kernel_rfl
set_option maxRecDepth 10000 in
theorem fault_e (s:ByteArray) (at_ e:Int) (he:e≠0):Sp Tryz.prog 60 [.string s, .int .i64 at_, .int .i64 e] [] [] FltR:=by
 refine Sp.of (n:=16) ⟨_,Tryz.func60,O,O,O,O⟩ (Nat.le_of_ble_eq_true O) fun Ps As=>Jc (Ja (Lq (Jd O) (Je (Jf (Jc (Jc (Ja (Lq (Jb O) (Lq (Kh O O) (Je (Jf (Jv O (by simpa using he) (Jp (Jf (Jc (Ja (Lq (Jb O) ?_)))))))))))))))))
 refine Lq (Jb O) (Lq (Jb O) (Lq (Gi (by rw [Un98];rfl) O) (Lq (JZ (.n3 O O O) (bd118_0_1_2Xg1 _ _ _ _)) (Jg O (J9 (cs:= [_,_,_]) O O (by decide) fun b14=>Lq (Gi (by rw [Un116];rfl) O) (Lq (Jd O) (Je (Jf (Jo ?_)))))))))
 refine ⟨_,[],[],fun Z w hs=> .tmp O .nil,?_,fun Z w hs=>hs.out (Sd (Sr)) (fun _ h=>h)⟩
 exact ⟨⟨b14,O⟩,O,O⟩
set_option maxRecDepth 10000 in
theorem give_0 (s:ByteArray) (at_:Int):Sp Tryz.prog 47 [.string s, .int .i64 at_, .int .i64 0] [] [] (Is (.tuple #[])):=by
 refine Sp.of (n:=12) ⟨_,Tryz.func47,O,O,O,O⟩ (Nat.le_of_ble_eq_true O) fun Ps As=>Jc (Ja (Lq (Jb O) (Lq (Kz O O) (Je (Jf (Jv O O (Jp ?_)))))))
 refine ⟨_,[],[],fun Z w hs=> .nil,?_,fun Z w hs=>hs.out (Sr) (fun _ h=>h)⟩
 exact ⟨O,O,O⟩
set_option maxRecDepth 10000 in
theorem give_e (s:ByteArray) (at_ e:Int) (he:e≠0):SpP Tryz.prog 47 [.string s, .int .i64 at_, .int .i64 e] [] [] FltR:=by
 refine SpP.of (n:=12) ⟨_,Tryz.func47,O,O,O,O⟩ (Nat.le_of_ble_eq_true O) fun Ps As=>Jc (Ja (Lq (Jb O) (Lq (Kz O O) (Je (Jf (J1 O (by simpa using he) (Ja (Lq (Jb O) (Lq (Jb O) (Lq (Jb O) ?_))))))))))
 refine Jg O (Jm (fault_e s at_ e he) (.n3 O O O) (by decide) Jw fun u1_3 Lo fs hres=> ?_)
 obtain ⟨⟨p,rfl⟩,rfl,rfl⟩:=hres
 refine Jg O (Ha O ?_)
 refine ⟨_,[],[],O,?_,fun Z w hs=>hs.out (Sr) (fun _ h=>h)⟩
 exact ⟨⟨p,O⟩,O,O⟩
set_option maxRecDepth 10000 in
theorem Qb (p:Nat):Sp Tryz.prog 44 [.iface 116 (.pointer (some ⟨p,0,none⟩))] [] [] (Is (.iface 116 (.pointer (some ⟨p,0,none⟩)))):=by
 refine Sp.of (n:=15) ⟨_,Tryz.func44,O,O,O,O⟩ (Nat.le_of_ble_eq_true O) fun Ps As=>Jc (Ja (Lq (Jd O) (Je (Jf (Jc (Ja (Lq (Jb O) (Lq (ZV (by rw [Un116];rfl) O) (Lq (Jb O) (Lq (Jk (vs:= [_,_]) O O) (Lq (Jk (vs:= [_,_]) O O) (Lq (Jd O) ?_))))))))))))
 refine Lq (Jd O) (Je (Jf (Jc (Jc (Ja (Lq (Jb O) (Lq (KL O) (Je (Jf (Jv O O (Jp (Jf (Jc (Ja (Lq (Jb O) (Lq (Gi (by rw [Un116];rfl) O) (Lq (Jd O) (Je (Jf (Jo ?_))))))))))))))))))))
 refine ⟨_,[],[],fun Z w hs=> .tmp O .nil,?_,fun Z w hs=>hs.out (Sr) (fun _ h=>h)⟩
 exact ⟨O,O,O⟩
set_option maxRecDepth 10000 in
theorem Qh (n lo hi:Int):Sp Tryz.prog 55 [.int .i64 n, .int .i64 lo, .int .i64 hi] [] [] (Is (.bool (decide (lo≤n∧n≤hi)))):=by
 refine Sp.of (n:=15) ⟨_,Tryz.func55,O,O,O,O⟩ (Nat.le_of_ble_eq_true O) fun Ps As=>Jc (Ja (Lq (Jd O) (Je (Jf (Jc (Ja (Lq (Jb O) (Lq (Jb O) (Lq (YW O O) (Lq (Jb O) (J4 (t:=10) O (fun g10=> ?_) (fun g10=> ?_))))))))))))
 ·refine Lg O O O g10 (Jb O) (Lg O O O g10 (Jb O) (Lg O O O g10 (YW O O) (Lq (JP O g10 O) (Lq (Jd O) (Je (Jf (Jo ?_)))))))
  refine ⟨_,[],[],fun Z w hs=> .tmp O .nil,?_,fun Z w hs=>hs.out (Sr) (fun _ h=>h)⟩
  try simp only [Bp,Bq] at *
  exact ⟨congrArg Value.bool (by first | exact (decide_eq_true (by omega)).symm | exact (decide_eq_false (by omega)).symm | exact decide_eq_decide.2 (by omega) | (rw [Bool.eq_iff_iff];simp;omega) | (rw [Bool.eq_iff_iff];simp;done)),O,O⟩
 ·refine Ln O O O g10 (Ln O O O g10 (Ln O O O g10 (Lq (JH O g10 O) (Lq (Jd O) (Je (Jf (Jo ?_)))))))
  refine ⟨_,[],[],fun Z w hs=> .tmp O .nil,?_,fun Z w hs=>hs.out (Sr) (fun _ h=>h)⟩
  try simp only [Bp,Bq] at *
  exact ⟨congrArg Value.bool (by first | exact (decide_eq_true (by omega)).symm | exact (decide_eq_false (by omega)).symm | exact decide_eq_decide.2 (by omega) | (rw [Bool.eq_iff_iff];simp;omega) | (rw [Bool.eq_iff_iff];simp;done)),O,O⟩
def OpCell (bo:Nat) (cs:List Value):Part:= [(bo,JB cs 52)]
def ErCell (be:Nat) (v:Value):Part:= [(be,JB [v] 54)]
def Res2 (bo be:Nat):List Part→Prop:=fun L=> ∃c0 c1 c2 c3 c4 c5 c6 c7 c8 x,L= [OpCell bo [c0,c1,c2,c3,c4,c5,c6,c7,c8],ErCell be x]
def Res1 (be:Nat):List Part→Prop:=fun L=> ∃x,L= [ErCell be x]
theorem bdZ (w:World):(Instr.build 52 #[]).run Tryz.prog w= .ok (opV zeroOp none 0) w:=by kernel_rfl
set_option maxRecDepth 10000 in
theorem catch_Insert (bo be:Nat):Catches Tryz.prog ⟨.fn (.func 43) [Value.pointer (some ⟨bo,0,none⟩),Value.pointer (some ⟨be,0,none⟩)].toArray,#[]⟩ FltV (Res2 bo be) (fun v=> [OpCell bo (opC zeroOp none 0),ErCell be v]):=by
 refine Catches.of (n:=9) Tryz.func43 O O O O (Nat.le_of_ble_eq_true O) (by decide) (by decide) (fun Ps As=> ?_) (fun v L Ps As hok hL=> ?_)
 ·refine Jc (Ja (JQ (Jb O) (by decide) (JQ (KX Un20 O) (by decide) (Je (Jf (Jv O O (Jp ?_)))))))
  exact ⟨O,O,O⟩
 ·obtain ⟨p,rfl⟩:=hok
  obtain ⟨c0,c1,c2,c3,c4,c5,c6,c7,c8,x,rfl⟩:=hL
  refine Jc (Ja (JQ (Jb O) (by decide) (JQ (Qy Un20 O O) (by decide) (Je (Jf (J1 O O (Ja (JQ (JZ .nil bdZ) (by decide) (JQ (Jb O) (by decide) (Jg O (Jm (Qb p) (.n1 O) (by decide) Jw fun u Lo fs hres=> ?_)))))))))))
  obtain ⟨rfl,rfl,rfl⟩:=hres
  refine Jg O (Jq (cs':= [_,_,_,_,_,_,_,_,_]) (vs:= [_,_,_,_,_,_,_,_,_]) JD O O O O O (Nat.le_of_ble_eq_true O) .z (Jg O (JJ Yw O O O .z (.s .z) ?_)))
  exact Je ⟨O,fun Z w hs=>⟨Z,hs⟩⟩
set_option maxRecDepth 10000 in
theorem catch_Delete (bo be:Nat):Catches Tryz.prog ⟨.fn (.func 54) [Value.pointer (some ⟨bo,0,none⟩),Value.pointer (some ⟨be,0,none⟩)].toArray,#[]⟩ FltV (Res2 bo be) (fun v=> [OpCell bo (opC zeroOp none 0),ErCell be v]):=by
 refine Catches.of (n:=9) Tryz.func54 O O O O (Nat.le_of_ble_eq_true O) (by decide) (by decide) (fun Ps As=> ?_) (fun v L Ps As hok hL=> ?_)
 ·refine Jc (Ja (JQ (Jb O) (by decide) (JQ (KX Un20 O) (by decide) (Je (Jf (Jv O O (Jp ?_)))))))
  exact ⟨O,O,O⟩
 ·obtain ⟨p,rfl⟩:=hok
  obtain ⟨c0,c1,c2,c3,c4,c5,c6,c7,c8,x,rfl⟩:=hL
  refine Jc (Ja (JQ (Jb O) (by decide) (JQ (Qy Un20 O O) (by decide) (Je (Jf (J1 O O (Ja (JQ (JZ .nil bdZ) (by decide) (JQ (Jb O) (by decide) (Jg O (Jm (Qb p) (.n1 O) (by decide) Jw fun u Lo fs hres=> ?_)))))))))))
  obtain ⟨rfl,rfl,rfl⟩:=hres
  refine Jg O (Jq (cs':= [_,_,_,_,_,_,_,_,_]) (vs:= [_,_,_,_,_,_,_,_,_]) JD O O O O O (Nat.le_of_ble_eq_true O) .z (Jg O (JJ Yw O O O .z (.s .z) ?_)))
  exact Je ⟨O,fun Z w hs=>⟨Z,hs⟩⟩
set_option maxRecDepth 10000 in
theorem catch_Undo (bo be:Nat):Catches Tryz.prog ⟨.fn (.func 75) [Value.pointer (some ⟨bo,0,none⟩),Value.pointer (some ⟨be,0,none⟩)].toArray,#[]⟩ FltV (Res2 bo be) (fun v=> [OpCell bo (opC zeroOp none 0),ErCell be v]):=by
 refine Catches.of (n:=9) Tryz.func75 O O O O (Nat.le_of_ble_eq_true O) (by decide) (by decide) (fun Ps As=> ?_) (fun v L Ps As hok hL=> ?_)
 ·refine Jc (Ja (JQ (Jb O) (by decide) (JQ (KX Un20 O) (by decide) (Je (Jf (Jv O O (Jp ?_)))))))
  exact ⟨O,O,O⟩
 ·obtain ⟨p,rfl⟩:=hok
  obtain ⟨c0,c1,c2,c3,c4,c5,c6,c7,c8,x,rfl⟩:=hL
  refine Jc (Ja (JQ (Jb O) (by decide) (JQ (Qy Un20 O O) (by decide) (Je (Jf (J1 O O (Ja (JQ (JZ .nil bdZ) (by decide) (JQ (Jb O) (by decide) (Jg O (Jm (Qb p) (.n1 O) (by decide) Jw fun u Lo fs hres=> ?_)))))))))))
  obtain ⟨rfl,rfl,rfl⟩:=hres
  refine Jg O (Jq (cs':= [_,_,_,_,_,_,_,_,_]) (vs:= [_,_,_,_,_,_,_,_,_]) JD O O O O O (Nat.le_of_ble_eq_true O) .z (Jg O (JJ Yw O O O .z (.s .z) ?_)))
  exact Je ⟨O,fun Z w hs=>⟨Z,hs⟩⟩
set_option maxRecDepth 10000 in
theorem catch_Redo (bo be:Nat):Catches Tryz.prog ⟨.fn (.func 116) [Value.pointer (some ⟨bo,0,none⟩),Value.pointer (some ⟨be,0,none⟩)].toArray,#[]⟩ FltV (Res2 bo be) (fun v=> [OpCell bo (opC zeroOp none 0),ErCell be v]):=by
 refine Catches.of (n:=9) Tryz.func116 O O O O (Nat.le_of_ble_eq_true O) (by decide) (by decide) (fun Ps As=> ?_) (fun v L Ps As hok hL=> ?_)
 ·refine Jc (Ja (JQ (Jb O) (by decide) (JQ (KX Un20 O) (by decide) (Je (Jf (Jv O O (Jp ?_)))))))
  exact ⟨O,O,O⟩
 ·obtain ⟨p,rfl⟩:=hok
  obtain ⟨c0,c1,c2,c3,c4,c5,c6,c7,c8,x,rfl⟩:=hL
  refine Jc (Ja (JQ (Jb O) (by decide) (JQ (Qy Un20 O O) (by decide) (Je (Jf (J1 O O (Ja (JQ (JZ .nil bdZ) (by decide) (JQ (Jb O) (by decide) (Jg O (Jm (Qb p) (.n1 O) (by decide) Jw fun u Lo fs hres=> ?_)))))))))))
  obtain ⟨rfl,rfl,rfl⟩:=hres
  refine Jg O (Jq (cs':= [_,_,_,_,_,_,_,_,_]) (vs:= [_,_,_,_,_,_,_,_,_]) JD O O O O O (Nat.le_of_ble_eq_true O) .z (Jg O (JJ Yw O O O .z (.s .z) ?_)))
  exact Je ⟨O,fun Z w hs=>⟨Z,hs⟩⟩
set_option maxRecDepth 10000 in
theorem catch_Turn (bo be:Nat):Catches Tryz.prog ⟨.fn (.func 61) [Value.pointer (some ⟨bo,0,none⟩),Value.pointer (some ⟨be,0,none⟩)].toArray,#[]⟩ FltV (Res2 bo be) (fun v=> [OpCell bo (opC zeroOp none 0),ErCell be v]):=by
 refine Catches.of (n:=9) Tryz.func61 O O O O (Nat.le_of_ble_eq_true O) (by decide) (by decide) (fun Ps As=> ?_) (fun v L Ps As hok hL=> ?_)
 ·refine Jc (Ja (JQ (Jb O) (by decide) (JQ (KX Un20 O) (by decide) (Je (Jf (Jv O O (Jp ?_)))))))
  exact ⟨O,O,O⟩
 ·obtain ⟨p,rfl⟩:=hok
  obtain ⟨c0,c1,c2,c3,c4,c5,c6,c7,c8,x,rfl⟩:=hL
  refine Jc (Ja (JQ (Jb O) (by decide) (JQ (Qy Un20 O O) (by decide) (Je (Jf (J1 O O (Ja (JQ (JZ .nil bdZ) (by decide) (JQ (Jb O) (by decide) (Jg O (Jm (Qb p) (.n1 O) (by decide) Jw fun u Lo fs hres=> ?_)))))))))))
  obtain ⟨rfl,rfl,rfl⟩:=hres
  refine Jg O (Jq (cs':= [_,_,_,_,_,_,_,_,_]) (vs:= [_,_,_,_,_,_,_,_,_]) JD O O O O O (Nat.le_of_ble_eq_true O) .z (Jg O (JJ Yw O O O .z (.s .z) ?_)))
  exact Je ⟨O,fun Z w hs=>⟨Z,hs⟩⟩
set_option maxRecDepth 10000 in
theorem catch_Move (be:Nat):Catches Tryz.prog ⟨.fn (.func 118) [Value.pointer (some ⟨be,0,none⟩)].toArray,#[]⟩ FltV (Res1 be) (fun v=> [ErCell be v]):=by
 refine Catches.of (n:=7) Tryz.func118 O O O O (Nat.le_of_ble_eq_true O) (by decide) (by decide) (fun Ps As=> ?_) (fun v L Ps As hok hL=> ?_)
 ·refine Jc (Ja (JQ (Jb O) (by decide) (JQ (KX Un20 O) (by decide) (Je (Jf (Jv O O (Jp ?_)))))))
  exact ⟨O,O,O⟩
 ·obtain ⟨p,rfl⟩:=hok
  obtain ⟨x,rfl⟩:=hL
  refine Jc (Ja (JQ (Jb O) (by decide) (JQ (Qy Un20 O O) (by decide) (Je (Jf (J1 O O (Ja (Lq (Jb O) (Jg O (Jm (Qb p) (.n1 O) (by decide) Jw fun u Lo fs hres=> ?_))))))))))
  obtain ⟨rfl,rfl,rfl⟩:=hres
  refine Jg O (JJ Yw O O O .z .z ?_)
  exact Je ⟨O,fun Z w hs=>⟨Z,hs⟩⟩
set_option maxRecDepth 10000 in
theorem catch_Confirm (be:Nat):Catches Tryz.prog ⟨.fn (.func 112) [Value.pointer (some ⟨be,0,none⟩)].toArray,#[]⟩ FltV (Res1 be) (fun v=> [ErCell be v]):=by
 refine Catches.of (n:=7) Tryz.func112 O O O O (Nat.le_of_ble_eq_true O) (by decide) (by decide) (fun Ps As=> ?_) (fun v L Ps As hok hL=> ?_)
 ·refine Jc (Ja (JQ (Jb O) (by decide) (JQ (KX Un20 O) (by decide) (Je (Jf (Jv O O (Jp ?_)))))))
  exact ⟨O,O,O⟩
 ·obtain ⟨p,rfl⟩:=hok
  obtain ⟨x,rfl⟩:=hL
  refine Jc (Ja (JQ (Jb O) (by decide) (JQ (Qy Un20 O O) (by decide) (Je (Jf (J1 O O (Ja (Lq (Jb O) (Jg O (Jm (Qb p) (.n1 O) (by decide) Jw fun u Lo fs hres=> ?_))))))))))
  obtain ⟨rfl,rfl,rfl⟩:=hres
  refine Jg O (JJ Yw O O O .z .z ?_)
  exact Je ⟨O,fun Z w hs=>⟨Z,hs⟩⟩
set_option maxRecDepth 10000 in
theorem catch_Take (be:Nat):Catches Tryz.prog ⟨.fn (.func 113) [Value.pointer (some ⟨be,0,none⟩)].toArray,#[]⟩ FltV (Res1 be) (fun v=> [ErCell be v]):=by
 refine Catches.of (n:=7) Tryz.func113 O O O O (Nat.le_of_ble_eq_true O) (by decide) (by decide) (fun Ps As=> ?_) (fun v L Ps As hok hL=> ?_)
 ·refine Jc (Ja (JQ (Jb O) (by decide) (JQ (KX Un20 O) (by decide) (Je (Jf (Jv O O (Jp ?_)))))))
  exact ⟨O,O,O⟩
 ·obtain ⟨p,rfl⟩:=hok
  obtain ⟨x,rfl⟩:=hL
  refine Jc (Ja (JQ (Jb O) (by decide) (JQ (Qy Un20 O O) (by decide) (Je (Jf (J1 O O (Ja (Lq (Jb O) (Jg O (Jm (Qb p) (.n1 O) (by decide) Jw fun u Lo fs hres=> ?_))))))))))
  obtain ⟨rfl,rfl,rfl⟩:=hres
  refine Jg O (JJ Yw O O O .z .z ?_)
  exact Je ⟨O,fun Z w hs=>⟨Z,hs⟩⟩
def memR (q:Int) (xs:List Rg):Prop:= ∃r∈xs,r.lo≤q∧q<r.hi
def NormB:Int→List Rg→Prop
 | _,[] =>True
 | b,r::rs=>b≤r.lo∧r.lo<r.hi∧NormB (r.hi+1) rs
def BelowR (T:Int) (xs:List Rg):Prop:= ∀r∈xs,r.hi≤T
def endB:Int→List Rg→Int
 | b,[] =>b
 | _,r::rs=>endB (r.hi+1) rs
theorem YX (q:Int): ¬memR q [] :=fun ⟨r,h,_⟩=>by cases h
theorem KE {q:Int} {r:Rg} {xs:List Rg} :memR q (r::xs)↔(r.lo≤q∧q<r.hi)∨memR q xs:=by
 unfold memR;simp only [List.mem_cons]
 constructor
 ·rintro ⟨x,rfl | h,h2⟩
  ·exact .inl h2
  ·exact .inr ⟨x,h,h2⟩
 ·rintro (h | ⟨x,h,h2⟩)
  ·exact ⟨r, .inl O,h⟩
  ·exact ⟨x, .inr h,h2⟩
theorem Vw {q:Int} {xs ys:List Rg} :memR q (xs++ys)↔memR q xs∨memR q ys:=by
 unfold memR;simp only [List.mem_append]
 constructor
 ·rintro ⟨x,h | h,h2⟩
  ·exact .inl ⟨x,h,h2⟩
  ·exact .inr ⟨x,h,h2⟩
 ·rintro (⟨x,h,h2⟩ | ⟨x,h,h2⟩)
  ·exact ⟨x, .inl h,h2⟩
  ·exact ⟨x, .inr h,h2⟩
theorem V8 {q:Int} {r:Rg} :memR q [r] ↔(r.lo≤q∧q<r.hi):=by
 rw [KE];exact ⟨fun h=>h.elim id (fun h=>absurd h (YX q)), .inl⟩
theorem BelowR.append {T:Int} {xs ys:List Rg} :BelowR T (xs++ys)↔BelowR T xs∧BelowR T ys:=by
 unfold BelowR;simp only [List.mem_append]
 exact ⟨fun h=>⟨fun r hr=>h r (.inl hr),fun r hr=>h r (.inr hr)⟩,fun h r hr=>hr.elim (h.1 r) (h.2 r)⟩
theorem BelowR.mono {T T':Int} {xs:List Rg} (h:BelowR T xs) (ht:T≤T'):BelowR T' xs:=fun r hr=>by have:=h r hr;omega
theorem Yn: ∀ {b:Int} {xs ys:List Rg},NormB b (xs++ys)↔NormB b xs∧NormB (endB b xs) ys
 | b,[],ys=>by simp [NormB,endB]
 | b,r::xs,ys=>by
  simp only [List.cons_append,NormB,endB,Yn (xs:=xs),and_assoc]
theorem XC: ∀ {b:Int} {xs ys:List Rg},endB b (xs++ys)=endB (endB b xs) ys
 | b,[],ys=>rfl
 | b,r::xs,ys=>by simp only [List.cons_append,endB];exact XC
theorem NormB.mono {b b':Int} {xs:List Rg} (h:NormB b xs) (hb:b'≤b):NormB b' xs:=by
 cases xs with
 | nil=>trivial
 | cons r xs=>exact ⟨by have:=h.1;omega,h.2⟩
theorem NormB.mem: ∀ {b:Int} {xs:List Rg},NormB b xs→ ∀r∈xs,b≤r.lo∧r.lo<r.hi
 | b,[],_,r,h=>by cases h
 | b,x::xs,h,r,hr=>by
  rcases List.mem_cons.1 hr with rfl | hr
  ·exact ⟨h.1,h.2.1⟩
  ·have:=NormB.mem h.2.2 r hr
   have:=h.1;have:=h.2.1
   omega
theorem NormB.below {b:Int} {xs:List Rg} (h:NormB b xs) {q:Int} (hq:memR q xs):b≤q:=by
 obtain ⟨r,hr,h2⟩:=hq
 have:=h.mem r hr
 omega
theorem NormB.len: ∀ {b T:Int} {xs:List Rg},NormB b xs→BelowR T xs→xs≠ [] →b+2*(xs.length:Int)≤T+1
 | b,T,[],_,_,h=>absurd rfl h
 | b,T,[r],h,ht,_=>by
  have:=ht r List.mem_cons_self
  have h1:=h.1
  have h2:=h.2.1
  simp;omega
 | b,T,r::s::xs,h,ht,_=>by
  have:=NormB.len h.2.2 (fun x hx=>ht x (List.mem_cons_of_mem _ hx)) (by simp)
  have h1:=h.1
  have h2:=h.2.1
  simp only [List.length_cons,Int.natCast_add,Int.natCast_one] at this ⊢
  omega
theorem ckAt_norm: ∀(rs:List Rg) (i:Int) (p:Option Rg) (b:Int),(∀q,p=some q→b=q.hi+1∧0≤q.hi)→(p=none→b=0)→((ckAt i p rs).2=0↔NormB b rs∧BelowR 1048576 rs)
 | [],i,p,b,_,_=>by simp [ckAt,NormB,BelowR]
 | r::rs,i,p,b,h1,h2=>by
  by_cases hb:r.lo<0∨r.hi>1048576∨r.lo≥r.hi
  ·rw [ckAt_bad hb]
   constructor
   ·intro h;cases h
   ·rintro ⟨g1,g2⟩
    have:=g2 r List.mem_cons_self
    have g3:=g1.1
    have g4:=g1.2.1
    rcases p with _ | q
    ·have:=h2 rfl;omega
    ·have:=h1 q rfl;omega
  ·have ih:=ckAt_norm rs (i+1) (some r) (r.hi+1) (fun q e=>by cases e;exact ⟨rfl,by omega⟩) (fun e=>by cases e)
   have hbel:BelowR 1048576 (r::rs)↔BelowR 1048576 rs:=⟨fun h x hx=>h x (List.mem_cons_of_mem _ hx),fun h x hx=>by
    rcases List.mem_cons.1 hx with rfl | hx
    ·omega
    ·exact h x hx⟩
   rw [hbel]
   simp only [NormB]
   rcases p with _ | q
   ·have:=h2 rfl
    rw [ckAt_first hb,ih]
    constructor
    ·rintro ⟨g1,g2⟩;exact ⟨⟨by omega,by omega,g1⟩,g2⟩
    ·rintro ⟨⟨_,_,g1⟩,g2⟩;exact ⟨g1,g2⟩
   ·have:=h1 q rfl
    by_cases ho:r.lo≤q.hi
    ·rw [ckAt_ord hb ho]
     constructor
     ·intro h;cases h
     ·rintro ⟨⟨g1,_⟩,_⟩;omega
    ·rw [ckAt_next hb ho,ih]
     constructor
     ·rintro ⟨g1,g2⟩;exact ⟨⟨by omega,by omega,g1⟩,g2⟩
     ·rintro ⟨⟨_,_,g1⟩,g2⟩;exact ⟨g1,g2⟩
theorem Gy {xs:List Rg} :(ckF xs).2=0↔xs.length≤32768∧NormB 0 xs∧BelowR 1048576 xs:=by
 unfold ckF
 split
 ·constructor
  ·intro h;cases h
  ·intro h;omega
 ·rw [ckAt_norm xs 0 none 0 (fun q e=>by cases e) (fun _=>rfl)]
  exact ⟨fun h=>⟨by omega,h⟩,fun h=>h.2⟩
def LastLe (xs:List Rg) (m:Int):Prop:= ∀r,xs.getLast? =some r→r.lo≤m
theorem EB {b lo hi:Int} {xs:List Rg} (h:NormB b xs) (hb:b≤lo) (hl:lo<hi→LastLe xs lo):
  NormB b (addF xs lo hi)∧(∀q,memR q (addF xs lo hi)↔memR q xs∨(lo≤q∧q<hi))∧(∀T,BelowR T xs→(lo<hi→hi≤T)→BelowR T (addF xs lo hi))∧(∀m,LastLe xs m→(lo<hi→lo≤m)→LastLe (addF xs lo hi) m)∧(lo<hi→LastLe (addF xs lo hi) lo):=by
 by_cases hlh:hi≤lo
 ·rw [Eb hlh]
  exact ⟨h,fun q=>⟨.inl,fun h=>h.elim id (fun h=>by omega)⟩,fun T h _=>h,fun m h _=>h,fun h=>by omega⟩
 ·have hlt:lo<hi:=by omega
  rcases List.eq_nil_or_concat xs with rfl | ⟨ys,r,rfl⟩
  ·rw [GG hlh]
   refine ⟨⟨hb,hlt,trivial⟩,fun q=> ?_,fun T _ ht x hx=> ?_,fun m _ hm x hx=> ?_,fun _ x hx=> ?_⟩
   ·rw [V8];exact ⟨.inr,fun h=>h.elim (fun h=>absurd h (YX q)) id⟩
   ·simp only [List.mem_singleton] at hx;subst hx;exact ht hlt
   ·simp at hx;subst hx;exact hm hlt
   ·simp at hx;subst hx;exact Int.le_refl _
  ·rw [List.concat_eq_append] at *
   have hrlo:r.lo≤lo:=hl hlt r (by simp)
   obtain ⟨g1,g2⟩:=Yn.1 h
   by_cases hj:lo≤r.hi
   ·rw [Xo hlh hj]
    refine ⟨Yn.2 ⟨g1,g2.1,by have:=g2.2.1;show r.lo<max r.hi hi;omega,trivial⟩,fun q=> ?_,fun T hT ht=> ?_,fun m hm _ x hx=> ?_,fun _ x hx=> ?_⟩
    ·rw [Vw,Vw,V8,V8]
     have:=g2.2.1
     simp only
     constructor
     ·rintro (h | h)
      ·exact .inl (.inl h)
      ·by_cases hq:q<r.hi
       ·exact .inl (.inr ⟨h.1,hq⟩)
       ·exact .inr (by omega)
     ·rintro ((h | h) | h)
      ·exact .inl h
      ·exact .inr (by omega)
      ·exact .inr (by omega)
    ·obtain ⟨k1,k2⟩:=BelowR.append.1 hT
     refine BelowR.append.2 ⟨k1,fun x hx=> ?_⟩
     simp only [List.mem_singleton] at hx
     subst hx
     have:=k2 r List.mem_cons_self
     have:=ht hlt
     show max r.hi hi≤T
     omega
    ·simp at hx;subst hx;exact hm r (by simp)
    ·simp at hx;subst hx;exact hrlo
   ·rw [Xn hlh hj]
    refine ⟨Yn.2 ⟨h,?_,hlt,trivial⟩,fun q=> ?_,fun T hT ht=> ?_,fun m hm hm2 x hx=> ?_,fun _ x hx=> ?_⟩
    ·rw [XC];show r.hi+1≤lo;omega
    ·rw [Vw,V8]
    ·refine BelowR.append.2 ⟨hT,fun x hx=> ?_⟩
     simp only [List.mem_singleton] at hx
     subst hx;exact ht hlt
    ·simp at hx;subst hx;exact hm2 hlt
    ·simp at hx;subst hx;exact Int.le_refl _
theorem HD {at_ n T:Int} (hn:0≤n) (ha:0≤at_): ∀(xs acc:List Rg) (b:Int),0≤b→NormB b xs→NormB 0 acc→BelowR T xs→BelowR (T+n) acc→
  (∀l,acc.getLast? =some l→(l.lo≤b∨at_≤b)∧l.lo≤b+n)→
  NormB 0 (thrL at_ n acc xs)∧BelowR (T+n) (thrL at_ n acc xs)∧ ∀q,memR q (thrL at_ n acc xs)↔memR q acc∨(q<at_∧memR q xs)∨(at_+n≤q∧memR (q-n) xs)
 | [],acc,b,_,_,hacc,_,hT,_=>⟨hacc,hT,fun q=>by
   simp only [thrL]
   exact ⟨.inl,fun h=>h.elim id (fun h=>h.elim (fun h=>absurd h.2 (YX _)) (fun h=>absurd h.2 (YX _)))⟩⟩
 | r::xs,acc,b,hb,hx,hacc,hTx,hT,hl=>by
  obtain ⟨h1,h2,h3⟩:=hx
  have hTr:=hTx r List.mem_cons_self
  obtain ⟨a1,a2,a3,a4,a5⟩:=EB (lo:=r.lo) (hi:=min r.hi at_) hacc (by omega) (fun h l hll=>by have:=hl l hll;omega)
  have a6:=a3 (T+n) hT (fun h=>by omega)
  have a7:LastLe (addF acc r.lo (min r.hi at_)) (max r.lo at_+n):=a4 _ (fun l hll=>by have:=hl l hll;omega) (fun h=>by omega)
  obtain ⟨b1,b2,b3,b4,b5⟩:=EB (lo:=max r.lo at_+n) (hi:=r.hi+n) a1 (by omega) (fun h=>a7)
  have b6:=b3 (T+n) a6 (fun h=>by omega)
  have hlast: ∀l,(addF (addF acc r.lo (min r.hi at_)) (max r.lo at_+n) (r.hi+n)).getLast? =some l→(l.lo≤r.hi+1∨at_≤r.hi+1)∧l.lo≤r.hi+1+n:=by
   intro l hll
   have c1:=b4 (max r.lo at_+n) a7 (fun h=>by omega) l hll
   by_cases hat:r.hi≤at_
   ·have c2:=b4 r.lo (a4 r.lo (fun l hll=>by have:=hl l hll;omega) (fun h=>by omega)) (fun h=>by omega) l hll
    omega
   ·omega
  obtain ⟨c1,c2,c3⟩:=HD hn ha xs _ (r.hi+1) (by omega) h3 b1 (fun x hx=>hTx x (List.mem_cons_of_mem _ hx)) b6 hlast
  refine ⟨c1,c2,fun q=> ?_⟩
  simp only [thrL]
  rw [c3,b2,a2,KE,KE]
  constructor
  ·rintro ((h | h) | h)
   ·rcases h with h | h
    ·exact .inl h
    ·exact .inr (.inl ⟨by omega, .inl (by omega)⟩)
   ·exact .inr (.inr ⟨by omega, .inl (by omega)⟩)
   ·rcases h with h | h
    ·exact .inr (.inl ⟨h.1, .inr h.2⟩)
    ·exact .inr (.inr ⟨h.1, .inr h.2⟩)
  ·rintro (h | ⟨h,h4 | h4⟩ | ⟨h,h4 | h4⟩)
   ·exact .inl (.inl (.inl h))
   ·exact .inl (.inl (.inr (by omega)))
   ·exact .inr (.inl ⟨h,h4⟩)
   ·exact .inl (.inr (by omega))
   ·exact .inr (.inr ⟨h,h4⟩)
structure Pls (T:Int) (xs:List Rg):Prop where
 norm:NormB 0 xs
 below:BelowR T xs
theorem Pls.len {T:Int} {xs:List Rg} (h:Pls T xs) (hT:0≤T):2*(xs.length:Int)≤T+1:=by
 by_cases hx:xs= []
 ·subst hx;simp;omega
 ·have:=h.norm.len h.below hx;omega
theorem Pls.ck {T:Int} {xs:List Rg} (h:Pls T xs) (hT:0≤T∧T≤65535):(ckF xs).2=0:=
 Gy.2 ⟨by have:=h.len hT.1;omega,h.norm,h.below.mono (by omega)⟩
theorem Pls.in {T:Int} {xs:List Rg} (h:Pls T xs) {q:Int} (hq:memR q xs):0≤q∧q<T:=by
 have h1:=h.norm.below hq
 obtain ⟨r,hr,h2⟩:=hq
 have:=h.below r hr
 omega
theorem VU {T at_ n:Int} {xs:List Rg} (h:Pls T xs) (hT:0≤T) (ha:0≤at_∧at_≤T) (hn:0≤n) (hs:T+n≤65535):
  (thrF xs at_ n).2=0∧Pls (T+n) (thrF xs at_ n).1∧(∀q,memR q (thrF xs at_ n).1↔(q<at_∧memR q xs)∨(at_+n≤q∧memR (q-n) xs))∧(xs= [] ↔(thrF xs at_ n).1= []):=by
 have h1:=h.ck (by omega)
 have h2: ¬(at_<0∨at_>1048576∨n<0∨n>1048576):=by omega
 obtain ⟨c1,c2,c3⟩:=HD (T:=T) hn ha.1 xs [] 0 (by omega) h.norm trivial h.below (fun r hr=>by cases hr) (fun l hl=>by cases hl)
 have hp:Pls (T+n) (thrL at_ n [] xs):=⟨c1,c2⟩
 have hlen:=hp.len (by omega)
 have hb:boundF (thrL at_ n [] xs)=(thrL at_ n [] xs,0):=by unfold boundF;rw [if_neg (by omega)]
 have he:thrF xs at_ n=(thrL at_ n [] xs,0):=by
  by_cases hk:xs.length=0
  ·have:=List.length_eq_zero_iff.1 hk;subst this
   rw [V3 h2,hb]
  ·have hk':xs.length-1<xs.length:=by omega
   have:=h.below _ (List.getElem_mem hk')
   rw [XN h1 h2 hk' (by omega),hb]
 rw [he]
 refine ⟨O,hp,fun q=> ?_,?_⟩
 ·rw [c3];exact ⟨fun h=>h.elim (fun h=>absurd h (YX q)) id, .inr⟩
 ·constructor
  ·rintro rfl;rfl
  ·intro e
   simp only at e
   rcases xs with _ | ⟨r,xs⟩
   ·rfl
   ·have hr:=h.norm.mem r List.mem_cons_self
    by_cases hlt:r.lo<at_
    ·have:=(c3 r.lo).2 (.inr (.inl ⟨hlt,r,List.mem_cons_self,by omega⟩))
     rw [e] at this;exact absurd this (YX _)
    ·have:=(c3 (r.lo+n)).2 (.inr (.inr ⟨by omega,r,List.mem_cons_self,by omega⟩))
     rw [e] at this;exact absurd this (YX _)
theorem ER: ∀ {b b':Int} {xs ys:List Rg},NormB b xs→NormB b' ys→(∀q,memR q xs↔memR q ys)→xs=ys
 | b,b',[],[],_,_,_=>rfl
 | b,b',[],s::ys,_,h,e=>absurd ((e s.lo).2 ⟨s,List.mem_cons_self,Int.le_refl _,h.2.1⟩) (YX _)
 | b,b',r::xs,[],h,_,e=>absurd ((e r.lo).1 ⟨r,List.mem_cons_self,Int.le_refl _,h.2.1⟩) (YX _)
 | b,b',r::xs,s::ys,h,k,e=>by
  have hx: ∀q,memR q xs→r.hi+1≤q:=fun q hq=>h.2.2.below hq
  have hy: ∀q,memR q ys→s.hi+1≤q:=fun q hq=>k.2.2.below hq
  have h2:=h.2.1
  have k2:=k.2.1
  have elo:r.lo=s.lo:=by
   have e1:=(e r.lo).1 (KE.2 (.inl (by omega)))
   have e2:=(e s.lo).2 (KE.2 (.inl (by omega)))
   rcases KE.1 e1 with g | g
   ·rcases KE.1 e2 with g2 | g2
    ·omega
    ·have:=hx _ g2;omega
   ·have:=hy _ g
    rcases KE.1 e2 with g2 | g2
    ·omega
    ·have:=hx _ g2;omega
  have ehi:r.hi=s.hi:=by
   rcases Int.lt_trichotomy r.hi s.hi with g | g | g
   ·have e2:=(e r.hi).2 (KE.2 (.inl (by omega)))
    rcases KE.1 e2 with g2 | g2
    ·omega
    ·have:=hx _ g2;omega
   ·exact g
   ·have e2:=(e s.hi).1 (KE.2 (.inl (by omega)))
    rcases KE.1 e2 with g2 | g2
    ·omega
    ·have:=hy _ g2;omega
  have er:r=s:=Rg.ext elo ehi
  subst er
  congr 1
  refine ER h.2.2 k.2.2 fun q=> ?_
  constructor
  ·intro g
   have:=hx q g
   rcases KE.1 ((e q).1 (KE.2 (.inr g))) with g2 | g2
   ·omega
   ·exact g2
  ·intro g
   have:=hy q g
   rcases KE.1 ((e q).2 (KE.2 (.inr g))) with g2 | g2
   ·omega
   ·exact g2
structure Ent where
 op:GOp
 now:List Rg
 off:Bool
structure Hist where
 ents:List Ent
 total:Int
def Hist.ops (H:Hist):List GOp:=H.ents.map (·.op)
structure Mark where
 c:Int
 n:Int
 num:Int
 now:List Rg
 off:Bool
def markAt (k:Nat) (e:Ent):Mark:=⟨e.op.c,e.op.n,k,e.now,e.off⟩
def marksFrom:List Ent→Nat→List Mark
 | [],_=> []
 | e::r,k=>markAt k e::marksFrom r (k+1)
structure MR where
 mark:Mark
 b:Nat
 A:Option Addr
 cap:Nat
def keys (L:List MR):List MK:=L.map fun x=>⟨x.mark.c,x.mark.n,x.b⟩
abbrev hdP (h:Nat) (A:Option Addr) (len cap m:Nat) (total:Int):Part:= [(h,JB [.slice A len cap, .map (some m), .int .i64 total] 159)]
abbrev mpP (m:Nat) (L:List MR):Part:= [(m,mapO (keys L))]
def mrO (x:MR):Obj:=JB [.int .i64 x.mark.num, .slice x.A x.mark.now.length x.cap, .bool x.mark.off] 162
def mkP (L:List MR):Part:=L.map fun x=>(x.b,mrO x)
abbrev nowF (x:MR):Fact:=RdF rgD x.A x.cap x.mark.now
structure HR (H:Hist) (L:List MR):Prop where
 perm:(L.map (·.mark)).Perm (marksFrom H.ents 0)
 ids:(H.ents.map fun e=>(e.op.c,e.op.n)).Nodup
 fit: ∀e∈H.ents,Fit e.op
 wid: ∀e∈H.ents,Jx e.op≤256
 now: ∀e∈H.ents,e.now.length≤4398046511104
 len:H.ents.length≤1000000
 tot:0≤H.total∧H.total≤1048576
def HIs (u:Value) (ps:List Part):Value→List Part→List Fact→Prop:=fun v Lo fs=>v=u∧Lo=ps∧fs= []
theorem QF: ∀(l:List Ent) (k j:Nat) (e:Ent),l[j]? =some e→(marksFrom l k)[j]? =some (markAt (k+j) e)
 | [],_,j,e,h=>by simp at h
 | a::r,k,0,e,h=>by simp at h;subst h;simp [marksFrom]
 | a::r,k,j+1,e,h=>by
  have:=QF r (k+1) j e (by simpa using h)
  simp only [marksFrom,List.getElem?_cons_succ,this]
  congr 2;omega
theorem QE: ∀ {l:List Ent} {k:Nat} {x:Mark},x∈marksFrom l k→ ∃j e,l[j]? =some e∧x=markAt (k+j) e
 | [],_,x,h=>by cases h
 | a::r,k,x,h=>by
  unfold marksFrom at h
  rcases List.mem_cons.1 h with rfl | h
  ·exact ⟨0,a,by simp,O⟩
  ·obtain ⟨j,e,h1,h2⟩:=QE h
   exact ⟨j+1,e,by simpa using h1,by rw [h2];congr 1;omega⟩
theorem marksFrom_ids: ∀(l:List Ent) (k:Nat),(marksFrom l k).map (fun x=>(x.c,x.n))=l.map fun e=>(e.op.c,e.op.n)
 | [],_=>rfl
 | a::r,k=>by simp [marksFrom,markAt,marksFrom_ids r (k+1)]
theorem Z7 {L:List MR} {j:Nat} {x:MR} (h:L[j]? =some x):(keys L)[j]? =some ⟨x.mark.c,x.mark.n,x.b⟩:=by simp [keys,h]
theorem XV {L:List MR} {j:Nat} {x:MR} (h:L[j]? =some x):(mkP L)[j]? =some (x.b,mrO x):=by simp [mkP,h]
theorem YE {L:List MR} {j:Nat} {x:MR} (h:L[j]? =some x):(x.b,mrO x)∈mkP L:=List.mem_of_getElem? (XV h)
theorem Eu: ∀ {L:List MR} {x:MR},(L.map fun x=>(x.mark.c,x.mark.n)).Nodup→x∈L→mGet (keys L) x.mark.c x.mark.n=some x.b
 | [],x,_,h=>by cases h
 | y::L,x,hn,h=>by
  simp only [List.map_cons,List.nodup_cons] at hn
  unfold keys
  simp only [List.map_cons,mGet]
  rcases List.mem_cons.1 h with rfl | h
  ·simp
  ·rw [if_neg]
   ·exact Eu hn.2 h
   ·intro e
    exact hn.1 (List.mem_map.2 ⟨x,h,by rw [e.1,e.2]⟩)
theorem GV: ∀ {L:List MR} {c n:Int} {b:Nat},mGet (keys L) c n=some b→ ∃(j:Nat) (x:MR),L[j]? =some x∧x.mark.c=c∧x.mark.n=n∧x.b=b
 | [],c,n,b,h=>by simp [keys,mGet] at h
 | y::L,c,n,b,h=>by
  unfold keys at h
  simp only [List.map_cons,mGet] at h
  split at h
  ·rename_i e;exact ⟨0,y,by simp,e.1.symm,e.2.symm,Option.some.inj h⟩
  ·obtain ⟨j,x,h1,h2⟩:=GV (L:=L) h
   exact ⟨j+1,x,by simpa using h1,h2⟩
theorem HR.nodup {H:Hist} {L:List MR} (h:HR H L):(L.map fun x=>(x.mark.c,x.mark.n)).Nodup:=by
 have h1:(L.map fun x=>(x.mark.c,x.mark.n))=(L.map (·.mark)).map fun x=>(x.c,x.n):=by simp [List.map_map,Function.comp_def]
 rw [h1,(h.perm.map _).nodup_iff,marksFrom_ids]
 exact h.ids
theorem HR.look {H:Hist} {L:List MR} (h:HR H L) {k:Nat} (hk:k<H.ents.length): ∃(j:Nat) (x:MR),L[j]? =some x∧x.mark=markAt k H.ents[k] ∧mGet (keys L) H.ents[k].op.c H.ents[k].op.n=some x.b:=by
 have h1:=QF H.ents 0 k _ (List.getElem?_eq_getElem hk)
 have h2:=(h.perm.mem_iff).2 (List.mem_of_getElem? h1)
 obtain ⟨x,hx,hm⟩:=List.mem_map.1 h2
 obtain ⟨j,hj,rfl⟩:=List.mem_iff_getElem.1 hx
 rw [Nat.zero_add] at hm
 refine ⟨j,L[j],List.getElem?_eq_getElem hj,hm,?_⟩
 have:=Eu h.nodup hx
 rw [hm] at this
 exact this
def JX (l:List Ent) (c n:Int):Option Nat:=l.findIdx? fun e=>decide (c=e.op.c) && decide (n=e.op.n)
theorem KD {l:List Ent} {c n:Int} {k:Nat} (h:JX l c n=some k): ∃hk:k<l.length,l[k].op.c=c∧l[k].op.n=n:=by
 obtain ⟨hk,h1,_⟩:=List.findIdx?_eq_some_iff_getElem.1 h
 simp at h1
 exact ⟨hk,h1.1.symm,h1.2.symm⟩
theorem K5 {l:List Ent} {c n:Int} (h:JX l c n=none): ∀e∈l,¬(e.op.c=c∧e.op.n=n):=fun e he hh=>by
 have:=List.findIdx?_eq_none_iff.1 h e he
 simp [hh.1,hh.2] at this
theorem HR.look0 {H:Hist} {L:List MR} (h:HR H L) {c n:Int} (hn:JX H.ents c n=none):mGet (keys L) c n=none:=by
 cases hg:mGet (keys L) c n with
 | none=>rfl
 | some b=>
  obtain ⟨j,x,h1,h2,h3,_⟩:=GV hg
  have h4:=(h.perm.mem_iff).1 (List.mem_map.2 ⟨x,List.mem_of_getElem? h1,rfl⟩)
  obtain ⟨k,e,h5,h6⟩:=QE h4
  have h7:=K5 hn e (List.mem_of_getElem? h5)
  rw [h6] at h2 h3
  exact absurd ⟨h2,h3⟩ h7
theorem HR.look1 {H:Hist} {L:List MR} (h:HR H L) {c n:Int} {k:Nat} (hn:JX H.ents c n=some k): ∃(hk:k<H.ents.length) (j:Nat) (x:MR),H.ents[k].op.c=c∧H.ents[k].op.n=n∧L[j]? =some x∧x.mark=markAt k H.ents[k] ∧mGet (keys L) c n=some x.b:=by
 obtain ⟨hk,rfl,rfl⟩:=KD hn
 obtain ⟨j,x,h1,h2,h3⟩:=h.look hk
 exact ⟨hk,j,x,O,O,h1,h2,h3⟩
def sumW:List Ent→Int
 | [] =>0
 | e::r=>Jx e.op+sumW r
theorem Xt: ∀(a b:List Ent),sumW (a++b)=sumW a+sumW b
 | [],b=>by simp [sumW]
 | e::a,b=>by simp [sumW,Xt a b];omega
theorem HE: ∀(l:List Ent),(∀e∈l,Jx e.op≤256)→0≤sumW l∧sumW l≤256*l.length
 | [],_=>by simp [sumW]
 | e::r,h=>by
  have h1:=HE r fun x hx=>h x (List.mem_cons_of_mem _ hx)
  have h2:=h e List.mem_cons_self
  have h3:=KV e.op
  simp only [sumW,List.length_cons]
  omega
def KQ (H:Hist) (i:Nat):Int:=sumW (H.ents.take i)
def fitsRest (H:Hist) (o:GOp):Int:=if H.total+Jx o>1048576 then 24 else 0
def fitsT (H:Hist) (i:Int) (o:GOp):Int:=
 match JX H.ents o.tc o.tn with
 | none=>60
 | some k=>if (k:Int)≥i then 60 else match H.ents[k]? with
  | some e=>if e.op.kind=4 then 63 else fitsRest H o
  | none=>60
def fitsF (H:Hist) (i:Int) (o:GOp):Int:=
 if i<0∨i>H.ents.length then 12
 else if checkF o (KQ H i.toNat)≠0 then checkF o (KQ H i.toNat)
 else if o.kind=3 then 40
 else if o.c=0∧o.n=0 then 41
 else if (JX H.ents o.c o.n).isSome then 61
 else if o.kind=4 then fitsT H i o
 else fitsRest H o
def movedAll:List Ent→Int→Int→Except Int (List (List Rg))
 | [],_,_=> .ok []
 | e::r,at_,n=>if (thrF e.now at_ n).2≠0 then .error (thrF e.now at_ n).2 else match movedAll r at_ n with
  | .error x=> .error x
  | .ok ls=> .ok ((thrF e.now at_ n).1::ls)
def turnF (e:Ent) (on:Bool):GOp:= { zeroOp with kind:=if (decide (e.op.kind=2)==on)=true then 2 else 3,rs:=e.now }
def Yg (l:List Ent) (c n:Int):Bool:=l.any fun e=>decide (e.op.kind=4) && (decide (e.op.tc=c) && decide (e.op.tn=n))
def offE (e:Ent) (b:Bool):Ent:=⟨e.op,e.now,b⟩
def turnedF (H:Hist) (i:Nat) (o:GOp):List Ent×GOp:=
 if Yg (H.ents.drop i) o.tc o.tn=true then (H.ents,zeroOp)
 else match JX H.ents o.tc o.tn with
  | none=>(H.ents,zeroOp)
  | some k=>match H.ents[k]? with
   | none=>(H.ents,zeroOp)
   | some e=>if e.off= !o.on then (H.ents,zeroOp) else (H.ents.set k (offE e (!o.on)),turnF e o.on)
theorem erase_perm {α:Type} : ∀ {l:List α} {n:Nat} (h:n<l.length),(l[n] ::l.eraseIdx n).Perm l
 | [],n,h=>by simp at h
 | a::l,0,h=>by simp
 | a::l,n+1,h=>by
  have h':n<l.length:=by simpa using h
  simp only [List.getElem_cons_succ,List.eraseIdx_cons_succ]
  exact (List.Perm.swap a l[n] _).trans ((erase_perm h').cons a)
theorem QB {α:Type} : ∀ {l:List α} {n:Nat} (h:n<l.length) (b:α),(l.set n b).Perm (b::l.eraseIdx n)
 | [],n,h,b=>by simp at h
 | a::l,0,h,b=>by simp
 | a::l,n+1,h,b=>by
  have h':n<l.length:=by simpa using h
  simp only [List.set_cons_succ,List.eraseIdx_cons_succ]
  exact ((QB h' b).cons a).trans (List.Perm.swap b a _)
theorem set_perm {α:Type} {l M:List α} {j k:Nat} {a:α} (h:l.Perm M) (hj:l[j]? =some a) (hk:M[k]? =some a) (b:α):(l.set j b).Perm (M.set k b):=by
 have hjl:j<l.length:=by
  rcases Nat.lt_or_ge j l.length with h | h
  ·exact h
  ·rw [List.getElem?_eq_none h] at hj;cases hj
 have hkl:k<M.length:=by
  rcases Nat.lt_or_ge k M.length with h | h
  ·exact h
  ·rw [List.getElem?_eq_none h] at hk;cases hk
 have e1:l[j] =a:=by rw [List.getElem?_eq_getElem hjl] at hj;exact Option.some.inj hj
 have e2:M[k] =a:=by rw [List.getElem?_eq_getElem hkl] at hk;exact Option.some.inj hk
 have h1:(a::l.eraseIdx j).Perm (a::M.eraseIdx k):=by
  have p1:=erase_perm hjl
  have p2:=erase_perm hkl
  rw [e1] at p1;rw [e2] at p2
  exact (p1.trans h).trans p2.symm
 have h2:=h1.cons_inv
 exact ((QB hjl b).trans (h2.cons b)).trans (QB hkl b).symm
theorem VS: ∀(l:List Ent) (k j:Nat) (e:Ent),j<l.length→marksFrom (l.set j e) k=(marksFrom l k).set j (markAt (k+j) e)
 | [],_,j,e,h=>by simp at h
 | a::r,k,0,e,h=>by simp [marksFrom]
 | a::r,k,j+1,e,h=>by
  have:=VS r (k+1) j e (by simpa using h)
  simp only [marksFrom,List.set_cons_succ,this]
  congr 2;congr 1;omega
theorem HR.upd {H:Hist} {L:List MR} (h:HR H L) {k j:Nat} (hk:k<H.ents.length) {x:MR} (hj:L[j]? =some x) (hm:x.mark=markAt k H.ents[k]) (e':Ent) (he:e'.op=H.ents[k].op) (hn:e'.now.length≤4398046511104) (A':Option Addr) (c':Nat):
  HR ⟨H.ents.set k e',H.total⟩ (L.set j ⟨markAt k e',x.b,A',c'⟩):=by
 have hjl:j<L.length:=by
  rcases Nat.lt_or_ge j L.length with h | h
  ·exact h
  ·rw [List.getElem?_eq_none h] at hj;cases hj
 refine ⟨?_,?_,?_,?_,?_,by simpa using h.len,h.tot⟩
 ·rw [List.map_set,VS _ _ _ _ hk,Nat.zero_add]
  refine set_perm h.perm (a:=markAt k H.ents[k]) ?_ ?_ _
  ·rw [List.getElem?_map,hj];simp [hm]
  ·have:=QF H.ents 0 k _ (List.getElem?_eq_getElem hk)
   rwa [Nat.zero_add] at this
 ·have:((H.ents.set k e').map fun e=>(e.op.c,e.op.n))=H.ents.map fun e=>(e.op.c,e.op.n):=by
   rw [List.map_set,he]
   apply List.ext_getElem
   ·simp
   ·intro i h1 h2
    rw [List.getElem_set]
    split
    ·rename_i e;subst e;simp
    ·rfl
  show ((H.ents.set k e').map fun e=>(e.op.c,e.op.n)).Nodup
  rw [this];exact h.ids
 ·intro e hmem
  rcases List.mem_or_eq_of_mem_set hmem with hmem | rfl
  ·exact h.fit e hmem
  ·rw [he];exact h.fit _ (List.getElem_mem hk)
 ·intro e hmem
  rcases List.mem_or_eq_of_mem_set hmem with hmem | rfl
  ·exact h.wid e hmem
  ·rw [he];exact h.wid _ (List.getElem_mem hk)
 ·intro e hmem
  rcases List.mem_or_eq_of_mem_set hmem with hmem | rfl
  ·exact h.now e hmem
  ·exact hn
theorem Gp {L:List MR} {j:Nat} {x y:MR} (hj:L[j]? =some x) (h1:y.mark.c=x.mark.c) (h2:y.mark.n=x.mark.n) (h3:y.b=x.b):keys (L.set j y)=keys L:=by
 have hjl:j<L.length:=by
  rcases Nat.lt_or_ge j L.length with h | h
  ·exact h
  ·rw [List.getElem?_eq_none h] at hj;cases hj
 have e1:L[j] =x:=by rw [List.getElem?_eq_getElem hjl] at hj;exact Option.some.inj hj
 unfold keys
 rw [List.map_set,h1,h2,h3,←e1]
 apply List.ext_getElem
 ·simp
 ·intro i g1 g2
  rw [List.getElem_set]
  split
  ·rename_i e;subst e;simp
  ·rfl
theorem Es (L:List MR) (j:Nat) (y:MR):mkP (L.set j y)=(mkP L).set j (y.b,mrO y):=by unfold mkP;rw [List.map_set]
theorem Er {L:List MR} {j:Nat} {y:MR} {Z:Nat→Prop} {w:World} (h:(AllF L nowF).holds Z w) (hy:(nowF y).holds Z w):(AllF (L.set j y) nowF).holds Z w:=fun x hx=>by
 rcases List.mem_or_eq_of_mem_set hx with hx | rfl
 ·exact h x hx
 ·exact hy
theorem Gs {H:Hist} {k:Nat} (hk:k<H.ents.length) (e':Ent) (he:e'.op=H.ents[k].op) (t:Int):(⟨H.ents.set k e',t⟩:Hist).ops=H.ops:=by
 unfold Hist.ops
 simp only [List.map_set,he]
 apply List.ext_getElem
 ·simp
 ·intro i h1 h2
  rw [List.getElem_set]
  split
  ·rename_i e;subst e;simp
  ·rfl
end Go.Proofs.YtgedhdmpiciikaaGreatDoor
