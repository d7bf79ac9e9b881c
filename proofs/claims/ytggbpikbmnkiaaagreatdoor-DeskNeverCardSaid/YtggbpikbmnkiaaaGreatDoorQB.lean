/- Part of the proof that this claim's law answers true, whatever its arguments. Condition: the laid variables hold what their initialisers lay (the card ties that to the program's text). -/
import Derived.Defers
import Derived.Recover
import Derived.Laws.RangeString
import Derived.Laws.Concat
import Derived.Test.YtggbpikbmnkiaaaGreatDoorQA
set_option maxRecDepth 10000
set_option linter.unusedVariables false
set_option linter.unusedSimpArgs false
open Go.Proofs.Tryz renaming underlying3→Un3,underlying4→Un4,underlying9→Un9,underlying20→Un20,underlying21→Un21,underlying22→Un22,underlying24→Un24,underlying25→Un25,underlying29→Un29,underlying31→Un31,underlying32→Un32,underlying34→Un34,underlying36→Un36,underlying37→Un37,underlying38→Un38,underlying40→Un40,underlying43→Un43,underlying44→Un44,underlying45→Un45,underlying47→Un47,underlying49→Un49,underlying53→Un53,underlying58→Un58,underlying60→Un60,underlying63→Un63,underlying74→Un74,underlying77→Un77,underlying83→Un83,underlying85→Un85,underlying113→Un113,underlying115→Un115,underlying117→Un117,underlying120→Un120,underlying122→Un122,underlying134→Un134,underlying135→Un135,underlying137→Un137,underlying141→Un141,underlying148→Un148,underlying150→Un150,underlying153→Un153,underlying155→Un155,underlying159→Un159,underlying163→Un163,underlying166→Un166,underlying169→Un169,underlying171→Un171,underlying172→Un172,underlying174→Un174,underlying193→Un193,underlying199→Un199,underlying200→Un200,underlying202→Un202,underlying209→Un209,underlying222→Un222
namespace Go.GW
open Go
def noP (R:Post):Post:=fun e l Ps As=>match e with | .panic _=>False | e=>R e l Ps As
theorem Y1 {P:Program} {n:Dm} {R:Post} {l:Fr} {Ps:List Part} {As:List Fact} {c:Code} (h:WC P n c (noP R) l Ps As):WC P n c R l Ps As:=h.mono fun e l Ps As he=>by
  cases e<;>first | exact he.elim | exact he
structure SpP (P:Program) (k:FuncId) (args:List Value) (Lin:List Part) (pre:List Fact) (res:Value→List Part→List Fact→Prop):Prop where
  enters: ∃c rs n,Enters P k c rs n
  calls: ∀Z w Ps As,St Z w (Lin++Ps) (pre++As)→Calls P k args.toArray w fun e w'=> ∃v,e= .panicked [{ v:=v,recovered:=false }] ∧ ∃Z' Lo fs,res v Lo fs∧St Z' w' (Lo++Ps) (fs++(pre++As))
def finP (res:Value→List Part→List Fact→Prop) (Ps:List Part) (As:List Fact):Post:=fun e l Ps' As'=>match e with
  | .panic ch=> ∃v Lo fs,ch= [{ v:=v,recovered:=false }] ∧res v Lo fs∧(∀Z w,St Z w Ps' As'→ ∃Z',St Z' w (Lo++Ps) (fs++As))
  | _=>False
theorem ag_args {n:Nat} {args:List Value} (hn:args.length≤n):Ag ⟨n,[]⟩ (argsFr args 0) { tmps:=args.toArray++Array.replicate (n-args.toArray.size) undef,defers:= [] } :=by
  refine ⟨?_,V,?_⟩
  · simp;omega
  · intro t v ht
    obtain ⟨_,h7⟩:=lk_argsFr args 0 t v ht
    have h8:t<args.length:=by
      rcases Nat.lt_or_ge t args.length with h | h
      · exact h
      · simp [List.getElem?_eq_none h] at h7
    simp only [Nat.sub_zero] at h7
    rw [Array.getD_eq_getD_getElem?,Array.getElem?_append_left (by simpa using h8)]
    simp [h7]
theorem SpP.of {P:Program} {k:FuncId} {args:List Value} {Lin:List Part} {pre:List Fact} {res:Value→List Part→List Fact→Prop} {c:Code} {rs:List ResultVar} {n:Nat}
    (he:Enters P k c rs n) (hn:args.length≤n) (h: ∀Ps As,WC P ⟨n,[]⟩ c (finP res Ps (pre++As)) (argsFr args 0) (Lin++Ps) (pre++As)):SpP P k args Lin pre res:=by
  refine ⟨⟨c,rs,n,he⟩,fun Z w Ps As hs=> ?_⟩
  obtain ⟨fn,h1,h2,h3,h4,h5⟩:=he.ex
  refine calls_of_wp h1 h2 (wp_mono (h Ps As Z w _ hs (by rw [h4];exact ag_args hn)) ?_)
  rintro e a w' ⟨l,Z',Ps',As',g1,g2,g3⟩
  cases e with
  | panic ch=>
    obtain ⟨v,Lo,fs,rfl,k2,k3⟩:=g3
    obtain ⟨Z2,k4⟩:=k3 Z' w' g2
    exact ⟨g1.defers,v,V,Z2,Lo,fs,k2,k4⟩
  | _=>exact g3.elim
section
variable {P:Program} {n:Dm} {R:Post} {l:Fr} {Ps Ps':List Part} {As:List Fact} {ty:TypeId} {pos:String} {aft:Array Edge} {g:Option (Nat×Bool)} {K:Nx}
theorem Jaj {k:FuncId} {d:Option Tmp} {xs:List Operand} {ts:Array TypeId} {args:List Value} {Lin:List Part} {pre:List Fact} {res:Value→List Part→List Fact→Prop}
    (hsp:SpP P k args Lin pre res) (hxs:Evs l xs args) (hP: ∀ {Z w},St Z w Ps As→St Z w (Lin++Ps') (pre++As))
    (h: ∀v Lo fs,res v Lo fs→R (.panic [{ v:=v,recovered:=false }]) l (Lo++Ps') (fs++As)):
    OW P n R l Ps As ⟨d, .call ⟨.value (.func k),xs.toArray,ts⟩,ty,pos,aft,g⟩ K:=by
  intro Z w a hs ha
  have hrun:(execOp a.eval ⟨d, .call ⟨.value (.func k),xs.toArray,ts⟩,ty,pos,aft,g⟩).run P w= .ok (.enter k args.toArray) w:=by
    have h1:=hxs.map fun x v hx=>ha.eval hx
    have h2:=Qk hsp.enters args.toArray w
    simp only [execOp,resolve,Deferred.ofValue,invoke,Act.eval,List.map_toArray,h1,Sem.run_bind,Sem.run_pure,Result.andThen_ok]
    simpa using h2
  unfold Oper.wp
  rw [hrun,Oper.upon_enter]
  refine (hsp.calls Z w Ps' As (hP hs)).mono ?_
  rintro e w' ⟨v,rfl,Z',Lo,fs,h1,h2⟩
  refine ⟨l,Z',Lo++Ps',fs++As,ha,h2.subFacts ?_,h v Lo fs h1⟩
  intro A hA
  rcases List.mem_append.1 hA with h | h
  · exact List.mem_append.2 (.inl h)
  · exact List.mem_append.2 (.inr (List.mem_append.2 (.inr h)))
theorem Jad {d:Option Tmp} {x:Operand} {t:TypeId} {v:Value} (hx:evs l x=some (.iface t v)) (h:R (.panic [{ v:= .iface t v,recovered:=false }]) l Ps As):
    OW P n R l Ps As ⟨d, .panic x,ty,pos,aft,g⟩ K:=by
  intro Z w a hs ha
  have hrun:(execOp a.eval ⟨d, .panic x,ty,pos,aft,g⟩).run P w= .halt (.panic (.iface t v)) w:=by
    simp only [execOp,ha.eval hx,Instr.panic]
    rfl
  unfold Oper.wp
  rw [hrun,Oper.upon_panic]
  exact ⟨l,Z,Ps,As,ha,hs,h⟩
end
structure Catches (P:Program) (d:Deferred) (ok:Value→Prop) (Lc:List Part→Prop) (Lc':Value→List Part):Prop where
  inv: ∃fv cap f args,d.target= .fn fv cap∧(∀w,(invoke d.target d.args).run P w= .ok (.enter f args) w)∧
    (∀Z w Ps As,St Z w Ps As→CallsD P f args .returning w fun e u' w'=>(∃v,e= .returned v)∧u'= .returning∧ ∃Z',St Z' w' Ps As)∧
    (∀v Z w Ps As L,ok v→Lc L→St Z w (L++Ps) As→CallsD P f args (.panicking [{ v:=v,recovered:=false }]) w fun e u' w'=>(∃x,e= .returned x)∧u'= .panicking [{ v:=v,recovered:=true }] ∧ ∃Z',St Z' w' (Lc' v++Ps) As)
def finD (P:Program) (rs:List ResultVar) (ok:Value→Prop) (Lc:List Part→Prop) (Lc':Value→List Part) (res:Value→List Part→List Fact→Prop) (Ps:List Part) (As:List Fact):Post:=fun e l Ps' As'=>match e with
  | .normal | .ret=> ∃vs Lo fs,(∀Z w,St Z w Ps' As'→RV P l w rs vs)∧res (tup vs) Lo fs∧(∀Z w,St Z w Ps' As'→ ∃Z',St Z' w (Lo++Ps) (fs++As))
  | .panic ch=> ∃v L Ps2 vs Lo fs,ch= [{ v:=v,recovered:=false }] ∧ok v∧Lc L∧(∀Z w,St Z w Ps' As'→St Z w (L++Ps2) As')∧(∀Z w,St Z w (Lc' v++Ps2) As'→RV P l w rs vs)∧res (tup vs) Lo fs∧(∀Z w,St Z w (Lc' v++Ps2) As'→ ∃Z',St Z' w (Lo++Ps) (fs++As))
  | _=>False
def DefReg (P:Program) (n:Nat) (c:Code) (d:Deferred) (l l2:Fr):Prop:= ∀a w Q,Ag ⟨n,[]⟩ l a→(∀a',Ag ⟨n,[d]⟩ l2 a'→Q .normal a' w)→c.wp P Q a w
theorem Sp.ofD {P:Program} {k:FuncId} {args:List Value} {Lin:List Part} {pre:List Fact} {res:Value→List Part→List Fact→Prop} {c0 c1 c2:Code} {rs:List ResultVar} {n:Nat}
    (he:Enters P k (.seq c0 (.seq c1 c2)) rs n) (hn:args.length≤n)
    (h: ∀Ps As,WC P ⟨n,[]⟩ c0 (fun e l' Ps' As'=>e= .normal∧ ∃d ok Lc Lc' l2,Catches P d ok Lc Lc'∧DefReg P n c1 d l' l2∧WC P ⟨n,[d]⟩ c2 (finD P rs ok Lc Lc' res Ps (pre++As)) l2 Ps' As') (argsFr args 0) (Lin++Ps) (pre++As)):Sp P k args Lin pre res:=by
  refine ⟨⟨_,rs,n,he⟩,fun Z w Ps As hs=> ?_⟩
  obtain ⟨fn,h1,h2,h3,h4,h5⟩:=he.ex
  refine calls_of_wp_defers h1 h2 (wp_seq (wp_mono (h Ps As Z w _ hs (by rw [h4];exact ag_args hn)) ?_))
  rintro e a w' ⟨l',Z',Ps',As',g1,g2,rfl,d,ok,Lc,Lc',l2,hc,hd,g3⟩
  show (Code.seq c1 c2).wp P _ a w'
  refine wp_seq (hd a w' _ g1 fun a' g4=> ?_)
  show c2.wp P _ a' w'
  refine wp_mono (g3 Z' w' a' g2 g4) ?_
  rintro e a2 w2 ⟨l3,Z3,Ps3,As3,k1,k2,k3⟩
  obtain ⟨fv,cap,f,cargs,q1,q2,q3,q4⟩:=hc.inv
  have hdf:a2.defers= [d] :=k1.defers
  have hret:(∃vs Lo fs,(∀Z w,St Z w Ps3 As3→RV P l3 w rs vs)∧res (tup vs) Lo fs∧(∀Z w,St Z w Ps3 As3→ ∃Z',St Z' w (Lo++Ps) (fs++(pre++As))))→
      Leaves P fn a2.tmps (fun e w'=> ∃v,e= .returned v∧ ∃Z' Lo fs,res v Lo fs∧St Z' w' (Lo++Ps) (fs++(pre++As))) a2.defers .returning w2:=by
    rintro ⟨vs,Lo,fs,r1,r2,r3⟩
    rw [hdf]
    refine ⟨by simp,fv,cap,f,cargs,q1,q2 w2,(q3 Z3 w2 _ _ k2).mono ?_⟩
    rintro e u' w' ⟨⟨v,rfl⟩,rfl,Z4,k4⟩
    obtain ⟨Z5,s5⟩:=r3 Z4 _ k4
    exact ⟨tup vs,Y8 k1 (h3 ▸ r1 Z4 _ k4),_,V,Z5,Lo,fs,r2,s5⟩
  cases e with
  | normal=>exact hret k3
  | ret=>exact hret k3
  | panic ch=>
    obtain ⟨v,L,Ps2,vs,Lo,fs,rfl,hok,hL,hst,hrv,hres,hfin⟩:=k3
    show Leaves P fn a2.tmps _ a2.defers (.panicking [{ v:=v,recovered:=false }]) w2
    rw [hdf]
    refine ⟨by simp,fv,cap,f,cargs,q1,q2 w2,(q4 v Z3 w2 Ps2 As3 L hok hL (hst Z3 w2 k2)).mono ?_⟩
    rintro e u' w' ⟨⟨x,rfl⟩,rfl,Z4,s4⟩
    obtain ⟨Z5,s5⟩:=hfin Z4 w' s4
    exact ⟨tup vs,Y8 k1 (h3 ▸ hrv Z4 w' s4),_,V,Z5,Lo,fs,hres,s5⟩
  | _=>exact k3.elim
theorem DefReg.mk {P:Program} {n:Nat} {l:Fr} {id t kf:Nat} {cs:List Operand} {vs:List Value} {ty ty2:TypeId} {pos pos2:String} {aft aft2:Array Edge} (hcs:Evs l cs vs) (ht:t<n):
    DefReg P n (.region id [⟨some t, .makeFunc (.func kf) #[] cs.toArray,ty,pos,aft,none⟩,⟨none, .defer ⟨.value (.tmp t),#[],#[]⟩,ty2,pos2,aft2,none⟩].toArray false) ⟨.fn (.func kf) vs.toArray,#[]⟩ l ((t, .func (.func kf) #[] vs.toArray)::l):=by
  intro a w Q ha hq
  refine wp_region_lit (wpList_plain V fun K hK=> ?_)
  have h1:=hcs.map fun x v hx=>ha.eval hx
  unfold Oper.wp
  have e1:(execOp a.eval ⟨some t, .makeFunc (.func kf) #[] cs.toArray,ty,pos,aft,none⟩).run P w= .ok (.value (.func (.func kf) #[] vs.toArray)) w:=by
    simp only [execOp,List.map_toArray,h1,Instr.makeFunc,Sem.run_bind,Sem.run_pure,Result.andThen_ok]
    simp
  rw [e1]
  have ha1:=ha.put ht (.func (.func kf) #[] vs.toArray)
  refine hK _ _ (wpList_plain V fun K hK=> ?_)
  unfold Oper.wp
  have e2:(execOp (a.put (some t) (.func (.func kf) #[] vs.toArray)).eval ⟨none, .defer ⟨.value (.tmp t),#[],#[]⟩,ty2,pos2,aft2,none⟩).run P w= .ok (.defer ⟨.fn (.func kf) vs.toArray,#[]⟩) w:=by
    have h3:(a.put (some t) (.func (.func kf) #[] vs.toArray)).eval (.tmp t)= .func (.func kf) #[] vs.toArray:=ha1.eval (by simp [evs,QF])
    simp only [execOp,resolve,h3,Deferred.ofValue,Sem.run_bind,Sem.run_pure,Result.andThen_ok]
    simp
  rw [e2,Oper.upon_defer]
  refine hK _ _ (wpList_nil (hq _ ?_))
  exact ⟨ha1.size,by show _::_=_;rw [ha1.defers],ha1.get⟩
theorem GQ {K:Nx} {R:Post} {c:List PanicEntry} {l:Fr} {Ps:List Part} {As:List Fact} (h:R (.panic c) l Ps As):Vp K R (.panic c) l Ps As:=h
theorem dl {d:Nat} {n:Dm} (h:Nat.ble (d+1) n.sz=true):d<n.sz:=Nat.le_of_ble_eq_true h
theorem wpS_recover {P:Program} {i0 a b n:Nat} {l:Fr} {act:Act} {cs cs':List Frame} {v:Value} {w:World} {ts:Array TypeId} {ty ty2:TypeId} {pos pos2:String} {aft aft2:Array Edge} {Q:Exit→Act→List Frame→World→Prop}
    (ha:Ag ⟨n,[]⟩ l act) (han:a<n) (hbn:b<n) (hr:(recoverD cs=some (v,cs'))∨(recoverD cs=none∧v= .nilIface∧cs'=cs)) (h: ∀act',Ag ⟨n,[]⟩ ((b,v)::(a,v)::l) act'→Q .normal act' cs' w):
    (Code.region i0 [⟨some a, .call ⟨.builtin .recover,#[],ts⟩,ty,pos,aft,none⟩,⟨some b, .assign (.tmp a),ty2,pos2,aft2,none⟩].toArray false).wpS P Q act cs w:=by
  apply wpS_region
  have e0:(execOp act.eval ⟨some a, .call ⟨.builtin .recover,#[],ts⟩,ty,pos,aft,none⟩).run P w= .ok .recover w:=by
    simp [execOp,resolve,invoke,builtin]
  have a1:=Ag.put (n:=⟨n,[]⟩) ha han v
  have e1:(execOp (act.put (some a) v).eval ⟨some b, .assign (.tmp a),ty2,pos2,aft2,none⟩).run P w= .ok (.value v) w:=by
    have:(act.put (some a) v).eval (.tmp a)=v:=a1.eval (by simp [evs,QF])
    simp only [execOp,this];rfl
  have a2:=Ag.put (n:=⟨n,[]⟩) a1 hbn v
  have hl:List.range ([⟨some a, .call ⟨.builtin .recover,#[],ts⟩,ty,pos,aft,none⟩,⟨some b, .assign (.tmp a),ty2,pos2,aft2,none⟩] :List Oper).toArray.size= [0,1] :=rfl
  rw [hl]
  have g0: ∀r,Region.wanted ⟨some a, .call ⟨.builtin .recover,#[],ts⟩,ty,pos,aft,none⟩ r=true:=fun _=>rfl
  have g1: ∀r,Region.wanted ⟨some b, .assign (.tmp a),ty2,pos2,aft2,none⟩ r=true:=fun _=>rfl
  simp only [wpOpsS,List.getElem?_toArray,List.getElem?_cons_zero,List.getElem?_cons_succ,g0,g1,if_true,e0]
  rcases hr with hr | ⟨hr,rfl,rfl⟩
  · rw [hr]
    simp only [e1,Oper.upon_value]
    exact h _ a2
  · rw [hr]
    simp only [e1,Oper.upon_value]
    exact h _ a2
theorem Catches.of {P:Program} {k:FuncId} {fn:Func} {i0 a b n:Nat} {c2:Code} {ts:Array TypeId} {ty ty2:TypeId} {pos pos2:String} {aft aft2:Array Edge} {caps:List Value} {ok:Value→Prop} {Lc:List Part→Prop} {Lc':Value→List Part}
    (hf : P.funcs[k]? = some fn) (hb : fn.body = some (.seq (.region i0 [⟨some a, .call ⟨.builtin .recover, #[], ts⟩, ty, pos, aft, none⟩, ⟨some b, .assign (.tmp a), ty2, pos2, aft2, none⟩].toArray false) c2)) (hr : fn.results.toList = []) (hn : fn.ntmps = n) (hnm : (fn.name == "runtime.NumGoroutine") = false) (hcap : caps.length ≤ n) (han : a < n) (hbn : b < n)
    (h0: ∀Ps As,WC P ⟨n,[]⟩ c2 (fun e l Ps' As'=>e= .normal∧Ps'=Ps∧As'=As) ((b, .nilIface)::(a, .nilIface)::argsFr caps 0) Ps As)
    (h1: ∀v L Ps As,ok v→Lc L→WC P ⟨n,[]⟩ c2 (fun e l Ps' As'=>e= .normal∧ ∀Z w,St Z w Ps' As'→ ∃Z',St Z' w (Lc' v++Ps) As) ((b,v)::(a,v)::argsFr caps 0) (L++Ps) As):
    Catches P ⟨.fn (.func k) caps.toArray,#[]⟩ ok Lc Lc':=by
  refine ⟨_,_,k,caps.toArray,V,fun w=> ?_,fun Z w Ps As hs=> ?_,fun v Z w Ps As L hok hL hs=> ?_⟩
  · have h2:=Qk (P:=P) (k:=k) ⟨_,_,n,fn,hf,hb,rfl,hn,hnm⟩ caps.toArray w
    simpa [invoke] using h2
  · refine callsD_of_wpS hf hb fun c₀ cs hu=>wpS_seq ?_
    refine wpS_recover (v:= .nilIface) (by rw [hn];exact ag_args hcap) han hbn (.inr ⟨by simp [recoverD,hu],V,V⟩) fun act' ha'=> ?_
    show c2.wpS P _ act' _ w
    refine wpS_of_wp (wp_mono (h0 Ps As Z w act' hs ha') ?_)
    rintro e a w' ⟨l,Z',Ps',As',g1,g2,rfl,rfl,rfl⟩
    exact ⟨g1.defers, .returning,by cases c₀;simp_all,_,Y8 g1 (hr ▸ RV.nil),⟨_,rfl⟩,rfl,Z',g2⟩
  · refine callsD_of_wpS hf hb fun c₀ cs hu=>wpS_seq ?_
    refine wpS_recover (v:=v) (cs':= { c₀ with mode:= .panicking [{ v:=v,recovered:=true }] } ::cs) (by rw [hn];exact ag_args hcap) han hbn (.inl (by simp [recoverD,hu])) fun act' ha'=> ?_
    show c2.wpS P _ act' _ w
    refine wpS_of_wp (wp_mono (h1 v L Ps As hok hL Z w act' hs ha') ?_)
    rintro e a w' ⟨l,Z',Ps',As',g1,g2,rfl,g3⟩
    exact ⟨g1.defers,_,V,_,Y8 g1 (hr ▸ RV.nil),⟨_,V⟩,V,g3 Z' w' g2⟩
section
variable {P:Program} {n:Dm} {R:Post} {l:Fr} {Ps:List Part} {As:List Fact} {d:Option Tmp} {ty:TypeId} {pos:String} {aft:Array Edge} {g:Option (Nat×Bool)} {K:Nx}
def concrete:Option TypeDesc→Bool
  | some (.interface _)=>false
  | some .invalid=>false
  | none=>false
  | _=>true
theorem Gp {T:TypeId} {x:Operand} {v:Value} (hc:concrete (P.underlying T)=true) (hx:evs l x=some v):QR P l Ps As ⟨d, .makeInterface T x,ty,pos,aft,g⟩ (.iface T v):=fun Z w ρ hs hρ=>by
  cases hu:P.underlying T with
  | none=>rw [hu] at hc;cases hc
  | some u=>
    rw [hu] at hc
    have h1:=run_underlying' (P:=P) (w:=w) hu
    simp only [execOp,hρ _ _ hx,Instr.makeInterface,Sem.run_bind,h1,Result.andThen_ok]
    cases u<;>first | rfl | cases hc
theorem ZF {t T:TypeId} {x:Operand} {v:Value} (hc:concrete (P.underlying T)=true) (hx:evs l x=some (.iface T v)):QR P l Ps As ⟨d, .typeAssert x t T true,ty,pos,aft,g⟩ (.tuple #[v, .bool true]):=fun Z w ρ hs hρ=>by
  cases hu:P.underlying T with
  | none=>rw [hu] at hc;cases hc
  | some u=>
    rw [hu] at hc
    have h1:=run_underlying' (P:=P) (w:=w) hu
    simp only [execOp,hρ _ _ hx,Instr.typeAssert,Sem.run_bind,h1,Result.andThen_ok]
    cases u<;>first | rfl | (simp only [Sem.run_bind,Sem.run_pure,Result.andThen_ok,if_true,ite_true];done) | (simp;done) | (cases hc;done)
theorem Zw {t:TypeId} {ms:Array (String×TypeId)} {w:World} {T:TypeId} {v:Value} (hu:P.underlying t=some (.interface ms)):(Op.equalIn (9999+1) t (.iface T v) .nilIface).run P w= .ok false w:=by
  unfold Op.equalIn
  simp only [Sem.run_bind,run_underlying' hu,Result.andThen_ok]
  rfl
theorem EF {t:TypeId} {ms:Array (String×TypeId)} {w:World} (hu:P.underlying t=some (.interface ms)):(Op.equalIn (9999+1) t .nilIface .nilIface).run P w= .ok true w:=by
  unfold Op.equalIn
  simp only [Sem.run_bind,run_underlying' hu,Result.andThen_ok]
  rfl
theorem Ql {t t2 T:TypeId} {ms:Array (String×TypeId)} {x y:Operand} {v:Value} (hu:P.underlying t=some (.interface ms)) (hx:evs l x=some (.iface T v)) (hy:evs l y=some .nilIface):QR P l Ps As ⟨d, .binOp .neq t x y t2,ty,pos,aft,g⟩ (.bool true):=fun Z w ρ hs hρ=>by
  have h0:binOp .neq t (.iface T v) .nilIface=(do pure (.bool (!(←Op.equalIn (9999+1) t (.iface T v) .nilIface)))):=rfl
  have h1:eqGuard .neq t x y (.iface T v) .nilIface=pure ():=by unfold eqGuard;rfl
  simp only [execOp,hρ _ _ hx,hρ _ _ hy,h1,h0,Sem.run_bind,Zw hu,Result.andThen_ok,Sem.run_pure]
  rfl
theorem KW {t t2:TypeId} {ms:Array (String×TypeId)} {x:Operand} (hu:P.underlying t=some (.interface ms)) (hx:evs l x=some .nilIface):QR P l Ps As ⟨d, .binOp .neq t x (.const .nilIface) t2,ty,pos,aft,g⟩ (.bool false):=fun Z w ρ hs hρ=>by
  have h0:binOp .neq t .nilIface .nilIface=(do pure (.bool (!(←Op.equalIn (9999+1) t .nilIface .nilIface)))):=rfl
  have h1:eqGuard .neq t x (.const .nilIface) .nilIface .nilIface=pure ():=by unfold eqGuard;simp
  have hy:ρ (.const .nilIface)= .nilIface:=hρ _ _ rfl
  simp only [execOp,hρ _ _ hx,hy,h1,h0,Sem.run_bind,EF hu,Result.andThen_ok,Sem.run_pure]
  rfl
theorem VA {t t2:TypeId} {ms:Array (String×TypeId)} {x:Operand} (hu:P.underlying t=some (.interface ms)) (hx:evs l x=some .nilIface):QR P l Ps As ⟨d, .binOp .eql t x (.const .nilIface) t2,ty,pos,aft,g⟩ (.bool true):=fun Z w ρ hs hρ=>by
  have h0:binOp .eql t .nilIface .nilIface=(do pure (.bool (←Op.equalIn (9999+1) t .nilIface .nilIface))):=rfl
  have h1:eqGuard .eql t x (.const .nilIface) .nilIface .nilIface=pure ():=by unfold eqGuard;simp
  have hy:ρ (.const .nilIface)= .nilIface:=hρ _ _ rfl
  simp only [execOp,hρ _ _ hx,hy,h1,h0,Sem.run_bind,EF hu,Result.andThen_ok,Sem.run_pure]
theorem Qo {k:FuncId} {xs:List Operand} {ts:Array TypeId} {args:List Value} {pre:List Fact} {res:Value→List Part→List Fact→Prop}
    (hsp:SpP P k args [] pre res) (hxs:Evs l xs args) (hpre: ∀A∈pre,A∈As)
    (h: ∀v Lo fs,res v Lo fs→R (.panic [{ v:=v,recovered:=false }]) l (Lo++Ps) (fs++As)):
    OW P n R l Ps As ⟨d, .call ⟨.value (.func k),xs.toArray,ts⟩,ty,pos,aft,g⟩ K:=
  Jaj hsp hxs (fun hs=>hs.subFacts fun A hA=>by
    rcases List.mem_append.1 hA with hA | hA
    · exact hpre A hA
    · exact hA) h
inductive DelL:List Part→List Part→List Part→Prop
  | nil {Ps:List Part} :DelL Ps [] Ps
  | cons {p:Part} {ps Ps Q Ps':List Part} (h:DelAt Ps p Q) (r:DelL Q ps Ps'):DelL Ps (p::ps) Ps'
theorem DelL.n1 {p0:Part}{Q0 Q1:List Part}(h0:DelAt Q0 p0 Q1):DelL Q0 ([p0]) Q1:=.cons h0 (.nil)
theorem DelL.n2 {p0 p1:Part}{Q0 Q1 Q2:List Part}(h0:DelAt Q0 p0 Q1)(h1:DelAt Q1 p1 Q2):DelL Q0 ([p0,p1]) Q2:=.cons h0 (.cons h1 (.nil))
theorem DelL.n3 {p0 p1 p2:Part}{Q0 Q1 Q2 Q3:List Part}(h0:DelAt Q0 p0 Q1)(h1:DelAt Q1 p1 Q2)(h2:DelAt Q2 p2 Q3):DelL Q0 ([p0,p1,p2]) Q3:=.cons h0 (.cons h1 (.cons h2 (.nil)))
theorem DelL.n4 {p0 p1 p2 p3:Part}{Q0 Q1 Q2 Q3 Q4:List Part}(h0:DelAt Q0 p0 Q1)(h1:DelAt Q1 p1 Q2)(h2:DelAt Q2 p2 Q3)(h3:DelAt Q3 p3 Q4):DelL Q0 ([p0,p1,p2,p3]) Q4:=.cons h0 (.cons h1 (.cons h2 (.cons h3 (.nil))))
theorem DelL.n5 {p0 p1 p2 p3 p4:Part}{Q0 Q1 Q2 Q3 Q4 Q5:List Part}(h0:DelAt Q0 p0 Q1)(h1:DelAt Q1 p1 Q2)(h2:DelAt Q2 p2 Q3)(h3:DelAt Q3 p3 Q4)(h4:DelAt Q4 p4 Q5):DelL Q0 ([p0,p1,p2,p3,p4]) Q5:=.cons h0 (.cons h1 (.cons h2 (.cons h3 (.cons h4 (.nil)))))
theorem DelL.n6 {p0 p1 p2 p3 p4 p5:Part}{Q0 Q1 Q2 Q3 Q4 Q5 Q6:List Part}(h0:DelAt Q0 p0 Q1)(h1:DelAt Q1 p1 Q2)(h2:DelAt Q2 p2 Q3)(h3:DelAt Q3 p3 Q4)(h4:DelAt Q4 p4 Q5)(h5:DelAt Q5 p5 Q6):DelL Q0 ([p0,p1,p2,p3,p4,p5]) Q6:=.cons h0 (.cons h1 (.cons h2 (.cons h3 (.cons h4 (.cons h5 (.nil))))))
theorem DelL.n8 {p0 p1 p2 p3 p4 p5 p6 p7:Part}{Q0 Q1 Q2 Q3 Q4 Q5 Q6 Q7 Q8:List Part}(h0:DelAt Q0 p0 Q1)(h1:DelAt Q1 p1 Q2)(h2:DelAt Q2 p2 Q3)(h3:DelAt Q3 p3 Q4)(h4:DelAt Q4 p4 Q5)(h5:DelAt Q5 p5 Q6)(h6:DelAt Q6 p6 Q7)(h7:DelAt Q7 p7 Q8):DelL Q0 ([p0,p1,p2,p3,p4,p5,p6,p7]) Q8:=.cons h0 (.cons h1 (.cons h2 (.cons h3 (.cons h4 (.cons h5 (.cons h6 (.cons h7 (.nil))))))))
theorem DelL.perm {Ps ps Ps':List Part} (h:DelL Ps ps Ps'):(ps++Ps').flatten.Perm Ps.flatten:=by
  induction h with
  | nil=>exact List.Perm.refl _
  | cons h r ih=>
    have e:=h.perm
    simp only [List.flatten_cons,List.cons_append] at e ⊢
    exact (List.Perm.append_left _ ih).trans e
theorem J9 {Ps':List Part} {k:FuncId} {d:Nat} {xs:List Operand} {ts:Array TypeId} {args:List Value} {Lin:List Part} {pre:List Fact} {res:Value→List Part→List Fact→Prop}
    (hsp:Sp P k args Lin pre res) (hxs:Evs l xs args) (hd:d<n.sz) (hp:DelL Ps Lin Ps') (hpre: ∀A∈pre,A∈As)
    (h: ∀v Lo fs,res v Lo fs→K ((d,v)::l) (Lo++Ps') (fs++As)):
    OW P n R l Ps As ⟨some d, .call ⟨.value (.func k),xs.toArray,ts⟩,ty,pos,aft,g⟩ K:=
  Ge hsp hxs hd (fun hs=>(hs.permParts hp.perm).subFacts fun A hA=>by
    rcases List.mem_append.1 hA with hA | hA
    · exact hpre A hA
    · exact hA) h
end
end Go.GW
namespace Go.Proofs.YtggbpikbmnkiaaaGreatDoor
open Go Go.GW
def Jr (o:GOp):Int:=if o.kind=1 then (utF o.text).1 else 0
def rightF (c n:Int):Bool:=decide (1≤c∧c≤8∧1≤n∧n≤1024)
def extraF (o:GOp):Bool:=
 (decide (o.kind≠1) && (decide (o.at_≠0) || !(o.text==⟨#[]⟩))) || ((decide (o.kind≠2) && decide (o.kind≠3)) && decide (0<o.rs.length)) || (decide (o.kind≠4) && ((decide (o.tc≠0) || decide (o.tn≠0)) || o.on))
def insF (o:GOp) (total:Int):Int:=
 if (utF o.text).2.2≠0 then (utF o.text).2.2
 else if (utF o.text).1=0 then 15
 else if (utF o.text).1>256 then 14
 else if o.at_<0∨o.at_>total then 12
 else if total+(utF o.text).1>1048576 then 24
 else 0
def Y3 (xs:List Rg) (total:Int):Int:=
 match xs.getLast? with
 | none=>43
 | some r=>if (ckF xs).2≠0 then (ckF xs).2 else if r.hi>total then 12 else 0
theorem QE {xs:List Rg} {total:Int} (h:xs.length=0):Y3 xs total=43:=by
 rw [List.length_eq_zero_iff.1 h];rfl
theorem Ve {xs:List Rg} {total:Int} (h: ¬xs.length=0) (h2:(ckF xs).2≠0):Y3 xs total=(ckF xs).2:=by
 have hk:xs.length-1<xs.length:=by omega
 unfold Y3
 rw [List.getLast?_eq_getElem?,List.getElem?_eq_getElem hk]
 simp only [if_pos h2]
theorem YH {xs:List Rg} {total:Int} (hk:xs.length-1<xs.length) (h2:(ckF xs).2=0):Y3 xs total=if xs[xs.length-1].hi>total then 12 else 0:=by
 unfold Y3
 rw [List.getLast?_eq_getElem?,List.getElem?_eq_getElem hk]
 simp only [ne_eq,h2,not_true_eq_false,if_false]
def checkF (o:GOp) (total:Int):Int:=
 if total<0∨total>1048576 then 12
 else if o.kind<1∨o.kind>4 then 40
 else if (o.c≠0∨o.n≠0)∧rightF o.c o.n=false then 41
 else if extraF o=true then 42
 else if o.kind=1 then insF o total
 else if o.kind=4 then (if rightF o.tc o.tn=false∨(o.tc=o.c∧o.tn=o.n) then 63 else 0)
 else Y3 o.rs total
theorem utAt_n {s:ByteArray} : ∀(m p k:Nat),s.size-p≤m→p≤s.size→0≤(utAt s p k).1∧(utAt s p k).1≤k+(s.size-p:Nat)
 | m,p,k,hm,hp=>by
  by_cases h:p<s.size
  ·by_cases h1:begF s p (Utf8.decode s p).1=false
   ·rw [utAt_utf8 h h1];simp;omega
   ·by_cases h2:letF (Utf8.decode s p).1=false
    ·rw [utAt_rune h h1 h2];simp;omega
    ·rw [utAt_next h h1 h2]
     have h3:=decode_pos s p
     have h4:=decode_leP h
     cases m with
     | zero=>omega
     | succ m=>
      have:=utAt_n m (p+(Utf8.decode s p).2) (k+1) (by omega) h4
      omega
  ·rw [utAt_end h];constructor<;>simp<;>omega
theorem Zm (s:ByteArray):0≤(utF s).1∧(utF s).1≤s.size:=by
 have:=utAt_n (s:=s) s.size 0 0 (by omega) (Nat.zero_le _)
 unfold utF;omega
theorem KP (o:GOp):0≤Jr o∧Jr o≤o.text.size:=by
 unfold Jr
 split
 ·exact Zm _
 ·omega
def zeroOp:GOp:=⟨0,0,0,0,⟨#[]⟩,[],0,0,false⟩
structure Fit (o:GOp):Prop where
 text:o.text.size≤2305843009213693952
 rs:o.rs.length≤4398046511104
 lo: -2305843009213693952≤o.at_
 hi:o.at_≤2305843009213693952
def ownF (o:GOp):Int:=if o.kind=1∧0≤o.at_∧o.at_≤1048576 then checkF o o.at_ else checkF o 1048576
def ownsF:List GOp→Int
 | [] =>0
 | o::r=>if ownF o≠0 then ownF o else ownsF r
def clashF (a b:GOp):Prop:=a.c=b.c∧a.n=b.n∧ ¬(a.c=0∧a.n=0)
instance (a b:GOp):Decidable (clashF a b):=by unfold clashF;infer_instance
def movedF (a:GOp) (at_:Int):GOp×Int:=if at_+Jr a>1048576 then (zeroOp,24) else ({ a with at_:=at_,rs:= [] },0)
def rangedF (a:GOp) (l:List Rg) (e:Int):GOp×Int:=if e≠0 then (zeroOp,e) else ({ a with rs:=l },0)
def JM (a b:GOp) (earlier:Bool):GOp×Int:=
 if clashF a b then (zeroOp,50)
 else if b.kind≠1 then (a,0)
 else if a.kind=1 then (if b.at_<a.at_∨(b.at_=a.at_∧earlier=true) then movedF a (a.at_+Jr b) else (a,0))
 else if a.kind=2∨a.kind=3 then rangedF a (thrF a.rs b.at_ (Jr b)).1 (thrF a.rs b.at_ (Jr b)).2
 else (a,0)
def crossIn:GOp→List GOp→Except Int (GOp×List GOp)
 | l,[] => .ok (l,[])
 | l,f::fs=>
  if (JM l f true).2≠0 then .error (JM l f true).2
  else if (JM f l false).2≠0 then .error (JM f l false).2
  else match crossIn (JM l f true).1 fs with
   | .error e=> .error e
   | .ok (l',fs')=> .ok (l',(JM f l false).1::fs')
def crossOut:List GOp→List GOp→Except Int (List GOp×List GOp)
 | fs,[] => .ok (fs,[])
 | fs,l::ls=>match crossIn l fs with
  | .error e=> .error e
  | .ok (l',fs')=>match crossOut fs' ls with
   | .error e=> .error e
   | .ok (fs2,ls2)=> .ok (fs2,l'::ls2)
def crossF (xs ys:List GOp):List GOp×List GOp×Int:=
 if ownsF xs≠0 then ([],[],ownsF xs)
 else if ownsF ys≠0 then ([],[],ownsF ys)
 else match crossOut xs ys with
  | .error e=>([],[],e)
  | .ok (a,b)=>(a,b,0)
def putIn (fs:List GOp):Except Int (GOp×List GOp)→Except Int (GOp×List GOp)
 | .error e=> .error e
 | .ok (l,r)=> .ok (l,fs++r)
def putOut (ls:List GOp):Except Int (List GOp×List GOp)→Except Int (List GOp×List GOp)
 | .error e=> .error e
 | .ok (f,r)=> .ok (f,ls++r)
def restOut (ls:List GOp):Except Int (GOp×List GOp)→Except Int (List GOp×List GOp)
 | .error e=> .error e
 | .ok (l',fs')=>match crossOut fs' ls with
   | .error e=> .error e
   | .ok (fs2,ls2)=> .ok (fs2,l'::ls2)
theorem Yz (fs:List GOp) (l:GOp) (ls:List GOp):crossOut fs (l::ls)=restOut ls (crossIn l fs):=by
 rw [crossOut];unfold restOut;rfl
theorem crossIn_err1 {l f:GOp} {fs:List GOp} (h:(JM l f true).2≠0):crossIn l (f::fs)= .error (JM l f true).2:=by rw [crossIn,if_pos h]
theorem crossIn_err2 {l f:GOp} {fs:List GOp} (h: ¬(JM l f true).2≠0) (h2:(JM f l false).2≠0):crossIn l (f::fs)= .error (JM f l false).2:=by rw [crossIn,if_neg h,if_pos h2]
theorem QB {l f:GOp} {fs:List GOp} (h: ¬(JM l f true).2≠0) (h2: ¬(JM f l false).2≠0):crossIn l (f::fs)=putIn [(JM f l false).1] (crossIn (JM l f true).1 fs):=by
 rw [crossIn,if_neg h,if_neg h2];cases crossIn (JM l f true).1 fs<;>rfl
structure CiI (l0:GOp) (F0 F:List GOp) (l:GOp) (k:Nat):Prop where
 le:k≤F.length
 len:F.length=F0.length
 fit: ∀o∈F,Fit o
 fitl:Fit l
 eq:crossIn l0 F0=putIn (F.take k) (crossIn l (F.drop k))
structure CoI (xs ys F L:List GOp) (i:Nat):Prop where
 le:i≤L.length
 lenF:F.length=xs.length
 lenL:L.length=ys.length
 fitF: ∀o∈F,Fit o
 fitL: ∀o∈L,Fit o
 eq:crossOut xs ys=putOut (L.take i) (crossOut F (L.drop i))
theorem GG (xs:List Rg):(boundF xs).1.length≤32768:=by
 unfold boundF;split
 ·simp
 ·simp only;omega
theorem ED (xs:List Rg) (at_ n:Int):(thrF xs at_ n).1.length≤32768:=by
 unfold thrF
 split
 ·simp
 ·split
  ·simp
  ·split
   ·split
    ·simp
    ·exact GG _
   ·exact GG _
theorem Fit.zero:Fit zeroOp:=⟨by decide,by decide,by decide,by decide⟩
theorem Fit.include {a b:GOp} (ha:Fit a) (hb:Fit b) (e:Bool):Fit (JM a b e).1:=by
 have h1:=KP a
 have h2:=KP b
 have h3:=hb.text
 have h4:=ha.lo
 have h5:=ha.hi
 unfold JM
 split
 ·exact Fit.zero
 ·split
  ·exact ha
  ·split
   ·split
    ·unfold movedF
     split
     ·exact Fit.zero
     ·exact ⟨ha.text,by simp,by show _≤a.at_+Jr b;omega,by show a.at_+Jr b≤_;omega⟩
    ·exact ha
   ·split
    ·unfold rangedF
     split
     ·exact Fit.zero
     ·exact ⟨ha.text,by have:=ED a.rs b.at_ (Jr b);show (thrF a.rs b.at_ (Jr b)).1.length≤_;omega,ha.lo,ha.hi⟩
    ·exact ha
theorem CiI.zero {l0:GOp} {F0:List GOp} (hF: ∀o∈F0,Fit o) (hl:Fit l0):CiI l0 F0 F0 l0 0:=⟨Nat.zero_le _,rfl,hF,hl,by
 simp only [List.take_zero,List.drop_zero];cases crossIn l0 F0<;>rfl⟩
theorem CiI.err1 {l0 l:GOp} {F0 F:List GOp} {k:Nat} (h:CiI l0 F0 F l k) (hk:k<F.length) (h1:(JM l F[k] true).2≠0):crossIn l0 F0= .error (JM l F[k] true).2:=by
 rw [h.eq,List.drop_eq_getElem_cons hk,crossIn_err1 h1];rfl
theorem CiI.err2 {l0 l:GOp} {F0 F:List GOp} {k:Nat} (h:CiI l0 F0 F l k) (hk:k<F.length) (h1: ¬(JM l F[k] true).2≠0) (h2:(JM F[k] l false).2≠0):crossIn l0 F0= .error (JM F[k] l false).2:=by
 rw [h.eq,List.drop_eq_getElem_cons hk,crossIn_err2 h1 h2];rfl
theorem CiI.next {l0 l:GOp} {F0 F:List GOp} {k:Nat} (h:CiI l0 F0 F l k) (hk:k<F.length) (h1: ¬(JM l F[k] true).2≠0) (h2: ¬(JM F[k] l false).2≠0):CiI l0 F0 (F.set k (JM F[k] l false).1) (JM l F[k] true).1 (k+1):=by
 have hfk:Fit F[k] :=h.fit _ (List.getElem_mem hk)
 refine ⟨by simp;omega,by simp [h.len],fun o ho=> ?_,h.fitl.include hfk _,?_⟩
 ·rcases List.mem_or_eq_of_mem_set ho with ho | rfl
  ·exact h.fit o ho
  ·exact hfk.include h.fitl _
 ·rw [h.eq,List.drop_eq_getElem_cons hk,QB h1 h2]
  have e1:(F.set k (JM F[k] l false).1).take (k+1)=F.take k++ [(JM F[k] l false).1] :=by
   rw [List.set_eq_take_append_cons_drop,if_pos hk,List.take_append]
   simp [List.length_take,List.take_take,Nat.min_eq_left (by omega:k≤F.length)]
  have e2:(F.set k (JM F[k] l false).1).drop (k+1)=F.drop (k+1):=by
   rw [List.drop_set_of_lt (by omega)]
  rw [e1,e2]
  cases crossIn (JM l F[k] true).1 (F.drop (k+1)) with
  | error e=>rfl
  | ok r=>simp [putIn]
theorem CiI.done {l0 l:GOp} {F0 F:List GOp} {k:Nat} (h:CiI l0 F0 F l k) (hk: ¬k<F.length):crossIn l0 F0= .ok (l,F):=by
 have:=h.le
 rw [h.eq,List.drop_eq_nil_of_le (by omega),List.take_of_length_le (by omega)]
 simp [crossIn,putIn]
theorem CoI.zero {xs ys:List GOp} (hx: ∀o∈xs,Fit o) (hy: ∀o∈ys,Fit o):CoI xs ys xs ys 0:=⟨Nat.zero_le _,rfl,rfl,hx,hy,by
 simp only [List.take_zero,List.drop_zero];cases crossOut xs ys<;>rfl⟩
theorem CoI.err {xs ys F L:List GOp} {i:Nat} {e:Int} (h:CoI xs ys F L i) (hi:i<L.length) (h1:crossIn L[i] F= .error e):crossOut xs ys= .error e:=by
 rw [h.eq,List.drop_eq_getElem_cons hi,Yz,h1];rfl
theorem CoI.next {xs ys F L F':List GOp} {i:Nat} {l':GOp} (h:CoI xs ys F L i) (hi:i<L.length) (h1:crossIn L[i] F= .ok (l',F')) (hlen:F'.length=F.length) (hF: ∀o∈F',Fit o) (hl:Fit l'):CoI xs ys F' (L.set i l') (i+1):=by
 refine ⟨by simp;omega,by rw [hlen,h.lenF],by simp [h.lenL],hF,fun o ho=> ?_,?_⟩
 ·rcases List.mem_or_eq_of_mem_set ho with ho | rfl
  ·exact h.fitL o ho
  ·exact hl
 ·rw [h.eq,List.drop_eq_getElem_cons hi,Yz,h1]
  have e1:(L.set i l').take (i+1)=L.take i++ [l'] :=by
   rw [List.set_eq_take_append_cons_drop,if_pos hi,List.take_append]
   simp [List.length_take,List.take_take,Nat.min_eq_left (by omega:i≤L.length)]
  have e2:(L.set i l').drop (i+1)=L.drop (i+1):=by
   rw [List.drop_set_of_lt (by omega)]
  rw [e1,e2]
  unfold restOut
  simp only
  cases crossOut F' (L.drop (i+1)) with
  | error e=>rfl
  | ok r=>simp [putOut]
theorem CoI.done {xs ys F L:List GOp} {i:Nat} (h:CoI xs ys F L i) (hi: ¬i<L.length):crossOut xs ys= .ok (F,L):=by
 have:=h.le
 rw [h.eq,List.drop_eq_nil_of_le (by omega),List.take_of_length_le (by omega)]
 simp [crossOut,putOut]
def OpP (r:GOp×Int):Value→List Part→List Fact→Prop:=fun v Lo fs=> ∃(A':Option Addr) (c':Nat),v= .tuple #[opV r.1 A' c', .int .i64 r.2] ∧Lo= [] ∧fs= [RdF rgD A' c' r.1.rs]
def CrP (r:List GOp×List GOp×Int):Value→List Part→List Fact→Prop:=fun v Lo fs=> ∃(A1:Option Addr) (c1:Nat) (A2:Option Addr) (c2:Nat),v= .tuple #[.slice A1 r.1.length c1, .slice A2 r.2.1.length c2, .int .i64 r.2.2] ∧Lo= [] ∧fs= [RdF opD A1 c1 r.1,RdF opD A2 c2 r.2.1]
theorem EX {xs ys:List GOp} (h:ownsF xs≠0):crossF xs ys=([],[],ownsF xs):=by unfold crossF;rw [if_pos h]
theorem EW {xs ys:List GOp} (h:ownsF xs=0) (h2:ownsF ys≠0):crossF xs ys=([],[],ownsF ys):=by unfold crossF;rw [if_neg (by simpa using h),if_pos h2]
theorem GB {xs ys:List GOp} {e:Int} (h:ownsF xs=0) (h2:ownsF ys=0) (h3:crossOut xs ys= .error e):crossF xs ys=([],[],e):=by unfold crossF;rw [if_neg (by simpa using h),if_neg (by simpa using h2),h3]
theorem GA {xs ys a b:List GOp} (h:ownsF xs=0) (h2:ownsF ys=0) (h3:crossOut xs ys= .ok (a,b)):crossF xs ys=(a,b,0):=by unfold crossF;rw [if_neg (by simpa using h),if_neg (by simpa using h2),h3]
def FltV (v:Value):Prop:= ∃p,v= .iface 83 (.pointer (some ⟨p,0,none⟩))
def FltR:Value→List Part→List Fact→Prop:=fun v Lo fs=>FltV v∧Lo= [] ∧fs= []
theorem fault_0 (s:ByteArray) (at_:Int):Sp Tryz.prog 29 [.string s, .int .i64 at_, .int .i64 0] [] [] (Is .nilIface):=by
 refine Sp.of (n:=16) ⟨_,Tryz.func29,V,V,V,V⟩ (Nat.le_of_ble_eq_true V) fun Ps As=>Jc (Ja (Lq (Jd V) (Je (Jf (Jc (Jc (Ja (Lq (Jb V) (Lq (Kb V V) (Je (Jf (JS V V (Jc (Ja (Lq (Jd V) (Je (Jf (Jp (Jt ?_)))))))))))))))))))
 refine ⟨_,[],[],fun Z w hs=> .tmp V .nil,?_,fun Z w hs=>hs.out (Sr) (fun _ h=>h)⟩
 exact ⟨V,V,V⟩
theorem bd118_0_1_2Xg1 (x0_:ByteArray) (x1_:Int) (x2_t:TypeId) (x2_v:Value) (w:World):(Instr.build 85 #[(0, .string x0_),(1, .int .i64 x1_),(2, .iface x2_t x2_v)]).run Tryz.prog w= .ok (.agg #[.string x0_, .int .i64 x1_, .iface x2_t x2_v]) w:=by kernel_rfl
theorem fault_e (s:ByteArray) (at_ e:Int) (he:e≠0):Sp Tryz.prog 29 [.string s, .int .i64 at_, .int .i64 e] [] [] FltR:=by
 refine Sp.of (n:=16) ⟨_,Tryz.func29,V,V,V,V⟩ (Nat.le_of_ble_eq_true V) fun Ps As=>Jc (Ja (Lq (Jd V) (Je (Jf (Jc (Jc (Ja (Lq (Jb V) (Lq (Kb V V) (Je (Jf (Ju V (by simpa using he) (Jo (Jf (Jc (Ja (Lq (Jb V) ?_)))))))))))))))))
 refine Lq (Jb V) (Lq (Jb V) (Lq (Gp (by rw [Un77];rfl) V) (Lq (JY (.n3 V V V) (bd118_0_1_2Xg1 _ _ _ _)) (Jg V (J3 (cs:= [_,_,_]) V V (by decide) fun b14=>Lq (Gp (by rw [Un83];rfl) V) (Lq (Jd V) (Je (Jf (Jp ?_)))))))))
 refine ⟨_,[],[],fun Z w hs=> .tmp V .nil,?_,fun Z w hs=>hs.out (Sd (Sr)) (fun _ h=>h)⟩
 exact ⟨⟨b14,V⟩,V,V⟩
theorem give_0 (s:ByteArray) (at_:Int):Sp Tryz.prog 36 [.string s, .int .i64 at_, .int .i64 0] [] [] (Is (.tuple #[])):=by
 refine Sp.of (n:=12) ⟨_,Tryz.func36,V,V,V,V⟩ (Nat.le_of_ble_eq_true V) fun Ps As=>Jc (Ja (Lq (Jb V) (Lq (Kr V V) (Je (Jf (Ju V V (Jo ?_)))))))
 refine ⟨_,[],[],fun Z w hs=> .nil,?_,fun Z w hs=>hs.out (Sr) (fun _ h=>h)⟩
 exact ⟨V,V,V⟩
theorem give_e (s:ByteArray) (at_ e:Int) (he:e≠0):SpP Tryz.prog 36 [.string s, .int .i64 at_, .int .i64 e] [] [] FltR:=by
 refine SpP.of (n:=12) ⟨_,Tryz.func36,V,V,V,V⟩ (Nat.le_of_ble_eq_true V) fun Ps As=>Jc (Ja (Lq (Jb V) (Lq (Kr V V) (Je (Jf (JS V (by simpa using he) (Ja (Lq (Jb V) (Lq (Jb V) (Lq (Jb V) ?_))))))))))
 refine Jg V (Jm (fault_e s at_ e he) (.n3 V V V) (by decide) Jx fun _ _ _ q9=>?_)
 obtain ⟨⟨p,rfl⟩,rfl,rfl⟩:=q9
 refine Jg V (Jad V ?_)
 refine ⟨_,[],[],V,?_,fun Z w hs=>hs.out (Sr) (fun _ h=>h)⟩
 exact ⟨⟨p,V⟩,V,V⟩
theorem Qg (p:Nat):Sp Tryz.prog 33 [.iface 83 (.pointer (some ⟨p,0,none⟩))] [] [] (Is (.iface 83 (.pointer (some ⟨p,0,none⟩)))):=by
 refine Sp.of (n:=15) ⟨_,Tryz.func33,V,V,V,V⟩ (Nat.le_of_ble_eq_true V) fun Ps As=>Jc (Ja (Lq (Jd V) (Je (Jf (Jc (Ja (Lq (Jb V) (Lq (ZF (by rw [Un83];rfl) V) (Lq (Jb V) (Lq (Ji (vs:= [_,_]) V V) (Lq (Ji (vs:= [_,_]) V V) (Lq (Jd V) ?_))))))))))))
 refine Lq (Jd V) (Je (Jf (Jc (Jc (Ja (Lq (Jb V) (Lq (KU V) (Je (Jf (Ju V V (Jo (Jf (Jc (Ja (Lq (Jb V) (Lq (Gp (by rw [Un83];rfl) V) (Lq (Jd V) (Je (Jf (Jp ?_))))))))))))))))))))
 refine ⟨_,[],[],fun Z w hs=> .tmp V .nil,?_,fun Z w hs=>hs.out (Sr) (fun _ h=>h)⟩
 exact ⟨V,V,V⟩
theorem Qp (n lo hi:Int):Sp Tryz.prog 42 [.int .i64 n, .int .i64 lo, .int .i64 hi] [] [] (Is (.bool (decide (lo≤n∧n≤hi)))):=by
 refine Sp.of (n:=15) ⟨_,Tryz.func42,V,V,V,V⟩ (Nat.le_of_ble_eq_true V) fun Ps As=>Jc (Ja (Lq (Jd V) (Je (Jf (Jc (Ja (Lq (Jb V) (Lq (Jb V) (Lq (YQ V V) (Lq (Jb V) (J1 (t:=10) V (fun g10=> ?_) (fun g10=> ?_))))))))))))
 ·refine Lg V V V g10 (Jb V) (Lg V V V g10 (Jb V) (Lg V V V g10 (YQ V V) (Lq (JO V g10 V) (Lq (Jd V) (Je (Jf (Jp ?_)))))))
  refine ⟨_,[],[],fun Z w hs=> .tmp V .nil,?_,fun Z w hs=>hs.out (Sr) (fun _ h=>h)⟩
  try simp only [Bp,Bq] at *
  exact ⟨congrArg Value.bool (by first | exact (decide_eq_true (by omega)).symm | exact (decide_eq_false (by omega)).symm | exact decide_eq_decide.2 (by omega) | (rw [Bool.eq_iff_iff];simp;omega) | (rw [Bool.eq_iff_iff];simp;done)),V,V⟩
 ·refine Ln V V V g10 (Ln V V V g10 (Ln V V V g10 (Lq (JL V g10 V) (Lq (Jd V) (Je (Jf (Jp ?_)))))))
  refine ⟨_,[],[],fun Z w hs=> .tmp V .nil,?_,fun Z w hs=>hs.out (Sr) (fun _ h=>h)⟩
  try simp only [Bp,Bq] at *
  exact ⟨congrArg Value.bool (by first | exact (decide_eq_true (by omega)).symm | exact (decide_eq_false (by omega)).symm | exact decide_eq_decide.2 (by omega) | (rw [Bool.eq_iff_iff];simp;omega) | (rw [Bool.eq_iff_iff];simp;done)),V,V⟩
def OpCell (bo:Nat) (cs:List Value):Part:= [(bo,JB cs 60)]
def ErCell (be:Nat) (v:Value):Part:= [(be,JB [v] 49)]
def Res2 (bo be:Nat):List Part→Prop:=fun L=> ∃c0 c1 c2 c3 c4 c5 c6 c7 c8 x,L= [OpCell bo [c0,c1,c2,c3,c4,c5,c6,c7,c8],ErCell be x]
def Res1 (be:Nat):List Part→Prop:=fun L=> ∃x,L= [ErCell be x]
theorem bdZ (w:World):(Instr.build 60 #[]).run Tryz.prog w= .ok (opV zeroOp none 0) w:=by kernel_rfl
theorem catch_Insert (bo be:Nat):Catches Tryz.prog ⟨.fn (.func 44) [Value.pointer (some ⟨bo,0,none⟩),Value.pointer (some ⟨be,0,none⟩)].toArray,#[]⟩ FltV (Res2 bo be) (fun v=> [OpCell bo (opC zeroOp none 0),ErCell be v]):=by
 refine Catches.of (n:=9) Tryz.func44 V V V V (Nat.le_of_ble_eq_true V) (by decide) (by decide) (fun Ps As=> ?_) (fun v L Ps As hok hL=> ?_)
 ·refine Jc (Ja (JR (Jb V) (by decide) (JR (KW Un20 V) (by decide) (Je (Jf (Ju V V (Jo ?_)))))))
  exact ⟨V,V,V⟩
 ·obtain ⟨p,rfl⟩:=hok
  obtain ⟨c0,c1,c2,c3,c4,c5,c6,c7,c8,x,rfl⟩:=hL
  refine Jc (Ja (JR (Jb V) (by decide) (JR (Ql Un20 V V) (by decide) (Je (Jf (JS V V (Ja (JR (JY .nil bdZ) (by decide) (JR (Jb V) (by decide) (Jg V (Jm (Qg p) (.n1 V) (by decide) Jx fun u Lo fs hres=> ?_)))))))))))
  obtain ⟨rfl,rfl,rfl⟩:=hres
  refine Jg V (Jq (cs':= [_,_,_,_,_,_,_,_,_]) (vs:= [_,_,_,_,_,_,_,_,_]) JA V V V V V (Nat.le_of_ble_eq_true V) .z (Jg V (JN YE V V V .z (.s .z) ?_)))
  exact Je ⟨V,fun Z w hs=>⟨Z,hs⟩⟩
theorem catch_Delete (bo be:Nat):Catches Tryz.prog ⟨.fn (.func 50) [Value.pointer (some ⟨bo,0,none⟩),Value.pointer (some ⟨be,0,none⟩)].toArray,#[]⟩ FltV (Res2 bo be) (fun v=> [OpCell bo (opC zeroOp none 0),ErCell be v]):=by
 refine Catches.of (n:=9) Tryz.func50 V V V V (Nat.le_of_ble_eq_true V) (by decide) (by decide) (fun Ps As=> ?_) (fun v L Ps As hok hL=> ?_)
 ·refine Jc (Ja (JR (Jb V) (by decide) (JR (KW Un20 V) (by decide) (Je (Jf (Ju V V (Jo ?_)))))))
  exact ⟨V,V,V⟩
 ·obtain ⟨p,rfl⟩:=hok
  obtain ⟨c0,c1,c2,c3,c4,c5,c6,c7,c8,x,rfl⟩:=hL
  refine Jc (Ja (JR (Jb V) (by decide) (JR (Ql Un20 V V) (by decide) (Je (Jf (JS V V (Ja (JR (JY .nil bdZ) (by decide) (JR (Jb V) (by decide) (Jg V (Jm (Qg p) (.n1 V) (by decide) Jx fun u Lo fs hres=> ?_)))))))))))
  obtain ⟨rfl,rfl,rfl⟩:=hres
  refine Jg V (Jq (cs':= [_,_,_,_,_,_,_,_,_]) (vs:= [_,_,_,_,_,_,_,_,_]) JA V V V V V (Nat.le_of_ble_eq_true V) .z (Jg V (JN YE V V V .z (.s .z) ?_)))
  exact Je ⟨V,fun Z w hs=>⟨Z,hs⟩⟩
theorem catch_Undo (bo be:Nat):Catches Tryz.prog ⟨.fn (.func 55) [Value.pointer (some ⟨bo,0,none⟩),Value.pointer (some ⟨be,0,none⟩)].toArray,#[]⟩ FltV (Res2 bo be) (fun v=> [OpCell bo (opC zeroOp none 0),ErCell be v]):=by
 refine Catches.of (n:=9) Tryz.func55 V V V V (Nat.le_of_ble_eq_true V) (by decide) (by decide) (fun Ps As=> ?_) (fun v L Ps As hok hL=> ?_)
 ·refine Jc (Ja (JR (Jb V) (by decide) (JR (KW Un20 V) (by decide) (Je (Jf (Ju V V (Jo ?_)))))))
  exact ⟨V,V,V⟩
 ·obtain ⟨p,rfl⟩:=hok
  obtain ⟨c0,c1,c2,c3,c4,c5,c6,c7,c8,x,rfl⟩:=hL
  refine Jc (Ja (JR (Jb V) (by decide) (JR (Ql Un20 V V) (by decide) (Je (Jf (JS V V (Ja (JR (JY .nil bdZ) (by decide) (JR (Jb V) (by decide) (Jg V (Jm (Qg p) (.n1 V) (by decide) Jx fun u Lo fs hres=> ?_)))))))))))
  obtain ⟨rfl,rfl,rfl⟩:=hres
  refine Jg V (Jq (cs':= [_,_,_,_,_,_,_,_,_]) (vs:= [_,_,_,_,_,_,_,_,_]) JA V V V V V (Nat.le_of_ble_eq_true V) .z (Jg V (JN YE V V V .z (.s .z) ?_)))
  exact Je ⟨V,fun Z w hs=>⟨Z,hs⟩⟩
theorem catch_Redo (bo be:Nat):Catches Tryz.prog ⟨.fn (.func 96) [Value.pointer (some ⟨bo,0,none⟩),Value.pointer (some ⟨be,0,none⟩)].toArray,#[]⟩ FltV (Res2 bo be) (fun v=> [OpCell bo (opC zeroOp none 0),ErCell be v]):=by
 refine Catches.of (n:=9) Tryz.func96 V V V V (Nat.le_of_ble_eq_true V) (by decide) (by decide) (fun Ps As=> ?_) (fun v L Ps As hok hL=> ?_)
 ·refine Jc (Ja (JR (Jb V) (by decide) (JR (KW Un20 V) (by decide) (Je (Jf (Ju V V (Jo ?_)))))))
  exact ⟨V,V,V⟩
 ·obtain ⟨p,rfl⟩:=hok
  obtain ⟨c0,c1,c2,c3,c4,c5,c6,c7,c8,x,rfl⟩:=hL
  refine Jc (Ja (JR (Jb V) (by decide) (JR (Ql Un20 V V) (by decide) (Je (Jf (JS V V (Ja (JR (JY .nil bdZ) (by decide) (JR (Jb V) (by decide) (Jg V (Jm (Qg p) (.n1 V) (by decide) Jx fun u Lo fs hres=> ?_)))))))))))
  obtain ⟨rfl,rfl,rfl⟩:=hres
  refine Jg V (Jq (cs':= [_,_,_,_,_,_,_,_,_]) (vs:= [_,_,_,_,_,_,_,_,_]) JA V V V V V (Nat.le_of_ble_eq_true V) .z (Jg V (JN YE V V V .z (.s .z) ?_)))
  exact Je ⟨V,fun Z w hs=>⟨Z,hs⟩⟩
theorem catch_Turn (bo be:Nat):Catches Tryz.prog ⟨.fn (.func 32) [Value.pointer (some ⟨bo,0,none⟩),Value.pointer (some ⟨be,0,none⟩)].toArray,#[]⟩ FltV (Res2 bo be) (fun v=> [OpCell bo (opC zeroOp none 0),ErCell be v]):=by
 refine Catches.of (n:=9) Tryz.func32 V V V V (Nat.le_of_ble_eq_true V) (by decide) (by decide) (fun Ps As=> ?_) (fun v L Ps As hok hL=> ?_)
 ·refine Jc (Ja (JR (Jb V) (by decide) (JR (KW Un20 V) (by decide) (Je (Jf (Ju V V (Jo ?_)))))))
  exact ⟨V,V,V⟩
 ·obtain ⟨p,rfl⟩:=hok
  obtain ⟨c0,c1,c2,c3,c4,c5,c6,c7,c8,x,rfl⟩:=hL
  refine Jc (Ja (JR (Jb V) (by decide) (JR (Ql Un20 V V) (by decide) (Je (Jf (JS V V (Ja (JR (JY .nil bdZ) (by decide) (JR (Jb V) (by decide) (Jg V (Jm (Qg p) (.n1 V) (by decide) Jx fun u Lo fs hres=> ?_)))))))))))
  obtain ⟨rfl,rfl,rfl⟩:=hres
  refine Jg V (Jq (cs':= [_,_,_,_,_,_,_,_,_]) (vs:= [_,_,_,_,_,_,_,_,_]) JA V V V V V (Nat.le_of_ble_eq_true V) .z (Jg V (JN YE V V V .z (.s .z) ?_)))
  exact Je ⟨V,fun Z w hs=>⟨Z,hs⟩⟩
theorem catch_Move (be:Nat):Catches Tryz.prog ⟨.fn (.func 98) [Value.pointer (some ⟨be,0,none⟩)].toArray,#[]⟩ FltV (Res1 be) (fun v=> [ErCell be v]):=by
 refine Catches.of (n:=7) Tryz.func98 V V V V (Nat.le_of_ble_eq_true V) (by decide) (by decide) (fun Ps As=> ?_) (fun v L Ps As hok hL=> ?_)
 ·refine Jc (Ja (JR (Jb V) (by decide) (JR (KW Un20 V) (by decide) (Je (Jf (Ju V V (Jo ?_)))))))
  exact ⟨V,V,V⟩
 ·obtain ⟨p,rfl⟩:=hok
  obtain ⟨x,rfl⟩:=hL
  refine Jc (Ja (JR (Jb V) (by decide) (JR (Ql Un20 V V) (by decide) (Je (Jf (JS V V (Ja (Lq (Jb V) (Jg V (Jm (Qg p) (.n1 V) (by decide) Jx fun u Lo fs hres=> ?_))))))))))
  obtain ⟨rfl,rfl,rfl⟩:=hres
  refine Jg V (JN YE V V V .z .z ?_)
  exact Je ⟨V,fun Z w hs=>⟨Z,hs⟩⟩
theorem catch_Confirm (be:Nat):Catches Tryz.prog ⟨.fn (.func 92) [Value.pointer (some ⟨be,0,none⟩)].toArray,#[]⟩ FltV (Res1 be) (fun v=> [ErCell be v]):=by
 refine Catches.of (n:=7) Tryz.func92 V V V V (Nat.le_of_ble_eq_true V) (by decide) (by decide) (fun Ps As=> ?_) (fun v L Ps As hok hL=> ?_)
 ·refine Jc (Ja (JR (Jb V) (by decide) (JR (KW Un20 V) (by decide) (Je (Jf (Ju V V (Jo ?_)))))))
  exact ⟨V,V,V⟩
 ·obtain ⟨p,rfl⟩:=hok
  obtain ⟨x,rfl⟩:=hL
  refine Jc (Ja (JR (Jb V) (by decide) (JR (Ql Un20 V V) (by decide) (Je (Jf (JS V V (Ja (Lq (Jb V) (Jg V (Jm (Qg p) (.n1 V) (by decide) Jx fun u Lo fs hres=> ?_))))))))))
  obtain ⟨rfl,rfl,rfl⟩:=hres
  refine Jg V (JN YE V V V .z .z ?_)
  exact Je ⟨V,fun Z w hs=>⟨Z,hs⟩⟩
theorem catch_Take (be:Nat):Catches Tryz.prog ⟨.fn (.func 93) [Value.pointer (some ⟨be,0,none⟩)].toArray,#[]⟩ FltV (Res1 be) (fun v=> [ErCell be v]):=by
 refine Catches.of (n:=7) Tryz.func93 V V V V (Nat.le_of_ble_eq_true V) (by decide) (by decide) (fun Ps As=> ?_) (fun v L Ps As hok hL=> ?_)
 ·refine Jc (Ja (JR (Jb V) (by decide) (JR (KW Un20 V) (by decide) (Je (Jf (Ju V V (Jo ?_)))))))
  exact ⟨V,V,V⟩
 ·obtain ⟨p,rfl⟩:=hok
  obtain ⟨x,rfl⟩:=hL
  refine Jc (Ja (JR (Jb V) (by decide) (JR (Ql Un20 V V) (by decide) (Je (Jf (JS V V (Ja (Lq (Jb V) (Jg V (Jm (Qg p) (.n1 V) (by decide) Jx fun u Lo fs hres=> ?_))))))))))
  obtain ⟨rfl,rfl,rfl⟩:=hres
  refine Jg V (JN YE V V V .z .z ?_)
  exact Je ⟨V,fun Z w hs=>⟨Z,hs⟩⟩
def memR (q:Int) (xs:List Rg):Prop:= ∃r∈xs,r.lo≤q∧q<r.hi
def NormB:Int→List Rg→Prop
 | _,[] =>True
 | b,r::rs=>b≤r.lo∧r.lo<r.hi∧NormB (r.hi+1) rs
def BelowR (T:Int) (xs:List Rg):Prop:= ∀r∈xs,r.hi≤T
def endB:Int→List Rg→Int
 | b,[] =>b
 | _,r::rs=>endB (r.hi+1) rs
theorem Yr (q:Int): ¬memR q [] :=fun ⟨r,h,_⟩=>by cases h
theorem KC {q:Int} {r:Rg} {xs:List Rg} :memR q (r::xs)↔(r.lo≤q∧q<r.hi)∨memR q xs:=by
 unfold memR;simp only [List.mem_cons]
 constructor
 ·rintro ⟨x,rfl | h,h2⟩
  ·exact .inl h2
  ·exact .inr ⟨x,h,h2⟩
 ·rintro (h | ⟨x,h,h2⟩)
  ·exact ⟨r, .inl V,h⟩
  ·exact ⟨x, .inr h,h2⟩
theorem VE {q:Int} {xs ys:List Rg} :memR q (xs++ys)↔memR q xs∨memR q ys:=by
 unfold memR;simp only [List.mem_append]
 constructor
 ·rintro ⟨x,h | h,h2⟩
  ·exact .inl ⟨x,h,h2⟩
  ·exact .inr ⟨x,h,h2⟩
 ·rintro (⟨x,h,h2⟩ | ⟨x,h,h2⟩)
  ·exact ⟨x, .inl h,h2⟩
  ·exact ⟨x, .inr h,h2⟩
theorem QA {q:Int} {r:Rg} :memR q [r] ↔(r.lo≤q∧q<r.hi):=by
 rw [KC];exact ⟨fun h=>h.elim id (fun h=>absurd h (Yr q)), .inl⟩
theorem BelowR.append {T:Int} {xs ys:List Rg} :BelowR T (xs++ys)↔BelowR T xs∧BelowR T ys:=by
 unfold BelowR;simp only [List.mem_append]
 exact ⟨fun h=>⟨fun r hr=>h r (.inl hr),fun r hr=>h r (.inr hr)⟩,fun h r hr=>hr.elim (h.1 r) (h.2 r)⟩
theorem BelowR.mono {T T':Int} {xs:List Rg} (h:BelowR T xs) (ht:T≤T'):BelowR T' xs:=fun r hr=>by have:=h r hr;omega
theorem Yu: ∀ {b:Int} {xs ys:List Rg},NormB b (xs++ys)↔NormB b xs∧NormB (endB b xs) ys
 | b,[],ys=>by simp [NormB,endB]
 | b,r::xs,ys=>by
  simp only [List.cons_append,NormB,endB,Yu (xs:=xs),and_assoc]
theorem XN: ∀ {b:Int} {xs ys:List Rg},endB b (xs++ys)=endB (endB b xs) ys
 | b,[],ys=>rfl
 | b,r::xs,ys=>by simp only [List.cons_append,endB];exact XN
theorem NormB.mono {b b':Int} {xs:List Rg} (h:NormB b xs) (hb:b'≤b):NormB b' xs:=by
 cases xs with
 | nil=>trivial
 | cons r xs=>exact ⟨by have:=h.1;omega,h.2⟩
theorem NormB.mem: ∀ {b:Int} {xs:List Rg},NormB b xs→ ∀r∈xs,b≤r.lo∧r.lo<r.hi
 | b,[],_,r,h=>by cases h
 | b,x::xs,h,r,hr=>by
  rcases List.mem_cons.1 hr with rfl | hr
  ·exact ⟨h.1,h.2.1⟩
  ·have:=NormB.mem h.2.2 r hr
   have:=h.1;have:=h.2.1
   omega
theorem NormB.below {b:Int} {xs:List Rg} (h:NormB b xs) {q:Int} (hq:memR q xs):b≤q:=by
 obtain ⟨r,hr,h2⟩:=hq
 have:=h.mem r hr
 omega
theorem NormB.len: ∀ {b T:Int} {xs:List Rg},NormB b xs→BelowR T xs→xs≠ [] →b+2*(xs.length:Int)≤T+1
 | b,T,[],_,_,h=>absurd rfl h
 | b,T,[r],h,ht,_=>by
  have:=ht r List.mem_cons_self
  have h1:=h.1
  have h2:=h.2.1
  simp;omega
 | b,T,r::s::xs,h,ht,_=>by
  have:=NormB.len h.2.2 (fun x hx=>ht x (List.mem_cons_of_mem _ hx)) (by simp)
  have h1:=h.1
  have h2:=h.2.1
  simp only [List.length_cons,Int.natCast_add,Int.natCast_one] at this ⊢
  omega
theorem ckAt_norm: ∀(rs:List Rg) (i:Int) (p:Option Rg) (b:Int),(∀q,p=some q→b=q.hi+1∧0≤q.hi)→(p=none→b=0)→((ckAt i p rs).2=0↔NormB b rs∧BelowR 1048576 rs)
 | [],i,p,b,_,_=>by simp [ckAt,NormB,BelowR]
 | r::rs,i,p,b,h1,h2=>by
  by_cases hb:r.lo<0∨r.hi>1048576∨r.lo≥r.hi
  ·rw [ckAt_bad hb]
   constructor
   ·intro h;cases h
   ·rintro ⟨g1,g2⟩
    have:=g2 r List.mem_cons_self
    have g3:=g1.1
    have g4:=g1.2.1
    rcases p with _ | q
    ·have:=h2 rfl;omega
    ·have:=h1 q rfl;omega
  ·have ih:=ckAt_norm rs (i+1) (some r) (r.hi+1) (fun q e=>by cases e;exact ⟨rfl,by omega⟩) (fun e=>by cases e)
   have hbel:BelowR 1048576 (r::rs)↔BelowR 1048576 rs:=⟨fun h x hx=>h x (List.mem_cons_of_mem _ hx),fun h x hx=>by
    rcases List.mem_cons.1 hx with rfl | hx
    ·omega
    ·exact h x hx⟩
   rw [hbel]
   simp only [NormB]
   rcases p with _ | q
   ·have:=h2 rfl
    rw [ckAt_first hb,ih]
    constructor
    ·rintro ⟨g1,g2⟩;exact ⟨⟨by omega,by omega,g1⟩,g2⟩
    ·rintro ⟨⟨_,_,g1⟩,g2⟩;exact ⟨g1,g2⟩
   ·have:=h1 q rfl
    by_cases ho:r.lo≤q.hi
    ·rw [ckAt_ord hb ho]
     constructor
     ·intro h;cases h
     ·rintro ⟨⟨g1,_⟩,_⟩;omega
    ·rw [ckAt_next hb ho,ih]
     constructor
     ·rintro ⟨g1,g2⟩;exact ⟨⟨by omega,by omega,g1⟩,g2⟩
     ·rintro ⟨⟨_,_,g1⟩,g2⟩;exact ⟨g1,g2⟩
theorem GD {xs:List Rg} :(ckF xs).2=0↔xs.length≤32768∧NormB 0 xs∧BelowR 1048576 xs:=by
 unfold ckF
 split
 ·constructor
  ·intro h;cases h
  ·intro h;omega
 ·rw [ckAt_norm xs 0 none 0 (fun q e=>by cases e) (fun _=>rfl)]
  exact ⟨fun h=>⟨by omega,h⟩,fun h=>h.2⟩
def LastLe (xs:List Rg) (m:Int):Prop:= ∀r,xs.getLast? =some r→r.lo≤m
theorem Gc {b lo hi:Int} {xs:List Rg} (h:NormB b xs) (hb:b≤lo) (hl:lo<hi→LastLe xs lo):
  NormB b (addF xs lo hi)∧(∀q,memR q (addF xs lo hi)↔memR q xs∨(lo≤q∧q<hi))∧(∀T,BelowR T xs→(lo<hi→hi≤T)→BelowR T (addF xs lo hi))∧(∀m,LastLe xs m→(lo<hi→lo≤m)→LastLe (addF xs lo hi) m)∧(lo<hi→LastLe (addF xs lo hi) lo):=by
 by_cases hlh:hi≤lo
 ·rw [VU hlh]
  exact ⟨h,fun q=>⟨.inl,fun h=>h.elim id (fun h=>by omega)⟩,fun T h _=>h,fun m h _=>h,fun h=>by omega⟩
 ·have hlt:lo<hi:=by omega
  rcases List.eq_nil_or_concat xs with rfl | ⟨ys,r,rfl⟩
  ·rw [VI hlh]
   refine ⟨⟨hb,hlt,trivial⟩,fun q=> ?_,fun T _ ht x hx=> ?_,fun m _ hm x hx=> ?_,fun _ x hx=> ?_⟩
   ·rw [QA];exact ⟨.inr,fun h=>h.elim (fun h=>absurd h (Yr q)) id⟩
   ·simp only [List.mem_singleton] at hx;subst hx;exact ht hlt
   ·simp at hx;subst hx;exact hm hlt
   ·simp at hx;subst hx;exact Int.le_refl _
  ·rw [List.concat_eq_append] at *
   have hrlo:r.lo≤lo:=hl hlt r (by simp)
   obtain ⟨g1,g2⟩:=Yu.1 h
   by_cases hj:lo≤r.hi
   ·rw [QU hlh hj]
    refine ⟨Yu.2 ⟨g1,g2.1,by have:=g2.2.1;show r.lo<max r.hi hi;omega,trivial⟩,fun q=> ?_,fun T hT ht=> ?_,fun m hm _ x hx=> ?_,fun _ x hx=> ?_⟩
    ·rw [VE,VE,QA,QA]
     have:=g2.2.1
     simp only
     constructor
     ·rintro (h | h)
      ·exact .inl (.inl h)
      ·by_cases hq:q<r.hi
       ·exact .inl (.inr ⟨h.1,hq⟩)
       ·exact .inr (by omega)
     ·rintro ((h | h) | h)
      ·exact .inl h
      ·exact .inr (by omega)
      ·exact .inr (by omega)
    ·obtain ⟨k1,k2⟩:=BelowR.append.1 hT
     refine BelowR.append.2 ⟨k1,fun x hx=> ?_⟩
     simp only [List.mem_singleton] at hx
     subst hx
     have:=k2 r List.mem_cons_self
     have:=ht hlt
     show max r.hi hi≤T
     omega
    ·simp at hx;subst hx;exact hm r (by simp)
    ·simp at hx;subst hx;exact hrlo
   ·rw [QS hlh hj]
    refine ⟨Yu.2 ⟨h,?_,hlt,trivial⟩,fun q=> ?_,fun T hT ht=> ?_,fun m hm hm2 x hx=> ?_,fun _ x hx=> ?_⟩
    ·rw [XN];show r.hi+1≤lo;omega
    ·rw [VE,QA]
    ·refine BelowR.append.2 ⟨hT,fun x hx=> ?_⟩
     simp only [List.mem_singleton] at hx
     subst hx;exact ht hlt
    ·simp at hx;subst hx;exact hm2 hlt
    ·simp at hx;subst hx;exact Int.le_refl _
theorem Ht {at_ n T:Int} (hn:0≤n) (ha:0≤at_): ∀(xs acc:List Rg) (b:Int),0≤b→NormB b xs→NormB 0 acc→BelowR T xs→BelowR (T+n) acc→
  (∀l,acc.getLast? =some l→(l.lo≤b∨at_≤b)∧l.lo≤b+n)→
  NormB 0 (thrL at_ n acc xs)∧BelowR (T+n) (thrL at_ n acc xs)∧ ∀q,memR q (thrL at_ n acc xs)↔memR q acc∨(q<at_∧memR q xs)∨(at_+n≤q∧memR (q-n) xs)
 | [],acc,b,_,_,hacc,_,hT,_=>⟨hacc,hT,fun q=>by
   simp only [thrL]
   exact ⟨.inl,fun h=>h.elim id (fun h=>h.elim (fun h=>absurd h.2 (Yr _)) (fun h=>absurd h.2 (Yr _)))⟩⟩
 | r::xs,acc,b,hb,hx,hacc,hTx,hT,hl=>by
  obtain ⟨h1,h2,h3⟩:=hx
  have hTr:=hTx r List.mem_cons_self
  obtain ⟨a1,a2,a3,a4,a5⟩:=Gc (lo:=r.lo) (hi:=min r.hi at_) hacc (by omega) (fun h l hll=>by have:=hl l hll;omega)
  have a6:=a3 (T+n) hT (fun h=>by omega)
  have a7:LastLe (addF acc r.lo (min r.hi at_)) (max r.lo at_+n):=a4 _ (fun l hll=>by have:=hl l hll;omega) (fun h=>by omega)
  obtain ⟨b1,b2,b3,b4,b5⟩:=Gc (lo:=max r.lo at_+n) (hi:=r.hi+n) a1 (by omega) (fun h=>a7)
  have b6:=b3 (T+n) a6 (fun h=>by omega)
  have hlast: ∀l,(addF (addF acc r.lo (min r.hi at_)) (max r.lo at_+n) (r.hi+n)).getLast? =some l→(l.lo≤r.hi+1∨at_≤r.hi+1)∧l.lo≤r.hi+1+n:=by
   intro l hll
   have c1:=b4 (max r.lo at_+n) a7 (fun h=>by omega) l hll
   by_cases hat:r.hi≤at_
   ·have c2:=b4 r.lo (a4 r.lo (fun l hll=>by have:=hl l hll;omega) (fun h=>by omega)) (fun h=>by omega) l hll
    omega
   ·omega
  obtain ⟨c1,c2,c3⟩:=Ht hn ha xs _ (r.hi+1) (by omega) h3 b1 (fun x hx=>hTx x (List.mem_cons_of_mem _ hx)) b6 hlast
  refine ⟨c1,c2,fun q=> ?_⟩
  simp only [thrL]
  rw [c3,b2,a2,KC,KC]
  constructor
  ·rintro ((h | h) | h)
   ·rcases h with h | h
    ·exact .inl h
    ·exact .inr (.inl ⟨by omega, .inl (by omega)⟩)
   ·exact .inr (.inr ⟨by omega, .inl (by omega)⟩)
   ·rcases h with h | h
    ·exact .inr (.inl ⟨h.1, .inr h.2⟩)
    ·exact .inr (.inr ⟨h.1, .inr h.2⟩)
  ·rintro (h | ⟨h,h4 | h4⟩ | ⟨h,h4 | h4⟩)
   ·exact .inl (.inl (.inl h))
   ·exact .inl (.inl (.inr (by omega)))
   ·exact .inr (.inl ⟨h,h4⟩)
   ·exact .inl (.inr (by omega))
   ·exact .inr (.inr ⟨h,h4⟩)
structure Pls (T:Int) (xs:List Rg):Prop where
 norm:NormB 0 xs
 below:BelowR T xs
theorem Pls.len {T:Int} {xs:List Rg} (h:Pls T xs) (hT:0≤T):2*(xs.length:Int)≤T+1:=by
 by_cases hx:xs= []
 ·subst hx;simp;omega
 ·have:=h.norm.len h.below hx;omega
theorem Pls.ck {T:Int} {xs:List Rg} (h:Pls T xs) (hT:0≤T∧T≤65535):(ckF xs).2=0:=
 GD.2 ⟨by have:=h.len hT.1;omega,h.norm,h.below.mono (by omega)⟩
theorem Pls.in {T:Int} {xs:List Rg} (h:Pls T xs) {q:Int} (hq:memR q xs):0≤q∧q<T:=by
 have h1:=h.norm.below hq
 obtain ⟨r,hr,h2⟩:=hq
 have:=h.below r hr
 omega
theorem QH {T at_ n:Int} {xs:List Rg} (h:Pls T xs) (hT:0≤T) (ha:0≤at_∧at_≤T) (hn:0≤n) (hs:T+n≤65535):
  (thrF xs at_ n).2=0∧Pls (T+n) (thrF xs at_ n).1∧(∀q,memR q (thrF xs at_ n).1↔(q<at_∧memR q xs)∨(at_+n≤q∧memR (q-n) xs))∧(xs= [] ↔(thrF xs at_ n).1= []):=by
 have h1:=h.ck (by omega)
 have h2: ¬(at_<0∨at_>1048576∨n<0∨n>1048576):=by omega
 obtain ⟨c1,c2,c3⟩:=Ht (T:=T) hn ha.1 xs [] 0 (by omega) h.norm trivial h.below (fun r hr=>by cases hr) (fun l hl=>by cases hl)
 have hp:Pls (T+n) (thrL at_ n [] xs):=⟨c1,c2⟩
 have hlen:=hp.len (by omega)
 have hb:boundF (thrL at_ n [] xs)=(thrL at_ n [] xs,0):=by unfold boundF;rw [if_neg (by omega)]
 have he:thrF xs at_ n=(thrL at_ n [] xs,0):=by
  by_cases hk:xs.length=0
  ·have:=List.length_eq_zero_iff.1 hk;subst this
   rw [Xf h2,hb]
  ·have hk':xs.length-1<xs.length:=by omega
   have:=h.below _ (List.getElem_mem hk')
   rw [X0 h1 h2 hk' (by omega),hb]
 rw [he]
 refine ⟨V,hp,fun q=> ?_,?_⟩
 ·rw [c3];exact ⟨fun h=>h.elim (fun h=>absurd h (Yr q)) id, .inr⟩
 ·constructor
  ·rintro rfl;rfl
  ·intro e
   simp only at e
   rcases xs with _ | ⟨r,xs⟩
   ·rfl
   ·have hr:=h.norm.mem r List.mem_cons_self
    by_cases hlt:r.lo<at_
    ·have:=(c3 r.lo).2 (.inr (.inl ⟨hlt,r,List.mem_cons_self,by omega⟩))
     rw [e] at this;exact absurd this (Yr _)
    ·have:=(c3 (r.lo+n)).2 (.inr (.inr ⟨by omega,r,List.mem_cons_self,by omega⟩))
     rw [e] at this;exact absurd this (Yr _)
theorem EP: ∀ {b b':Int} {xs ys:List Rg},NormB b xs→NormB b' ys→(∀q,memR q xs↔memR q ys)→xs=ys
 | b,b',[],[],_,_,_=>rfl
 | b,b',[],s::ys,_,h,e=>absurd ((e s.lo).2 ⟨s,List.mem_cons_self,Int.le_refl _,h.2.1⟩) (Yr _)
 | b,b',r::xs,[],h,_,e=>absurd ((e r.lo).1 ⟨r,List.mem_cons_self,Int.le_refl _,h.2.1⟩) (Yr _)
 | b,b',r::xs,s::ys,h,k,e=>by
  have hx: ∀q,memR q xs→r.hi+1≤q:=fun q hq=>h.2.2.below hq
  have hy: ∀q,memR q ys→s.hi+1≤q:=fun q hq=>k.2.2.below hq
  have h2:=h.2.1
  have k2:=k.2.1
  have elo:r.lo=s.lo:=by
   have e1:=(e r.lo).1 (KC.2 (.inl (by omega)))
   have e2:=(e s.lo).2 (KC.2 (.inl (by omega)))
   rcases KC.1 e1 with g | g
   ·rcases KC.1 e2 with g2 | g2
    ·omega
    ·have:=hx _ g2;omega
   ·have:=hy _ g
    rcases KC.1 e2 with g2 | g2
    ·omega
    ·have:=hx _ g2;omega
  have ehi:r.hi=s.hi:=by
   rcases Int.lt_trichotomy r.hi s.hi with g | g | g
   ·have e2:=(e r.hi).2 (KC.2 (.inl (by omega)))
    rcases KC.1 e2 with g2 | g2
    ·omega
    ·have:=hx _ g2;omega
   ·exact g
   ·have e2:=(e s.hi).1 (KC.2 (.inl (by omega)))
    rcases KC.1 e2 with g2 | g2
    ·omega
    ·have:=hy _ g2;omega
  have er:r=s:=Rg.ext elo ehi
  subst er
  congr 1
  refine EP h.2.2 k.2.2 fun q=> ?_
  constructor
  ·intro g
   have:=hx q g
   rcases KC.1 ((e q).1 (KC.2 (.inr g))) with g2 | g2
   ·omega
   ·exact g2
  ·intro g
   have:=hy q g
   rcases KC.1 ((e q).2 (KC.2 (.inr g))) with g2 | g2
   ·omega
   ·exact g2
structure Ent where
 op:GOp
 now:List Rg
 off:Bool
structure Hist where
 ents:List Ent
 total:Int
def Hist.ops (H:Hist):List GOp:=H.ents.map (·.op)
structure Mark where
 c:Int
 n:Int
 num:Int
 now:List Rg
 off:Bool
def markAt (k:Nat) (e:Ent):Mark:=⟨e.op.c,e.op.n,k,e.now,e.off⟩
def marksFrom:List Ent→Nat→List Mark
 | [],_=> []
 | e::r,k=>markAt k e::marksFrom r (k+1)
structure MR where
 mark:Mark
 b:Nat
 A:Option Addr
 cap:Nat
def keys (L:List MR):List MK:=L.map fun x=>⟨x.mark.c,x.mark.n,x.b⟩
abbrev hdP (h:Nat) (A:Option Addr) (len cap m:Nat) (total:Int):Part:= [(h,JB [.slice A len cap, .map (some m), .int .i64 total] 117)]
abbrev mpP (m:Nat) (L:List MR):Part:= [(m,mapO (keys L))]
def mrO (x:MR):Obj:=JB [.int .i64 x.mark.num, .slice x.A x.mark.now.length x.cap, .bool x.mark.off] 122
def mkP (L:List MR):Part:=L.map fun x=>(x.b,mrO x)
abbrev nowF (x:MR):Fact:=RdF rgD x.A x.cap x.mark.now
structure HR (H:Hist) (L:List MR):Prop where
 perm:(L.map (·.mark)).Perm (marksFrom H.ents 0)
 ids:(H.ents.map fun e=>(e.op.c,e.op.n)).Nodup
 fit: ∀e∈H.ents,Fit e.op
 wid: ∀e∈H.ents,Jr e.op≤256
 now: ∀e∈H.ents,e.now.length≤4398046511104
 len:H.ents.length≤1000000
 tot:0≤H.total∧H.total≤1048576
def HIs (u:Value) (ps:List Part):Value→List Part→List Fact→Prop:=fun v Lo fs=>v=u∧Lo=ps∧fs= []
theorem Xv: ∀(l:List Ent) (k:Nat),(marksFrom l k).length=l.length
 | [],_=>rfl
 | e::r,k=>by simp [marksFrom,Xv r (k+1)]
theorem QL: ∀(l:List Ent) (k j:Nat) (e:Ent),l[j]? =some e→(marksFrom l k)[j]? =some (markAt (k+j) e)
 | [],_,j,e,h=>by simp at h
 | a::r,k,0,e,h=>by simp at h;subst h;simp [marksFrom]
 | a::r,k,j+1,e,h=>by
  have:=QL r (k+1) j e (by simpa using h)
  simp only [marksFrom,List.getElem?_cons_succ,this]
  congr 2;omega
theorem V1: ∀ {l:List Ent} {k:Nat} {x:Mark},x∈marksFrom l k→ ∃j e,l[j]? =some e∧x=markAt (k+j) e
 | [],_,x,h=>by cases h
 | a::r,k,x,h=>by
  unfold marksFrom at h
  rcases List.mem_cons.1 h with rfl | h
  ·exact ⟨0,a,by simp,V⟩
  ·obtain ⟨j,e,h1,h2⟩:=V1 h
   exact ⟨j+1,e,by simpa using h1,by rw [h2];congr 1;omega⟩
theorem marksFrom_ids: ∀(l:List Ent) (k:Nat),(marksFrom l k).map (fun x=>(x.c,x.n))=l.map fun e=>(e.op.c,e.op.n)
 | [],_=>rfl
 | a::r,k=>by simp [marksFrom,markAt,marksFrom_ids r (k+1)]
theorem X9 {L:List MR} {j:Nat} {x:MR} (h:L[j]? =some x):(mkP L)[j]? =some (x.b,mrO x):=by simp [mkP,h]
theorem Yo {L:List MR} {j:Nat} {x:MR} (h:L[j]? =some x):(x.b,mrO x)∈mkP L:=List.mem_of_getElem? (X9 h)
theorem Ep: ∀ {L:List MR} {x:MR},(L.map fun x=>(x.mark.c,x.mark.n)).Nodup→x∈L→mGet (keys L) x.mark.c x.mark.n=some x.b
 | [],x,_,h=>by cases h
 | y::L,x,hn,h=>by
  simp only [List.map_cons,List.nodup_cons] at hn
  unfold keys
  simp only [List.map_cons,mGet]
  rcases List.mem_cons.1 h with rfl | h
  ·simp
  ·rw [if_neg]
   ·exact Ep hn.2 h
   ·intro e
    exact hn.1 (List.mem_map.2 ⟨x,h,by rw [e.1,e.2]⟩)
theorem GV: ∀ {L:List MR} {c n:Int} {b:Nat},mGet (keys L) c n=some b→ ∃(j:Nat) (x:MR),L[j]? =some x∧x.mark.c=c∧x.mark.n=n∧x.b=b
 | [],c,n,b,h=>by simp [keys,mGet] at h
 | y::L,c,n,b,h=>by
  unfold keys at h
  simp only [List.map_cons,mGet] at h
  split at h
  ·rename_i e;exact ⟨0,y,by simp,e.1.symm,e.2.symm,Option.some.inj h⟩
  ·obtain ⟨j,x,h1,h2⟩:=GV (L:=L) h
   exact ⟨j+1,x,by simpa using h1,h2⟩
theorem HR.nodup {H:Hist} {L:List MR} (h:HR H L):(L.map fun x=>(x.mark.c,x.mark.n)).Nodup:=by
 have h1:(L.map fun x=>(x.mark.c,x.mark.n))=(L.map (·.mark)).map fun x=>(x.c,x.n):=by simp [List.map_map,Function.comp_def]
 rw [h1,(h.perm.map _).nodup_iff,marksFrom_ids]
 exact h.ids
theorem HR.look {H:Hist} {L:List MR} (h:HR H L) {k:Nat} (hk:k<H.ents.length): ∃(j:Nat) (x:MR),L[j]? =some x∧x.mark=markAt k H.ents[k] ∧mGet (keys L) H.ents[k].op.c H.ents[k].op.n=some x.b:=by
 have h1:=QL H.ents 0 k _ (List.getElem?_eq_getElem hk)
 have h2:=(h.perm.mem_iff).2 (List.mem_of_getElem? h1)
 obtain ⟨x,hx,hm⟩:=List.mem_map.1 h2
 obtain ⟨j,hj,rfl⟩:=List.mem_iff_getElem.1 hx
 rw [Nat.zero_add] at hm
 refine ⟨j,L[j],List.getElem?_eq_getElem hj,hm,?_⟩
 have:=Ep h.nodup hx
 rw [hm] at this
 exact this
def J5 (l:List Ent) (c n:Int):Option Nat:=l.findIdx? fun e=>decide (c=e.op.c) && decide (n=e.op.n)
theorem KI {l:List Ent} {c n:Int} {k:Nat} (h:J5 l c n=some k): ∃hk:k<l.length,l[k].op.c=c∧l[k].op.n=n:=by
 obtain ⟨hk,h1,_⟩:=List.findIdx?_eq_some_iff_getElem.1 h
 simp at h1
 exact ⟨hk,h1.1.symm,h1.2.symm⟩
theorem Yj {l:List Ent} {c n:Int} (h:J5 l c n=none): ∀e∈l,¬(e.op.c=c∧e.op.n=n):=fun e he hh=>by
 have:=List.findIdx?_eq_none_iff.1 h e he
 simp [hh.1,hh.2] at this
theorem HR.look0 {H:Hist} {L:List MR} (h:HR H L) {c n:Int} (hn:J5 H.ents c n=none):mGet (keys L) c n=none:=by
 cases hg:mGet (keys L) c n with
 | none=>rfl
 | some b=>
  obtain ⟨j,x,h1,h2,h3,_⟩:=GV hg
  have h4:=(h.perm.mem_iff).1 (List.mem_map.2 ⟨x,List.mem_of_getElem? h1,rfl⟩)
  obtain ⟨k,e,h5,h6⟩:=V1 h4
  have h7:=Yj hn e (List.mem_of_getElem? h5)
  rw [h6] at h2 h3
  exact absurd ⟨h2,h3⟩ h7
theorem HR.look1 {H:Hist} {L:List MR} (h:HR H L) {c n:Int} {k:Nat} (hn:J5 H.ents c n=some k): ∃(hk:k<H.ents.length) (j:Nat) (x:MR),H.ents[k].op.c=c∧H.ents[k].op.n=n∧L[j]? =some x∧x.mark=markAt k H.ents[k] ∧mGet (keys L) c n=some x.b:=by
 obtain ⟨hk,rfl,rfl⟩:=KI hn
 obtain ⟨j,x,h1,h2,h3⟩:=h.look hk
 exact ⟨hk,j,x,V,V,h1,h2,h3⟩
def sumW:List Ent→Int
 | [] =>0
 | e::r=>Jr e.op+sumW r
theorem XE: ∀(a b:List Ent),sumW (a++b)=sumW a+sumW b
 | [],b=>by simp [sumW]
 | e::a,b=>by simp [sumW,XE a b];omega
theorem Hv: ∀(l:List Ent),(∀e∈l,Jr e.op≤256)→0≤sumW l∧sumW l≤256*l.length
 | [],_=>by simp [sumW]
 | e::r,h=>by
  have h1:=Hv r fun x hx=>h x (List.mem_cons_of_mem _ hx)
  have h2:=h e List.mem_cons_self
  have h3:=KP e.op
  simp only [sumW,List.length_cons]
  omega
def K6 (H:Hist) (i:Nat):Int:=sumW (H.ents.take i)
def fitsRest (H:Hist) (o:GOp):Int:=if H.total+Jr o>1048576 then 24 else 0
def fitsT (H:Hist) (i:Int) (o:GOp):Int:=
 match J5 H.ents o.tc o.tn with
 | none=>60
 | some k=>if (k:Int)≥i then 60 else match H.ents[k]? with
  | some e=>if e.op.kind=4 then 63 else fitsRest H o
  | none=>60
def fitsF (H:Hist) (i:Int) (o:GOp):Int:=
 if i<0∨i>H.ents.length then 12
 else if checkF o (K6 H i.toNat)≠0 then checkF o (K6 H i.toNat)
 else if o.kind=3 then 40
 else if o.c=0∧o.n=0 then 41
 else if (J5 H.ents o.c o.n).isSome then 61
 else if o.kind=4 then fitsT H i o
 else fitsRest H o
def movedAll:List Ent→Int→Int→Except Int (List (List Rg))
 | [],_,_=> .ok []
 | e::r,at_,n=>if (thrF e.now at_ n).2≠0 then .error (thrF e.now at_ n).2 else match movedAll r at_ n with
  | .error x=> .error x
  | .ok ls=> .ok ((thrF e.now at_ n).1::ls)
def turnF (e:Ent) (on:Bool):GOp:= { zeroOp with kind:=if (decide (e.op.kind=2)==on)=true then 2 else 3,rs:=e.now }
def Yv (l:List Ent) (c n:Int):Bool:=l.any fun e=>decide (e.op.kind=4) && (decide (e.op.tc=c) && decide (e.op.tn=n))
def offE (e:Ent) (b:Bool):Ent:=⟨e.op,e.now,b⟩
def turnedF (H:Hist) (i:Nat) (o:GOp):List Ent×GOp:=
 if Yv (H.ents.drop i) o.tc o.tn=true then (H.ents,zeroOp)
 else match J5 H.ents o.tc o.tn with
  | none=>(H.ents,zeroOp)
  | some k=>match H.ents[k]? with
   | none=>(H.ents,zeroOp)
   | some e=>if e.off= !o.on then (H.ents,zeroOp) else (H.ents.set k (offE e (!o.on)),turnF e o.on)
theorem erase_perm {α:Type} : ∀ {l:List α} {n:Nat} (h:n<l.length),(l[n] ::l.eraseIdx n).Perm l
 | [],n,h=>by simp at h
 | a::l,0,h=>by simp
 | a::l,n+1,h=>by
  have h':n<l.length:=by simpa using h
  simp only [List.getElem_cons_succ,List.eraseIdx_cons_succ]
  exact (List.Perm.swap a l[n] _).trans ((erase_perm h').cons a)
theorem QI {α:Type} : ∀ {l:List α} {n:Nat} (h:n<l.length) (b:α),(l.set n b).Perm (b::l.eraseIdx n)
 | [],n,h,b=>by simp at h
 | a::l,0,h,b=>by simp
 | a::l,n+1,h,b=>by
  have h':n<l.length:=by simpa using h
  simp only [List.set_cons_succ,List.eraseIdx_cons_succ]
  exact ((QI h' b).cons a).trans (List.Perm.swap b a _)
theorem set_perm {α:Type} {l M:List α} {j k:Nat} {a:α} (h:l.Perm M) (hj:l[j]? =some a) (hk:M[k]? =some a) (b:α):(l.set j b).Perm (M.set k b):=by
 have hjl:j<l.length:=by
  rcases Nat.lt_or_ge j l.length with h | h
  ·exact h
  ·rw [List.getElem?_eq_none h] at hj;cases hj
 have hkl:k<M.length:=by
  rcases Nat.lt_or_ge k M.length with h | h
  ·exact h
  ·rw [List.getElem?_eq_none h] at hk;cases hk
 have e1:l[j] =a:=by rw [List.getElem?_eq_getElem hjl] at hj;exact Option.some.inj hj
 have e2:M[k] =a:=by rw [List.getElem?_eq_getElem hkl] at hk;exact Option.some.inj hk
 have h1:(a::l.eraseIdx j).Perm (a::M.eraseIdx k):=by
  have p1:=erase_perm hjl
  have p2:=erase_perm hkl
  rw [e1] at p1;rw [e2] at p2
  exact (p1.trans h).trans p2.symm
 have h2:=h1.cons_inv
 exact ((QI hjl b).trans (h2.cons b)).trans (QI hkl b).symm
theorem V0: ∀(l:List Ent) (k j:Nat) (e:Ent),j<l.length→marksFrom (l.set j e) k=(marksFrom l k).set j (markAt (k+j) e)
 | [],_,j,e,h=>by simp at h
 | a::r,k,0,e,h=>by simp [marksFrom]
 | a::r,k,j+1,e,h=>by
  have:=V0 r (k+1) j e (by simpa using h)
  simp only [marksFrom,List.set_cons_succ,this]
  congr 2;congr 1;omega
theorem HR.upd {H:Hist} {L:List MR} (h:HR H L) {k j:Nat} (hk:k<H.ents.length) {x:MR} (hj:L[j]? =some x) (hm:x.mark=markAt k H.ents[k]) (e':Ent) (he:e'.op=H.ents[k].op) (hn:e'.now.length≤4398046511104) (A':Option Addr) (c':Nat):
  HR ⟨H.ents.set k e',H.total⟩ (L.set j ⟨markAt k e',x.b,A',c'⟩):=by
 have hjl:j<L.length:=by
  rcases Nat.lt_or_ge j L.length with h | h
  ·exact h
  ·rw [List.getElem?_eq_none h] at hj;cases hj
 refine ⟨?_,?_,?_,?_,?_,by simpa using h.len,h.tot⟩
 ·rw [List.map_set,V0 _ _ _ _ hk,Nat.zero_add]
  refine set_perm h.perm (a:=markAt k H.ents[k]) ?_ ?_ _
  ·rw [List.getElem?_map,hj];simp [hm]
  ·have:=QL H.ents 0 k _ (List.getElem?_eq_getElem hk)
   rwa [Nat.zero_add] at this
 ·have:((H.ents.set k e').map fun e=>(e.op.c,e.op.n))=H.ents.map fun e=>(e.op.c,e.op.n):=by
   rw [List.map_set,he]
   apply List.ext_getElem
   ·simp
   ·intro i h1 h2
    rw [List.getElem_set]
    split
    ·rename_i e;subst e;simp
    ·rfl
  show ((H.ents.set k e').map fun e=>(e.op.c,e.op.n)).Nodup
  rw [this];exact h.ids
 ·intro e hmem
  rcases List.mem_or_eq_of_mem_set hmem with hmem | rfl
  ·exact h.fit e hmem
  ·rw [he];exact h.fit _ (List.getElem_mem hk)
 ·intro e hmem
  rcases List.mem_or_eq_of_mem_set hmem with hmem | rfl
  ·exact h.wid e hmem
  ·rw [he];exact h.wid _ (List.getElem_mem hk)
 ·intro e hmem
  rcases List.mem_or_eq_of_mem_set hmem with hmem | rfl
  ·exact h.now e hmem
  ·exact hn
theorem Gu {L:List MR} {j:Nat} {x y:MR} (hj:L[j]? =some x) (h1:y.mark.c=x.mark.c) (h2:y.mark.n=x.mark.n) (h3:y.b=x.b):keys (L.set j y)=keys L:=by
 have hjl:j<L.length:=by
  rcases Nat.lt_or_ge j L.length with h | h
  ·exact h
  ·rw [List.getElem?_eq_none h] at hj;cases hj
 have e1:L[j] =x:=by rw [List.getElem?_eq_getElem hjl] at hj;exact Option.some.inj hj
 unfold keys
 rw [List.map_set,h1,h2,h3,←e1]
 apply List.ext_getElem
 ·simp
 ·intro i g1 g2
  rw [List.getElem_set]
  split
  ·rename_i e;subst e;simp
  ·rfl
theorem En (L:List MR) (j:Nat) (y:MR):mkP (L.set j y)=(mkP L).set j (y.b,mrO y):=by unfold mkP;rw [List.map_set]
theorem Em {L:List MR} {j:Nat} {y:MR} {Z:Nat→Prop} {w:World} (h:(AllF L nowF).holds Z w) (hy:(nowF y).holds Z w):(AllF (L.set j y) nowF).holds Z w:=fun x hx=>by
 rcases List.mem_or_eq_of_mem_set hx with hx | rfl
 ·exact h x hx
 ·exact hy
theorem Gx {H:Hist} {k:Nat} (hk:k<H.ents.length) (e':Ent) (he:e'.op=H.ents[k].op) (t:Int):(⟨H.ents.set k e',t⟩:Hist).ops=H.ops:=by
 unfold Hist.ops
 simp only [List.map_set,he]
 apply List.ext_getElem
 ·simp
 ·intro i h1 h2
  rw [List.getElem_set]
  split
  ·rename_i e;subst e;simp
  ·rfl
structure Same (a b:GOp):Prop where
 c:b.c=a.c
 n:b.n=a.n
 kind:b.kind=a.kind
 text:b.text=a.text
 tc:b.tc=a.tc
 tn:b.tn=a.tn
 on:b.on=a.on
inductive Sames:List GOp→List GOp→Prop
 | nil:Sames [] []
 | cons {a b:GOp} {l m:List GOp} (h:Same a b) (hr:Sames l m):Sames (a::l) (b::m)
theorem Same.refl (a:GOp):Same a a:=⟨rfl,rfl,rfl,rfl,rfl,rfl,rfl⟩
theorem Same.trans {a b c:GOp} (h:Same a b) (k:Same b c):Same a c:=⟨k.c.trans h.c,k.n.trans h.n,k.kind.trans h.kind,k.text.trans h.text,k.tc.trans h.tc,k.tn.trans h.tn,k.on.trans h.on⟩
theorem Same.width {a b:GOp} (h:Same a b):Jr b=Jr a:=by unfold Jr;rw [h.kind,h.text]
theorem Sames.refl: ∀l,Sames l l
 | [] => .nil
 | a::l=> .cons (Same.refl a) (Sames.refl l)
theorem Sames.trans: ∀ {a b c:List GOp},Sames a b→Sames b c→Sames a c
 | _,_,_, .nil, .nil=> .nil
 | _,_,_, .cons h r, .cons k s=> .cons (h.trans k) (r.trans s)
theorem Sames.length {a b:List GOp} (h:Sames a b):b.length=a.length:=by
 induction h with
 | nil=>rfl
 | cons _ _ ih=>simp [ih]
theorem Sames.get {a b:List GOp} (h:Sames a b): ∀(k:Nat) (hk:k<a.length) (hk':k<b.length),Same a[k] b[k] :=by
 induction h with
 | nil=>intro k hk;simp at hk
 | cons h _ ih=>
  intro k hk hk'
  cases k with
  | zero=>exact h
  | succ k=>exact ih k (by simpa using hk) (by simpa using hk')
theorem include_same {a b:GOp} {e:Bool} (h:(JM a b e).2=0):Same a (JM a b e).1:=by
 unfold JM at h ⊢
 split at h
 ·cases h
 ·rename_i h1
  rw [if_neg h1]
  split at h
  ·rename_i h2;rw [if_pos h2];exact Same.refl a
  ·rename_i h2
   rw [if_neg h2]
   split at h
   ·rename_i h3
    rw [if_pos h3]
    split at h
    ·rename_i h4
     rw [if_pos h4]
     unfold movedF at h ⊢
     split at h
     ·cases h
     ·rename_i h5;rw [if_neg h5];exact ⟨rfl,rfl,rfl,rfl,rfl,rfl,rfl⟩
    ·rename_i h4;rw [if_neg h4];exact Same.refl a
   ·rename_i h3
    rw [if_neg h3]
    split at h
    ·rename_i h4
     rw [if_pos h4]
     unfold rangedF at h ⊢
     split at h
     ·rename_i h5;exact absurd h h5
     ·rename_i h5;rw [if_neg h5];exact ⟨rfl,rfl,rfl,rfl,rfl,rfl,rfl⟩
    ·rename_i h4;rw [if_neg h4];exact Same.refl a
theorem crossIn_same: ∀ {fs:List GOp} {l l':GOp} {fs':List GOp},crossIn l fs= .ok (l',fs')→Same l l'∧Sames fs fs'
 | [],l,l',fs',h=>by
  simp only [crossIn,Except.ok.injEq,Prod.mk.injEq] at h
  obtain ⟨rfl,rfl⟩:=h
  exact ⟨Same.refl _, .nil⟩
 | f::fs,l,l',fs',h=>by
  by_cases h1:(JM l f true).2≠0
  ·rw [crossIn_err1 h1] at h;cases h
  ·by_cases h2:(JM f l false).2≠0
   ·rw [crossIn_err2 h1 h2] at h;cases h
   ·rw [QB h1 h2] at h
    cases hq:crossIn (JM l f true).1 fs with
    | error e=>rw [hq] at h;cases h
    | ok r=>
     obtain ⟨x,y⟩:=r
     rw [hq] at h
     simp only [putIn,Except.ok.injEq,Prod.mk.injEq] at h
     obtain ⟨rfl,rfl⟩:=h
     obtain ⟨k1,k2⟩:=crossIn_same hq
     exact ⟨(include_same (by simpa using h1)).trans k1, .cons (include_same (by simpa using h2)) k2⟩
theorem crossOut_same: ∀ {ls fs a b:List GOp},crossOut fs ls= .ok (a,b)→Sames fs a∧Sames ls b
 | [],fs,a,b,h=>by
  simp only [crossOut,Except.ok.injEq,Prod.mk.injEq] at h
  obtain ⟨rfl,rfl⟩:=h
  exact ⟨Sames.refl _, .nil⟩
 | l::ls,fs,a,b,h=>by
  rw [Yz] at h
  cases hq:crossIn l fs with
  | error e=>rw [hq] at h;cases h
  | ok r=>
   obtain ⟨l',fs'⟩:=r
   rw [hq] at h
   unfold restOut at h
   simp only at h
   cases hq2:crossOut fs' ls with
   | error e=>rw [hq2] at h;cases h
   | ok r2=>
    obtain ⟨x,y⟩:=r2
    rw [hq2] at h
    simp only [Except.ok.injEq,Prod.mk.injEq] at h
    obtain ⟨rfl,rfl⟩:=h
    obtain ⟨k1,k2⟩:=crossIn_same hq
    obtain ⟨k3,k4⟩:=crossOut_same hq2
    exact ⟨k2.trans k3, .cons k1 k4⟩
theorem crossIn_ne: ∀ {fs:List GOp} {l:GOp} {e:Int},crossIn l fs= .error e→e≠0
 | [],l,e,h=>by simp [crossIn] at h
 | f::fs,l,e,h=>by
  by_cases h1:(JM l f true).2≠0
  ·rw [crossIn_err1 h1] at h;cases h;exact h1
  ·by_cases h2:(JM f l false).2≠0
   ·rw [crossIn_err2 h1 h2] at h;cases h;exact h2
   ·rw [QB h1 h2] at h
    cases hq:crossIn (JM l f true).1 fs with
    | error e'=>rw [hq] at h;cases h;exact crossIn_ne hq
    | ok r=>rw [hq] at h;obtain ⟨a,b⟩:=r;cases h
theorem crossOut_ne: ∀ {ls fs:List GOp} {e:Int},crossOut fs ls= .error e→e≠0
 | [],fs,e,h=>by simp [crossOut] at h
 | l::ls,fs,e,h=>by
  rw [Yz] at h
  cases hq:crossIn l fs with
  | error e'=>rw [hq] at h;cases h;exact crossIn_ne hq
  | ok r=>
   obtain ⟨l',fs'⟩:=r
   rw [hq] at h
   unfold restOut at h
   simp only at h
   cases hq2:crossOut fs' ls with
   | error e'=>rw [hq2] at h;cases h;exact crossOut_ne hq2
   | ok r2=>rw [hq2] at h;obtain ⟨a,b⟩:=r2;cases h
theorem crossIn_fit: ∀ {fs:List GOp} {l l':GOp} {fs':List GOp},Fit l→(∀o∈fs,Fit o)→crossIn l fs= .ok (l',fs')→Fit l'∧ ∀o∈fs',Fit o
 | [],l,l',fs',hl,hf,h=>by
  simp only [crossIn,Except.ok.injEq,Prod.mk.injEq] at h
  obtain ⟨rfl,rfl⟩:=h
  exact ⟨hl,hf⟩
 | f::fs,l,l',fs',hl,hf,h=>by
  have hff:=hf f List.mem_cons_self
  by_cases h1:(JM l f true).2≠0
  ·rw [crossIn_err1 h1] at h;cases h
  ·by_cases h2:(JM f l false).2≠0
   ·rw [crossIn_err2 h1 h2] at h;cases h
   ·rw [QB h1 h2] at h
    cases hq:crossIn (JM l f true).1 fs with
    | error e=>rw [hq] at h;cases h
    | ok r=>
     obtain ⟨x,y⟩:=r
     rw [hq] at h
     simp only [putIn,Except.ok.injEq,Prod.mk.injEq] at h
     obtain ⟨rfl,rfl⟩:=h
     obtain ⟨k1,k2⟩:=crossIn_fit (hl.include hff true) (fun o ho=>hf o (List.mem_cons_of_mem _ ho)) hq
     refine ⟨k1,fun o ho=> ?_⟩
     rcases List.mem_cons.1 ho with rfl | ho
     ·exact hff.include hl false
     ·exact k2 o ho
theorem crossOut_fit: ∀ {ls fs a b:List GOp},(∀o∈fs,Fit o)→(∀o∈ls,Fit o)→crossOut fs ls= .ok (a,b)→(∀o∈a,Fit o)∧ ∀o∈b,Fit o
 | [],fs,a,b,hf,hl,h=>by
  simp only [crossOut,Except.ok.injEq,Prod.mk.injEq] at h
  obtain ⟨rfl,rfl⟩:=h
  exact ⟨hf,hl⟩
 | l::ls,fs,a,b,hf,hl,h=>by
  rw [Yz] at h
  cases hq:crossIn l fs with
  | error e=>rw [hq] at h;cases h
  | ok r=>
   obtain ⟨l',fs'⟩:=r
   rw [hq] at h
   unfold restOut at h
   simp only at h
   cases hq2:crossOut fs' ls with
   | error e=>rw [hq2] at h;cases h
   | ok r2=>
    obtain ⟨x,y⟩:=r2
    rw [hq2] at h
    simp only [Except.ok.injEq,Prod.mk.injEq] at h
    obtain ⟨rfl,rfl⟩:=h
    obtain ⟨k1,k2⟩:=crossIn_fit (hl l List.mem_cons_self) hf hq
    obtain ⟨k3,k4⟩:=crossOut_fit k2 (fun o ho=>hl o (List.mem_cons_of_mem _ ho)) hq2
    refine ⟨k3,fun o ho=> ?_⟩
    rcases List.mem_cons.1 ho with rfl | ho
    ·exact k1
    ·exact k4 o ho
theorem Hl {xs ys:List GOp} (hx: ∀o∈xs,Fit o) (hy: ∀o∈ys,Fit o):(∀o∈(crossF xs ys).1,Fit o)∧ ∀o∈(crossF xs ys).2.1,Fit o:=by
 have h0: ∀e:Int,(∀o∈(([],[],e):List GOp×List GOp×Int).1,Fit o)∧ ∀o∈(([],[],e):List GOp×List GOp×Int).2.1,Fit o:=fun e=>⟨fun o h=>by simp at h,fun o h=>by simp at h⟩
 by_cases h1:ownsF xs≠0
 ·rw [EX h1];exact h0 _
 ·by_cases h2:ownsF ys≠0
  ·rw [EW (by simpa using h1) h2];exact h0 _
  ·cases hq:crossOut xs ys with
   | error e=>rw [GB (by simpa using h1) (by simpa using h2) hq];exact h0 _
   | ok r=>
    obtain ⟨a,b⟩:=r
    rw [GA (by simpa using h1) (by simpa using h2) hq]
    exact crossOut_fit hx hy hq
theorem XO {xs ys:List GOp} (h:(crossF xs ys).2.2=0):Sames xs (crossF xs ys).1∧Sames ys (crossF xs ys).2.1:=by
 unfold crossF at h ⊢
 split at h
 ·rename_i h1;exact absurd h h1
 ·rename_i h1
  rw [if_neg h1]
  split at h
  ·rename_i h2;exact absurd h h2
  ·rename_i h2
   rw [if_neg h2]
   cases hq:crossOut xs ys with
   | error e=>rw [hq] at h;simp only at h;exact absurd h (crossOut_ne hq)
   | ok r=>obtain ⟨a,b⟩:=r;exact crossOut_same hq
def zipE:List GOp→List Ent→List Ent
 | x::xs,e::es=>⟨x,e.now,e.off⟩::zipE xs es
 | _,_=> []
def newEnts (i:Nat) (o:GOp) (now:List Rg) (es:List Ent) (later:List GOp):List Ent:=es.take i++⟨o,now,false⟩::zipE later (es.drop i)
def setNow:List Ent→List (List Rg)→Nat→List Ent
 | e::es,l::ls,k+1=>⟨e.op,l,e.off⟩::setNow es ls k
 | es,_,_=>es
def effF (o:GOp):GOp:= { zeroOp with kind:=o.kind }
structure Mid where
 es:List Ent
 now:List Rg
 eff:GOp
def midF (H:Hist) (i:Nat) (o t:GOp):Except Int Mid:=
 if o.kind=1 then match movedAll H.ents t.at_ (Jr o) with
  | .error e=> .error e
  | .ok ls=> .ok ⟨setNow H.ents ls H.ents.length,[⟨t.at_,t.at_+Jr o⟩],{ effF o with at_:=t.at_,text:=o.text }⟩
 else if o.kind=2 then .ok ⟨H.ents,t.rs,{ effF o with rs:=t.rs }⟩
 else if o.kind=4 then .ok ⟨(turnedF H i o).1,[],(turnedF H i o).2⟩
 else .ok ⟨H.ents,[],effF o⟩
def putF (H:Hist) (i:Int) (o:GOp):Hist×GOp×Int:=
 if fitsF H i o≠0 then (H,zeroOp,fitsF H i o)
 else if (crossF [o] (H.ops.drop i.toNat)).2.2≠0 then (H,zeroOp,(crossF [o] (H.ops.drop i.toNat)).2.2)
 else match midF H i.toNat o ((crossF [o] (H.ops.drop i.toNat)).1.headD zeroOp) with
  | .error e=>(H,zeroOp,e)
  | .ok m=>(⟨newEnts i.toNat o m.now m.es (crossF [o] (H.ops.drop i.toNat)).2.1,H.total+Jr o⟩,m.eff,0)
theorem zipE_ops: ∀(xs:List GOp) (es:List Ent),xs.length=es.length→(zipE xs es).map (·.op)=xs
 | [],[],_=>rfl
 | x::xs,e::es,h=>by simp [zipE,zipE_ops xs es (by simpa using h)]
theorem XD: ∀(xs:List GOp) (es:List Ent),xs.length=es.length→(zipE xs es).length=es.length
 | [],[],_=>rfl
 | x::xs,e::es,h=>by simp [zipE,XD xs es (by simpa using h)]
theorem VY: ∀(es:List Ent) (ls:List (List Rg)) (k:Nat),(setNow es ls k).length=es.length
 | [],_,_=>by simp [setNow]
 | e::es,[],k=>by simp [setNow]
 | e::es,l::ls,0=>by simp [setNow]
 | e::es,l::ls,k+1=>by simp [setNow,VY es ls k]
theorem setNow_ops: ∀(es:List Ent) (ls:List (List Rg)) (k:Nat),(setNow es ls k).map (·.op)=es.map (·.op)
 | [],_,_=>by simp [setNow]
 | e::es,[],k=>by simp [setNow]
 | e::es,l::ls,0=>by simp [setNow]
 | e::es,l::ls,k+1=>by simp [setNow,setNow_ops es ls k]
theorem XF (es:List Ent) (ls:List (List Rg)):setNow es ls 0=es:=by cases es<;>cases ls<;>rfl
theorem Gk: ∀(es:List Ent) (ls:List (List Rg)) (k:Nat) (h:k<es.length),(setNow es ls k)[k]? =some es[k]
 | e::es,[],k,h=>by simp only [setNow];exact List.getElem?_eq_getElem h
 | e::es,l::ls,0,_=>by simp [setNow]
 | e::es,l::ls,k+1,h=>by simpa [setNow] using Gk es ls k (by simpa using h)
theorem setNow_succ: ∀(es:List Ent) (ls:List (List Rg)) (k:Nat) (h:k<es.length) (h2:k<ls.length),setNow es ls (k+1)=(setNow es ls k).set k ⟨es[k].op,ls[k],es[k].off⟩
 | e::es,l::ls,0,_,_=>by simp [setNow,XF]
 | e::es,l::ls,k+1,h,h2=>by
  have:=setNow_succ es ls k (by simpa using h) (by simpa using h2)
  simp only [setNow,List.set_cons_succ,List.getElem_cons_succ]
  rw [←this]
theorem Vs: ∀ {es:List Ent} {at_ n:Int} {ls:List (List Rg)},movedAll es at_ n= .ok ls→ls.length=es.length
 | [],_,_,ls,h=>by simp only [movedAll,Except.ok.injEq] at h;subst h;rfl
 | e::es,at_,n,ls,h=>by
  unfold movedAll at h
  split at h
  ·cases h
  ·cases hq:movedAll es at_ n with
   | error x=>rw [hq] at h;cases h
   | ok l=>rw [hq] at h;simp only [Except.ok.injEq] at h;subst h;simp [Vs hq]
theorem XJ: ∀ {es:List Ent} {at_ n:Int} {ls:List (List Rg)},movedAll es at_ n= .ok ls→ ∀l∈ls,l.length≤32768
 | [],_,_,ls,h,l,hl=>by simp only [movedAll,Except.ok.injEq] at h;subst h;cases hl
 | e::es,at_,n,ls,h,l,hl=>by
  unfold movedAll at h
  split at h
  ·cases h
  ·cases hq:movedAll es at_ n with
   | error x=>rw [hq] at h;cases h
   | ok r=>
    rw [hq] at h;simp only [Except.ok.injEq] at h;subst h
    rcases List.mem_cons.1 hl with rfl | hl
    ·exact ED _ _ _
    ·exact XJ hq l hl
def marksG:List Ent→(Nat→Nat)→Nat→List Mark
 | [],_,_=> []
 | e::r,f,j=>markAt (f j) e::marksG r f (j+1)
theorem marksG_id: ∀(l:List Ent) (k:Nat),marksG l (fun j=>j) k=marksFrom l k
 | [],_=>rfl
 | e::r,k=>by simp [marksG,marksFrom,marksG_id r (k+1)]
theorem marksG_congr: ∀(l:List Ent) (f g:Nat→Nat) (k:Nat),(∀j,j<l.length→f (k+j)=g (k+j))→marksG l f k=marksG l g k
 | [],_,_,_,_=>rfl
 | e::r,f,g,k,h=>by
  have h0:=h 0 (by simp)
  simp only [Nat.add_zero] at h0
  simp only [marksG,h0]
  rw [marksG_congr r f g (k+1) fun j hj=>by have:=h (j+1) (by simpa using hj);rw [show k+1+j=k+(j+1) from by omega];exact this]
theorem QK: ∀(a b:List Ent) (f:Nat→Nat) (k:Nat),marksG (a++b) f k=marksG a f k++marksG b f (k+a.length)
 | [],b,f,k=>by simp [marksG]
 | e::a,b,f,k=>by
  simp only [List.cons_append,marksG,QK a b f (k+1),List.length_cons]
  rw [show k+1+a.length=k+(a.length+1) from by omega]
theorem V9: ∀(l:List Ent) (f:Nat→Nat) (k j:Nat) (e:Ent),l[j]? =some e→(marksG l f k)[j]? =some (markAt (f (k+j)) e)
 | [],_,_,j,e,h=>by simp at h
 | a::r,f,k,0,e,h=>by simp at h;subst h;simp [marksG]
 | a::r,f,k,j+1,e,h=>by
  have:=V9 r f (k+1) j e (by simpa using h)
  simp only [marksG,List.getElem?_cons_succ,this]
  rw [show k+1+j=k+(j+1) from by omega]
theorem marksG_ids: ∀(l:List Ent) (f:Nat→Nat) (k:Nat),(marksG l f k).map (fun x=>(x.c,x.n))=l.map fun e=>(e.op.c,e.op.n)
 | [],_,_=>rfl
 | a::r,f,k=>by simp [marksG,markAt,marksG_ids r f (k+1)]
theorem Gt: ∀(l:List Ent) (f:Nat→Nat) (k j v:Nat) (h:j<l.length),marksG l (fun q=>if q=k+j then v else f q) k=(marksG l f k).set j (markAt v l[j])
 | [],_,_,j,v,h=>by simp at h
 | a::r,f,k,0,v,h=>by
  simp only [marksG,List.set_cons_zero,Nat.add_zero,if_true,List.getElem_cons_zero]
  rw [marksG_congr r _ f (k+1) fun j _=>if_neg (by omega)]
 | a::r,f,k,j+1,v,h=>by
  have:=Gt r f (k+1) j v (by simpa using h)
  simp only [marksG,List.set_cons_succ,List.getElem_cons_succ,if_neg (by omega: ¬k=k+(j+1))]
  rw [show k+(j+1)=k+1+j from by omega,this]
structure HN (F:List Ent) (L:List MR) (f:Nat→Nat):Prop where
 perm:(L.map (·.mark)).Perm (marksG F f 0)
 ids:(F.map fun e=>(e.op.c,e.op.n)).Nodup
theorem HN.nodup {F:List Ent} {L:List MR} {f:Nat→Nat} (h:HN F L f):(L.map fun x=>(x.mark.c,x.mark.n)).Nodup:=by
 have h1:(L.map fun x=>(x.mark.c,x.mark.n))=(L.map (·.mark)).map fun x=>(x.c,x.n):=by simp [List.map_map,Function.comp_def]
 rw [h1,(h.perm.map _).nodup_iff,marksG_ids]
 exact h.ids
theorem HN.look {F:List Ent} {L:List MR} {f:Nat→Nat} (h:HN F L f) {k:Nat} (hk:k<F.length): ∃(j:Nat) (x:MR),L[j]? =some x∧x.mark=markAt (f k) F[k] ∧mGet (keys L) F[k].op.c F[k].op.n=some x.b:=by
 have h1:=V9 F f 0 k _ (List.getElem?_eq_getElem hk)
 have h2:=(h.perm.mem_iff).2 (List.mem_of_getElem? h1)
 obtain ⟨x,hx,hm⟩:=List.mem_map.1 h2
 obtain ⟨j,hj,rfl⟩:=List.mem_iff_getElem.1 hx
 rw [Nat.zero_add] at hm
 refine ⟨j,L[j],List.getElem?_eq_getElem hj,hm,?_⟩
 have:=Ep h.nodup hx
 rw [hm] at this
 exact this
theorem HN.upd {F:List Ent} {L:List MR} {f:Nat→Nat} (h:HN F L f) {k j:Nat} (hk:k<F.length) {x:MR} (hj:L[j]? =some x) (hm:x.mark=markAt (f k) F[k]):HN F (L.set j ⟨markAt k F[k],x.b,x.A,x.cap⟩) (fun q=>if q=k then k else f q):=by
 refine ⟨?_,h.ids⟩
 have e:=Gt F f 0 k k hk
 simp only [Nat.zero_add] at e
 rw [List.map_set,e]
 refine set_perm h.perm (a:=markAt (f k) F[k]) ?_ ?_ _
 ·rw [List.getElem?_map,hj];simp [hm]
 ·have:=V9 F f 0 k _ (List.getElem?_eq_getElem hk)
  rwa [Nat.zero_add] at this
def numF (i k j:Nat):Nat:=if j<k then j else if j≤i then j else j-1
theorem HN.next {F:List Ent} {L:List MR} {i k:Nat} (h:HN F L (fun q=>if q=k then k else numF i k q)):HN F L (numF i (k+1)):=by
 refine ⟨?_,h.ids⟩
 rw [marksG_congr F (numF i (k+1)) (fun q=>if q=k then k else numF i k q) 0 fun j _=> ?_]
 ·exact h.perm
 ·simp only [Nat.zero_add,numF]
  by_cases e:j=k
  ·subst e;simp
  ·rw [if_neg e]
   by_cases e2:j<k
   ·rw [if_pos e2,if_pos (by omega)]
   ·rw [if_neg e2,if_neg (by omega)]
theorem marksG_zipE: ∀(xs:List GOp) (es:List Ent) (f g:Nat→Nat) (k k':Nat),Sames (es.map (·.op)) xs→(∀j,j<es.length→f (k+j)=g (k'+j))→marksG (zipE xs es) f k=marksG es g k'
 | [],[],_,_,_,_,_,_=>rfl
 | x::xs,e::es,f,g,k,k',h,hf=>by
  cases h with
  | cons h hr=>
   have h0:=hf 0 (by simp)
   simp only [Nat.add_zero] at h0
   simp only [zipE,marksG,markAt,h0,h.c,h.n]
   congr 1
   exact marksG_zipE xs es f g (k+1) (k'+1) hr fun j hj=>by
    have:=hf (j+1) (by simpa using hj)
    rw [show k+1+j=k+(j+1) from by omega,show k'+1+j=k'+(j+1) from by omega];exact this
 | [],e::es,_,_,_,_,h,_=>by cases h
 | x::xs,[],_,_,_,_,h,_=>by cases h
theorem ids_zipE: ∀(xs:List GOp) (es:List Ent),Sames (es.map (·.op)) xs→(zipE xs es).map (fun e=>(e.op.c,e.op.n))=es.map fun e=>(e.op.c,e.op.n)
 | [],[],_=>rfl
 | x::xs,e::es,h=>by
  cases h with
  | cons h hr=>simp [zipE,h.c,h.n,ids_zipE xs es hr]
 | [],e::es,h=>by cases h
 | x::xs,[],h=>by cases h
theorem HN.start {es:List Ent} {L:List MR} {t:Int} (h:HR ⟨es,t⟩ L) {i:Nat} (hi:i≤es.length) {o:GOp} {nw:List Rg} {later:List GOp} (hs:Sames ((es.drop i).map (·.op)) later) (hn:J5 es o.c o.n=none) (b:Nat) (A:Option Addr) (c:Nat):
  HN (newEnts i o nw es later) (L++ [⟨markAt i ⟨o,nw,false⟩,b,A,c⟩]) (numF i i):=by
 have hlen:(es.take i).length=i:=by rw [List.length_take];omega
 constructor
 ·unfold newEnts
  rw [QK,hlen,List.map_append,Nat.zero_add]
  simp only [marksG,List.map_cons,List.map_nil]
  have e1:marksG (es.take i) (numF i i) 0=marksG (es.take i) (fun j=>j) 0:=marksG_congr _ _ _ _ fun j hj=>by rw [hlen] at hj;simp only [Nat.zero_add,numF,if_pos hj]
  have e2:marksG (zipE later (es.drop i)) (numF i i) (i+1)=marksG (es.drop i) (fun j=>j) i:=marksG_zipE _ _ _ _ _ _ hs fun j hj=>by
   simp only [numF];rw [if_neg (by omega),if_neg (by omega)];omega
  have e3:marksFrom es 0=marksG (es.take i) (fun j=>j) 0++marksG (es.drop i) (fun j=>j) i:=by
   rw [←marksG_id]
   conv=>lhs;rw [←List.take_append_drop i es]
   rw [QK,hlen,Nat.zero_add]
  have e4:numF i i i=i:=by simp [numF]
  rw [e1,e2,e4]
  have p1:=h.perm
  simp only at p1
  rw [e3] at p1
  refine (p1.append_right _).trans ?_
  rw [List.append_assoc]
  refine List.Perm.append_left _ ?_
  exact List.perm_append_comm
 ·have h1:=h.ids
  simp only at h1
  unfold newEnts
  rw [List.map_append,List.map_cons,ids_zipE _ _ hs]
  have e:(es.map fun e=>(e.op.c,e.op.n))=((es.take i).map fun e=>(e.op.c,e.op.n))++((es.drop i).map fun e=>(e.op.c,e.op.n)):=by rw [←List.map_append,List.take_append_drop]
  have hnot:(o.c,o.n)∉es.map fun e=>(e.op.c,e.op.n):=fun hm=>by
   obtain ⟨x,hx,hh⟩:=List.mem_map.1 hm
   simp only [Prod.mk.injEq] at hh
   exact Yj hn x hx hh
  have p:(((es.take i).map fun e=>(e.op.c,e.op.n))++(o.c,o.n)::((es.drop i).map fun e=>(e.op.c,e.op.n))).Perm ((o.c,o.n)::es.map fun e=>(e.op.c,e.op.n)):=by
   rw [e];exact List.perm_middle
  exact p.nodup_iff.2 (List.nodup_cons.2 ⟨hnot,h1⟩)
theorem HN.done {F:List Ent} {L:List MR} {i k:Nat} (h:HN F L (numF i k)) (hk: ¬k<F.length):(L.map (·.mark)).Perm (marksFrom F 0):=by
 have:=h.perm
 rw [marksG_congr F (numF i k) (fun j=>j) 0 fun j hj=>by simp only [Nat.zero_add,numF];rw [if_pos (by omega)],marksG_id] at this
 exact this
def rsl:De (List Rg):=De.sl rgD
theorem rsl_open (u:List Rg): ∀Z w cs,rsl.rep Z w u cs→ ∃y:Option Addr×Nat,cs= [.slice y.1 u.length y.2] ∧ ∀B∈ [RdF rgD y.1 y.2 u],B.holds Z w:=fun _ _ _ h=>by
 obtain ⟨A,c,h1,h2⟩:=h
 exact ⟨(A,c),h1,fun B hB=>by simp only [List.mem_singleton] at hB;subst hB;exact h2⟩
theorem crossOne {o:GOp} {ys:List GOp} (h:(crossF [o] ys).2.2=0): ∃t,(crossF [o] ys).1= [t] ∧Same o t:=by
 have h1:=(XO h).1
 generalize (crossF [o] ys).1=q at h1
 cases h1 with
 | cons h hr=>cases hr;exact ⟨_,rfl,h⟩
theorem fits_0 {H:Hist} {i:Int} {o:GOp} (h:fitsF H i o=0):0≤i∧i≤H.ents.length∧J5 H.ents o.c o.n=none∧H.total+Jr o≤1048576∧o.kind≠3∧1≤o.kind∧o.kind≤4∧checkF o (K6 H i.toNat)=0∧(o.kind=4→ ∃k,J5 H.ents o.tc o.tn=some k):=by
 unfold fitsF at h
 split at h
 ·cases h
 ·rename_i h1
  split at h
  ·rename_i h2;exact absurd h h2
  ·rename_i h2
   split at h
   ·cases h
   ·rename_i h3
    split at h
    ·cases h
    ·split at h
     ·cases h
     ·rename_i h5
      have hck:checkF o (K6 H i.toNat)=0:=by simpa using h2
      have hkind:1≤o.kind∧o.kind≤4:=by
       have hc:=hck
       unfold checkF at hc
       split at hc
       ·cases hc
       ·split at hc
        ·cases hc
        ·omega
      have hw:J5 H.ents o.c o.n=none:=by
       cases hq:J5 H.ents o.c o.n with
       | none=>rfl
       | some k=>rw [hq] at h5;simp at h5
      have hrest: ∀ {x:Int},fitsRest H o=0→H.total+Jr o≤1048576:=fun h=>by
       unfold fitsRest at h
       split at h
       ·cases h
       ·omega
      split at h
      ·rename_i h6
       unfold fitsT at h
       cases hq:J5 H.ents o.tc o.tn with
       | none=>rw [hq] at h;cases h
       | some k=>
        rw [hq] at h
        simp only at h
        split at h
        ·cases h
        ·cases hq2:H.ents[k]? with
         | none=>rw [hq2] at h;cases h
         | some e=>
          rw [hq2] at h
          simp only at h
          split at h
          ·cases h
          ·exact ⟨by omega,by omega,hw,hrest (x:=0) h,h3,hkind.1,hkind.2,hck,fun _=>⟨k,V⟩⟩
      ·rename_i h6
       exact ⟨by omega,by omega,hw,hrest (x:=0) h,h3,hkind.1,hkind.2,hck,fun hh=>absurd hh h6⟩
theorem check_wid {o:GOp} {t:Int} (h:checkF o t=0):Jr o≤256:=by
 unfold checkF at h
 split at h
 ·cases h
 ·split at h
  ·cases h
  ·split at h
   ·cases h
   ·split at h
    ·cases h
    ·split at h
     ·rename_i hk
      unfold insF at h
      split at h
      ·rename_i h1;exact absurd h h1
      ·split at h
       ·cases h
       ·split at h
        ·cases h
        ·unfold Jr;rw [if_pos hk];omega
     ·rename_i hk
      unfold Jr;rw [if_neg hk];omega
theorem newEnts_ops {i:Nat} {o:GOp} {nw:List Rg} {es:List Ent} {later:List GOp} (h:Sames ((es.drop i).map (·.op)) later):(newEnts i o nw es later).map (·.op)=(es.map (·.op)).take i++([o] ++later):=by
 unfold newEnts
 have hl:later.length=(es.drop i).length:=by rw [h.length];simp
 rw [List.map_append,List.map_cons,zipE_ops _ _ hl,List.map_take];rfl
theorem YI {i:Nat} {o:GOp} {nw:List Rg} {es:List Ent} {later:List GOp} {e:Ent} (h:Sames ((es.drop i).map (·.op)) later) (he:e∈newEnts i o nw es later):e∈es∨e=⟨o,nw,false⟩∨ ∃x∈es,∃y∈later,Same x.op y∧e=⟨y,x.now,x.off⟩:=by
 unfold newEnts at he
 rcases List.mem_append.1 he with he | he
 ·exact .inl (List.mem_of_mem_take he)
 ·rcases List.mem_cons.1 he with rfl | he
  ·exact .inr (.inl V)
  ·right;right
   have key: ∀(xs:List GOp) (l:List Ent),Sames (l.map (·.op)) xs→e∈zipE xs l→ ∃x∈l,∃y∈xs,Same x.op y∧e=⟨y,x.now,x.off⟩:=by
    intro xs
    induction xs with
    | nil=>intro l _ he;cases l<;>simp [zipE] at he
    | cons y xs ih=>
     intro l hs he
     cases l with
     | nil=>simp [zipE] at he
     | cons x l=>
      cases hs with
      | cons h1 h2=>
       unfold zipE at he
       rcases List.mem_cons.1 he with rfl | he
       ·exact ⟨x,List.mem_cons_self,y,List.mem_cons_self,h1,V⟩
       ·obtain ⟨x',hx,y',hy,hh⟩:=ih l h2 he
        exact ⟨x',List.mem_cons_of_mem _ hx,y',List.mem_cons_of_mem _ hy,hh⟩
   obtain ⟨x,hx,y,hy,hh⟩:=key later _ h he
   exact ⟨x,List.mem_of_mem_drop hx,y,hy,hh⟩
theorem Qz {i:Nat} {o:GOp} {nw:List Rg} {es:List Ent} {later:List GOp} (h:Sames ((es.drop i).map (·.op)) later) (hi:i≤es.length):(newEnts i o nw es later).length=es.length+1:=by
 unfold newEnts
 have hl:later.length=(es.drop i).length:=by rw [h.length];simp
 rw [List.length_append,List.length_cons,XD _ _ hl,List.length_take,List.length_drop];omega
structure MidI (H:Hist) (i:Nat) (o t:GOp) (L:List MR) (es:List Ent) (L1:List MR) (nw:List Rg) (eff:GOp):Prop where
 hr:HR ⟨es,H.total⟩ L1
 keys:keys L1=keys L
 mid:midF H i o t= .ok ⟨es,nw,eff⟩
 ops:es.map (·.op)=H.ops
 now:nw.length≤4398046511104
def PuP (H:Hist) (i:Int) (o:GOp) (h m:Nat) (cap:Nat) (A:Option Addr) (L:List MR):Value→List Part→List Fact→Prop:=fun v Lo fs=>
 ∃(L':List MR) (A':Option Addr) (cap':Nat) (Ae:Option Addr) (ce:Nat),HR (putF H i o).1 L'∧v= .tuple #[opV (putF H i o).2.1 Ae ce, .int .i64 (putF H i o).2.2] ∧
  Lo= [hdP h A' (putF H i o).1.ops.length cap' m (putF H i o).1.total,mpP m L',mkP L'] ∧fs= [RdF rgD Ae ce (putF H i o).2.1.rs,RdF opD A' cap' (putF H i o).1.ops,AllF L' nowF]
theorem put_1 {H:Hist} {i:Int} {o:GOp} (h:fitsF H i o≠0):putF H i o=(H,zeroOp,fitsF H i o):=by unfold putF;rw [if_pos h]
theorem put_2 {H:Hist} {i:Int} {o:GOp} (h:fitsF H i o=0) (h2:(crossF [o] (H.ops.drop i.toNat)).2.2≠0):putF H i o=(H,zeroOp,(crossF [o] (H.ops.drop i.toNat)).2.2):=by unfold putF;rw [if_neg (by simpa using h),if_pos h2]
theorem put_3 {H:Hist} {i:Int} {o t:GOp} {e:Int} (h:fitsF H i o=0) (h2:(crossF [o] (H.ops.drop i.toNat)).2.2=0) (ht:(crossF [o] (H.ops.drop i.toNat)).1= [t]) (h3:midF H i.toNat o t= .error e):putF H i o=(H,zeroOp,e):=by
 unfold putF;rw [if_neg (by simpa using h),if_neg (by simpa using h2),ht];simp only [List.headD_cons,h3]
theorem put_4 {H:Hist} {i:Int} {o t:GOp} {es:List Ent} {nw:List Rg} {eff:GOp} (h:fitsF H i o=0) (h2:(crossF [o] (H.ops.drop i.toNat)).2.2=0) (ht:(crossF [o] (H.ops.drop i.toNat)).1= [t]) (h3:midF H i.toNat o t= .ok ⟨es,nw,eff⟩):putF H i o=(⟨newEnts i.toNat o nw es (crossF [o] (H.ops.drop i.toNat)).2.1,H.total+Jr o⟩,eff,0):=by
 unfold putF;rw [if_neg (by simpa using h),if_neg (by simpa using h2),ht];simp only [List.headD_cons,h3]
theorem movedAll_ne: ∀ {es:List Ent} {at_ n:Int} {e:Int},movedAll es at_ n= .error e→e≠0
 | [],_,_,e,h=>by cases h
 | x::es,at_,n,e,h=>by
  unfold movedAll at h
  split at h
  ·rename_i h1;cases h;exact h1
  ·cases hq:movedAll es at_ n with
   | error y=>rw [hq] at h;cases h;exact movedAll_ne hq
   | ok l=>rw [hq] at h;cases h
theorem MidI.len {H:Hist} {i:Nat} {o t:GOp} {L L1:List MR} {es:List Ent} {nw:List Rg} {eff:GOp} (M:MidI H i o t L es L1 nw eff):es.length=H.ents.length:=by
 have:=congrArg List.length M.ops
 simpa [Hist.ops] using this
theorem HR.put {H:Hist} {i k:Nat} {o t:GOp} {L L1 Lk:List MR} {es:List Ent} {nw:List Rg} {eff:GOp} {later:List GOp} (M:MidI H i o t L es L1 nw eff) (hsl:Sames ((es.drop i).map (·.op)) later) (hfl: ∀y∈later,Fit y) (ho:Fit o) (hw:Jr o≤256) (hlt:H.ents.length<1000000)
  (ht:H.total+Jr o≤1048576) (hi:i≤H.ents.length) (hn:HN (newEnts i o nw es later) Lk (numF i k)) (hk: ¬k<(newEnts i o nw es later).length):HR ⟨newEnts i o nw es later,H.total+Jr o⟩ Lk:=by
 have hl:=M.len
 refine ⟨hn.done hk,hn.ids,?_,?_,?_,?_,?_⟩
 ·intro e he
  rcases YI hsl he with he | rfl | ⟨x,hx,y,hy,hs,rfl⟩
  ·exact M.hr.fit e he
  ·exact ho
  ·exact hfl y hy
 ·intro e he
  rcases YI hsl he with he | rfl | ⟨x,hx,y,hy,hs,rfl⟩
  ·exact M.hr.wid e he
  ·exact hw
  ·show Jr y≤256
   rw [hs.width];exact M.hr.wid x hx
 ·intro e he
  rcases YI hsl he with he | rfl | ⟨x,hx,y,hy,hs,rfl⟩
  ·exact M.hr.now e he
  ·exact M.now
  ·exact M.hr.now x hx
 ·show (newEnts i o nw es later).length≤1000000
  rw [Qz hsl (by omega)];omega
 ·have:=M.hr.tot
  have:=KP o
  show 0≤H.total+Jr o∧H.total+Jr o≤1048576
  simp only at *
  omega
def headF (o:GOp):Prop:= ¬(o.kind<1∨o.kind>4)∧ ¬((o.c≠0∨o.n≠0)∧rightF o.c o.n=false)∧ ¬extraF o=true
theorem check_ins {o:GOp} {w:Int} (hk:o.kind=1) (hw:0≤w∧w≤1048576):checkF o w=0↔headF o∧insF o w=0:=by
 unfold checkF headF
 rw [if_neg (by omega)]
 by_cases h1:o.kind<1∨o.kind>4
 ·omega
 ·by_cases h2:(o.c≠0∨o.n≠0)∧rightF o.c o.n=false
  ·rw [if_neg h1,if_pos h2];exact ⟨fun h=>(by cases h),fun h=>absurd h2 h.1.2.1⟩
  ·by_cases h3:extraF o=true
   ·rw [if_neg h1,if_neg h2,if_pos h3];exact ⟨fun h=>(by cases h),fun h=>absurd h3 h.1.2.2⟩
   ·rw [if_neg h1,if_neg h2,if_neg h3,if_pos hk];exact ⟨fun h=>⟨⟨h1,h2,h3⟩,h⟩,fun h=>h.2⟩
theorem check_cov {o:GOp} {w:Int} (hk:o.kind=2∨o.kind=3) (hw:0≤w∧w≤1048576):checkF o w=0↔headF o∧Y3 o.rs w=0:=by
 unfold checkF headF
 rw [if_neg (by omega)]
 by_cases h1:o.kind<1∨o.kind>4
 ·omega
 ·by_cases h2:(o.c≠0∨o.n≠0)∧rightF o.c o.n=false
  ·rw [if_neg h1,if_pos h2];exact ⟨fun h=>(by cases h),fun h=>absurd h2 h.1.2.1⟩
  ·by_cases h3:extraF o=true
   ·rw [if_neg h1,if_neg h2,if_pos h3];exact ⟨fun h=>(by cases h),fun h=>absurd h3 h.1.2.2⟩
   ·rw [if_neg h1,if_neg h2,if_neg h3,if_neg (by omega),if_neg (by omega)];exact ⟨fun h=>⟨⟨h1,h2,h3⟩,h⟩,fun h=>h.2⟩
theorem check_st {o:GOp} {w:Int} (hk:o.kind=4) (hw:0≤w∧w≤1048576):checkF o w=0↔headF o∧rightF o.tc o.tn=true∧ ¬(o.tc=o.c∧o.tn=o.n):=by
 unfold checkF headF
 rw [if_neg (by omega)]
 by_cases h1:o.kind<1∨o.kind>4
 ·omega
 ·by_cases h2:(o.c≠0∨o.n≠0)∧rightF o.c o.n=false
  ·rw [if_neg h1,if_pos h2];exact ⟨fun h=>(by cases h),fun h=>absurd h2 h.1.2.1⟩
  ·by_cases h3:extraF o=true
   ·rw [if_neg h1,if_neg h2,if_pos h3];exact ⟨fun h=>(by cases h),fun h=>absurd h3 h.1.2.2⟩
   ·rw [if_neg h1,if_neg h2,if_neg h3,if_neg (by omega),if_pos hk]
    by_cases h4:rightF o.tc o.tn=false∨(o.tc=o.c∧o.tn=o.n)
    ·rw [if_pos h4]
     refine ⟨fun h=>(by cases h),fun h=> ?_⟩
     rcases h4 with h4 | h4
     ·rw [h4] at h;cases h.2.1
     ·exact absurd h4 h.2.2
    ·rw [if_neg h4]
     refine ⟨fun _=>⟨⟨h1,h2,h3⟩,?_,fun h=>h4 (.inr h)⟩,fun _=>V⟩
     cases hq:rightF o.tc o.tn with
     | true=>rfl
     | false=>exact absurd (.inl hq) h4
theorem YD {o:GOp} {w:Int} :insF o w=0↔(utF o.text).2.2=0∧(1≤(utF o.text).1∧(utF o.text).1≤256)∧(0≤o.at_∧o.at_≤w)∧w+(utF o.text).1≤1048576:=by
 have h0:=Zm o.text
 unfold insF
 split
 ·rename_i h;exact ⟨fun h'=>absurd h' h,fun h'=>absurd h'.1 h⟩
 ·rename_i h
  split
  ·exact ⟨fun h=>(by cases h),fun h=>(by omega)⟩
  ·split
   ·exact ⟨fun h=>(by cases h),fun h=>(by omega)⟩
   ·split
    ·exact ⟨fun h=>(by cases h),fun h=>(by omega)⟩
    ·split
     ·exact ⟨fun h=>(by cases h),fun h=>(by omega)⟩
     ·exact ⟨fun _=>⟨by simpa using h,by omega,by omega,by omega⟩,fun _=>V⟩
theorem HB: ∀ {b:Int} {xs:List Rg} {r:Rg},NormB b xs→xs.getLast? =some r→BelowR r.hi xs
 | b,[],r,_,h=>by cases h
 | b,[x],r,h,hl=>by
  simp at hl;subst hl
  intro y hy;simp only [List.mem_singleton] at hy;subst hy;exact Int.le_refl _
 | b,x::y::xs,r,h,hl=>by
  have h2:(y::xs).getLast? =some r:=by simpa [List.getLast?_cons_cons] using hl
  have ih:=HB h.2.2 h2
  intro z hz
  rcases List.mem_cons.1 hz with rfl | hz
  ·have h3:=h.2.2.1
   have h4:=h.2.2.2.1
   have:=ih y List.mem_cons_self
   omega
  ·exact ih z hz
theorem YX {xs:List Rg} {w:Int} (hw:0≤w∧w≤65535):Y3 xs w=0↔xs≠ [] ∧Pls w xs:=by
 unfold Y3
 cases hl:xs.getLast? with
 | none=>
  simp only
  have:xs= [] :=List.getLast?_eq_none_iff.1 hl
  exact ⟨fun h=>(by cases h),fun h=>absurd this h.1⟩
 | some r=>
  simp only
  have hne:xs≠ [] :=fun e=>by rw [e] at hl;cases hl
  split
  ·rename_i h
   refine ⟨fun h'=>absurd h' h,fun h'=> ?_⟩
   exact absurd (h'.2.ck hw) h
  ·rename_i h
   have h':(ckF xs).2=0:=by simpa using h
   obtain ⟨g1,g2,g3⟩:=GD.1 h'
   split
   ·refine ⟨fun h=>(by cases h),fun h2=> ?_⟩
    have:=h2.2.below r (List.mem_of_getLast? hl)
    omega
   ·exact ⟨fun _=>⟨hne,g2,(HB g2 hl).mono (by omega)⟩,fun _=>V⟩
structure Right (w:Int) (o:GOp):Prop where
 ck:checkF o w=0
 kind:o.kind=1∨o.kind=2∨o.kind=4
theorem Right.head {w:Int} {o:GOp} (h:Right w o) (hw:0≤w∧w≤1048576):headF o:=by
 rcases h.kind with hk | hk | hk
 ·exact ((check_ins hk hw).1 h.ck).1
 ·exact ((check_cov (.inl hk) hw).1 h.ck).1
 ·exact ((check_st hk hw).1 h.ck).1
theorem Right.w0 {w:Int} {o:GOp} (h:Right w o):0≤w∧w≤1048576:=by
 have:=h.ck
 unfold checkF at this
 split at this
 ·cases this
 ·omega
theorem Right.width {w:Int} {o:GOp} (h:Right w o):0≤Jr o∧Jr o≤256∧(o.kind=1→1≤Jr o∧Jr o=(utF o.text).1)∧(o.kind≠1→Jr o=0):=by
 have h1:=check_wid h.ck
 have h2:=KP o
 refine ⟨h2.1,h1,fun hk=> ?_,fun hk=>by unfold Jr;rw [if_neg hk]⟩
 have h3:=YD.1 ((check_ins hk h.w0).1 h.ck).2
 unfold Jr
 rw [if_pos hk];omega
theorem Right.ins {w:Int} {o:GOp} (h:Right w o) (hk:o.kind=1):0≤o.at_∧o.at_≤w∧w+Jr o≤1048576:=by
 have h3:=YD.1 ((check_ins hk h.w0).1 h.ck).2
 have h4:=(h.width.2.2.1 hk).2
 omega
theorem Right.cov {w:Int} {o:GOp} (h:Right w o) (hk:o.kind=2) (hw:w≤65535):o.rs≠ [] ∧Pls w o.rs:=
 (YX ⟨h.w0.1,hw⟩).1 ((check_cov (.inl hk) h.w0).1 h.ck).2
theorem Right.noRs {w:Int} {o:GOp} (h:Right w o) (hk:o.kind≠2):o.rs= [] :=by
 have hh:=(h.head h.w0).2.2
 unfold extraF at hh
 have h3:o.kind≠3:=by have:=h.kind;omega
 cases hr:o.rs with
 | nil=>rfl
 | cons r rs=>
  exfalso;apply hh
  simp [hr,hk,h3]
theorem Right.moved {w w' a:Int} {o:GOp} (h:Right w o) (hk:o.kind=1) (ha:0≤a∧a≤w') (hw:w'+Jr o≤1048576):Right w' { o with at_:=a,rs:= [] } :=by
 have h0:=h.width
 have h1:=(check_ins hk h.w0).1 h.ck
 have h2:=YD.1 h1.2
 have h4:=(h.width.2.2.1 hk).2
 refine ⟨(check_ins (o:= { o with at_:=a,rs:= [] }) hk (by omega)).2 ⟨?_,YD.2 ⟨h2.1,h2.2.1,ha,by show w'+(utF o.text).1≤_;omega⟩⟩, .inl hk⟩
 obtain ⟨g1,g2,g3⟩:=h1.1
 refine ⟨g1,g2,fun h5=>g3 ?_⟩
 unfold extraF at h5 ⊢
 simp only [hk] at h5 ⊢
 simp at h5 ⊢
 exact .inr h5
theorem Right.ranged {w w':Int} {o:GOp} {l:List Rg} (h:Right w o) (hk:o.kind=2) (hl:l≠ []) (hp:Pls w' l) (hw:0≤w'∧w'≤65535):Right w' { o with rs:=l } :=by
 have h1:=(check_cov (.inl hk) h.w0).1 h.ck
 refine ⟨(check_cov (o:= { o with rs:=l }) (.inl hk) (by omega)).2 ⟨?_,(YX hw).2 ⟨hl,hp⟩⟩, .inr (.inl hk)⟩
 obtain ⟨g1,g2,g3⟩:=h1.1
 refine ⟨g1,g2,fun h5=>g3 ?_⟩
 unfold extraF at h5 ⊢
 simp only [hk] at h5 ⊢
 simpa using h5
theorem Right.wider {w w':Int} {o:GOp} (h:Right w o) (hw:w≤w') (hw':w'+Jr o≤65535):Right w' o:=by
 have h0:=h.w0
 have h9:=h.width
 refine ⟨?_,h.kind⟩
 rcases h.kind with hk | hk | hk
 ·have h1:=(check_ins hk h0).1 h.ck
  have h2:=YD.1 h1.2
  have h4:=(h.width.2.2.1 hk).2
  exact (check_ins hk (by omega)).2 ⟨h1.1,YD.2 ⟨h2.1,h2.2.1,by omega,by omega⟩⟩
 ·have h1:=h.cov hk (by omega)
  have h2:=(check_cov (.inl hk) h0).1 h.ck
  exact (check_cov (.inl hk) (by omega)).2 ⟨h2.1,(YX (by omega)).2 ⟨h1.1,h1.2.norm,h1.2.below.mono hw⟩⟩
 ·have h1:=(check_st hk h0).1 h.ck
  exact (check_st hk (by omega)).2 h1
theorem Right.own {w:Int} {o:GOp} (h:Right w o) (hw:w≤65535):ownF o=0:=by
 have h0:=h.w0
 unfold ownF
 rcases h.kind with hk | hk | hk
 ·have h1:=(check_ins hk h0).1 h.ck
  have h2:=YD.1 h1.2
  rw [if_pos (by omega)]
  exact (check_ins hk (by omega)).2 ⟨h1.1,YD.2 ⟨h2.1,h2.2.1,by omega,by omega⟩⟩
 ·have h1:=h.cov hk hw
  have h2:=(check_cov (.inl hk) h0).1 h.ck
  rw [if_neg (by omega)]
  refine (check_cov (.inl hk) (by omega)).2 ⟨h2.1,?_⟩
  unfold Y3
  cases hl:o.rs.getLast? with
  | none=>exact absurd (List.getLast?_eq_none_iff.1 hl) h1.1
  | some r=>
   simp only
   rw [if_neg (by rw [h1.2.ck (by omega)];simp),if_neg (by have:=h1.2.below r (List.mem_of_getLast? hl);omega)]
 ·have h1:=(check_st hk h0).1 h.ck
  rw [if_neg (by omega)]
  exact (check_st hk (by omega)).2 h1
theorem Vk {w:Int} {a b:GOp} (e:Bool) (ha:Right w a) (hb:Right w b) (hc: ¬clashF a b) (hw:w+Jr a+Jr b≤65535):
  (JM a b e).2=0∧Right (w+Jr b) (JM a b e).1:=by
 have h0:=ha.w0
 have hwa:=ha.width
 have hwb:=hb.width
 unfold JM
 rw [if_neg hc]
 split
 ·rename_i hk
  rw [hwb.2.2.2 hk,Int.add_zero]
  exact ⟨V,ha⟩
 ·rename_i hk
  have hk':b.kind=1:=by simpa using hk
  have hbi:=hb.ins hk'
  split
  ·rename_i hka
   have hai:=ha.ins hka
   split
   ·unfold movedF
    rw [if_neg (by omega)]
    exact ⟨V,ha.moved hka (by omega) (by omega)⟩
   ·exact ⟨V,ha.wider (by omega) (by omega)⟩
  ·rename_i hka
   split
   ·rename_i hk2
    have hk3:a.kind=2:=by have:=ha.kind;omega
    obtain ⟨g1,g2⟩:=ha.cov hk3 (by omega)
    obtain ⟨t1,t2,t3,t4⟩:=QH g2 h0.1 ⟨hbi.1,hbi.2.1⟩ hwb.1 (by omega)
    unfold rangedF
    rw [if_neg (by rw [t1];simp)]
    exact ⟨V,ha.ranged hk3 (fun h=>g1 (t4.2 h)) t2 (by omega)⟩
   ·exact ⟨V,ha.wider (by omega) (by omega)⟩
def CtxOk:Int→List GOp→Prop
 | _,[] =>True
 | w,o::r=>Right w o∧CtxOk (w+Jr o) r
def sumO:List GOp→Int
 | [] =>0
 | o::r=>Jr o+sumO r
theorem Ya: ∀(a b:List GOp),sumO (a++b)=sumO a+sumO b
 | [],b=>by simp [sumO]
 | o::a,b=>by simp [sumO,Ya a b];omega
theorem CtxOk.append: ∀ {w:Int} {a b:List GOp},CtxOk w (a++b)↔CtxOk w a∧CtxOk (w+sumO a) b
 | w,[],b=>by simp [CtxOk,sumO]
 | w,o::a,b=>by
  simp only [List.cons_append,CtxOk,sumO,CtxOk.append (a:=a),and_assoc]
  rw [show w+(Jr o+sumO a)=w+Jr o+sumO a from by omega]
theorem sumO_nonneg: ∀ {w:Int} {l:List GOp},CtxOk w l→0≤sumO l
 | _,[],_=>by simp [sumO]
 | w,o::r,h=>by have:=sumO_nonneg h.2;have:=h.1.width;simp only [sumO];omega
theorem CtxOk.owns: ∀ {w:Int} {l:List GOp},CtxOk w l→w+sumO l≤65535→ownsF l=0
 | _,[],_,_=>rfl
 | w,o::r,h,hw=>by
  have h1:=sumO_nonneg h.2
  have h2:=h.1.width
  simp only [sumO] at hw
  unfold ownsF
  rw [if_neg (by rw [h.1.own (by omega)];simp)]
  exact h.2.owns (by omega)
theorem Sames.sumO {a b:List GOp} (h:Sames a b):Proofs.YtggbpikbmnkiaaaGreatDoor.sumO b=Proofs.YtggbpikbmnkiaaaGreatDoor.sumO a:=by
 induction h with
 | nil=>rfl
 | cons h _ ih=>simp only [Proofs.YtggbpikbmnkiaaaGreatDoor.sumO,ih,h.width]
def JV (f:GOp):List GOp→GOp×List GOp
 | [] =>(f,[])
 | l::ls=>((JV (JM f l false).1 ls).1,(JM l f true).1::(JV (JM f l false).1 ls).2)
theorem clash_same {a a' b b':GOp} (ha:Same a a') (hb:Same b b'):clashF a' b'↔clashF a b:=by
 unfold clashF;rw [ha.c,ha.n,hb.c,hb.n]
theorem clash_comm {a b:GOp} :clashF a b↔clashF b a:=by
 unfold clashF;constructor<;>(rintro ⟨h1,h2,h3⟩;exact ⟨h1.symm,h2.symm,by rw [←h1,←h2];exact h3⟩)
theorem GF: ∀(ls:List GOp) (f:GOp) (w:Int),Right w f→CtxOk w ls→(∀l∈ls,¬clashF f l)→w+sumO ls+Jr f≤65535→
  crossOut [f] ls= .ok ([(JV f ls).1],(JV f ls).2)∧Right (w+sumO ls) (JV f ls).1∧CtxOk (w+Jr f) (JV f ls).2∧Same f (JV f ls).1∧Sames ls (JV f ls).2
 | [],f,w,hf,_,_,_=>⟨rfl,by simpa [sumO,JV] using hf,trivial,Same.refl f, .nil⟩
 | l::ls,f,w,hf,hl,hc,hw=>by
  simp only [sumO] at hw
  have h1:=sumO_nonneg hl.2
  have hc1: ¬clashF f l:=hc l List.mem_cons_self
  have hc2: ¬clashF l f:=fun h=>hc1 (clash_comm.1 h)
  obtain ⟨a1,a2⟩:=Vk false hf hl.1 hc1 (by omega)
  obtain ⟨b1,b2⟩:=Vk true hl.1 hf hc2 (by omega)
  have s1:=include_same a1
  have s2:=include_same b1
  obtain ⟨c1,c2,c3,c4,c5⟩:=GF ls (JM f l false).1 (w+Jr l) a2 hl.2 (fun x hx h=>hc x (List.mem_cons_of_mem _ hx) ((clash_same s1 (Same.refl x)).1 h)) (by rw [s1.width];omega)
  refine ⟨?_,?_,?_,s1.trans c4, .cons s2 c5⟩
  ·rw [Yz,QB (by simpa using b1) (by simpa using a1)]
   simp only [crossIn,putIn,restOut,List.cons_append,List.nil_append,c1,JV]
  ·simp only [sumO,JV]
   rw [show w+(Jr l+sumO ls)=w+Jr l+sumO ls from by omega]
   exact c2
  ·simp only [JV,CtxOk]
   refine ⟨b2,?_⟩
   rw [s2.width,show w+Jr f+Jr l=w+Jr l+Jr (JM f l false).1 from by rw [s1.width];omega]
   exact c3
theorem ZT {ls:List GOp} {f:GOp} {w:Int} (hf:Right w f) (hl:CtxOk w ls) (hc: ∀l∈ls,¬clashF f l) (hw:w+sumO ls+Jr f≤65535):crossF [f] ls=([(JV f ls).1],(JV f ls).2,0):=by
 have h1:=sumO_nonneg hl
 have h2:=hf.width
 refine GA ?_ (hl.owns (by omega)) (GF ls f w hf hl hc hw).1
 unfold ownsF
 rw [if_neg (by rw [hf.own (by omega)];simp)];rfl
@[ext] structure Sm where
 tot:Int
 lv:Int
 ht:Int
 mn:Int
 am:Int
 mx:Int
deriving DecidableEq
def zeroSm:Sm:=⟨0,0,0,0,0,0⟩
inductive Tr where
 | nil:Tr
 | nd (s:Sm) (l:Tr) (rs:List Int) (hid:Int) (r:Tr) (plus:Int):Tr
def smC (s:Sm):List Value:= [.int .i64 s.tot, .int .i64 s.lv, .int .i64 s.ht, .int .i64 s.mn, .int .i64 s.am, .int .i64 s.mx]
def smV (s:Sm):Value:= .agg (smC s).toArray
abbrev runeD:De Int:=De.int .i32
def pcC (rs:List Int) (hid:Int) (A:Option Addr) (c:Nat):List Value:= [.slice A rs.length c, .int .i64 hid]
def pcV (rs:List Int) (hid:Int) (A:Option Addr) (c:Nat):Value:= .agg (pcC rs hid A c).toArray
def ndC (s:Sm) (Al Ar Ac:Option Addr) (rs:List Int) (c:Nat) (hid plus:Int):List Value:=
 [.int .i64 s.tot, .int .i64 s.lv, .int .i64 s.ht, .int .i64 s.mn, .int .i64 s.am, .int .i64 s.mx, .pointer Al, .pointer Ar, .slice Ac rs.length c, .int .i64 hid, .int .i64 plus]
def trRep (Z:Nat→Prop) (w:World):Tr→Option Addr→Prop
 | .nil,A=>A=none
 | .nd s l rs hid r plus,A=> ∃(b:Nat) (Al Ar Ac:Option Addr) (c:Nat),A=some ⟨b,0,none⟩∧Z b∧CellsAt w b 0 (ndC s Al Ar Ac rs c hid plus)∧trRep Z w l Al∧trRep Z w r Ar∧RdS runeD Z w Ac c rs
theorem trRep_stable {Z Z':Nat→Prop} {w w':World} (hz: ∀b,Z b→Z' b) (hh: ∀b,Z b→w'.heap[b]? =w.heap[b]?) (h1:w'.os=w.os) (h2:w'.tape=w.tape) (h3:w'.output=w.output): ∀(t:Tr) (A:Option Addr),trRep Z w t A→trRep Z' w' t A
 | .nil,A,h=>h
 | .nd s l rs hid r plus,A,⟨b,Al,Ar,Ac,c,e,g1,g2,g3,g4,g5⟩=>
  ⟨b,Al,Ar,Ac,c,e,hz _ g1,g2.keep (hh _ g1),trRep_stable hz hh h1 h2 h3 l Al g3,trRep_stable hz hh h1 h2 h3 r Ar g4,(RdF runeD Ac c rs).stable hz hh h1 h2 h3 g5⟩
def TrF (A:Option Addr) (t:Tr):Fact where
 holds Z w:=trRep Z w t A
 stable hz hh h1 h2 h3 h:=trRep_stable hz hh h1 h2 h3 t A h
section
variable {P:Program} {n:Dm} {R:Post} {l:Fr} {Ps Ps':List Part} {As:List Fact} {ops:Array Oper} {rest:List Oper}
theorem Ex {c:Code} {A:Option Addr} {s:Sm} {lt rt:Tr} {rs:List Int} {hid plus:Int} (hA:TrF A (.nd s lt rs hid rt plus)∈As)
  (h: ∀(b:Nat) (Al Ar Ac:Option Addr) (cc:Nat),A=some ⟨b,0,none⟩→WC P n c R l Ps (FzA b 0 (ndC s Al Ar Ac rs cc hid plus)::TrF Al lt::TrF Ar rt::RdF runeD Ac cc rs::As)):WC P n c R l Ps As:=
 fun Z w a hs ha=>by
  obtain ⟨b,Al,Ar,Ac,cc,e,g1,g2,g3,g4,g5⟩:trRep Z w (.nd s lt rs hid rt plus) A:=hs.facts _ hA
  refine h b Al Ar Ac cc e Z w a ?_ ha
  exact (((hs.addFact (A:=RdF runeD Ac cc rs) g5).addFact (A:=TrF Ar rt) g4).addFact (A:=TrF Al lt) g3).addFact (A:=FzA b 0 (ndC s Al Ar Ac rs cc hid plus)) ⟨g1,g2⟩
theorem VV {c:Code} {A:Option Addr} (hA:TrF A .nil∈As) (h:A=none→WC P n c R l Ps As):WC P n c R l Ps As:=
 fun Z w a hs ha=>h (hs.facts _ hA) Z w a hs ha
theorem stNode {Z:Nat→Prop} {w:World} {b:Nat} {s:Sm} {lt rt:Tr} {Al Ar Ac:Option Addr} {rs:List Int} {cc:Nat} {hid plus:Int} {T:TypeId} (hs:St Z w Ps As) (hp:DelAt Ps [(b,JB (ndC s Al Ar Ac rs cc hid plus) T)] Ps') (h1:TrF Al lt∈As) (h2:TrF Ar rt∈As) (h3:RdF runeD Ac cc rs∈As):
  ∃Z',St Z' w Ps' (TrF (some ⟨b,0,none⟩) (.nd s lt rs hid rt plus)::As):=by
 have h:=hs.permParts hp.perm
 have hb:w.heap[b]? =some (JB (ndC s Al Ar Ac rs cc hid plus) T):=(h.own (b,_) (by simp)).1
 have hf:=h.freeze
 refine ⟨_,hf.addFact (A:=TrF (some ⟨b,0,none⟩) (.nd s lt rs hid rt plus)) ⟨b,Al,Ar,Ac,cc,V, .inr ⟨_,List.mem_singleton.2 V⟩,⟨_,_,_,hb,fun j v hv=>by simpa using hv⟩,hf.facts _ h1,hf.facts _ h2,hf.facts _ h3⟩⟩
theorem Vm {b:Nat} {s:Sm} {lt rt:Tr} {Al Ar Ac:Option Addr} {rs:List Int} {cc:Nat} {hid plus:Int} {T:TypeId} (hp:DelAt Ps [(b,JB (ndC s Al Ar Ac rs cc hid plus) T)] Ps') (h1:TrF Al lt∈As) (h2:TrF Ar rt∈As) (h3:RdF runeD Ac cc rs∈As)
  (k:WL P n ops R rest l Ps' (TrF (some ⟨b,0,none⟩) (.nd s lt rs hid rt plus)::As)):WL P n ops R rest l Ps As:=fun Z w a hs ha=>by
 obtain ⟨Z',h⟩:=stNode hs hp h1 h2 h3
 exact k Z' w a h ha
end
def allF:Tr→Sm
 | .nil=>zeroSm
 | .nd s _ _ _ _ _=>s
def withF (s t:Sm):Sm:=
 if t.tot=0 then s else if s.tot=0 then t
 else ⟨s.tot+t.tot,s.lv+t.lv,0,min s.mn t.mn,(if s.mn=min s.mn t.mn then s.am else 0)+(if t.mn=min s.mn t.mn then t.am else 0),max s.mx t.mx⟩
def liftedF (s:Sm) (by':Int):Sm:=⟨s.tot,s.lv,s.ht,s.mn+by',s.am,s.mx+by'⟩
def knotF (l:Tr) (rs:List Int) (hid:Int) (r:Tr):Tr:=
 .nd ({ withF (withF (allF l) ⟨rs.length,1,0,hid,rs.length,hid⟩) (allF r) with ht:=1+max (allF l).ht (allF r).ht }) l rs hid r 0
def liftF (t:Tr) (by':Int):Tr:=match t with
 | .nil=> .nil
 | .nd s l rs hid r plus=>if liftedF s by'=s then t else .nd (liftedF s by') l rs hid r (plus+by')
abbrev Ce:=Int×Int
def cellsOf (rs:List Int) (hid:Int):List Ce:=rs.map fun c=>(c,hid)
def up (k:Int) (row:List Ce):List Ce:=row.map fun c=>(c.1,c.2+k)
def Tr.row:Tr→List Ce
 | .nil=> []
 | .nd _ l rs hid r plus=>up plus (l.row++(cellsOf rs hid++r.row))
def Tr.size:Tr→Nat
 | .nil=>0
 | .nd _ l _ _ r _=>l.size+r.size+1
def InR (row:List Ce):Prop:= ∀c∈row,0≤c.2∧c.2≤1048576
structure SumOf (s:Sm) (row:List Ce):Prop where
 tot:s.tot=row.length
 mnL: ∀c∈row,s.mn≤c.2
 mnI: ∃c∈row,c.2=s.mn
 am:s.am=(row.countP fun c=>c.2=s.mn)
 mxL: ∀c∈row,c.2≤s.mx
 mxI: ∃c∈row,c.2=s.mx
def Wf:Tr→Prop
 | .nil=>True
 | .nd s l rs hid r plus=>Wf l∧Wf r∧rs≠ [] ∧(0≤hid∧hid≤1048576)∧SumOf s (up plus (l.row++(cellsOf rs hid++r.row)))∧(1≤s.ht∧s.ht≤s.lv∧s.lv≤s.tot)∧InR (up plus (l.row++(cellsOf rs hid++r.row)))
theorem XY (row:List Ce):up 0 row=row:=by unfold up;simp
theorem GP (k:Int) (a b:List Ce):up k (a++b)=up k a++up k b:=by unfold up;simp
theorem up_up (k j:Int) (a:List Ce):up k (up j a)=up (j+k) a:=by unfold up;simp [Int.add_assoc]
theorem Qm (k:Int) (a:List Ce):(up k a).length=a.length:=by unfold up;simp
theorem up_cells (k:Int) (rs:List Int) (hid:Int):up k (cellsOf rs hid)=cellsOf rs (hid+k):=by unfold up cellsOf;simp
theorem Jv (rs:List Int) (hid:Int):(cellsOf rs hid).length=rs.length:=by unfold cellsOf;simp
theorem mem_up {k:Int} {a:List Ce} {c:Ce} :c∈up k a↔ ∃d∈a,c=(d.1,d.2+k):=by
 unfold up;simp only [List.mem_map];exact ⟨fun ⟨d,h,e⟩=>⟨d,h,e.symm⟩,fun ⟨d,h,e⟩=>⟨d,h,e.symm⟩⟩
theorem InR.append {a b:List Ce} :InR (a++b)↔InR a∧InR b:=by
 unfold InR;simp only [List.mem_append]
 exact ⟨fun h=>⟨fun c hc=>h c (.inl hc),fun c hc=>h c (.inr hc)⟩,fun h c hc=>hc.elim (h.1 c) (h.2 c)⟩
theorem SumOf.up {s:Sm} {row:List Ce} (h:SumOf s row) (k:Int):SumOf (liftedF s k) (up k row):=by
 obtain ⟨h1,h2,h3,h4,h5,h6⟩:=h
 refine ⟨by rw [Qm];exact h1,fun c hc=> ?_,?_,?_,fun c hc=> ?_,?_⟩
 ·obtain ⟨d,hd,rfl⟩:=mem_up.1 hc
  have:=h2 d hd
  show s.mn+k≤d.2+k;omega
 ·obtain ⟨d,hd,e⟩:=h3
  exact ⟨_,mem_up.2 ⟨d,hd,rfl⟩,by show d.2+k=s.mn+k;omega⟩
 ·show s.am=_
  rw [h4]
  unfold Proofs.YtggbpikbmnkiaaaGreatDoor.up
  rw [List.countP_map]
  congr 2
  funext c
  simp only [Function.comp,liftedF]
  exact decide_eq_decide.2 (by omega)
 ·obtain ⟨d,hd,rfl⟩:=mem_up.1 hc
  have:=h5 d hd
  show d.2+k≤s.mx+k;omega
 ·obtain ⟨d,hd,e⟩:=h6
  exact ⟨_,mem_up.2 ⟨d,hd,rfl⟩,by show d.2+k=s.mx+k;omega⟩
theorem VF (s:Sm) (l:Tr) (rs:List Int) (hid:Int) (r:Tr) (plus k:Int):liftF (.nd s l rs hid r plus) k=if liftedF s k=s then .nd s l rs hid r plus else .nd (liftedF s k) l rs hid r (plus+k):=rfl
theorem row_lift (t:Tr) (k:Int):(liftF t k).row=up k t.row:=by
 cases t with
 | nil=>rfl
 | nd s l rs hid r plus=>
  rw [VF]
  split
  ·rename_i h
   have:k=0:=by
    have:=congrArg Sm.mn h
    simp only [liftedF] at this;omega
   subst this
   rw [XY]
  ·simp only [Tr.row]
   rw [up_up]
theorem size_lift (t:Tr) (k:Int):(liftF t k).size=t.size:=by
 cases t with
 | nil=>rfl
 | nd s l rs hid r plus=>
  rw [VF]
  split<;>rfl
theorem wf_lift {t:Tr} {k:Int} (h:Wf t) (hk:InR (up k t.row)):Wf (liftF t k):=by
 cases t with
 | nil=>trivial
 | nd s l rs hid r plus=>
  rw [VF]
  split
  ·exact h
  ·obtain ⟨h1,h2,h3,h4,h5,h6,h7⟩:=h
   simp only [Tr.row,up_up] at hk
   refine ⟨h1,h2,h3,h4,?_,h6,hk⟩
   have:=h5.up k
   rwa [up_up] at this
theorem Wf.inR {t:Tr} (h:Wf t):InR t.row:=by
 cases t with
 | nil=>intro c hc;cases hc
 | nd s l rs hid r plus=>exact h.2.2.2.2.2.2
theorem Wf.tot {t:Tr} (h:Wf t):(allF t).tot=t.row.length:=by
 cases t with
 | nil=>rfl
 | nd s l rs hid r plus=>exact h.2.2.2.2.1.tot
theorem Wf.bd {t:Tr} (h:Wf t):0≤(allF t).ht∧(allF t).ht≤(allF t).lv∧(allF t).lv≤(allF t).tot∧(0≤(allF t).mn∧(allF t).mn≤1048576)∧(0≤(allF t).mx∧(allF t).mx≤1048576)∧(0≤(allF t).am∧(allF t).am≤(allF t).tot)∧((allF t).ht=0→t= .nil):=by
 cases t with
 | nil=>simp [allF,zeroSm]
 | nd s l rs hid r plus=>
  obtain ⟨h1,h2,h3,h4,h5,h6,h7⟩:=h
  obtain ⟨c,hc,e⟩:=h5.mnI
  obtain ⟨d,hd,e2⟩:=h5.mxI
  have g1:=h7 c hc
  have g2:=h7 d hd
  have g3:=List.countP_le_length (p:=fun c:Ce=>decide (c.2=s.mn)) (l:=up plus (l.row++(cellsOf rs hid++r.row)))
  have g4:=h5.tot
  have g5:=h5.am
  simp only [allF]
  refine ⟨by omega,h6.2.1,h6.2.2,by omega,by omega,by omega,by omega⟩
theorem Wf.sm40 {t:Tr} (h:Wf t) (hb:t.row.length≤1099511627776):(0≤(allF t).tot∧(allF t).tot≤1099511627776)∧(0≤(allF t).lv∧(allF t).lv≤1099511627776)∧(0≤(allF t).ht∧(allF t).ht≤1099511627776)∧(0≤(allF t).am∧(allF t).am≤1099511627776):=by
 have h1:=h.bd
 have h2:=h.tot
 omega
structure Opened (s:Sm) (l:Tr) (rs:List Int) (hid:Int) (r:Tr) (plus:Int):Prop where
 wl:Wf (liftF l plus)
 wr:Wf (liftF r plus)
 ne:rs≠ []
 hidB:0≤hid+plus∧hid+plus≤1048576
 plusB: -1048576≤plus∧plus≤1048576
 row:(Tr.nd s l rs hid r plus).row=(liftF l plus).row++(cellsOf rs (hid+plus)++(liftF r plus).row)
theorem Wf.opened {s:Sm} {l r:Tr} {rs:List Int} {hid plus:Int} (h:Wf (.nd s l rs hid r plus)):Opened s l rs hid r plus:=by
 obtain ⟨h1,h2,h3,h4,h5,h6,h7⟩:=h
 have hrow:up plus (l.row++(cellsOf rs hid++r.row))=(liftF l plus).row++(cellsOf rs (hid+plus)++(liftF r plus).row):=by
  rw [GP,GP,up_cells,row_lift,row_lift]
 rw [hrow] at h7
 obtain ⟨g1,g2⟩:=InR.append.1 h7
 obtain ⟨g2,g3⟩:=InR.append.1 g2
 obtain ⟨x,hx⟩:=List.exists_mem_of_ne_nil rs h3
 have hh:=g2 (x,hid+plus) (by unfold cellsOf;exact List.mem_map.2 ⟨x,hx,rfl⟩)
 simp only at hh
 exact ⟨wf_lift h1 (by rw [←row_lift];exact g1),wf_lift h2 (by rw [←row_lift];exact g3),h3,hh,by omega,hrow⟩
theorem XP {row:List Ce} {m:Int} (h: ∀c∈row,m<c.2):(row.countP fun c=>c.2=m)=0:=by
 rw [List.countP_eq_zero]
 intro c hc
 have:=h c hc
 simp;omega
theorem sum_with {a b:Sm} {x y:List Ce} (ha:SumOf a x) (hb:SumOf b y):SumOf (withF a b) (x++y):=by
 obtain ⟨a1,a2,a3,a4,a5,a6⟩:=ha
 obtain ⟨b1,b2,b3,b4,b5,b6⟩:=hb
 have hx:x≠ [] :=by obtain ⟨c,hc,_⟩:=a3;exact List.ne_nil_of_mem hc
 have hy:y≠ [] :=by obtain ⟨c,hc,_⟩:=b3;exact List.ne_nil_of_mem hc
 have hx':=List.length_pos_iff.2 hx
 have hy':=List.length_pos_iff.2 hy
 unfold withF
 rw [if_neg (by omega),if_neg (by omega)]
 refine ⟨by simp only [List.length_append];omega,fun c hc=> ?_,?_,?_,fun c hc=> ?_,?_⟩
 ·simp only
  rcases List.mem_append.1 hc with hc | hc
  ·have:=a2 c hc;omega
  ·have:=b2 c hc;omega
 ·simp only
  obtain ⟨c,hc,e⟩:=a3
  obtain ⟨d,hd,f⟩:=b3
  rcases Int.le_total a.mn b.mn with h | h
  ·exact ⟨c,List.mem_append_left _ hc,by omega⟩
  ·exact ⟨d,List.mem_append_right _ hd,by omega⟩
 ·simp only
  rw [List.countP_append]
  rcases Int.lt_trichotomy a.mn b.mn with h | h | h
  ·have e1:min a.mn b.mn=a.mn:=by omega
   rw [e1,if_pos rfl,if_neg (by omega),XP (row:=y) (m:=a.mn) (fun c hc=>by have:=b2 c hc;omega),a4]
   simp
  ·have e1:min a.mn b.mn=a.mn:=by omega
   rw [e1,if_pos rfl,if_pos h.symm,a4,b4,h]
   simp
  ·have e1:min a.mn b.mn=b.mn:=by omega
   rw [e1,if_neg (by omega),if_pos rfl,XP (row:=x) (m:=b.mn) (fun c hc=>by have:=a2 c hc;omega),b4]
   simp
 ·simp only
  rcases List.mem_append.1 hc with hc | hc
  ·have:=a5 c hc;omega
  ·have:=b5 c hc;omega
 ·simp only
  obtain ⟨c,hc,e⟩:=a6
  obtain ⟨d,hd,f⟩:=b6
  rcases Int.le_total a.mx b.mx with h | h
  ·exact ⟨d,List.mem_append_right _ hd,by omega⟩
  ·exact ⟨c,List.mem_append_left _ hc,by omega⟩
theorem sum_ne {s:Sm} {row:List Ce} (h:SumOf s row):s.tot≠0:=by
 obtain ⟨c,hc,_⟩:=h.mnI
 have:=List.length_pos_of_mem hc
 have:=h.tot
 omega
theorem sum_ht {s:Sm} {row:List Ce} (k:Int) (h:SumOf s row):SumOf { s with ht:=k } row:=⟨h.tot,h.mnL,h.mnI,h.am,h.mxL,h.mxI⟩
theorem sum_own {rs:List Int} (hid:Int) (h:rs≠ []):SumOf ⟨rs.length,1,0,hid,rs.length,hid⟩ (cellsOf rs hid):=by
 obtain ⟨x,hx⟩:=List.exists_mem_of_ne_nil rs h
 have hm:(x,hid)∈cellsOf rs hid:=by unfold cellsOf;exact List.mem_map.2 ⟨x,hx,rfl⟩
 have ha: ∀c∈cellsOf rs hid,c.2=hid:=fun c hc=>by
  unfold cellsOf at hc
  obtain ⟨d,_,rfl⟩:=List.mem_map.1 hc
  rfl
 refine ⟨by simp [Jv],fun c hc=>by rw [ha c hc];exact Int.le_refl _,⟨_,hm,V⟩,?_,fun c hc=>by rw [ha c hc];exact Int.le_refl _,⟨_,hm,V⟩⟩
 simp only
 rw [List.countP_eq_length.2 (fun c hc=>by simp [ha c hc]),Jv]
theorem wf_sum {t:Tr} (h:Wf t) (ht:t≠ .nil):SumOf (allF t) t.row:=by
 cases t with
 | nil=>exact absurd rfl ht
 | nd s l rs hid r plus=>exact h.2.2.2.2.1
theorem wf_knot {l r:Tr} {rs:List Int} {hid:Int} (hl:Wf l) (hr:Wf r) (hn:rs≠ []) (hh:0≤hid∧hid≤1048576):Wf (knotF l rs hid r)∧(knotF l rs hid r).row=l.row++(cellsOf rs hid++r.row):=by
 have hrow:(knotF l rs hid r).row=l.row++(cellsOf rs hid++r.row):=by unfold knotF;simp only [Tr.row];rw [XY]
 refine ⟨?_,hrow⟩
 have ho:=sum_own hid hn
 have hlb:=hl.bd
 have hrb:=hr.bd
 have hlt:=hl.tot
 have hrt:=hr.tot
 have ho1:=ho.tot
 have hnp:=List.length_pos_iff.2 hn
 have hins:InR (cellsOf rs hid):=fun c hc=>by
  unfold cellsOf at hc
  obtain ⟨d,_,rfl⟩:=List.mem_map.1 hc
  exact hh
 have hs:SumOf (withF (withF (allF l) ⟨rs.length,1,0,hid,rs.length,hid⟩) (allF r)) (l.row++(cellsOf rs hid++r.row))∧(withF (withF (allF l) ⟨rs.length,1,0,hid,rs.length,hid⟩) (allF r)).lv=(allF l).lv+1+(allF r).lv:=by
  have h1:SumOf (withF (allF l) ⟨rs.length,1,0,hid,rs.length,hid⟩) (l.row++cellsOf rs hid)∧(withF (allF l) ⟨rs.length,1,0,hid,rs.length,hid⟩).lv=(allF l).lv+1:=by
   cases l with
   | nil=>
    have e:withF (allF .nil) ⟨rs.length,1,0,hid,rs.length,hid⟩=⟨rs.length,1,0,hid,rs.length,hid⟩:=by
     unfold withF;rw [if_neg (by simp only;omega),if_pos (show (allF .nil).tot=0 from rfl)]
    rw [e];exact ⟨ho,rfl⟩
   | nd s l2 rs2 hid2 r2 plus2=>
    have g:=wf_sum hl (by simp)
    refine ⟨sum_with g ho,?_⟩
    unfold withF
    rw [if_neg (by simp only;omega),if_neg (sum_ne g)]
  rw [←List.append_assoc]
  cases r with
  | nil=>
   have e: ∀s,withF s (allF .nil)=s:=fun s=>by unfold withF;rw [if_pos (show (allF .nil).tot=0 from rfl)]
   rw [e]
   refine ⟨by simpa [Tr.row] using h1.1,by rw [h1.2];simp [allF,zeroSm]⟩
  | nd s l2 rs2 hid2 r2 plus2=>
   have g:=wf_sum hr (by simp)
   refine ⟨sum_with h1.1 g,?_⟩
   unfold withF
   rw [if_neg (sum_ne g)]
   have:=sum_ne h1.1
   unfold withF at this h1
   rw [if_neg this,h1.2]
 have htot:=hs.1.tot
 simp only [List.length_append,Jv] at htot
 unfold knotF
 refine ⟨hl,hr,hn,hh,?_,?_,?_⟩
 ·rw [XY];exact sum_ht _ hs.1
 ·simp only;rw [hs.2,htot];omega
 ·rw [XY];exact InR.append.2 ⟨hl.inR,InR.append.2 ⟨hins,hr.inR⟩⟩
def runesAt (s:ByteArray) (p:Nat):List Int:=
 if h:p<s.size then (Utf8.decode s p).1::runesAt s (p+(Utf8.decode s p).2) else []
 termination_by s.size-p
 decreasing_by
  have:=decode_pos s p
  omega
def Kq (s:ByteArray):List Int:=runesAt s 0
theorem utAt_runes (s:ByteArray): ∀(m p k:Nat),s.size-p≤m→(utAt s p k).2.2=0→(utAt s p k).1=k+(runesAt s p).length
 | m,p,k,hm,h=>by
  by_cases hp:p<s.size
  ·by_cases h1:begF s p (Utf8.decode s p).1=false
   ·rw [utAt_utf8 hp h1] at h;cases h
   ·by_cases h2:letF (Utf8.decode s p).1=false
    ·rw [utAt_rune hp h1 h2] at h;cases h
    ·rw [utAt_next hp h1 h2] at h ⊢
     have h3:=decode_pos s p
     cases m with
     | zero=>omega
     | succ m=>
      have:=utAt_runes s m _ _ (by omega) h
      rw [this]
      conv=>rhs;rw [runesAt,dif_pos hp]
      simp only [List.length_cons];omega
  ·rw [utAt_end hp]
   rw [runesAt,dif_neg hp];simp
theorem Y7 {s:ByteArray} (h:(utF s).2.2=0):(utF s).1=(Kq s).length:=by
 have:=utAt_runes s s.size 0 0 (by omega) h
 unfold utF Kq;rw [this];simp
def inRb (q:Int) (xs:List Rg):Bool:=xs.any fun r=>decide (r.lo≤q) && decide (q<r.hi)
theorem K8 {q:Int} {xs:List Rg} :inRb q xs=true↔memR q xs:=by
 unfold inRb memR;simp
theorem inRb_false {q:Int} {xs:List Rg} :inRb q xs=false↔ ¬memR q xs:=by
 rw [←K8];simp
def Vt (g:Rg) (k:Int) (row:List Ce):List Ce:=row.take g.lo.toNat ++(up k ((row.drop g.lo.toNat).take (g.hi-g.lo).toNat)++row.drop g.hi.toNat)
def K5 (rs:List Rg) (k:Int) (row:List Ce):List Ce:=rs.foldl (fun row g=>Vt g k row) row
theorem Zc {g:Rg} {k:Int} {row:List Ce} (h0:0≤g.lo) (h1:g.lo<g.hi) (h2:g.hi≤row.length) (q:Nat):
  (Vt g k row)[q]? =row[q]?.map fun c=>if g.lo≤(q:Int)∧(q:Int)<g.hi then (c.1,c.2+k) else c:=by
 have e1:(row.take g.lo.toNat).length=g.lo.toNat:=by rw [List.length_take];omega
 have e2:(up k ((row.drop g.lo.toNat).take (g.hi-g.lo).toNat)).length=(g.hi-g.lo).toNat:=by rw [Qm,List.length_take,List.length_drop];omega
 unfold Vt
 by_cases c1:q<g.lo.toNat
 ·rw [List.getElem?_append_left (by omega),List.getElem?_take,if_pos c1]
  cases row[q]? with
  | none=>rfl
  | some c=>simp only [Option.map_some];rw [if_neg (by omega)]
 ·rw [List.getElem?_append_right (by omega),e1]
  by_cases c2:(q:Int)<g.hi
  ·rw [List.getElem?_append_left (by omega)]
   unfold up
   rw [List.getElem?_map,List.getElem?_take,if_pos (by omega),List.getElem?_drop,show g.lo.toNat +(q-g.lo.toNat)=q from by omega]
   cases row[q]? with
   | none=>rfl
   | some c=>simp only [Option.map_some];rw [if_pos (by omega)]
  ·rw [List.getElem?_append_right (by omega),e2,List.getElem?_drop,show g.hi.toNat +(q-g.lo.toNat - (g.hi-g.lo).toNat)=q from by omega]
   cases row[q]? with
   | none=>rfl
   | some c=>simp only [Option.map_some];rw [if_neg (by omega)]
theorem Ev {g:Rg} {k:Int} {row:List Ce} (h0:0≤g.lo) (h1:g.lo<g.hi) (h2:g.hi≤row.length):(Vt g k row).length=row.length:=by
 unfold Vt
 simp only [List.length_append,Qm,List.length_take,List.length_drop];omega
theorem Yt {k:Int} : ∀(rs:List Rg) (b:Int) (row:List Ce),0≤b→NormB b rs→BelowR row.length rs→(K5 rs k row).length=row.length∧ ∀q:Nat,(K5 rs k row)[q]? =row[q]?.map fun c=>if inRb q rs=true then (c.1,c.2+k) else c
 | [],b,row,_,_,_=>⟨rfl,fun q=>by simp [K5,inRb]⟩
 | g::rs,b,row,hb,hn,ht=>by
  have h1:=hn.1
  have h2:=hn.2.1
  have h3:=ht g List.mem_cons_self
  have hl:=Ev (k:=k) (row:=row) (show 0≤g.lo by omega) h2 h3
  obtain ⟨g1,g2⟩:=Yt rs (g.hi+1) (Vt g k row) (by omega) hn.2.2 (fun x hx=>by rw [hl];exact ht x (List.mem_cons_of_mem _ hx))
  refine ⟨by show (K5 rs k (Vt g k row)).length=_;rw [g1,hl],fun q=> ?_⟩
  show (K5 rs k (Vt g k row))[q]? =_
  rw [g2 q,Zc (show 0≤g.lo by omega) h2 h3 q]
  cases row[q]? with
  | none=>rfl
  | some c=>
   simp only [Option.map_some]
   by_cases c1:g.lo≤(q:Int)∧(q:Int)<g.hi
   ·have c2:inRb q rs=false:=inRb_false.2 fun hm=>by have:=hn.2.2.below hm;omega
    have c3:inRb q (g::rs)=true:=K8.2 (KC.2 (.inl c1))
    rw [if_pos c1,c2,c3];simp
   ·rw [if_neg c1]
    have c3:inRb q (g::rs)=inRb q rs:=by
     rw [Bool.eq_iff_iff,K8,K8,KC]
     exact ⟨fun h=>h.elim (fun h=>absurd h c1) id, .inr⟩
    rw [c3]
def JX (x:GOp) (row:List Ce):List Ce:=
 if x.kind=1 then row.take x.at_.toNat ++(cellsOf (Kq x.text) 0++row.drop x.at_.toNat)
 else if x.kind=2 then K5 x.rs 1 row
 else if x.kind=3 then K5 x.rs (-1) row
 else row
structure HV (H:Hist):Prop where
 ctx:CtxOk 0 H.ops
 tot:H.total=sumO H.ops
 le:H.total≤60000
 pls: ∀e∈H.ents,Pls H.total e.now
 edit: ∀e∈H.ents,e.op.kind=4↔e.now= []
 idr: ∀e∈H.ents,rightF e.op.c e.op.n=true
 ids:(H.ents.map fun e=>(e.op.c,e.op.n)).Nodup
structure Good (H:Hist) (i:Nat) (o:GOp):Prop where
 le:i≤H.ents.length
 right:Right (K6 H i) o
 fresh:J5 H.ents o.c o.n=none
 idr:rightF o.c o.n=true
 target:o.kind=4→ ∃k,J5 H.ents o.tc o.tn=some k∧k<i∧ ∃e,H.ents[k]? =some e∧e.op.kind≠4
 room:H.total+Jr o≤60000
theorem sumW_ops: ∀(l:List Ent),sumW l=sumO (l.map (·.op))
 | [] =>rfl
 | e::l=>by simp [sumW,sumO,sumW_ops l]
theorem before_ops (H:Hist) (i:Nat):K6 H i=sumO (H.ops.take i):=by
 unfold K6 Hist.ops
 rw [sumW_ops,List.map_take]
theorem HV.total0 {H:Hist} (h:HV H):0≤H.total:=by rw [h.tot];exact sumO_nonneg h.ctx
theorem HV.split {H:Hist} (h:HV H) (i:Nat):CtxOk 0 (H.ops.take i)∧CtxOk (K6 H i) (H.ops.drop i)∧K6 H i+sumO (H.ops.drop i)=H.total∧0≤K6 H i:=by
 have h1:=h.ctx
 rw [←List.take_append_drop i H.ops,CtxOk.append,Int.zero_add,←before_ops] at h1
 refine ⟨h1.1,h1.2,?_,by rw [before_ops];exact sumO_nonneg h1.1⟩
 rw [h.tot,before_ops,←Ya,List.take_append_drop]
theorem Good.noclash {H:Hist} {i:Nat} {o:GOp} (g:Good H i o): ∀l∈H.ops,¬clashF o l:=fun l hl hc=>by
 obtain ⟨e,he,rfl⟩:=List.mem_map.1 hl
 exact Yj g.fresh e he ⟨hc.1.symm,hc.2.1.symm⟩
theorem right_ne {c n:Int} (h:rightF c n=true): ¬(c=0∧n=0):=by
 unfold rightF at h;simp at h;omega
theorem fits_good {H:Hist} {i:Nat} {o:GOp} (g:Good H i o):fitsF H i o=0:=by
 have hk:=g.right.kind
 have hr:=g.room
 unfold fitsF
 rw [if_neg (by have:=g.le;omega),if_neg (by rw [Int.toNat_natCast,g.right.ck];simp),if_neg (by omega),if_neg (right_ne g.idr),if_neg (by rw [g.fresh];simp)]
 have hrest:fitsRest H o=0:=by unfold fitsRest;rw [if_neg (by omega)]
 split
 ·rename_i h4
  obtain ⟨k,hk1,hk2,e,he,hek⟩:=g.target h4
  unfold fitsT
  rw [hk1]
  simp only
  rw [if_neg (by omega),he]
  simp only
  rw [if_neg hek];exact hrest
 ·exact hrest
theorem cross_good {H:Hist} (h:HV H) {i:Nat} {o:GOp} (g:Good H i o):
  crossF [o] (H.ops.drop i)=([(JV o (H.ops.drop i)).1],(JV o (H.ops.drop i)).2,0)∧Right H.total (JV o (H.ops.drop i)).1∧CtxOk (K6 H i+Jr o) (JV o (H.ops.drop i)).2∧Same o (JV o (H.ops.drop i)).1∧Sames (H.ops.drop i) (JV o (H.ops.drop i)).2:=by
 obtain ⟨h1,h2,h3,h4⟩:=h.split i
 have hc: ∀l∈H.ops.drop i,¬clashF o l:=fun l hl=>g.noclash l (List.mem_of_mem_drop hl)
 have hw:K6 H i+sumO (H.ops.drop i)+Jr o≤65535:=by have:=g.room;omega
 obtain ⟨c1,c2,c3,c4,c5⟩:=GF _ o _ g.right h2 hc hw
 exact ⟨ZT g.right h2 hc hw,by rw [←h3];exact c2,c3,c4,c5⟩
def shiftE (at_ n:Int) (e:Ent):Ent:=⟨e.op,(thrF e.now at_ n).1,e.off⟩
theorem XI {T at_ n:Int} : ∀ {es:List Ent},(∀e∈es,(thrF e.now at_ n).2=0)→movedAll es at_ n= .ok (es.map fun e=>(thrF e.now at_ n).1)
 | [],_=>rfl
 | e::es,h=>by
  unfold movedAll
  rw [if_neg (by rw [h e List.mem_cons_self];simp),XI (T:=T) fun x hx=>h x (List.mem_cons_of_mem _ hx)]
  rfl
theorem setNow_map {at_ n:Int} : ∀(es:List Ent),setNow es (es.map fun e=>(thrF e.now at_ n).1) es.length=es.map (shiftE at_ n)
 | [] =>rfl
 | e::es=>by simp only [List.map_cons,List.length_cons,setNow,setNow_map es];rfl
structure PutIs (H:Hist) (i:Nat) (o:GOp) (es:List Ent) (nw:List Rg) (eff:GOp):Prop where
 ins:o.kind=1→es=H.ents.map (shiftE (JV o (H.ops.drop i)).1.at_ (Jr o))∧nw= [⟨(JV o (H.ops.drop i)).1.at_,(JV o (H.ops.drop i)).1.at_+Jr o⟩] ∧eff= { effF o with at_:=(JV o (H.ops.drop i)).1.at_,text:=o.text }
 hide:o.kind=2→es=H.ents∧nw=(JV o (H.ops.drop i)).1.rs∧eff= { effF o with rs:=(JV o (H.ops.drop i)).1.rs }
 status:o.kind=4→es=(turnedF H i o).1∧nw= [] ∧eff=(turnedF H i o).2
 put:putF H i o=(⟨newEnts i o nw es (JV o (H.ops.drop i)).2,H.total+Jr o⟩,eff,0)
theorem turned_cases (H:Hist) (i:Nat) (o:GOp):turnedF H i o=(H.ents,zeroOp)∨ ∃k e,J5 H.ents o.tc o.tn=some k∧H.ents[k]? =some e∧e.off=o.on∧Yv (H.ents.drop i) o.tc o.tn=false∧turnedF H i o=(H.ents.set k (offE e (!o.on)),turnF e o.on):=by
 unfold turnedF
 split
 ·exact .inl V
 ·rename_i h1
  cases hw:J5 H.ents o.tc o.tn with
  | none=>exact .inl rfl
  | some k=>
   simp only
   cases he:H.ents[k]? with
   | none=>exact .inl rfl
   | some e=>
    simp only
    split
    ·exact .inl V
    ·rename_i h2
     refine .inr ⟨k,e,V,he,?_,by simpa using h1,V⟩
     cases h3:e.off<;>cases h4:o.on<;>simp_all
theorem put_good {H:Hist} (h:HV H) {i:Nat} {o:GOp} (g:Good H i o): ∃es nw eff,PutIs H i o es nw eff:=by
 obtain ⟨c1,c2,c3,c4,c5⟩:=cross_good h g
 have h0:=h.total0
 have hf:=fits_good g
 have hroom:=g.room
 have hwid:=g.right.width
 rcases g.right.kind with hk | hk | hk
 ·have hti:=c2.ins (c4.kind.trans hk)
  have hall: ∀e∈H.ents,(thrF e.now (JV o (H.ops.drop i)).1.at_ (Jr o)).2=0:=fun e he=>(QH (h.pls e he) h0 ⟨hti.1,hti.2.1⟩ hwid.1 (by omega)).1
  refine ⟨_,_,_,fun _=>⟨V,V,V⟩,fun e=>by omega,fun e=>by omega,?_⟩
  rw [put_4 (t:=(JV o (H.ops.drop i)).1) hf (by rw [Int.toNat_natCast,c1]) (by rw [Int.toNat_natCast,c1]) (es:=H.ents.map (shiftE (JV o (H.ops.drop i)).1.at_ (Jr o))) (nw:= [⟨(JV o (H.ops.drop i)).1.at_,(JV o (H.ops.drop i)).1.at_+Jr o⟩]) (eff:= { effF o with at_:=(JV o (H.ops.drop i)).1.at_,text:=o.text }) ?_,Int.toNat_natCast,c1]
  unfold midF
  rw [if_pos hk,XI (T:=H.total) hall]
  simp only
  rw [setNow_map]
 ·refine ⟨_,_,_,fun e=>by omega,fun _=>⟨V,V,V⟩,fun e=>by omega,?_⟩
  rw [put_4 (t:=(JV o (H.ops.drop i)).1) hf (by rw [Int.toNat_natCast,c1]) (by rw [Int.toNat_natCast,c1]) (es:=H.ents) (nw:=(JV o (H.ops.drop i)).1.rs) (eff:= { effF o with rs:=(JV o (H.ops.drop i)).1.rs }) ?_,Int.toNat_natCast,c1]
  unfold midF
  rw [if_neg (by omega),if_pos hk]
 ·refine ⟨_,_,_,fun e=>by omega,fun e=>by omega,fun _=>⟨V,V,V⟩,?_⟩
  rw [put_4 (t:=(JV o (H.ops.drop i)).1) hf (by rw [Int.toNat_natCast,c1]) (by rw [Int.toNat_natCast,c1]) (es:=(turnedF H i o).1) (nw:= []) (eff:=(turnedF H i o).2) ?_,Int.toNat_natCast,c1]
  unfold midF
  rw [if_neg (by omega),if_neg (by omega),if_pos hk,Int.toNat_natCast]
theorem PutIs.es_ops {H:Hist} {i:Nat} {o:GOp} {es:List Ent} {nw:List Rg} {eff:GOp} (g:Good H i o) (p:PutIs H i o es nw eff):es.map (·.op)=H.ops:=by
 rcases g.right.kind with hk | hk | hk
 ·rw [(p.ins hk).1];unfold Hist.ops;rw [List.map_map];rfl
 ·rw [(p.hide hk).1];rfl
 ·rw [(p.status hk).1]
  rcases turned_cases H i o with e | ⟨k,e,h1,h2,h3,h4,h5⟩
  ·rw [e];rfl
  ·rw [h5]
   have hk:k<H.ents.length:=by
    rcases Nat.lt_or_ge k H.ents.length with h | h
    ·exact h
    ·rw [List.getElem?_eq_none h] at h2;cases h2
   rw [List.getElem?_eq_getElem hk] at h2
   have:=Gx hk (offE e (!o.on)) (by rw [←Option.some.inj h2];rfl) H.total
   exact this
theorem PutIs.sames {H:Hist} (h:HV H) {i:Nat} {o:GOp} {es:List Ent} {nw:List Rg} {eff:GOp} (g:Good H i o) (p:PutIs H i o es nw eff):Sames ((es.drop i).map (·.op)) (JV o (H.ops.drop i)).2:=by
 rw [List.map_drop,p.es_ops g]
 exact (cross_good h g).2.2.2.2
theorem PutIs.len {H:Hist} {i:Nat} {o:GOp} {es:List Ent} {nw:List Rg} {eff:GOp} (g:Good H i o) (p:PutIs H i o es nw eff):es.length=H.ents.length:=by
 have:=congrArg List.length (p.es_ops g)
 simpa [Hist.ops] using this
theorem PutIs.old {H:Hist} (h:HV H) {i:Nat} {o:GOp} {es:List Ent} {nw:List Rg} {eff:GOp} (g:Good H i o) (p:PutIs H i o es nw eff): ∀e∈es,∃x∈H.ents,e.op=x.op∧(e.now=x.now∨(o.kind=1∧e.now=(thrF x.now (JV o (H.ops.drop i)).1.at_ (Jr o)).1)):=by
 intro e he
 rcases g.right.kind with hk | hk | hk
 ·rw [(p.ins hk).1] at he
  obtain ⟨x,hx,rfl⟩:=List.mem_map.1 he
  exact ⟨x,hx,V, .inr ⟨hk,V⟩⟩
 ·rw [(p.hide hk).1] at he;exact ⟨e,he,rfl, .inl rfl⟩
 ·rw [(p.status hk).1] at he
  rcases turned_cases H i o with e' | ⟨k,e',h1,h2,h3,h4,h5⟩
  ·rw [e'] at he;exact ⟨e,he,rfl, .inl rfl⟩
  ·rw [h5] at he
   rcases List.mem_or_eq_of_mem_set he with he | rfl
   ·exact ⟨e,he,V, .inl V⟩
   ·exact ⟨e',List.mem_of_getElem? h2,V, .inl V⟩
theorem put_hv {H:Hist} (h:HV H) {i:Nat} {o:GOp} {es:List Ent} {nw:List Rg} {eff:GOp} (g:Good H i o) (p:PutIs H i o es nw eff):HV ⟨newEnts i o nw es (JV o (H.ops.drop i)).2,H.total+Jr o⟩:=by
 obtain ⟨c1,c2,c3,c4,c5⟩:=cross_good h g
 obtain ⟨s1,s2,s3,s4⟩:=h.split i
 have h0:=h.total0
 have hs:=p.sames h g
 have hops:(⟨newEnts i o nw es (JV o (H.ops.drop i)).2,H.total+Jr o⟩:Hist).ops=H.ops.take i++([o] ++(JV o (H.ops.drop i)).2):=by
  show (newEnts i o nw es (JV o (H.ops.drop i)).2).map (·.op)=_
  rw [newEnts_ops hs,p.es_ops g]
 have hroom:=g.room
 have hwid:=g.right.width
 have hpl: ∀x∈H.ents,∀e:Ent,e.op=x.op∧(e.now=x.now∨(o.kind=1∧e.now=(thrF x.now (JV o (H.ops.drop i)).1.at_ (Jr o)).1))→Pls (H.total+Jr o) e.now∧(x.op.kind=4↔e.now= []):=by
  intro x hx e he
  have hpx:=h.pls x hx
  rcases he.2 with e1 | ⟨hk,e1⟩
  ·rw [e1]
   refine ⟨⟨hpx.norm,hpx.below.mono (by omega)⟩,h.edit x hx⟩
  ·have hti:=c2.ins (c4.kind.trans hk)
   obtain ⟨t1,t2,t3,t4⟩:=QH hpx h0 ⟨hti.1,hti.2.1⟩ hwid.1 (by omega)
   rw [e1]
   exact ⟨t2,(h.edit x hx).trans t4⟩
 have hnew:Pls (H.total+Jr o) nw∧(o.kind=4↔nw= []):=by
  rcases g.right.kind with hk | hk | hk
  ·have hti:=c2.ins (c4.kind.trans hk)
   have h1:=(hwid.2.2.1 hk).1
   rw [(p.ins hk).2.1]
   refine ⟨⟨⟨hti.1,by dsimp only;omega,trivial⟩,fun r hr=> ?_⟩,by simp [hk]⟩
   simp only [List.mem_singleton] at hr;subst hr
   dsimp only;omega
  ·obtain ⟨t1,t2⟩:=c2.cov (c4.kind.trans hk) (by omega)
   rw [(p.hide hk).2.1]
   refine ⟨⟨t2.norm,t2.below.mono (by omega)⟩,by rw [hk];exact ⟨fun e=>by omega,fun e=>absurd e t1⟩⟩
  ·rw [(p.status hk).2.1]
   exact ⟨⟨trivial,fun r hr=>by cases hr⟩,by simp [hk]⟩
 refine ⟨?_,?_,hroom,?_,?_,?_,?_⟩
 ·rw [hops,CtxOk.append,Int.zero_add,←before_ops]
  refine ⟨s1,g.right,?_⟩
  exact c3
 ·rw [hops,Ya,←before_ops,Ya]
  simp only [sumO]
  rw [c5.sumO];omega
 ·intro e he
  show Pls (H.total+Jr o) e.now
  rcases YI hs he with he | rfl | ⟨x,hx,y,hy,hsm,rfl⟩
  ·obtain ⟨x,hx,hh⟩:=p.old h g e he
   exact (hpl x hx e hh).1
  ·exact hnew.1
  ·obtain ⟨z,hz,hh⟩:=p.old h g x hx
   exact (hpl z hz x hh).1
 ·intro e he
  rcases YI hs he with he | rfl | ⟨x,hx,y,hy,hsm,rfl⟩
  ·obtain ⟨x,hx,hh⟩:=p.old h g e he
   rw [hh.1];exact (hpl x hx e hh).2
  ·exact hnew.2
  ·obtain ⟨z,hz,hh⟩:=p.old h g x hx
   show y.kind=4↔x.now= []
   rw [hsm.kind,hh.1];exact (hpl z hz x hh).2
 ·intro e he
  rcases YI hs he with he | rfl | ⟨x,hx,y,hy,hsm,rfl⟩
  ·obtain ⟨x,hx,hh⟩:=p.old h g e he
   rw [hh.1];exact h.idr x hx
  ·exact g.idr
  ·obtain ⟨z,hz,hh⟩:=p.old h g x hx
   show rightF y.c y.n=true
   rw [hsm.c,hsm.n,hh.1];exact h.idr z hz
 ·show ((newEnts i o nw es (JV o (H.ops.drop i)).2).map fun e=>(e.op.c,e.op.n)).Nodup
  have e0:(es.map fun e=>(e.op.c,e.op.n))=H.ents.map fun e=>(e.op.c,e.op.n):=by
   have:=congrArg (List.map fun x:GOp=>(x.c,x.n)) (p.es_ops g)
   unfold Hist.ops at this
   rw [List.map_map,List.map_map] at this
   exact this
  unfold newEnts
  rw [List.map_append,List.map_cons,ids_zipE _ _ hs]
  have e:(es.map fun e=>(e.op.c,e.op.n))=((es.take i).map fun e=>(e.op.c,e.op.n))++((es.drop i).map fun e=>(e.op.c,e.op.n)):=by rw [←List.map_append,List.take_append_drop]
  have hnot:(o.c,o.n)∉es.map fun e=>(e.op.c,e.op.n):=fun hm=>by
   rw [e0] at hm
   obtain ⟨x,hx,hh⟩:=List.mem_map.1 hm
   simp only [Prod.mk.injEq] at hh
   exact Yj g.fresh x hx hh
  have pp:(((es.take i).map fun e=>(e.op.c,e.op.n))++(o.c,o.n)::((es.drop i).map fun e=>(e.op.c,e.op.n))).Perm ((o.c,o.n)::es.map fun e=>(e.op.c,e.op.n)):=by
   rw [e];exact List.perm_middle
  exact pp.nodup_iff.2 (List.nodup_cons.2 ⟨hnot,by rw [e0];exact h.ids⟩)
def hidE (e:Ent):Bool:=(decide (e.op.kind=1) && e.off) || (decide (e.op.kind=2) && !e.off)
def cnt (es:List Ent) (q:Int):Nat:=es.countP fun e=>hidE e && inRb q e.now
structure Rule (H:Hist) (row:List Ce):Prop where
 len:(row.length:Int)=H.total
 cnt: ∀(q:Nat) c,row[q]? =some c→c.2=cnt H.ents q
structure EffOk (x:GOp) (row:List Ce):Prop where
 ck:checkF x row.length=0
 kind:x.kind=1∨x.kind=2∨x.kind=3
 up:x.kind=2→ ∀(q:Nat) c,row[q]? =some c→inRb q x.rs=true→c.2<1048576
 dn:x.kind=3→ ∀(q:Nat) c,row[q]? =some c→inRb q x.rs=true→1≤c.2
theorem hidE_off (e:Ent) (b:Bool):hidE (offE e b)=((decide (e.op.kind=1) && b) || (decide (e.op.kind=2) && !b)):=rfl
theorem emptyB:((⟨#[]⟩:ByteArray)==⟨#[]⟩)=true:=by decide
theorem GC (a b:List Ent) (q:Int):cnt (a++b) q=cnt a q+cnt b q:=by unfold cnt;rw [List.countP_append]
theorem QP (e:Ent) (b:List Ent) (q:Int):cnt (e::b) q=cnt b q+(if (hidE e && inRb q e.now)=true then 1 else 0):=by unfold cnt;rw [List.countP_cons]
theorem cnt_zipE (q:Int): ∀(xs:List GOp) (es:List Ent),Sames (es.map (·.op)) xs→cnt (zipE xs es) q=cnt es q
 | [],[],_=>rfl
 | x::xs,e::es,h=>by
  cases h with
  | cons h hr=>
   unfold zipE
   rw [QP,QP,cnt_zipE q xs es hr]
   have:hidE ⟨x,e.now,e.off⟩=hidE e:=by unfold hidE;simp only [h.kind]
   rw [this]
 | [],e::es,h=>by cases h
 | x::xs,[],h=>by cases h
theorem cnt_new (q:Int) {i:Nat} {o:GOp} {nw:List Rg} {es:List Ent} {later:List GOp} (h:Sames ((es.drop i).map (·.op)) later):cnt (newEnts i o nw es later) q=cnt es q+(if (decide (o.kind=2) && inRb q nw)=true then 1 else 0):=by
 unfold newEnts
 rw [GC,QP,cnt_zipE q _ _ h]
 have e1:hidE ⟨o,nw,false⟩=decide (o.kind=2):=by unfold hidE;simp
 rw [e1]
 conv=>rhs;rw [←List.take_append_drop i es,GC]
 simp only
 omega
theorem ZV (es:List Ent) (q:Int):cnt es q≤es.length:=List.countP_le_length
theorem cnt_shift {T at_ n:Int} (q:Int) (ha:0≤at_∧at_≤T) (hn:0≤n) (hs:T+n≤65535): ∀(es:List Ent),(∀e∈es,Pls T e.now)→cnt (es.map (shiftE at_ n)) q=if q<at_ then cnt es q else if q<at_+n then 0 else cnt es (q-n)
 | [],_=>by simp [cnt]
 | e::es,h=>by
  have ih:=cnt_shift q ha hn hs es fun x hx=>h x (List.mem_cons_of_mem _ hx)
  obtain ⟨t1,t2,t3,t4⟩:=QH (h e List.mem_cons_self) (by omega) ha hn hs
  rw [List.map_cons,QP,ih]
  have e1:hidE (shiftE at_ n e)=hidE e:=rfl
  have e2:inRb q (shiftE at_ n e).now=if q<at_ then inRb q e.now else if q<at_+n then false else inRb (q-n) e.now:=by
   rw [Bool.eq_iff_iff]
   have:=t3 q
   rw [show (inRb q (shiftE at_ n e).now=true)↔memR q (thrF e.now at_ n).1 from K8,this]
   by_cases c1:q<at_
   ·rw [if_pos c1,K8]
    constructor
    ·rintro (h | h)
     ·exact h.2
     ·omega
    ·intro h;exact .inl ⟨c1,h⟩
   ·rw [if_neg c1]
    by_cases c2:q<at_+n
    ·rw [if_pos c2]
     constructor
     ·rintro (h | h)<;>omega
     ·intro h;cases h
    ·rw [if_neg c2,K8]
     constructor
     ·rintro (h | h)
      ·omega
      ·exact h.2
     ·intro h;exact .inr ⟨by omega,h⟩
  rw [e1,e2]
  by_cases c1:q<at_
  ·simp only [if_pos c1];rw [QP]
  ·by_cases c2:q<at_+n
   ·simp only [if_neg c1,if_pos c2];simp
   ·simp only [if_neg c1,if_neg c2];rw [QP]
theorem effHead {x:GOp} (hk:x.kind=1∨x.kind=2∨x.kind=3) (hc:x.c=0) (hn:x.n=0) (he:extraF x=false):headF x:=by
 refine ⟨by omega,fun h=> ?_,by rw [he];simp⟩
 omega
theorem runes_width {w:Int} {o:GOp} (h:Right w o) (hk:o.kind=1):((Kq o.text).length:Int)=Jr o:=by
 have h3:=YD.1 ((check_ins hk h.w0).1 h.ck).2
 rw [(h.width.2.2.1 hk).2,Y7 h3.1]
theorem put_row {H:Hist} (h:HV H) {i:Nat} {o:GOp} {es:List Ent} {nw:List Rg} {eff:GOp} (g:Good H i o) (p:PutIs H i o es nw eff) {row:List Ce} (hr:Rule H row) (hl:H.ents.length≤1000):
  (eff.kind≠0→EffOk eff row)∧(eff.kind=0→eff=zeroOp∧o.kind=4)∧Rule ⟨newEnts i o nw es (JV o (H.ops.drop i)).2,H.total+Jr o⟩ (JX eff row):=by
 obtain ⟨c1,c2,c3,c4,c5⟩:=cross_good h g
 have h0:=h.total0
 have hs:=p.sames h g
 have hroom:=g.room
 have hwid:=g.right.width
 have hlen:=hr.len
 rcases g.right.kind with hk | hk | hk
 ·obtain ⟨e1,e2,e3⟩:=p.ins hk
  have hti:=c2.ins (c4.kind.trans hk)
  have hw2:Jr (JV o (H.ops.drop i)).1=Jr o:=c4.width
  have hins:=YD.1 ((check_ins hk g.right.w0).1 g.right.ck).2
  have hwk:=(hwid.2.2.1 hk).2
  have hrun:=runes_width g.right hk
  generalize hta:(JV o (H.ops.drop i)).1.at_=ta at *
  have hek:eff.kind=1:=by rw [e3];exact hk
  refine ⟨fun _=>⟨?_, .inl hek,fun e=>by omega,fun e=>by omega⟩,fun e=>by omega,?_,?_⟩
  ·rw [e3]
   refine (check_ins (o:= { effF o with at_:=ta,text:=o.text }) hk (by omega)).2 ⟨effHead (.inl hk) rfl rfl ?_,YD.2 ⟨hins.1,hins.2.1,by show 0≤ta∧ta≤_;omega,by show _+(utF o.text).1≤_;omega⟩⟩
   simp [extraF,effF,zeroOp,hk,emptyB]
  ·unfold JX
   rw [if_pos hek,e3]
   simp only [List.length_append,List.length_take,List.length_drop,Jv]
   omega
  ·intro q c hq
   show c.2=(cnt (newEnts i o nw es (JV o (H.ops.drop i)).2) q:Nat)
   rw [cnt_new q hs,e1,cnt_shift (T:=H.total) q ⟨hti.1,hti.2.1⟩ hwid.1 (by omega) H.ents h.pls]
   simp only [hk,show ((1:Int)=2)=False from by simp,decide_false,Bool.false_and,Bool.false_eq_true,if_false,Nat.add_zero]
   unfold JX at hq
   rw [if_pos hek,e3] at hq
   simp only at hq
   have el1:(row.take ta.toNat).length=ta.toNat:=by rw [List.length_take];omega
   by_cases d1:(q:Int)<ta
   ·rw [List.getElem?_append_left (by omega),List.getElem?_take,if_pos (by omega)] at hq
    rw [if_pos d1];exact hr.cnt q c hq
   ·rw [List.getElem?_append_right (by omega),el1] at hq
    rw [if_neg d1]
    by_cases d2:(q:Int)<ta+Jr o
    ·rw [List.getElem?_append_left (by rw [Jv];omega)] at hq
     rw [if_pos d2]
     unfold cellsOf at hq
     rw [List.getElem?_map] at hq
     cases hx:(Kq o.text)[q-ta.toNat]? with
     | none=>rw [hx] at hq;cases hq
     | some x=>rw [hx] at hq;simp only [Option.map_some,Option.some.injEq] at hq;subst hq;rfl
    ·rw [List.getElem?_append_right (by rw [Jv];omega),Jv,List.getElem?_drop] at hq
     rw [if_neg d2]
     have:=hr.cnt _ c hq
     rw [this]
     congr 2
     omega
 ·obtain ⟨e1,e2,e3⟩:=p.hide hk
  obtain ⟨t1,t2⟩:=c2.cov (c4.kind.trans hk) (by omega)
  generalize htr:(JV o (H.ops.drop i)).1.rs=tr at *
  have hek:eff.kind=2:=by rw [e3];exact hk
  have hers:eff.rs=tr:=by rw [e3]
  have hget:=Yt (k:=1) tr 0 row (Int.le_refl _) t2.norm (by rw [hlen];exact t2.below)
  have happ:JX eff row=K5 tr 1 row:=by unfold JX;rw [if_neg (by omega),if_pos hek,hers]
  refine ⟨fun _=>⟨?_, .inr (.inl hek),fun _ q c hq _=> ?_,fun e=>by omega⟩,fun e=>by omega,?_,?_⟩
  ·rw [e3]
   refine (check_cov (o:= { effF o with rs:=tr }) (.inl hk) (by omega)).2 ⟨effHead (.inr (.inl hk)) rfl rfl ?_,(YX (by omega)).2 ⟨t1,by rw [hlen];exact t2⟩⟩
   simp [extraF,effF,zeroOp,hk,emptyB]
  ·have:=hr.cnt q c hq
   have:=ZV H.ents q
   omega
  ·rw [happ,hget.1,hlen,hwid.2.2.2 (by omega)];simp
  ·intro q c hq
   show c.2=(cnt (newEnts i o nw es (JV o (H.ops.drop i)).2) q:Nat)
   rw [cnt_new q hs,e1,e2]
   rw [happ,hget.2 q] at hq
   cases hx:row[q]? with
   | none=>rw [hx] at hq;cases hq
   | some d=>
    rw [hx] at hq
    simp only [Option.map_some,Option.some.injEq] at hq
    have:=hr.cnt q d hx
    subst hq
    simp only [hk,decide_true,Bool.true_and]
    by_cases hb:inRb q tr=true
    ·simp only [hb,if_true];omega
    ·simp only [hb];simpa using this
 ·obtain ⟨e1,e2,e3⟩:=p.status hk
  have hw0:=hwid.2.2.2 (by omega)
  obtain ⟨k0,hk0,hk1,e0,he0,hek0⟩:=g.target hk
  have hcn: ∀q,cnt (newEnts i o nw es (JV o (H.ops.drop i)).2) q=cnt es q:=fun q=>by
   rw [cnt_new q hs];simp [hk]
  rcases turned_cases H i o with e | ⟨k,e,g1,g2,g3,g4,g5⟩
  ·rw [e] at e1 e3
   simp only at e1 e3
   have happ:JX eff row=row:=by rw [e3];rfl
   refine ⟨fun hh=>absurd (by rw [e3];rfl) hh,fun _=>⟨e3,hk⟩,?_,?_⟩
   ·rw [happ,hlen,hw0];simp
   ·intro q c hq
    rw [happ] at hq
    show c.2=(cnt (newEnts i o nw es (JV o (H.ops.drop i)).2) q:Nat)
    rw [hcn,e1];exact hr.cnt q c hq
  ·rw [g5] at e1 e3
   simp only at e1 e3
   have hkk:k<H.ents.length:=by
    rcases Nat.lt_or_ge k H.ents.length with h | h
    ·exact h
    ·rw [List.getElem?_eq_none h] at g2;cases g2
   have hge:H.ents[k] =e:=by rw [List.getElem?_eq_getElem hkk] at g2;exact Option.some.inj g2
   obtain rfl:k0=k:=Option.some.inj (hk0.symm.trans g1)
   obtain rfl:e0=e:=Option.some.inj (he0.symm.trans g2)
   have hem:e0∈H.ents:=List.mem_of_getElem? g2
   have hpe:=h.pls e0 hem
   have hne:e0.now≠ [] :=fun hh=>hek0 ((h.edit e0 hem).2 hh)
   have hek:e0.op.kind=1∨e0.op.kind=2:=by
    have h1:=h.ctx
    have h2: ∀(l:List GOp) (w:Int),CtxOk w l→ ∀x∈l,x.kind=1∨x.kind=2∨x.kind=4:=by
     intro l
     induction l with
     | nil=>intro w _ x hx;cases hx
     | cons y l ih=>
      intro w hc x hx
      rcases List.mem_cons.1 hx with rfl | hx
      ·exact hc.1.kind
      ·exact ih _ hc.2 x hx
    have:=h2 _ _ h1 e0.op (List.mem_map.2 ⟨e0,hem,rfl⟩)
    omega
   have hcs: ∀q,cnt es q+(if (hidE e0 && inRb q e0.now)=true then 1 else 0)=cnt H.ents q+(if (hidE (offE e0 (!o.on)) && inRb q e0.now)=true then 1 else 0):=by
    intro q
    rw [e1]
    unfold cnt
    rw [List.countP_set hkk]
    simp only [hge]
    have hpos:(if (hidE e0 && inRb q e0.now)=true then 1 else 0)≤H.ents.countP fun e=>hidE e && inRb q e.now:=by
     split
     ·rename_i hh
      exact List.countP_pos_iff.2 ⟨e0,hem,hh⟩
     ·omega
    have:(offE e0 (!o.on)).now=e0.now:=rfl
    rw [this]
    omega
   have hcheck: ∀kd:Int,(kd=2∨kd=3)→eff.kind=kd→checkF eff row.length=0:=by
    intro kd hkd hekd
    refine (check_cov (by omega) (by omega)).2 ⟨effHead (by omega) (by rw [e3];rfl) (by rw [e3];rfl) ?_,(YX (by omega)).2 ⟨by rw [e3];exact hne,by rw [hlen,e3];exact hpe⟩⟩
    have h1:eff.at_=0:=by rw [e3];rfl
    have h2:eff.text=⟨#[]⟩:=by rw [e3];rfl
    have h3:eff.tc=0:=by rw [e3];rfl
    have h4:eff.tn=0:=by rw [e3];rfl
    have h5:eff.on=false:=by rw [e3];rfl
    have h6:(⟨#[]⟩:ByteArray)==⟨#[]⟩:=by decide
    unfold extraF
    rw [h1,h2,h3,h4,h5]
    rcases hkd with rfl | rfl<;>simp [hekd,h6]
   have hers:eff.rs=e0.now:=by rw [e3];rfl
   have hon:o.on=e0.off:=g3.symm
   by_cases hcase:(decide (e0.op.kind=2)==o.on)=true
   ·have hekd:eff.kind=2:=by rw [e3];unfold turnF;simp only;rw [if_pos hcase]
    have happ:JX eff row=K5 e0.now 1 row:=by unfold JX;rw [if_neg (by omega),if_pos hekd,hers]
    have hget:=Yt (k:=1) e0.now 0 row (Int.le_refl _) hpe.norm (by rw [hlen];exact hpe.below)
    have hh1:hidE e0=false∧hidE (offE e0 (!o.on))=true:=by
     rw [hidE_off]
     unfold hidE
     rw [hon] at hcase ⊢
     rcases hek with hh | hh<;>(rw [hh] at hcase ⊢;revert hcase;cases e0.off<;>decide)
    refine ⟨fun _=>⟨hcheck 2 (.inl V) hekd, .inr (.inl hekd),fun _ q c hq _=> ?_,fun e=>by omega⟩,fun e=>by omega,?_,?_⟩
    ·have:=hr.cnt q c hq
     have:=ZV H.ents q
     omega
    ·rw [happ,hget.1,hlen,hw0];simp
    ·intro q c hq
     show c.2=(cnt (newEnts i o nw es (JV o (H.ops.drop i)).2) q:Nat)
     rw [hcn]
     have hc:=hcs q
     rw [hh1.1,hh1.2] at hc
     simp only [Bool.false_and,Bool.false_eq_true,if_false,Nat.add_zero,Bool.true_and] at hc
     rw [happ,hget.2 q] at hq
     cases hx:row[q]? with
     | none=>rw [hx] at hq;cases hq
     | some d=>
      rw [hx] at hq
      simp only [Option.map_some,Option.some.injEq] at hq
      have:=hr.cnt q d hx
      subst hq
      by_cases hb:inRb q e0.now=true
      ·rw [if_pos hb] at hc ⊢;simp only;omega
      ·rw [if_neg hb] at hc ⊢;omega
   ·have hekd:eff.kind=3:=by rw [e3];unfold turnF;simp only;rw [if_neg hcase]
    have happ:JX eff row=K5 e0.now (-1) row:=by unfold JX;rw [if_neg (by omega),if_neg (by omega),if_pos hekd,hers]
    have hget:=Yt (k:= -1) e0.now 0 row (Int.le_refl _) hpe.norm (by rw [hlen];exact hpe.below)
    have hh1:hidE e0=true∧hidE (offE e0 (!o.on))=false:=by
     rw [hidE_off]
     unfold hidE
     rw [hon] at hcase ⊢
     rcases hek with hh | hh<;>(rw [hh] at hcase ⊢;revert hcase;cases e0.off<;>decide)
    refine ⟨fun _=>⟨hcheck 3 (.inr V) hekd, .inr (.inr hekd),fun e=>by omega,fun _ q c hq hb=> ?_⟩,fun e=>by omega,?_,?_⟩
    ·have h1:=hr.cnt q c hq
     rw [hers] at hb
     have h2:0<cnt H.ents q:=by
      unfold cnt
      exact List.countP_pos_iff.2 ⟨e0,hem,by rw [hh1.1,hb];rfl⟩
     omega
    ·rw [happ,hget.1,hlen,hw0];simp
    ·intro q c hq
     show c.2=(cnt (newEnts i o nw es (JV o (H.ops.drop i)).2) q:Nat)
     rw [hcn]
     have hc:=hcs q
     rw [hh1.1,hh1.2] at hc
     simp only [Bool.false_and,Bool.false_eq_true,if_false,Nat.add_zero,Bool.true_and] at hc
     rw [happ,hget.2 q] at hq
     cases hx:row[q]? with
     | none=>rw [hx] at hq;cases hq
     | some d=>
      rw [hx] at hq
      simp only [Option.map_some,Option.some.injEq] at hq
      have:=hr.cnt q d hx
      subst hq
      by_cases hb:inRb q e0.now=true
      ·rw [if_pos hb] at hc ⊢;simp only;omega
      ·rw [if_neg hb] at hc ⊢;omega
def ints (k:IntKind) (xs:List Int):List Value:=xs.map (Value.int k)
theorem ints_reps (k:IntKind) (xs:List Int) (Z:Nat→Prop) (w:World):Reps ((De.int k).rep Z w) xs (xs.map fun x=> [Value.int k x]):=by
 induction xs with
 | nil=>exact .nil
 | cons x xs ih=>exact .cons rfl ih
theorem ints_flat (k:IntKind) (xs:List Int):(xs.map fun x=> [Value.int k x]).flatten=ints k xs:=by
 induction xs with
 | nil=>rfl
 | cons x xs ih=>simp only [List.map_cons,List.flatten_cons,ih];rfl
theorem KV (k:IntKind) (xs ys:List Int):ints k (xs++ys)=ints k xs++ints k ys:=by unfold ints;simp
theorem reps_int {k:IntKind} {xs:List Int} {css:List (List Value)} {Z:Nat→Prop} {w:World} (h:Reps ((De.int k).rep Z w) xs css):css.flatten=ints k xs:=by
 induction h with
 | nil=>rfl
 | cons h _ ih=>
  have h':_= [Value.int k _] :=h
  rw [List.flatten_cons,h',ih];rfl
structure Pc where
 rs:List Int
 hid:Int
def pcD:De Pc where
 sz:=2
 rep Z w p cs:= ∃A c,cs=pcC p.rs p.hid A c∧RdS runeD Z w A c p.rs
 len h:=by obtain ⟨A,c,rfl,_⟩:=h;rfl
 one h:=by obtain ⟨A,c,rfl,_⟩:=h;rfl
 stable hz hh h1 h2 h3 h:=by
  obtain ⟨A,c,g1,g2⟩:=h
  exact ⟨A,c,g1,(RdF runeD A c _).stable hz hh h1 h2 h3 g2⟩
theorem pc_open (u:Pc): ∀Z w cs,pcD.rep Z w u cs→ ∃y:Option Addr×Nat,cs=pcC u.rs u.hid y.1 y.2∧ ∀B∈ [RdF runeD y.1 y.2 u.rs],B.holds Z w:=fun _ _ _ h=>by
 obtain ⟨A,c,h1,h2⟩:=h
 exact ⟨(A,c),h1,fun B hB=>by simp only [List.mem_singleton] at hB;subst hB;exact h2⟩
def pcsRow (ps:List Pc):List Ce:=ps.flatMap fun p=>cellsOf p.rs p.hid
def PcOk (ps:List Pc):Prop:= ∀p∈ps,p.rs≠ [] ∧0≤p.hid∧p.hid≤1048576
theorem KN (a b:List Pc):pcsRow (a++b)=pcsRow a++pcsRow b:=by unfold pcsRow;rw [List.flatMap_append]
theorem VD (p:Pc) (b:List Pc):pcsRow (p::b)=cellsOf p.rs p.hid++pcsRow b:=by unfold pcsRow;rw [List.flatMap_cons]
theorem Qy (p:Pc):pcsRow [p] =cellsOf p.rs p.hid:=by unfold pcsRow;simp
theorem PcOk.append {a b:List Pc} :PcOk (a++b)↔PcOk a∧PcOk b:=by
 unfold PcOk;simp only [List.mem_append]
 exact ⟨fun h=>⟨fun p hp=>h p (.inl hp),fun p hp=>h p (.inr hp)⟩,fun h p hp=>hp.elim (h.1 p) (h.2 p)⟩
theorem PcOk.one {p:Pc} (h:p.rs≠ []) (h2:0≤p.hid∧p.hid≤1048576):PcOk [p] :=fun q hq=>by
 rw [List.mem_singleton] at hq;subst hq;exact ⟨h,h2⟩
theorem PcOk.len: ∀ {ps:List Pc},PcOk ps→ps.length≤(pcsRow ps).length
 | [],_=>by simp
 | p::ps,h=>by
  have h1:=(h p List.mem_cons_self).1
  have h2:=List.length_pos_iff.2 h1
  have h3:=PcOk.len (ps:=ps) fun q hq=>h q (List.mem_cons_of_mem _ hq)
  rw [VD,List.length_append,Jv,List.length_cons];omega
theorem Xm (a b:List Int) (hid:Int):cellsOf (a++b) hid=cellsOf a hid++cellsOf b hid:=by unfold cellsOf;rw [List.map_append]
theorem runesAt_end {s:ByteArray} {p:Nat} (h: ¬p<s.size):runesAt s p= [] :=by rw [runesAt,dif_neg h]
theorem runesAt_next {s:ByteArray} {p:Nat} (h:p<s.size):runesAt s p=((Utf8.decode s p).1:Int)::runesAt s (p+(Utf8.decode s p).2):=by
 conv=>lhs;unfold runesAt
 rw [dif_pos h]
def cutAt (n k i:Nat):Nat:=i*n / k
theorem cutAt_lt {n k i:Nat} (hk:0<k) (hn:k≤n):cutAt n k i<cutAt n k (i+1):=by
 unfold cutAt
 have h1:(i+1)*n=i*n+n:=by rw [Nat.add_mul,Nat.one_mul]
 rw [h1]
 have h2:i*n / k+1≤(i*n+n) / k:=by
  rw [Nat.le_div_iff_mul_le hk,Nat.add_mul,Nat.one_mul]
  have:=Nat.div_mul_le_self (i*n) k
  omega
 omega
theorem EV {n k i:Nat} (hk:0<k) (hi:i≤k):cutAt n k i≤n:=by
 unfold cutAt
 calc i*n / k≤k*n / k:=Nat.div_le_div_right (Nat.mul_le_mul_right n hi)
  _=n:=Nat.mul_div_cancel_left n hk
theorem cutAt_last {n k:Nat} (hk:0<k):cutAt n k k=n:=by unfold cutAt;exact Nat.mul_div_cancel_left n hk
theorem Hk {n k:Nat} :cutAt n k 0=0:=by unfold cutAt;simp
def cutPc (rs:List Int) (hid:Int) (k i:Nat):Pc:=⟨(rs.take (cutAt rs.length k (i+1))).drop (cutAt rs.length k i),hid⟩
def cutPcs (rs:List Int) (hid:Int) (k:Nat):Nat→List Pc
 | 0=> []
 | i+1=>cutPcs rs hid k i++ [cutPc rs hid k i]
theorem QM (rs:List Int) (hid:Int) (k:Nat): ∀i,(cutPcs rs hid k i).length=i
 | 0=>rfl
 | i+1=>by simp [cutPcs,QM rs hid k i]
theorem G1 {rs:List Int} {hid:Int} {k:Nat} (hk:0<k) (hn:k≤rs.length) (hh:0≤hid∧hid≤1048576): ∀i,i≤k→PcOk (cutPcs rs hid k i)∧pcsRow (cutPcs rs hid k i)=cellsOf (rs.take (cutAt rs.length k i)) hid
 | 0,_=>⟨fun p hp=>by simp [cutPcs] at hp,by rw [Hk];rfl⟩
 | i+1,hi=>by
  obtain ⟨h1,h2⟩:=G1 hk hn hh i (by omega)
  have h3:=cutAt_lt (n:=rs.length) (k:=k) (i:=i) hk hn
  have h4:=EV (n:=rs.length) (k:=k) (i:=i+1) hk hi
  refine ⟨PcOk.append.2 ⟨h1,PcOk.one (fun e=> ?_) hh⟩,?_⟩
  ·have:=congrArg List.length e
   simp only [cutPc,List.length_drop,List.length_take,List.length_nil] at this
   omega
  ·rw [cutPcs,KN,h2,Qy]
   unfold cutPc
   simp only
   rw [←Xm]
   congr 1
   have e:rs.take (cutAt rs.length k i)=(rs.take (cutAt rs.length k (i+1))).take (cutAt rs.length k i):=by rw [List.take_take,Nat.min_eq_left (by omega)]
   rw [e,List.take_append_drop]
theorem Jbd {P:Program} {n:Dm} {R:Post} {l:Fr} {Ps:List Part} {As:List Fact} {c:Code} {k:IntKind} {xs:List Int} {css:List (List Value)} (hA:RepsF (De.int k) xs css∈As) (h:css.flatten=ints k xs→WC P n c R l Ps As):WC P n c R l Ps As:=fun Z w a hs ha=>h (reps_int (hs.facts _ hA:Reps ((De.int k).rep Z w) xs css)) Z w a hs ha
structure EvJ (ps:List Pc) (i k:Nat) (run:List Int) (hid:Int):Prop where
 ik:i≤k
 le:k≤ps.length
 eq:cellsOf run hid=pcsRow ((ps.take k).drop i)
theorem Vh (ps:List Pc) (i k:Nat):(pcsRow ((ps.take k).drop i)).length≤(pcsRow ps).length:=by
 have e:ps=ps.take k++ps.drop k:=(List.take_append_drop k ps).symm
 have e2:ps.take k=(ps.take k).take i++(ps.take k).drop i:=(List.take_append_drop i _).symm
 have h1:(pcsRow ps).length=(pcsRow (ps.take k)).length+(pcsRow (ps.drop k)).length:=by
  conv=>lhs;rw [e]
  rw [KN,List.length_append]
 have h2:(pcsRow (ps.take k)).length=(pcsRow ((ps.take k).take i)).length+(pcsRow ((ps.take k).drop i)).length:=by
  conv=>lhs;rw [e2]
  rw [KN,List.length_append]
 omega
theorem EvJ.len {ps:List Pc} {i k:Nat} {run:List Int} {hid:Int} (h:EvJ ps i k run hid):run.length≤(pcsRow ps).length:=by
 have:=congrArg List.length h.eq
 rw [Jv] at this
 have:=Vh ps i k
 omega
theorem EvJ.next {ps:List Pc} {i k:Nat} {run:List Int} {hid:Int} (h:EvJ ps i k run hid) (hk:k<ps.length) (e:ps[k].hid=hid):EvJ ps i (k+1) (run++ps[k].rs) hid:=by
 have:=h.ik
 refine ⟨by omega,hk,?_⟩
 have e1:ps.take (k+1)=ps.take k++ [ps[k]] :=by rw [List.take_succ_eq_append_getElem hk]
 rw [Xm,h.eq,e1,List.drop_append_of_le_length (by rw [List.length_take];omega),KN,Qy,e]
theorem EvJ.done {ps:List Pc} {i k:Nat} {run:List Int} {hid:Int} (h:EvJ ps i k run hid):pcsRow (ps.take i)++cellsOf run hid=pcsRow (ps.take k):=by
 have e:ps.take i=(ps.take k).take i:=by rw [List.take_take,Nat.min_eq_left h.ik]
 rw [h.eq,e,←KN,List.take_append_drop]
structure EvI (ps:List Pc) (i:Nat) (os:List Pc) (v:Value) (p:Part) (css:List (List Value)):Prop where
 le:i≤ps.length
 row:Row 155 2 v os.length css.flatten p
 ok:PcOk os
 eq:pcsRow os=pcsRow (ps.take i)
theorem EvI.len {ps:List Pc} {i:Nat} {os:List Pc} {v:Value} {p:Part} {css:List (List Value)} (h:EvI ps i os v p css):os.length≤(pcsRow ps).length:=by
 have h1:=h.ok.len
 have h2:=congrArg List.length h.eq
 have h3:=Vh ps 0 i
 rw [List.drop_zero] at h3
 omega
def insAt {α:Type} (l:List α) (i:Nat) (x:α):List α:=l.take i++x::l.drop i
theorem PutIs.length {H:Hist} (h:HV H) {i:Nat} {o:GOp} {es:List Ent} {nw:List Rg} {eff:GOp} (g:Good H i o) (p:PutIs H i o es nw eff):(putF H i o).1.ents.length=H.ents.length+1:=by
 have hs:=p.sames h g
 rw [p.put]
 show (newEnts i o nw es (JV o (H.ops.drop i)).2).length=_
 rw [Qz hs (by rw [p.len g];exact g.le),p.len g]
inductive Made:Nat→Hist→List Ce→Prop
 | zero:Made 0 ⟨[],0⟩ []
 | step {n:Nat} {H:Hist} {X:List Ce} {i:Nat} {o:GOp} (h:Made n H X) (g:Good H i o):Made (n+1) (putF H i o).1 (JX (putF H i o).2.1 X)
theorem Made.inv {n:Nat} {H:Hist} {X:List Ce} (h:Made n H X):n≤1000→HV H∧Rule H X∧H.ents.length=n:=by
 induction h with
 | zero=>
  intro _
  refine ⟨⟨trivial,rfl,by decide,fun e he=>(by cases he),fun e he=>(by cases he),fun e he=>(by cases he),List.nodup_nil⟩,⟨rfl,fun q c hq=>(by simp at hq)⟩,rfl⟩
 | step h g ih=>
  intro hn
  obtain ⟨h1,h2,h3⟩:=ih (by omega)
  obtain ⟨es,nw,eff,p⟩:=put_good h1 g
  have h4:=put_hv h1 g p
  have h5:=(put_row h1 g p h2 (by omega)).2.2
  refine ⟨by rw [p.put];exact h4,by rw [p.put];exact h5,by rw [p.length h1 g,h3]⟩
theorem EJ {c n:Int} (h:rightF c n=true):1≤c∧c≤8∧1≤n∧n≤1024:=by unfold rightF at h;simpa using h
theorem Yg {es:List Ent} (hn:(es.map fun e=>(e.op.c,e.op.n)).Nodup) {k:Nat} (hk:k<es.length):J5 es es[k].op.c es[k].op.n=some k:=by
 cases hw:J5 es es[k].op.c es[k].op.n with
 | none=>exact absurd ⟨rfl,rfl⟩ (Yj hw _ (List.getElem_mem hk))
 | some j=>
  obtain ⟨hj,h1,h2⟩:=KI hw
  have h3:=List.getElem_inj (h₀:=by simpa using hj) (h₁:=by simpa using hk) hn
  simp only [List.getElem_map,Prod.mk.injEq] at h3
  rw [h3.1 ⟨h1,h2⟩]
theorem good_head {o:GOp} (hk:1≤o.kind∧o.kind≤4) (hr:rightF o.c o.n=true) (he:extraF o=false):headF o:=⟨by omega,fun h=>by rw [hr] at h;simp at h,by rw [he];simp⟩
theorem H9 {s:ByteArray} (h:(s==⟨#[]⟩)=true):s=⟨#[]⟩:=by
 rw [beq_toListBytes,ByteArray.toList_eq,ByteArray.toList_eq] at h
 have:=eq_of_beq h
 obtain ⟨⟨x⟩⟩:=s
 simp at this
 subst this;rfl
def Ki (rs:List Rg):List Int:=rs.flatMap fun r=>(List.range (r.hi-r.lo).toNat).map fun (j:Nat)=>r.lo+j
theorem Qf (r:Rg) (rs:List Rg):Ki (r::rs)=((List.range (r.hi-r.lo).toNat).map fun (j:Nat)=>r.lo+j)++Ki rs:=by simp [Ki]
theorem mem_run {lo hi q:Int} :q∈((List.range (hi-lo).toNat).map fun (j:Nat)=>lo+j)↔lo≤q∧q<hi:=by
 simp only [List.mem_map,List.mem_range]
 constructor
 ·rintro ⟨j,hj,rfl⟩;omega
 ·intro h;exact ⟨(q-lo).toNat,by omega,by omega⟩
theorem mem_places {q:Int} : ∀ {rs:List Rg},q∈Ki rs↔memR q rs
 | [] =>by simp [Ki,memR]
 | r::rs=>by rw [Qf,List.mem_append,mem_run,mem_places,KC]
theorem E5 (lo:Int) (n:Nat):((List.range n).map fun (j:Nat)=>lo+j).Pairwise (· < ·):=by
 rw [List.pairwise_map]
 exact List.pairwise_lt_range.imp fun h=>by omega
theorem Yd: ∀ {b:Int} {rs:List Rg},NormB b rs→(Ki rs).Pairwise (· < ·)
 | _,[],_=>List.Pairwise.nil
 | b,r::rs,h=>by
  rw [Qf,List.pairwise_append]
  refine ⟨E5 _ _,Yd h.2.2,fun x hx y hy=> ?_⟩
  have h1:=mem_run.1 hx
  have h2:=h.2.2.below (mem_places.1 hy)
  omega
theorem Qt: ∀ {a b:List Int},a.Pairwise (· < ·)→b.Pairwise (· < ·)→(∀q,q∈a↔q∈b)→a=b
 | [],[],_,_,_=>rfl
 | [],y::b,_,_,h=>by have:=(h y).2 List.mem_cons_self;cases this
 | x::a,[],_,_,h=>by have:=(h x).1 List.mem_cons_self;cases this
 | x::a,y::b,h1,h2,h=>by
  rw [List.pairwise_cons] at h1 h2
  have e:x=y:=by
   rcases List.mem_cons.1 ((h x).1 List.mem_cons_self) with e | e
   ·exact e
   ·rcases List.mem_cons.1 ((h y).2 List.mem_cons_self) with e' | e'
    ·exact e'.symm
    ·have:=h1.1 _ e';have:=h2.1 _ e;omega
  subst e
  rw [Qt h1.2 h2.2 fun q=> ?_]
  constructor
  ·intro hq
   rcases List.mem_cons.1 ((h q).1 (List.mem_cons_of_mem _ hq)) with e | e
   ·have:=h1.1 _ hq;omega
   ·exact e
  ·intro hq
   rcases List.mem_cons.1 ((h q).2 (List.mem_cons_of_mem _ hq)) with e | e
   ·have:=h2.1 _ hq;omega
   ·exact e
def shQ (at_ n q:Int):Int:=if q<at_ then q else q+n
theorem Vg {T at_ n:Int} {xs:List Rg} (h:Pls T xs) (hT:0≤T) (ha:0≤at_∧at_≤T) (hn:0≤n) (hs:T+n≤65535):Ki (thrF xs at_ n).1=(Ki xs).map (shQ at_ n):=by
 obtain ⟨t1,t2,t3,t4⟩:=QH h hT ha hn hs
 refine Qt (Yd t2.norm) ?_ fun q=> ?_
 ·rw [List.pairwise_map]
  exact (Yd h.norm).imp fun {x y} hxy=>by unfold shQ;split<;>split<;>omega
 ·rw [mem_places,t3,List.mem_map]
  constructor
  ·rintro (⟨h1,h2⟩ | ⟨h1,h2⟩)
   ·exact ⟨q,mem_places.2 h2,by unfold shQ;rw [if_pos h1]⟩
   ·exact ⟨q-n,mem_places.2 h2,by unfold shQ;rw [if_neg (by omega)];omega⟩
  ·rintro ⟨p,hp,rfl⟩
   have hp:=mem_places.1 hp
   unfold shQ
   split
   ·exact .inl ⟨by assumption,hp⟩
   ·exact .inr ⟨by omega,by rw [Int.add_sub_cancel];exact hp⟩
abbrev Sig:=Int×ByteArray×List Rg
def sigE (e:Ent):Sig:=(e.op.kind,e.op.text,e.now)
def sigs (es:List Ent):List Sig:=es.map sigE
theorem sigs_zipE: ∀(xs:List GOp) (es:List Ent),Sames (es.map (·.op)) xs→sigs (zipE xs es)=sigs es
 | [],[],_=>rfl
 | x::xs,e::es,h=>by
  cases h with
  | cons h hr=>show sigE ⟨x,e.now,e.off⟩::sigs (zipE xs es)=_;rw [sigs_zipE xs es hr];unfold sigs sigE;simp only [List.map_cons,h.kind,h.text]
 | [],e::es,h=>by cases h
 | x::xs,[],h=>by cases h
theorem sigs_new {i:Nat} {o:GOp} {nw:List Rg} {es:List Ent} {later:List GOp} (h:Sames ((es.drop i).map (·.op)) later):sigs (newEnts i o nw es later)=insAt (sigs es) i (o.kind,o.text,nw):=by
 unfold newEnts insAt
 have:=sigs_zipE _ _ h
 unfold sigs at *
 rw [List.map_append,List.map_cons,this,List.map_take,List.map_drop];rfl
theorem sigs_turned (H:Hist) (i:Nat) (o:GOp):sigs (turnedF H i o).1=sigs H.ents:=by
 rcases turned_cases H i o with e | ⟨k,e,h1,h2,h3,h4,h5⟩
 ·rw [e]
 ·rw [h5]
  show sigs (H.ents.set k (offE e (!o.on)))=_
  have hk:k<H.ents.length:=by
   rcases Nat.lt_or_ge k H.ents.length with h | h
   ·exact h
   ·rw [List.getElem?_eq_none h] at h2;cases h2
  rw [List.getElem?_eq_getElem hk] at h2
  have e1:sigE (offE e (!o.on))=(sigs H.ents)[k]'(by unfold sigs;rw [List.length_map];exact hk):=by
   unfold sigs;rw [List.getElem_map,Option.some.inj h2];rfl
  unfold sigs
  rw [List.map_set]
  unfold sigs at e1
  rw [e1,List.set_getElem_self]
theorem GY {α:Type} {l:List α} {i:Nat} {x y:α} :y∈insAt l i x↔y=x∨y∈l:=by
 unfold insAt
 conv=>rhs;rw [←List.take_append_drop i l]
 rw [List.mem_append,List.mem_cons,List.mem_append]
 constructor
 ·rintro (h | h | h)
  ·exact .inr (.inl h)
  ·exact .inl h
  ·exact .inr (.inr h)
 ·rintro (h | h | h)
  ·exact .inr (.inl h)
  ·exact .inl h
  ·exact .inr (.inr h)
theorem insAt_countP {α:Type} (f:α→Bool) (l:List α) (i:Nat) (x:α):(insAt l i x).countP f=l.countP f+(if f x=true then 1 else 0):=by
 unfold insAt
 conv=>rhs;rw [←List.take_append_drop i l,List.countP_append]
 rw [List.countP_append,List.countP_cons];omega
def mkOf (q:Int) (s:Sig):Bool:=decide (s.1=1) && inRb q s.2.2
structure Mk (S:List Sig) (T:Int) (X:List Ce):Prop where
 text: ∀s∈S,s.1=1→(Ki s.2.2).map (fun q=>(X[q.toNat]?).map (·.1))=(Kq s.2.1).map some
 one: ∀q,0≤q→q<T→S.countP (mkOf q)=1
theorem Mk.same {S:List Sig} {T:Int} {X X':List Ce} (h:Mk S T X) (hx: ∀q:Nat,(X'[q]?).map (·.1)=(X[q]?).map (·.1)) {i:Nat} {s:Sig} (hs:s.1≠1):Mk (insAt S i s) T X':=by
 refine ⟨fun t ht hk=> ?_,fun q h0 h1=> ?_⟩
 ·rcases GY.1 ht with rfl | ht
  ·exact absurd hk hs
  ·rw [←h.text t ht hk]
   exact List.map_congr_left fun q _=>hx q.toNat
 ·rw [insAt_countP,h.one q h0 h1]
  have:mkOf q s=false:=by unfold mkOf;simp [hs]
  rw [this];simp
theorem countP_map_shift {T at_ n:Int} (q:Int) (ha:0≤at_∧at_≤T) (hn:0≤n) (hs:T+n≤65535): ∀(S:List Sig),(∀s∈S,Pls T s.2.2)→(S.map fun s=>(s.1,s.2.1,(thrF s.2.2 at_ n).1)).countP (mkOf q)=if q<at_ then S.countP (mkOf q) else if q<at_+n then 0 else S.countP (mkOf (q-n))
 | [],_=>by simp
 | s::S,h=>by
  have ih:=countP_map_shift q ha hn hs S fun x hx=>h x (List.mem_cons_of_mem _ hx)
  obtain ⟨t1,t2,t3,t4⟩:=QH (h s List.mem_cons_self) (by omega) ha hn hs
  have e2:inRb q (thrF s.2.2 at_ n).1=if q<at_ then inRb q s.2.2 else if q<at_+n then false else inRb (q-n) s.2.2:=by
   rw [Bool.eq_iff_iff]
   rw [K8,t3 q]
   by_cases c1:q<at_
   ·rw [if_pos c1,K8]
    constructor
    ·rintro (h | h)
     ·exact h.2
     ·omega
    ·intro h;exact .inl ⟨c1,h⟩
   ·rw [if_neg c1]
    by_cases c2:q<at_+n
    ·rw [if_pos c2]
     constructor
     ·rintro (h | h)<;>omega
     ·intro h;cases h
    ·rw [if_neg c2,K8]
     constructor
     ·rintro (h | h)
      ·omega
      ·exact h.2
     ·intro h;exact .inr ⟨by omega,h⟩
  rw [List.map_cons,List.countP_cons,ih]
  have e3:mkOf q (s.1,s.2.1,(thrF s.2.2 at_ n).1)=(decide (s.1=1) && inRb q (thrF s.2.2 at_ n).1):=rfl
  rw [e3,e2]
  by_cases c1:q<at_
  ·simp only [if_pos c1];rw [List.countP_cons];rfl
  ·by_cases c2:q<at_+n
   ·simp only [if_neg c1,if_pos c2];simp
   ·simp only [if_neg c1,if_neg c2];rw [List.countP_cons];rfl
theorem put_mk {H:Hist} (h:HV H) {i:Nat} {o:GOp} {es:List Ent} {nw:List Rg} {eff:GOp} (g:Good H i o) (p:PutIs H i o es nw eff) {X:List Ce} (hr:Rule H X) (hm:Mk (sigs H.ents) H.total X):Mk (sigs (newEnts i o nw es (JV o (H.ops.drop i)).2)) (H.total+Jr o) (JX eff X):=by
 obtain ⟨c1,c2,c3,c4,c5⟩:=cross_good h g
 have h0:=h.total0
 have hs:=p.sames h g
 have hroom:=g.room
 have hwid:=g.right.width
 have hlen:=hr.len
 rw [sigs_new hs]
 have hpl: ∀s∈sigs H.ents,Pls H.total s.2.2:=fun s hs=>by obtain ⟨e,he,rfl⟩:=List.mem_map.1 hs;exact h.pls e he
 rcases g.right.kind with hk | hk | hk
 ·obtain ⟨e1,e2,e3⟩:=p.ins hk
  have hti:=c2.ins (c4.kind.trans hk)
  have hw2:Jr (JV o (H.ops.drop i)).1=Jr o:=c4.width
  have hwk:=(hwid.2.2.1 hk).2
  have hrun:=runes_width g.right hk
  generalize hta:(JV o (H.ops.drop i)).1.at_=ta at *
  have hek:eff.kind=1:=by rw [e3];exact hk
  have hes:sigs es=(sigs H.ents).map fun s=>(s.1,s.2.1,(thrF s.2.2 ta (Jr o)).1):=by rw [e1];unfold sigs;rw [List.map_map,List.map_map];rfl
  have happ:JX eff X=X.take ta.toNat ++(cellsOf (Kq o.text) 0++X.drop ta.toNat):=by unfold JX;rw [if_pos hek,e3]
  have el1:(X.take ta.toNat).length=ta.toNat:=by rw [List.length_take];omega
  have hlo: ∀q:Nat,q<ta.toNat→(JX eff X)[q]? =X[q]? :=fun q hq=>by rw [happ,List.getElem?_append_left (by omega),List.getElem?_take,if_pos hq]
  have hhi: ∀q:Nat,ta.toNat +(Jr o).toNat≤q→(JX eff X)[q]? =X[q-(Jr o).toNat]? :=fun q hq=>by
   rw [happ,List.getElem?_append_right (by omega),List.getElem?_append_right (by rw [Jv];omega),Jv,List.getElem?_drop]
   congr 1;omega
  have hmid: ∀j:Nat,j<(Kq o.text).length→((JX eff X)[ta.toNat +j]?).map (·.1)=(Kq o.text)[j]? :=fun j hj=>by
   rw [happ,List.getElem?_append_right (by omega),List.getElem?_append_left (by rw [Jv];omega),el1,Nat.add_sub_cancel_left]
   unfold cellsOf;rw [List.getElem?_map,Option.map_map,show ((fun c:Ce=>c.1) ∘ fun c:Int=>((c,0):Ce))=id from rfl,Option.map_id];rfl
  rw [hes,e2]
  refine ⟨fun s hs2 hk2=> ?_,fun q hq0 hq1=> ?_⟩
  ·rcases GY.1 hs2 with rfl | hs2
   ·show (Ki [⟨ta,ta+Jr o⟩]).map _=(Kq o.text).map some
    rw [Qf,show Ki [] = [] from rfl,List.append_nil,List.map_map]
    dsimp only
    rw [show (ta+Jr o-ta).toNat=(Kq o.text).length from by omega]
    apply List.ext_getElem?
    intro j
    rw [List.getElem?_map,List.getElem?_map]
    by_cases hj:j<(Kq o.text).length
    ·rw [List.getElem?_range (by omega)]
     simp only [Option.map_some,Function.comp]
     rw [show (ta+(j:Int)).toNat=ta.toNat +j from by omega,hmid j hj,List.getElem?_eq_getElem hj];rfl
    ·rw [List.getElem?_eq_none (by rw [List.length_range];omega),List.getElem?_eq_none (by omega)];rfl
   ·obtain ⟨t,ht,rfl⟩:=List.mem_map.1 hs2
    show (Ki (thrF t.2.2 ta (Jr o)).1).map _=_
    rw [Vg (hpl t ht) h0 ⟨hti.1,hti.2.1⟩ hwid.1 (by omega),List.map_map,←hm.text t ht hk2]
    refine List.map_congr_left fun q hq=> ?_
    have hqp:=(hpl t ht).in (mem_places.1 hq)
    simp only [Function.comp]
    unfold shQ
    split
    ·rw [hlo _ (by omega)]
    ·rw [hhi _ (by omega)]
     congr 2;omega
  ·rw [insAt_countP,countP_map_shift (T:=H.total) q ⟨hti.1,hti.2.1⟩ hwid.1 (by omega) _ hpl]
   have e4:mkOf q (o.kind,o.text,[⟨ta,ta+Jr o⟩])=(decide (ta≤q) && decide (q<ta+Jr o)):=by unfold mkOf inRb;simp [hk]
   rw [e4]
   by_cases d1:q<ta
   ·rw [if_pos d1,hm.one q hq0 (by omega)]
    rw [show decide (ta≤q)=false from by simp;omega];rfl
   ·rw [if_neg d1]
    by_cases d2:q<ta+Jr o
    ·rw [if_pos d2,show decide (ta≤q)=true from by simp;omega,show decide (q<ta+Jr o)=true from by simp;omega];rfl
    ·rw [if_neg d2,hm.one (q-Jr o) (by omega) (by omega),show decide (q<ta+Jr o)=false from by simp;omega,Bool.and_false];rfl
 ·obtain ⟨e1,e2,e3⟩:=p.hide hk
  obtain ⟨t1,t2⟩:=c2.cov (c4.kind.trans hk) (by omega)
  rw [e1,hwid.2.2.2 (by omega),Int.add_zero]
  refine hm.same (fun q=> ?_) (by show o.kind≠1;omega)
  have hek:eff.kind=2:=by rw [e3];exact hk
  have hers:eff.rs=(JV o (H.ops.drop i)).1.rs:=by rw [e3]
  unfold JX
  rw [if_neg (by omega),if_pos hek,hers,(Yt (k:=1) _ 0 X (Int.le_refl _) t2.norm (by rw [hlen];exact t2.below)).2 q,Option.map_map]
  congr 1;funext c;simp only [Function.comp];split<;>rfl
 ·obtain ⟨e1,e2,e3⟩:=p.status hk
  have hsg:sigs es=sigs H.ents:=by rw [e1];exact sigs_turned H i o
  rw [hsg,hwid.2.2.2 (by omega),Int.add_zero]
  refine hm.same (fun q=> ?_) (by show o.kind≠1;omega)
  rcases turned_cases H i o with e | ⟨k,e,g1,g2,g3,g4,g5⟩
  ·rw [e3,e];rfl
  ·have hpe:=h.pls e (List.mem_of_getElem? g2)
   have hers:eff.rs=e.now:=by rw [e3,g5];rfl
   have hek:eff.kind=2∨eff.kind=3:=by rw [e3,g5];unfold turnF;simp only;split<;>simp
   have key: ∀k,((K5 e.now k X)[q]?).map (·.1)=(X[q]?).map (·.1):=fun k=>by
    rw [(Yt (k:=k) _ 0 X (Int.le_refl _) hpe.norm (by rw [hlen];exact hpe.below)).2 q,Option.map_map]
    congr 1;funext c;simp only [Function.comp];split<;>rfl
   unfold JX
   rcases hek with hek | hek
   ·rw [if_neg (by omega),if_pos hek,hers];exact key 1
   ·rw [if_neg (by omega),if_neg (by omega),if_pos hek,hers];exact key (-1)
theorem Made.mk {n:Nat} {H:Hist} {X:List Ce} (h:Made n H X):n≤1000→Mk (sigs H.ents) H.total X:=by
 induction h with
 | zero=>exact fun _=>⟨fun s hs=>(by cases hs),fun q h0 h1=>by simp at h1;omega⟩
 | step h g ih=>
  intro hn
  obtain ⟨h1,h2,h3⟩:=h.inv (by omega)
  obtain ⟨es,nw,eff,p⟩:=put_good h1 g
  have:=put_mk h1 g p h2 (ih (by omega))
  rw [p.put];exact this
abbrev Nm:=Int×Int×Nat
def blk (o:GOp):List Nm:=(List.range (Jr o).toNat).map fun k=>(o.c,o.n,k)
def insRow (o:GOp) (N:List Nm):List Nm:=N.take o.at_.toNat ++(blk o++N.drop o.at_.toNat)
def namesOf (o:GOp) (N:List Nm):List (Option Nm):=if o.kind=1 then (blk o).map some else (Ki o.rs).map fun q=>N[q.toNat]?
theorem QG (o:GOp):(blk o).length=(Jr o).toNat:=by unfold blk;simp
theorem Ga {o:GOp} (h:Jr o=0):blk o= [] :=by unfold blk;rw [h];rfl
theorem KS {o:GOp} (h:Jr o=0) (N:List Nm):insRow o N=N:=by unfold insRow;rw [Ga h,List.nil_append,List.take_append_drop]
theorem Hf (o:GOp) (N:List Nm) (h:0≤o.at_∧o.at_≤N.length):(insRow o N).length=N.length+(Jr o).toNat:=by
 unfold insRow;simp only [List.length_append,List.length_take,List.length_drop,QG];omega
theorem Gw {o:GOp} {N:List Nm} (h:0≤o.at_∧o.at_≤N.length) (hw:0≤Jr o) (q:Int) (hq:0≤q):(insRow o N)[(shQ o.at_ (Jr o) q).toNat]? =N[q.toNat]? :=by
 have e1:(N.take o.at_.toNat).length=o.at_.toNat:=by rw [List.length_take];omega
 unfold insRow shQ
 split
 ·rw [List.getElem?_append_left (by omega),List.getElem?_take,if_pos (by omega)]
 ·rw [List.getElem?_append_right (by omega),List.getElem?_append_right (by rw [QG];omega),List.getElem?_drop]
  congr 1
  rw [QG];omega
theorem ins_comm {α:Type} (N A B:List α) (a b:Nat) (h1:a≤b) (h2:b≤N.length):
  (N.take a++(A++N.drop a)).take (b+A.length)++(B++(N.take a++(A++N.drop a)).drop (b+A.length))=(N.take b++(B++N.drop b)).take a++(A++(N.take b++(B++N.drop b)).drop a):=by
 have e1:(N.take a).length=a:=by rw [List.length_take];omega
 have e2:(N.take b).length=b:=by rw [List.length_take];omega
 have l1:(N.take a++(A++N.drop a)).take (b+A.length)=N.take a++(A++(N.drop a).take (b-a)):=by
  rw [show b+A.length=(N.take a).length+(A.length+(b-a)) from by omega,List.take_length_add_append,List.take_length_add_append]
 have l2:(N.take a++(A++N.drop a)).drop (b+A.length)=N.drop b:=by
  rw [show b+A.length=(N.take a).length+(A.length+(b-a)) from by omega,List.drop_length_add_append,List.drop_length_add_append,List.drop_drop]
  congr 1;omega
 have l3:(N.take b++(B++N.drop b)).take a=N.take a:=by
  rw [List.take_append_of_le_length (by omega),List.take_take];congr 1;omega
 have l4:(N.take b++(B++N.drop b)).drop a=(N.drop a).take (b-a)++(B++N.drop b):=by
  rw [List.drop_append_of_le_length (by omega),List.drop_take]
 rw [l1,l2,l3,l4];simp
theorem inc_names {w:Int} {N:List Nm} (hN:(N.length:Int)=w) {g h:GOp} (e:Bool) (hg:Right w g) (hh:Right w h) (hc: ¬clashF g h) (hw:w+Jr g+Jr h≤65535):namesOf (JM g h e).1 (insRow h N)=namesOf g N:=by
 have w0:=hg.w0
 have wg:=hg.width
 have wh:=hh.width
 unfold JM
 rw [if_neg hc]
 by_cases hk:h.kind=1
 ·rw [if_neg (by omega)]
  have hi:=hh.ins hk
  rcases hg.kind with gk | gk | gk
  ·rw [if_pos gk]
   have gi:=hg.ins gk
   split
   ·unfold movedF
    rw [if_neg (show ¬(g.at_+Jr h+Jr g>1048576) by omega)]
    unfold namesOf
    rw [if_pos gk,if_pos (show ({ g with at_:=g.at_+Jr h,rs:= [] } :GOp).kind=1 from gk)];rfl
   ·unfold namesOf;rw [if_pos gk,if_pos gk]
  ·rw [if_neg (by omega),if_pos (.inl gk)]
   obtain ⟨c1,c2⟩:=hg.cov gk (by omega)
   obtain ⟨t1,t2,t3,t4⟩:=QH c2 w0.1 ⟨hi.1,hi.2.1⟩ wh.1 (by omega)
   unfold rangedF
   rw [if_neg (by rw [t1];simp)]
   unfold namesOf
   rw [if_neg (show ¬g.kind=1 by omega),if_neg (show ¬({ g with rs:=(thrF g.rs h.at_ (Jr h)).1 } :GOp).kind=1 by show ¬g.kind=1;omega)]
   show (Ki (thrF g.rs h.at_ (Jr h)).1).map _=_
   rw [Vg c2 w0.1 ⟨hi.1,hi.2.1⟩ wh.1 (by omega),List.map_map]
   refine List.map_congr_left fun q hq=> ?_
   have hq2:=c2.in (mem_places.1 hq)
   exact Gw (by omega) wh.1 q hq2.1
  ·rw [if_neg (by omega),if_neg (by omega)]
   unfold namesOf
   have g1: ¬g.kind=1:=by omega
   simp only [g1,if_false,hg.noRs (show g.kind≠2 by omega)];rfl
 ·rw [if_pos hk,KS (wh.2.2.2 hk)]
theorem inc_ins {a b:GOp} (e:Bool) (hc: ¬clashF a b) (hb:b.kind=1) (ha:a.kind=1) (hw:a.at_+Jr b+Jr a≤1048576):JM a b e=(if b.at_<a.at_∨(b.at_=a.at_∧e=true) then ({ a with at_:=a.at_+Jr b,rs:= [] },0) else (a,0)):=by
 unfold JM
 rw [if_neg hc,if_neg (by omega),if_pos ha]
 split
 ·unfold movedF;rw [if_neg (by omega)]
 ·rfl
theorem inc_rows1 {w:Int} {N:List Nm} (hN:(N.length:Int)=w) {f l:GOp} (hf:Right w f) (hl:Right w l) (hc: ¬clashF f l) (hw:w+Jr f+Jr l≤65535) (hk:f.kind=1) (lk:l.kind=1):insRow (JM l f true).1 (insRow f N)=insRow (JM f l false).1 (insRow l N):=by
 have wf:=hf.width
 have wl:=hl.width
 have hc2: ¬clashF l f:=fun h=>hc (clash_comm.1 h)
 have fi:=hf.ins hk
 have li:=hl.ins lk
 rw [inc_ins true hc2 hk lk (by omega),inc_ins false hc lk hk (by omega)]
 by_cases hlt:f.at_≤l.at_
 ·rw [if_pos (show f.at_<l.at_∨(f.at_=l.at_∧true=true) from by rcases Int.lt_or_eq_of_le hlt with h | h;exact .inl h;exact .inr ⟨h,rfl⟩),if_neg (show ¬(l.at_<f.at_∨(l.at_=f.at_∧false=true)) from by rintro (h | ⟨_,h⟩);omega;cases h)]
  have:=ins_comm N (blk f) (blk l) f.at_.toNat l.at_.toNat (by omega) (by omega)
  rw [QG,←show (l.at_+Jr f).toNat=l.at_.toNat +(Jr f).toNat from by omega] at this
  exact this
 ·rw [if_neg (show ¬(f.at_<l.at_∨(f.at_=l.at_∧true=true)) from by rintro (h | ⟨h,_⟩)<;>omega),if_pos (show l.at_<f.at_∨(l.at_=f.at_∧false=true) from .inl (by omega))]
  have:=ins_comm N (blk l) (blk f) l.at_.toNat f.at_.toNat (by omega) (by omega)
  rw [QG,←show (f.at_+Jr l).toNat=f.at_.toNat +(Jr l).toNat from by omega] at this
  exact this.symm
theorem inc_width {a b:GOp} (e:Bool) (ha:a.kind≠1) (hb:(JM a b e).1.kind=a.kind):Jr (JM a b e).1=0:=by unfold Jr;rw [if_neg (by rw [hb];exact ha)]
theorem inc_off {a b:GOp} (e:Bool) (hc: ¬clashF a b) (hb:b.kind≠1):JM a b e=(a,0):=by unfold JM;rw [if_neg hc,if_pos hb]
theorem inc_rows {w:Int} {N:List Nm} (hN:(N.length:Int)=w) {f l:GOp} (hf:Right w f) (hl:Right w l) (hc: ¬clashF f l) (hw:w+Jr f+Jr l≤65535) (s1:(JM l f true).1.kind=l.kind) (s2:(JM f l false).1.kind=f.kind):insRow (JM l f true).1 (insRow f N)=insRow (JM f l false).1 (insRow l N):=by
 have wf:=hf.width
 have wl:=hl.width
 have hc2: ¬clashF l f:=fun h=>hc (clash_comm.1 h)
 by_cases hk:f.kind=1
 ·by_cases lk:l.kind=1
  ·exact inc_rows1 hN hf hl hc hw hk lk
  ·rw [inc_off false hc lk,KS (inc_width true lk s1),KS (wl.2.2.2 lk)]
 ·rw [inc_off true hc2 hk,KS (wf.2.2.2 hk),KS (inc_width false hk s2)]
def rowN:List Nm→List GOp→List Nm
 | N,[] =>N
 | N,o::l=>rowN (insRow o N) l
def allN:List Nm→List GOp→List (List (Option Nm))
 | _,[] => []
 | N,o::l=>namesOf o N::allN (insRow o N) l
theorem YG: ∀(N:List Nm) (a b:List GOp),rowN N (a++b)=rowN (rowN N a) b
 | N,[],b=>rfl
 | N,o::a,b=>by simp only [List.cons_append,rowN];exact YG _ a b
theorem VH: ∀(N:List Nm) (a b:List GOp),allN N (a++b)=allN N a++allN (rowN N a) b
 | N,[],b=>rfl
 | N,o::a,b=>by simp only [List.cons_append,allN,rowN];rw [VH _ a b]
theorem XR: ∀(N:List Nm) (a:List GOp),(allN N a).length=a.length
 | N,[] =>rfl
 | N,o::a=>by simp only [allN,List.length_cons,XR _ a]
theorem Right.rowLen {w:Int} {o:GOp} (h:Right w o) {N:List Nm} (hN:(N.length:Int)=w):((insRow o N).length:Int)=w+Jr o:=by
 have h1:=h.width
 by_cases hk:o.kind=1
 ·have h2:=h.ins hk
  rw [Hf o N (by omega)];omega
 ·rw [KS (h1.2.2.2 hk),h1.2.2.2 hk];omega
theorem Yq: ∀ {w:Int} {N:List Nm} {l:List GOp},(N.length:Int)=w→CtxOk w l→((rowN N l).length:Int)=w+sumO l
 | w,N,[],h,_=>by simp only [rowN,sumO];omega
 | w,N,o::l,h,hc=>by
  simp only [rowN,sumO]
  rw [Yq (hc.1.rowLen h) hc.2];omega
theorem carry_names: ∀(ls:List GOp) (f:GOp) (w:Int) (N:List Nm),(N.length:Int)=w→Right w f→CtxOk w ls→(∀l∈ls,¬clashF f l)→w+sumO ls+Jr f≤65535→
  namesOf (JV f ls).1 (rowN N ls)=namesOf f N∧allN (insRow f N) (JV f ls).2=allN N ls∧rowN (insRow f N) (JV f ls).2=insRow (JV f ls).1 (rowN N ls)
 | [],f,w,N,hN,hf,_,_,_=>⟨rfl,rfl,rfl⟩
 | l::ls,f,w,N,hN,hf,hl,hc,hw=>by
  simp only [sumO] at hw
  have h1:=sumO_nonneg hl.2
  have hc1: ¬clashF f l:=hc l List.mem_cons_self
  have hc2: ¬clashF l f:=fun h=>hc1 (clash_comm.1 h)
  obtain ⟨a1,a2⟩:=Vk false hf hl.1 hc1 (by omega)
  obtain ⟨b1,b2⟩:=Vk true hl.1 hf hc2 (by omega)
  have s1:=include_same a1
  have s2:=include_same b1
  obtain ⟨c1,c2,c3⟩:=carry_names ls (JM f l false).1 (w+Jr l) (insRow l N) (hl.1.rowLen hN) a2 hl.2 (fun x hx h=>hc x (List.mem_cons_of_mem _ hx) ((clash_same s1 (Same.refl x)).1 h)) (by rw [s1.width];omega)
  have e1:=inc_rows hN hf hl.1 hc1 (by omega) s2.kind s1.kind
  have e2:=inc_names hN false hf hl.1 hc1 (by omega)
  have e3:=inc_names hN true hl.1 hf hc2 (by omega)
  refine ⟨?_,?_,?_⟩
  ·simp only [JV,rowN];rw [c1,e2]
  ·simp only [JV,allN];rw [e3,e1,c2]
  ·simp only [JV,rowN];rw [e1,c3]
theorem insRow_perm (o:GOp) (N:List Nm):(insRow o N).Perm (blk o++N):=by
 unfold insRow
 have h:=(List.perm_append_comm (l₁:=N.take o.at_.toNat) (l₂:=blk o)).append_right (N.drop o.at_.toNat)
 rw [List.append_assoc,List.append_assoc,List.take_append_drop] at h
 exact h
theorem Gb {o:GOp} {x:Nm} (h:x∈blk o):x.1=o.c∧x.2.1=o.n:=by
 unfold blk at h
 obtain ⟨k,_,rfl⟩:=List.mem_map.1 h
 exact ⟨V,V⟩
theorem blk_nodup (o:GOp):(blk o).Nodup:=by
 unfold blk
 refine List.Pairwise.map _ ?_ List.nodup_range
 intro a b h e
 simp only [Prod.mk.injEq] at e
 exact h e.2.2
theorem rowN_nodup: ∀ {N:List Nm} {l:List GOp},N.Nodup→(l.map fun o=>(o.c,o.n)).Nodup→(∀x∈N,∀o∈l,¬(x.1=o.c∧x.2.1=o.n))→(rowN N l).Nodup
 | N,[],h,_,_=>h
 | N,o::l,h,h2,h3=>by
  simp only [List.map_cons,List.nodup_cons] at h2
  simp only [rowN]
  refine rowN_nodup ?_ h2.2 ?_
  ·rw [(insRow_perm o N).nodup_iff,List.nodup_append]
   refine ⟨blk_nodup o,h,fun a ha b hb e=> ?_⟩
   subst e
   exact h3 a hb o List.mem_cons_self (Gb ha)
  ·intro x hx p hp hh
   rcases List.mem_append.1 ((insRow_perm o N).mem_iff.1 hx) with hx | hx
   ·have:=Gb hx
    exact h2.1 (List.mem_map.2 ⟨p,hp,by rw [←hh.1,←hh.2,this.1,this.2]⟩)
   ·exact h3 x hx p (List.mem_cons_of_mem _ hp) hh
def TgtOk:List GOp→List GOp→Prop
 | _,[] =>True
 | P,o::l=>(o.kind=4→ ∃p∈P,p.c=o.tc∧p.n=o.tn∧p.kind≠4)∧TgtOk (P++ [o]) l
theorem TgtOk.append: ∀ {P a b:List GOp},TgtOk P (a++b)↔TgtOk P a∧TgtOk (P++a) b
 | P,[],b=>by simp [TgtOk]
 | P,o::a,b=>by
  simp only [List.cons_append,TgtOk,TgtOk.append (a:=a),and_assoc]
  rw [List.append_assoc];rfl
theorem TgtOk.mono: ∀ {P P' l l':List GOp},Sames l l'→(∀p∈P,∃q∈P',q.c=p.c∧q.n=p.n∧q.kind=p.kind)→TgtOk P l→TgtOk P' l'
 | P,P',_,_, .nil,_,_=>trivial
 | P,P',_,_, .cons (a:=a) (b:=b) h hs,hp,ht=>by
  refine ⟨fun hk=> ?_,TgtOk.mono hs (fun p hp'=> ?_) ht.2⟩
  ·obtain ⟨p,h1,h2,h3,h4⟩:=ht.1 (by rw [←h.kind];exact hk)
   obtain ⟨q,g1,g2,g3,g4⟩:=hp p h1
   exact ⟨q,g1,by rw [g2,h2,h.tc],by rw [g3,h3,h.tn],by rw [g4];exact h4⟩
  ·rcases List.mem_append.1 hp' with hp' | hp'
   ·obtain ⟨q,g1,g2⟩:=hp p hp'
    exact ⟨q,List.mem_append_left _ g1,g2⟩
   ·simp only [List.mem_singleton] at hp';subst hp'
    exact ⟨b,List.mem_append_right _ (List.mem_singleton.2 V),h.c,h.n,h.kind⟩
theorem TgtOk.mem: ∀ {P l:List GOp},TgtOk P l→ ∀o∈l,o.kind=4→ ∃p∈P++l,p.c=o.tc∧p.n=o.tn
 | P,[],_,o,h,_=>by cases h
 | P,x::l,ht,o,h,hk=>by
  rcases List.mem_cons.1 h with rfl | h
  ·obtain ⟨p,h1,h2,h3,_⟩:=ht.1 hk
   exact ⟨p,List.mem_append_left _ h1,h2,h3⟩
  ·obtain ⟨p,h1,h2⟩:=ht.2.mem o h hk
   exact ⟨p,by rw [List.append_assoc] at h1;exact h1,h2⟩
def lastOff (c n:Int):Bool→List GOp→Bool
 | b,[] =>b
 | b,o::l=>lastOff c n (if o.kind=4∧o.tc=c∧o.tn=n then !o.on else b) l
theorem YJ (c n:Int): ∀(b:Bool) (l m:List GOp),lastOff c n b (l++m)=lastOff c n (lastOff c n b l) m
 | b,[],m=>rfl
 | b,o::l,m=>by simp only [List.cons_append,lastOff];exact YJ c n _ l m
theorem lastOff_same {c n:Int} {b:Bool} {l l':List GOp} (h:Sames l l'):lastOff c n b l'=lastOff c n b l:=by
 induction h generalizing b with
 | nil=>rfl
 | cons h _ ih=>simp only [lastOff];rw [h.kind,h.tc,h.tn,h.on];exact ih
theorem Vj {c n:Int} {b:Bool} : ∀ {l:List GOp},(∀o∈l,o.kind=4→ ¬(o.tc=c∧o.tn=n))→lastOff c n b l=b
 | [],_=>rfl
 | o::l,h=>by
  simp only [lastOff]
  rw [if_neg (fun hh=>h o List.mem_cons_self hh.1 hh.2)]
  exact Vj fun p hp=>h p (List.mem_cons_of_mem _ hp)
theorem lastOff_any {c n:Int} : ∀ {l:List GOp},(∃o∈l,o.kind=4∧o.tc=c∧o.tn=n)→ ∀b b':Bool,lastOff c n b l=lastOff c n b' l
 | [],h,_,_=>by obtain ⟨o,h,_⟩:=h;cases h
 | x::l,h,b,b'=>by
  simp only [lastOff]
  by_cases hx:x.kind=4∧x.tc=c∧x.tn=n
  ·rw [if_pos hx,if_pos hx]
  ·rw [if_neg hx,if_neg hx]
   obtain ⟨o,h1,h2⟩:=h
   rcases List.mem_cons.1 h1 with rfl | h1
   ·exact absurd h2 hx
   ·exact lastOff_any ⟨o,h1,h2⟩ b b'
theorem GX {l:List Ent} {c n:Int} :Yv l c n=true↔ ∃o∈l.map (·.op),o.kind=4∧o.tc=c∧o.tn=n:=by
 unfold Yv
 rw [List.any_eq_true]
 simp only [Bool.and_eq_true,decide_eq_true_eq,List.mem_map]
 constructor
 ·rintro ⟨e,h1,h2⟩;exact ⟨e.op,⟨e,h1,rfl⟩,h2⟩
 ·rintro ⟨o,⟨e,h1,rfl⟩,h2⟩;exact ⟨e,h1,h2⟩
def nmE (N:List Nm) (e:Ent):List (Option Nm):=(Ki e.now).map fun q=>N[q.toNat]?
structure CI (H:Hist):Prop where
 now:H.ents.map (nmE (rowN [] H.ops))=allN [] H.ops
 tgt:TgtOk [] H.ops
 off: ∀e∈H.ents,e.off=lastOff e.op.c e.op.n false H.ops
theorem nm_zipE (N:List Nm): ∀(xs:List GOp) (es:List Ent),Sames (es.map (·.op)) xs→(zipE xs es).map (nmE N)=es.map (nmE N)
 | [],[],_=>rfl
 | x::xs,e::es,h=>by
  cases h with
  | cons h hr=>simp only [zipE,List.map_cons];rw [nm_zipE N xs es hr];rfl
 | [],e::es,h=>by cases h
 | x::xs,[],h=>by cases h
theorem put_ops {H:Hist} (h:HV H) {i:Nat} {o:GOp} {es:List Ent} {nw:List Rg} {eff:GOp} (g:Good H i o) (p:PutIs H i o es nw eff):(⟨newEnts i o nw es (JV o (H.ops.drop i)).2,H.total+Jr o⟩:Hist).ops=H.ops.take i++([o] ++(JV o (H.ops.drop i)).2):=by
 show (newEnts i o nw es (JV o (H.ops.drop i)).2).map (·.op)=_
 rw [newEnts_ops (p.sames h g),p.es_ops g]
theorem put_now {H:Hist} (h:HV H) {i:Nat} {o:GOp} {es:List Ent} {nw:List Rg} {eff:GOp} (g:Good H i o) (p:PutIs H i o es nw eff) (I:CI H):
  (newEnts i o nw es (JV o (H.ops.drop i)).2).map (nmE (rowN [] (H.ops.take i++([o] ++(JV o (H.ops.drop i)).2))))=allN [] (H.ops.take i++([o] ++(JV o (H.ops.drop i)).2)):=by
 obtain ⟨c1,c2,c3,c4,c5⟩:=cross_good h g
 obtain ⟨s1,s2,s3,s4⟩:=h.split i
 have hroom:=g.room
 have hwid:=g.right.width
 have h0:=h.total0
 have hA:((rowN [] (H.ops.take i)).length:Int)=K6 H i:=by rw [Yq (w:=0) rfl s1,before_ops];omega
 obtain ⟨k1,k2,k3⟩:=carry_names (H.ops.drop i) o (K6 H i) (rowN [] (H.ops.take i)) hA g.right s2 (fun l hl=>g.noclash l (List.mem_of_mem_drop hl)) (by omega)
 have eN:rowN (rowN [] (H.ops.take i)) (H.ops.drop i)=rowN [] H.ops:=by rw [←YG,List.take_append_drop]
 have eN':rowN [] (H.ops.take i++([o] ++(JV o (H.ops.drop i)).2))=insRow (JV o (H.ops.drop i)).1 (rowN [] H.ops):=by
  rw [YG];show rowN (insRow o (rowN [] (H.ops.take i))) (JV o (H.ops.drop i)).2=_
  rw [k3,eN]
 have hNl:((rowN [] H.ops).length:Int)=H.total:=by rw [Yq (w:=0) rfl h.ctx,h.tot];omega
 rw [eN] at k1
 rw [eN',VH]
 show _=allN [] (H.ops.take i)++(namesOf o (rowN [] (H.ops.take i))::allN (insRow o (rowN [] (H.ops.take i))) (JV o (H.ops.drop i)).2)
 rw [k2]
 have hal:allN [] (H.ops.take i)++allN (rowN [] (H.ops.take i)) (H.ops.drop i)=allN [] H.ops:=by rw [←VH,List.take_append_drop]
 have hil:i≤H.ops.length:=by unfold Hist.ops;rw [List.length_map];exact g.le
 have hlen:(allN [] (H.ops.take i)).length=i:=by rw [XR,List.length_take];omega
 have e1:allN [] (H.ops.take i)=(allN [] H.ops).take i:=by rw [←hal,List.take_left' hlen]
 have e2:allN (rowN [] (H.ops.take i)) (H.ops.drop i)=(allN [] H.ops).drop i:=by rw [←hal,List.drop_left' hlen]
 rw [e1,e2,←I.now]
 have wf:Jr (JV o (H.ops.drop i)).1=Jr o:=c4.width
 have hes:es.map (nmE (insRow (JV o (H.ops.drop i)).1 (rowN [] H.ops)))=H.ents.map (nmE (rowN [] H.ops))∧nmE (insRow (JV o (H.ops.drop i)).1 (rowN [] H.ops)) ⟨o,nw,false⟩=namesOf o (rowN [] (H.ops.take i)):=by
  rw [←k1]
  rcases g.right.kind with hk | hk | hk
  ·obtain ⟨q1,q2,q3⟩:=p.ins hk
   have hti:=c2.ins (c4.kind.trans hk)
   have hw1:=(hwid.2.2.1 hk).1
   constructor
   ·rw [q1,List.map_map]
    refine List.map_congr_left fun e he=> ?_
    have hpe:=h.pls e he
    show (Ki (thrF e.now (JV o (H.ops.drop i)).1.at_ (Jr o)).1).map _=_
    rw [Vg hpe h0 ⟨hti.1,hti.2.1⟩ hwid.1 (by omega),List.map_map]
    unfold nmE
    refine List.map_congr_left fun q hq=> ?_
    have hq2:=hpe.in (mem_places.1 hq)
    have:=Gw (o:=(JV o (H.ops.drop i)).1) (N:=rowN [] H.ops) (by omega) (by omega) q hq2.1
    rw [wf] at this
    exact this
   ·rw [q2]
    unfold nmE namesOf
    rw [if_pos (show (JV o (H.ops.drop i)).1.kind=1 from c4.kind.trans hk)]
    show (Ki [⟨(JV o (H.ops.drop i)).1.at_,(JV o (H.ops.drop i)).1.at_+Jr o⟩]).map _=_
    rw [Qf,show Ki [] = [] from rfl,List.append_nil,List.map_map]
    dsimp only
    have el:(List.take (JV o (H.ops.drop i)).1.at_.toNat (rowN [] H.ops)).length=(JV o (H.ops.drop i)).1.at_.toNat:=by rw [List.length_take];omega
    apply List.ext_getElem?
    intro j
    rw [List.getElem?_map,List.getElem?_map]
    have hbl:=QG (JV o (H.ops.drop i)).1
    by_cases hj:j<(Jr o).toNat
    ·rw [List.getElem?_range (by omega),List.getElem?_eq_getElem (l:=blk _) (by omega)]
     simp only [Option.map_some,Function.comp]
     congr 1
     unfold insRow
     rw [List.getElem?_append_right (by omega),List.getElem?_append_left (by omega),el,List.getElem?_eq_getElem (by omega)]
     congr 2;omega
    ·rw [List.getElem?_eq_none (by rw [List.length_range];omega),List.getElem?_eq_none (by omega)];rfl
  ·obtain ⟨q1,q2,q3⟩:=p.hide hk
   rw [KS (by rw [wf];exact hwid.2.2.2 (by omega)),q1,q2]
   refine ⟨V,?_⟩
   unfold nmE namesOf
   rw [if_neg (by rw [c4.kind];omega)]
  ·obtain ⟨q1,q2,q3⟩:=p.status hk
   rw [KS (by rw [wf];exact hwid.2.2.2 (by omega)),q1,q2]
   constructor
   ·rcases turned_cases H i o with e | ⟨k,e,g1,g2,g3,g4,g5⟩
    ·rw [e]
    ·rw [g5]
     show (H.ents.set k (offE e (!o.on))).map _=_
     have hkk:k<H.ents.length:=by
      rcases Nat.lt_or_ge k H.ents.length with h | h
      ·exact h
      ·rw [List.getElem?_eq_none h] at g2;cases g2
     rw [List.getElem?_eq_getElem hkk] at g2
     rw [List.map_set,show nmE (rowN [] H.ops) (offE e (!o.on))=(H.ents.map (nmE (rowN [] H.ops)))[k]'(by rw [List.length_map];exact hkk) from by rw [List.getElem_map,Option.some.inj g2];rfl,List.set_getElem_self]
   ·unfold nmE namesOf
    rw [if_neg (by rw [c4.kind];omega),c2.noRs (by rw [c4.kind];omega)]
 unfold newEnts
 rw [List.map_append,List.map_cons,nm_zipE _ _ _ (p.sames h g),List.map_take,List.map_drop,hes.1,hes.2]
theorem fresh_op {H:Hist} {c n:Int} (h:J5 H.ents c n=none): ∀o∈H.ops,¬(o.c=c∧o.n=n):=fun o ho=>by
 obtain ⟨e,he,rfl⟩:=List.mem_map.1 ho
 exact Yj h e he
theorem good_tgt {H:Hist} {i:Nat} {o:GOp} (g:Good H i o) (hk:o.kind=4): ∃p∈H.ops.take i,p.c=o.tc∧p.n=o.tn∧p.kind≠4:=by
 obtain ⟨k,h1,h2,e,h3,h4⟩:=g.target hk
 obtain ⟨hk,h5,h6⟩:=KI h1
 have h7:H.ents[k] =e:=by rw [List.getElem?_eq_getElem hk] at h3;exact Option.some.inj h3
 subst h7
 refine ⟨H.ents[k].op,List.mem_of_getElem? (i:=k) ?_,h5,h6,h4⟩
 rw [List.getElem?_take,if_pos h2]
 unfold Hist.ops
 rw [List.getElem?_map,List.getElem?_eq_getElem hk];rfl
theorem put_tgt {H:Hist} (h:HV H) {i:Nat} {o:GOp} (g:Good H i o) (I:TgtOk [] H.ops):TgtOk [] (H.ops.take i++([o] ++(JV o (H.ops.drop i)).2)):=by
 obtain ⟨c1,c2,c3,c4,c5⟩:=cross_good h g
 rw [←List.take_append_drop i H.ops,TgtOk.append] at I
 rw [TgtOk.append]
 refine ⟨I.1,?_,?_⟩
 ·exact good_tgt g
 ·refine TgtOk.mono c5 (fun p hp=>⟨p,?_,V,V,V⟩) I.2
  exact List.mem_append_left _ hp
theorem put_off {H:Hist} (h:HV H) {i:Nat} {o:GOp} {es:List Ent} {nw:List Rg} {eff:GOp} (g:Good H i o) (p:PutIs H i o es nw eff) (I:CI H):
  ∀e∈newEnts i o nw es (JV o (H.ops.drop i)).2,e.off=lastOff e.op.c e.op.n false (H.ops.take i++([o] ++(JV o (H.ops.drop i)).2)):=by
 obtain ⟨c1,c2,c3,c4,c5⟩:=cross_good h g
 have hT:=put_tgt h g I.tgt
 have hs:=p.sames h g
 have hsp: ∀c n,lastOff c n false (H.ops.take i++([o] ++(JV o (H.ops.drop i)).2))=lastOff c n (if o.kind=4∧o.tc=c∧o.tn=n then !o.on else lastOff c n false (H.ops.take i)) (H.ops.drop i):=fun c n=>by
  rw [YJ]
  show lastOff c n _ (JV o (H.ops.drop i)).2=_
  rw [lastOff_same c5]
 have hold: ∀c n,lastOff c n (lastOff c n false (H.ops.take i)) (H.ops.drop i)=lastOff c n false H.ops:=fun c n=>by rw [←YJ,List.take_append_drop]
 have hes: ∀e∈es,e.off=lastOff e.op.c e.op.n false (H.ops.take i++([o] ++(JV o (H.ops.drop i)).2)):=by
  by_cases hk:o.kind=4
  ·obtain ⟨q1,q2,q3⟩:=p.status hk
   obtain ⟨k0,w1,w2,e0,w3,w4⟩:=g.target hk
   obtain ⟨hk0,w5,w6⟩:=KI w1
   have w7:H.ents[k0] =e0:=by rw [List.getElem?_eq_getElem hk0] at w3;exact Option.some.inj w3
   have key: ∀(j:Nat) (hj:j<H.ents.length),∀b:Bool,(j≠k0→b=H.ents[j].off)→(j=k0→b=(if Yv (H.ents.drop i) o.tc o.tn=true then H.ents[j].off else !o.on))→b=lastOff H.ents[j].op.c H.ents[j].op.n false (H.ops.take i++([o] ++(JV o (H.ops.drop i)).2)):=by
    intro j hj b h1 h2
    have hb:=I.off _ (List.getElem_mem hj)
    rw [hsp]
    by_cases hjk:j=k0
    ·subst hjk
     rw [w5,w6] at hb ⊢
     rw [if_pos ⟨hk,rfl,rfl⟩,h2 rfl]
     by_cases hl:Yv (H.ents.drop i) o.tc o.tn=true
     ·rw [if_pos hl,hb,←hold]
      obtain ⟨x,hx,hh⟩:=GX.1 hl
      exact lastOff_any ⟨x,by unfold Hist.ops;rw [←List.map_drop];exact hx,hh⟩ _ _
     ·rw [if_neg hl,Vj]
      intro x hx hx4 hxx
      refine hl (GX.2 ⟨x,?_,hx4,hxx⟩)
      unfold Hist.ops at hx;rw [←List.map_drop] at hx;exact hx
    ·rw [if_neg,h1 hjk,hb,hold]
     rintro ⟨_,x1,x2⟩
     have hn:=h.ids
     have:=List.getElem_inj (h₀:=by simpa using hj) (h₁:=by simpa using hk0) hn
     simp only [List.getElem_map,Prod.mk.injEq] at this
     exact hjk (this.1 ⟨by rw [w5,x1],by rw [w6,x2]⟩)
   have e1:(turnedF H i o).1=H.ents.set k0 (offE e0 (if Yv (H.ents.drop i) o.tc o.tn=true then e0.off else !o.on)):=by
    unfold turnedF
    by_cases hl:Yv (H.ents.drop i) o.tc o.tn=true
    ·rw [if_pos hl,if_pos hl]
     show H.ents=H.ents.set k0 e0
     rw [←w7,List.set_getElem_self]
    ·rw [if_neg hl,if_neg hl,w1]
     simp only [w3]
     by_cases hx:e0.off= !o.on
     ·rw [if_pos hx,←hx]
      show H.ents=H.ents.set k0 e0
      rw [←w7,List.set_getElem_self]
     ·rw [if_neg hx]
   rw [q1,e1]
   intro e he
   obtain ⟨j,hj,hje⟩:=List.mem_iff_getElem.1 he
   rw [List.length_set] at hj
   rw [List.getElem_set] at hje
   split at hje
   ·rename_i hjk
    subst hjk hje
    have:=key k0 hj (if Yv (H.ents.drop i) o.tc o.tn=true then e0.off else !o.on) (fun hn=>absurd rfl hn) (fun _=>by rw [w7])
    rw [w7] at this
    exact this
   ·rename_i hjk
    rw [←hje]
    exact key j hj _ (fun _=>V) (fun hn=>absurd hn.symm hjk)
  ·intro e he
   have hx: ∃x∈H.ents,e.op=x.op∧e.off=x.off:=by
    rcases g.right.kind with h1 | h1 | h1
    ·rw [(p.ins h1).1] at he
     obtain ⟨x,hx,rfl⟩:=List.mem_map.1 he
     exact ⟨x,hx,V,V⟩
    ·rw [(p.hide h1).1] at he;exact ⟨e,he,rfl,rfl⟩
    ·exact absurd h1 hk
   obtain ⟨x,hx,h1,h2⟩:=hx
   rw [h1,h2,hsp,if_neg (fun hh=>hk hh.1),hold,←I.off x hx]
 intro e he
 rcases YI hs he with he | rfl | ⟨x,hx,y,hy,hsm,rfl⟩
 ·exact hes e he
 ·show false=lastOff o.c o.n false _
  rw [Vj]
  intro x hx h4 hh
  obtain ⟨t,t1,t2,t3⟩:=hT.mem x hx h4
  rw [List.nil_append] at t1
  have hfr:=fresh_op g.fresh
  have hnot: ∀z∈(JV o (H.ops.drop i)).2,¬(z.c=o.c∧z.n=o.n):=by
   intro z hz hzz
   obtain ⟨k,hk,rfl⟩:=List.mem_iff_getElem.1 hz
   have hk':k<(H.ops.drop i).length:=by rw [←c5.length];exact hk
   have:=c5.get k hk' hk
   exact hfr _ (List.mem_of_mem_drop (List.getElem_mem hk')) ⟨by rw [←this.c];exact hzz.1,by rw [←this.n];exact hzz.2⟩
  rw [TgtOk.append] at hT
  rcases List.mem_append.1 hx with hx | hx
  ·--a status ahead
   obtain ⟨t,t1,t2,t3⟩:=hT.1.mem x hx h4
   exact hfr t (List.mem_of_mem_take t1) ⟨t2.trans hh.1,t3.trans hh.2⟩
  ·rcases List.mem_append.1 hx with hx | hx
   ·simp only [List.mem_singleton] at hx;subst hx
    obtain ⟨t,t1,t2,t3,_⟩:=good_tgt g h4
    exact hfr t (List.mem_of_mem_take t1) ⟨t2.trans hh.1,t3.trans hh.2⟩
   ·--a status behind:its old form had the same target
    obtain ⟨k,hk,rfl⟩:=List.mem_iff_getElem.1 hx
    have hk':k<(H.ops.drop i).length:=by rw [←c5.length];exact hk
    have hsm:=c5.get k hk' hk
    obtain ⟨t,t1,t2,t3⟩:=I.tgt.mem _ (List.mem_of_mem_drop (List.getElem_mem hk')) (hsm.kind.symm.trans h4)
    exact hfr t t1 ⟨by rw [t2,←hsm.tc];exact hh.1,by rw [t3,←hsm.tn];exact hh.2⟩
 ·show x.off=lastOff y.c y.n false _
  rw [hsm.c,hsm.n];exact hes x hx
theorem Made.ci {n:Nat} {H:Hist} {X:List Ce} (h:Made n H X):n≤1000→CI H:=by
 induction h with
 | zero=>exact fun _=>⟨rfl,trivial,fun e he=>(by cases he)⟩
 | step h g ih=>
  intro hn
  obtain ⟨h1,h2,h3⟩:=h.inv (by omega)
  have I:=ih (by omega)
  obtain ⟨es,nw,eff,p⟩:=put_good h1 g
  have ho:=put_ops h1 g p
  rw [p.put]
  refine ⟨?_,?_,?_⟩
  ·rw [ho];exact put_now h1 g p I
  ·rw [ho];exact put_tgt h1 g I.tgt
  ·rw [ho];exact put_off h1 g p I
theorem Made.ops {n:Nat} {H:Hist} {X:List Ce} (h:Made n H X) (hn:n≤1000) {i:Nat} {o:GOp} (g:Good H i o):(putF H i o).1.ops=H.ops.take i++([o] ++(JV o (H.ops.drop i)).2):=by
 obtain ⟨h1,h2,h3⟩:=h.inv hn
 obtain ⟨es,nw,eff,p⟩:=put_good h1 g
 rw [p.put];exact put_ops h1 g p
theorem G4 (o:GOp):JV o [] =(o,[]):=rfl
abbrev rpP (b:Nat) (A:Option Addr):Part:= [(b,JB [.pointer A] 137)]
def RpP (b:Nat) (X:List Ce):Value→List Part→List Fact→Prop:=fun v Lo fs=> ∃(A:Option Addr) (t:Tr),v= .int .i64 0∧Lo= [rpP b A] ∧fs= [TrF A t] ∧Wf t∧t.row=X
structure BuOk (rs:List Rg) (k:Int) (row:List Ce):Prop where
 ck:(ckF rs).2=0
 below:BelowR row.length rs
 cells: ∀(q:Nat) c,row[q]? =some c→inRb q rs=true→0≤c.2+k∧c.2+k≤1048576
structure BuI (rs:List Rg) (k:Int) (row:List Ce) (i:Nat) (t:Tr):Prop where
 le:i≤rs.length
 wf:Wf t
 eq:t.row=K5 (rs.take i) k row
theorem GT {b:Int} {rs:List Rg} (h:NormB b rs) (i:Nat):NormB b (rs.take i):=by
 rw [←List.take_append_drop i rs] at h
 exact (Yu.1 h).1
theorem BuOk.norm {rs:List Rg} {k:Int} {row:List Ce} (h:BuOk rs k row):NormB 0 rs:=(GD.1 h.ck).2.1
theorem BuI.len {rs:List Rg} {k:Int} {row:List Ce} {i:Nat} {t:Tr} (h:BuI rs k row i t) (ho:BuOk rs k row):t.row.length=row.length:=by
 rw [h.eq]
 exact (Yt (k:=k) _ 0 row (Int.le_refl _) (GT ho.norm i) (fun r hr=>ho.below r (List.mem_of_mem_take hr))).1
theorem Hm {rs:List Rg} {k:Int} {row:List Ce} {i:Nat} (hi:i<rs.length):K5 (rs.take (i+1)) k row=Vt rs[i] k (K5 (rs.take i) k row):=by
 unfold K5
 rw [List.take_succ_eq_append_getElem hi,List.foldl_append];rfl
theorem BuI.slice {rs:List Rg} {k:Int} {row:List Ce} {i:Nat} {t:Tr} (h:BuI rs k row i t) (ho:BuOk rs k row) (hi:i<rs.length):InR (up k ((t.row.drop rs[i].lo.toNat).take (rs[i].hi-rs[i].lo).toNat)):=by
 intro c hc
 obtain ⟨d,hd,rfl⟩:=mem_up.1 hc
 obtain ⟨j,hj,rfl⟩:=List.mem_iff_getElem.1 hd
 have hm:=ho.norm.mem _ (List.getElem_mem hi)
 have hget:=(Yt (k:=k) _ 0 row (Int.le_refl _) (GT ho.norm i) (fun r hr=>ho.below r (List.mem_of_mem_take hr))).2
 rw [List.length_take,List.length_drop] at hj
 have e1:((t.row.drop rs[i].lo.toNat).take (rs[i].hi-rs[i].lo).toNat)[j]? =(K5 (rs.take i) k row)[rs[i].lo.toNat +j]? :=by
  rw [List.getElem?_take,if_pos (by omega),List.getElem?_drop,h.eq]
 rw [List.getElem?_eq_getElem (by rw [List.length_take,List.length_drop];omega),hget] at e1
 have hnot:inRb ((rs[i].lo.toNat +j:Nat):Int) (rs.take i)=false:=inRb_false.2 fun hmem=>by
  have hn:=ho.norm
  rw [←List.take_append_drop i rs,List.drop_eq_getElem_cons hi] at hn
  have h2:=(Yu.1 hn).2
  obtain ⟨r,hr,hq⟩:=hmem
  have h3: ∀(xs:List Rg) (b:Int),NormB b xs→ ∀r∈xs,r.hi+1≤endB b xs:=by
   intro xs
   induction xs with
   | nil=>intro b _ r hr;cases hr
   | cons x xs ih=>
    intro b hb r hr
    have h4: ∀(ys:List Rg) (b:Int),NormB b ys→b≤endB b ys:=by
     intro ys
     induction ys with
     | nil=>intro b _;exact Int.le_refl _
     | cons y ys ih2=>intro b hb;have:=ih2 _ hb.2.2;have:=hb.1;have:=hb.2.1;simp only [endB];omega
    rcases List.mem_cons.1 hr with rfl | hr
    ·exact h4 xs _ hb.2.2
    ·exact ih _ hb.2.2 r hr
  have h5:=h3 _ _ (Yu.1 hn).1 r hr
  have h6:=h2.1
  omega
 have hin:inRb ((rs[i].lo.toNat +j:Nat):Int) rs=true:=K8.2 ⟨_,List.getElem_mem hi,by omega⟩
 cases hx:row[rs[i].lo.toNat +j]? with
 | none=>rw [hx] at e1;cases e1
 | some c=>
  rw [hx,hnot] at e1
  simp only [Bool.false_eq_true,if_false,Option.map_some,Option.some.injEq] at e1
  have:=ho.cells _ c hx hin
  rw [e1]
  exact this
theorem BuI.next {rs:List Rg} {k:Int} {row:List Ce} {i:Nat} {t t':Tr} (h:BuI rs k row i t) (hi:i<rs.length) (hw:Wf t') (he:t'.row=Vt rs[i] k t.row):BuI rs k row (i+1) t':=⟨hi,hw,by rw [he,Hm hi,h.eq]⟩
theorem BuI.done {rs:List Rg} {k:Int} {row:List Ce} {i:Nat} {t:Tr} (h:BuI rs k row i t) (hi: ¬i<rs.length):t.row=K5 rs k row:=by
 have e:i=rs.length:=by have:=h.le;omega
 rw [h.eq,e,List.take_length]
theorem wf_mn {t:Tr} (h:Wf t) (hn:t.row≠ []):(∃c∈t.row,c.2=(allF t).mn)∧ ∃c∈t.row,c.2=(allF t).mx:=by
 cases t with
 | nil=>exact absurd rfl hn
 | nd s l rs hid r plus=>have:=wf_sum h (by simp);exact ⟨this.mnI,this.mxI⟩
def idC (x:Int×Int):List Value:= [.int .i64 x.1, .int .i64 x.2]
def idD:De (Int×Int) where
 sz:=2
 rep _ _ x cs:=cs=idC x
 len h:=by subst h;rfl
 one h:=by subst h;rfl
 stable _ _ _ _ _ h:=h
theorem id_open (u:Int×Int): ∀Z w cs,idD.rep Z w u cs→ ∃y:Unit,cs=idC u∧ ∀B∈([] :List Fact),B.holds Z w:=fun _ _ _ h=>⟨(),h,fun _ h=>by cases h⟩
def Kn {α:Type} (f:α→List Value) (xs:List α):List Value:=(xs.map f).flatten
theorem Y4 {α:Type} (f:α→List Value) (xs ys:List α):Kn f (xs++ys)=Kn f xs++Kn f ys:=by unfold Kn;simp
theorem Xy {α:Type} (f:α→List Value) (x:α):Kn f [x] =f x:=by unfold Kn;simp
theorem Jas {α:Type} {e:De α} {f:α→List Value} (h: ∀Z w x,e.rep Z w x (f x)) (xs:List α) (Z:Nat→Prop) (w:World):Reps (e.rep Z w) xs (xs.map f):=by
 induction xs with
 | nil=>exact .nil
 | cons x xs ih=>exact .cons (h Z w x) ih
theorem Ed (a:Int) (m:Nat) (hm:0<m): -(m:Int)<a.tmod m∧a.tmod m<m:=
 ⟨Int.lt_tmod_of_pos a (by omega),Int.tmod_lt_of_pos a (by omega)⟩
end Go.Proofs.YtggbpikbmnkiaaaGreatDoor
