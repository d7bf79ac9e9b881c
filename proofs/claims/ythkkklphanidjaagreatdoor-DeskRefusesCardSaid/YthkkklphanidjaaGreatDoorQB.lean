/- Part of the proof that this claim's law answers true, whatever its arguments. Condition: the laid variables hold what their initialisers lay (the card ties that to the program's text). -/
import Derived.Lib.UnsafeStr
import Derived.Lib.Builder
import Derived.Laws.Externs
import Derived.Defers
import Derived.Recover
import Derived.Laws.RangeString
import Derived.Laws.Concat
import Derived.Test.YthkkklphanidjaaGreatDoorQA
set_option maxRecDepth 10000
set_option linter.unusedVariables false
set_option linter.unusedSimpArgs false
open Go.Proofs.Tryz renaming underlying1→Un1,underlying3→Un3,underlying4→Un4,underlying9→Un9,underlying20→Un20,underlying21→Un21,underlying23→Un23,underlying24→Un24,underlying26→Un26,underlying27→Un27,underlying29→Un29,underlying34→Un34,underlying35→Un35,underlying37→Un37,underlying38→Un38,underlying40→Un40,underlying42→Un42,underlying43→Un43,underlying44→Un44,underlying45→Un45,underlying47→Un47,underlying54→Un54,underlying55→Un55,underlying56→Un56,underlying58→Un58,underlying61→Un61,underlying63→Un63,underlying65→Un65,underlying86→Un86,underlying92→Un92,underlying114→Un114,underlying117→Un117,underlying121→Un121,underlying123→Un123,underlying125→Un125,underlying126→Un126,underlying128→Un128,underlying132→Un132,underlying134→Un134,underlying138→Un138,underlying143→Un143,underlying144→Un144,underlying149→Un149,underlying152→Un152,underlying153→Un153,underlying155→Un155,underlying161→Un161,underlying165→Un165,underlying169→Un169,underlying185→Un185,underlying186→Un186,underlying188→Un188,underlying194→Un194,underlying199→Un199,underlying233→Un233
namespace Go.GW
open Go
def EqD (P:Program) (D:Nat) (T:TypeId) (xs ys:Array Value) (r:Bool):Prop:= ∀d w,(Op.equalIn (d+D) T (.agg xs) (.agg ys)).run P w= .ok r w
theorem EqD.eqT {P:Program} {D:Nat} {T:TypeId} {xs ys:Array Value} {r:Bool} (h:EqD P D T xs ys r) (hD:D≤9) (hg:P.eqGuardType P.depth T=false):EqT P T xs ys r:=⟨hg,fun d w=>by
  have:=h (d+(9-D)) w
  rwa [show d+(9-D)+D=d+9 from by omega] at this⟩
inductive EqFs (P:Program) (D:Nat) (xs ys:List Value):List (TypeId×Nat)→Bool→Prop
  | nil:EqFs P D xs ys [] true
  | int {t:TypeId} {o:Nat} {k:IntKind} {a b:Int} {l:List (TypeId×Nat)} {r:Bool} (hu:P.underlying t=some (.int k)) (hx:xs[o]? =some (.int k a)) (hy:ys[o]? =some (.int k b)) (h:EqFs P D xs ys l r):EqFs P D xs ys ((t,o)::l) ((a==b) && r)
  | str {t:TypeId} {o:Nat} {a b:ByteArray} {l:List (TypeId×Nat)} {r:Bool} (hu:P.underlying t=some .string) (hx:xs[o]? =some (.string a)) (hy:ys[o]? =some (.string b)) (h:EqFs P D xs ys l r):EqFs P D xs ys ((t,o)::l) ((a==b) && r)
  | bool {t:TypeId} {o:Nat} {a b:Bool} {l:List (TypeId×Nat)} {r:Bool} (hu:P.underlying t=some .bool) (hx:xs[o]? =some (.bool a)) (hy:ys[o]? =some (.bool b)) (h:EqFs P D xs ys l r):EqFs P D xs ys ((t,o)::l) ((a==b) && r)
  | agg {t:TypeId} {o sz by_:Nat} {dd:TypeDesc} {z:Option Value} {us vs:List Value} {l:List (TypeId×Nat)} {q r:Bool} (hu:P.underlying t=some dd) (hd:agg? dd=true) (ht:ti P t=some (z,sz,by_)) (hx:(xs.drop o).take sz=us) (hy:(ys.drop o).take sz=vs) (hq:EqD P D t us.toArray vs.toArray q) (h:EqFs P D xs ys l r):EqFs P D xs ys ((t,o)::l) (q && r)
def fieldsB (P : Program) (T : TypeId) (l : List (TypeId × Nat)) : Bool := (P.fieldsOf T).toList.map (fun f => ((f.type, f.offset), f.name == "_")) == l.map fun x => (x, false)
theorem Ze {P : Program} {D : Nat} {xs ys : List Value} {l : List (TypeId × Nat)} {r : Bool} (h : EqFs P (D + 1) xs ys l r) (d : Nat) (w : World) : ∀ (fs : List Field), fs.map (fun f => ((f.type, f.offset), f.name == "_")) = l.map (fun x => (x, false)) → (Op.eqFields (d + (D + 1)) xs.toArray ys.toArray fs).run P w = .ok r w := by
  have key: ∀ {t:TypeId} {o:Nat} {l:List (TypeId×Nat)} {q r:Bool} {u v:Value},(part t xs.toArray o).run P w= .ok u w→(part t ys.toArray o).run P w= .ok v w→(Op.equalIn (d+(D+1)) t u v).run P w= .ok q w→
      (∀ (fs : List Field), fs.map (fun f => ((f.type, f.offset), f.name == "_")) = l.map (fun x => (x, false)) → (Op.eqFields (d + (D + 1)) xs.toArray ys.toArray fs).run P w = .ok r w) →
      ∀ (fs : List Field), fs.map (fun f => ((f.type, f.offset), f.name == "_")) = ((t, o) :: l).map (fun x => (x, false)) → (Op.eqFields (d + (D + 1)) xs.toArray ys.toArray fs).run P w = .ok (q && r) w := by
    intro t o l q r u v h1 h2 h3 ih fs hf
    cases fs with
    | nil=>simp at hf
    | cons f fs=>
      simp only [List.map_cons,List.cons.injEq,Prod.mk.injEq] at hf
      obtain ⟨⟨⟨e1,e2⟩,e3⟩,hr⟩:=hf
      have e4 : f.name ≠ "_" := by simpa using e3
      subst e1;subst e2
      simp only [Op.eqFields,e4,ne_eq,not_false_eq_true,if_true,Sem.run_bind,h1,h2,h3,Result.andThen_ok]
      cases q
      · simp
      · simp [ih fs hr]
  induction h with
  | nil=>
    intro fs hf
    have:fs= [] :=by simpa using hf
    subst this;rfl
  | int hu hx hy h ih=>exact key (YS hu rfl hx) (YS hu rfl hy) (run_equalIn_int w (d+D) _ _ _ _ _ hu) ih
  | str hu hx hy h ih=>exact key (YS hu rfl hx) (YS hu rfl hy) ((run_equalIn_string w (d+D) _ _ _ hu).trans (by rw [beq_toListBytes])) ih
  | bool hu hx hy h ih=>exact key (YS hu rfl hx) (YS hu rfl hy) (run_equalIn_bool' w (d+D) _ _ _ hu) ih
  | agg hu hd ht hx hy hq h ih=>exact key (Xa hu hd ht hx) (Xa hu hd ht hy) (hq d w) ih
theorem EqD.struct {P:Program} {D:Nat} {T:TypeId} {xs ys:List Value} {l:List (TypeId×Nat)} {r:Bool} (hu:P.underlying T=some (.struct (P.fieldsOf T))) (hp:P.stoodInHeld T=false) (hf:fieldsB P T l=true) (h:EqFs P (D+1) xs ys l r):EqD P (D+2) T xs.toArray ys.toArray r:=fun d w=>by
  rw [show d+(D+2)=(d+(D+1))+1 from rfl,run_equalIn_struct w (d+(D+1)) T _ _ hu hp]
  exact Ze h d w _ (by simpa [fieldsB] using hf)
section
variable {P:Program} {n:Dm} {R:Post} {l:Fr} {Ps Ps':List Part} {As:List Fact} {ops:Array Oper} {rest:List Oper} {ty:TypeId} {pos:String} {aft:Array Edge} {g:Option (Nat×Bool)} {K:Nx} {d:Nat} {dd:Option Tmp}
theorem Vs {T E:TypeId} {x hi':Operand} {A:Option Addr} {len cap m:Nat} {i:Int} {z:Option Value} {sz by_:Nat} (hm:i.toNat=m) (hu:P.underlying T=some (.slice E)) (ht:ti P E=some (z,sz,by_)) (hx:evs l x=some (.slice A len cap)) (hi:evs l hi'=some (.int .i64 i)) (h0:0≤i) (h1:i≤cap):
    QR P l Ps As ⟨dd, .slice T x none (some hi') none,ty,pos,aft,g⟩ (.slice (cutA A 0 cap sz) m cap):=by subst hm;exact Hm hu ht hx hi h0 h1
theorem Vr {T E:TypeId} {x lo:Operand} {A:Option Addr} {len cap m j:Nat} {i:Int} {z:Option Value} {sz by_:Nat} (hj:i.toNat=j) (hm:len-j=m) (hu:P.underlying T=some (.slice E)) (ht:ti P E=some (z,sz,by_)) (hx:evs l x=some (.slice A len cap)) (hi:evs l lo=some (.int .i64 i)) (h0:0≤i) (h1:i≤len):
    QR P l Ps As ⟨dd, .slice T x (some lo) none none,ty,pos,aft,g⟩ (.slice (cutA A j cap sz) m (cap-j)):=by subst hm;subst hj;exact G4 hu ht hx hi h0 h1
theorem X0 {T E:TypeId} {x lo hi':Operand} {A:Option Addr} {len cap k m:Nat} {i j:Int} {z:Option Value} {sz by_:Nat} (hk:i.toNat=k) (hm:j.toNat - k=m) (hu:P.underlying T=some (.slice E)) (ht:ti P E=some (z,sz,by_)) (hx:evs l x=some (.slice A len cap)) (hl:evs l lo=some (.int .i64 i)) (hi:evs l hi'=some (.int .i64 j)) (h0:0≤i) (hij:i≤j) (h1:j≤cap):
    QR P l Ps As ⟨dd, .slice T x (some lo) (some hi') none,ty,pos,aft,g⟩ (.slice (cutA A k cap sz) m (cap-k)):=by subst hm;subst hk;exact GC hu ht hx hl hi h0 hij h1
theorem V4 {α:Type} {e:De α} {c:Code} {A:Option Addr} {cap:Nat} {xs:List α} (k:Nat) (hA:RdF e A cap xs∈As) (h1:k≤xs.length) (h:WC P n c R l Ps (RdF e (cutA A 0 cap e.sz) cap (xs.take k)::As)):WC P n c R l Ps As:=
  Kf (A:=RdF e (cutA A 0 cap e.sz) cap (xs.take k)) (fun Z w hs=>by
    have h0:RdS e Z w A cap xs:=hs.facts _ hA
    have:=RdS.cut h0 (lo:=0) (hi:=k) (m:=cap) (Nat.zero_le _) h1 (Nat.le_trans h1 h0.1) (Nat.le_refl _)
    simp only [Nat.sub_zero,List.drop_zero] at this
    exact this) h
theorem V3 {α:Type} {e:De α} {c:Code} {A:Option Addr} {cap:Nat} {xs:List α} (k:Nat) (hA:RdF e A cap xs∈As) (h1:k≤xs.length) (h:WC P n c R l Ps (RdF e (cutA A k cap e.sz) (cap-k) (xs.drop k)::As)):WC P n c R l Ps As:=
  Kf (A:=RdF e (cutA A k cap e.sz) (cap-k) (xs.drop k)) (fun Z w hs=>by
    have h0:RdS e Z w A cap xs:=hs.facts _ hA
    have:=RdS.cut h0 (lo:=k) (hi:=xs.length) (m:=cap) h1 (Nat.le_refl _) h0.1 (Nat.le_refl _)
    rw [List.take_length] at this
    exact this) h
theorem E7 {α:Type} {e:De α} {c:Code} {A:Option Addr} {cap:Nat} {xs:List α} (k m:Nat) (hA:RdF e A cap xs∈As) (h0:k≤m) (h1:m≤xs.length) (h:WC P n c R l Ps (RdF e (cutA A k cap e.sz) (cap-k) ((xs.take m).drop k)::As)):WC P n c R l Ps As:=
  Kf (A:=RdF e (cutA A k cap e.sz) (cap-k) ((xs.take m).drop k)) (fun Z w hs=>by
    have h2:RdS e Z w A cap xs:=hs.facts _ hA
    exact RdS.cut h2 h0 h1 (Nat.le_trans h1 h2.1) (Nat.le_refl _)) h
theorem Gt {α:Type} {e:De α} {c:Code} {A:Option Addr} {cap:Nat} {xs:List α} (hA:RdF e A cap xs∈As) (h:xs.length≤cap→WC P n c R l Ps As):WC P n c R l Ps As:=fun Z w a hs ha=>h ((hs.facts _ hA:RdS e Z w A cap xs).1) Z w a hs ha
theorem Gs {α:Type} {e:De α} {b q cap:Nat} {xs:List α} {k:Nat} {u:α} {β:Type} {mk:β→List Value} {Fs:β→List Fact} {c:Code} (hA:RdF e (some ⟨b,q,none⟩) cap xs∈As) (hu:xs[k]? =some u) (ho: ∀Z w cs,e.rep Z w u cs→ ∃y,cs=mk y∧ ∀B∈Fs y,B.holds Z w)
    (h: ∀y,WC P n c R l Ps (FzA b (q+k*e.sz) (mk y)::(Fs y++As))):WC P n c R l Ps As:=
  Kh hA hu ho fun b' q' y e=>by cases e;exact h y
theorem Gr {α:Type} {e:De α} {c:Code} {xs ys:List α} {css dss:List (List Value)} (h1:RepsF e xs css∈As) (h2:RepsF e ys dss∈As) (h:WC P n c R l Ps (RepsF e (xs++ys) (css++dss)::As)):WC P n c R l Ps As:=
  Kf (A:=RepsF e (xs++ys) (css++dss)) (fun Z w hs=>Reps.append (hs.facts _ h1:Reps (e.rep Z w) xs css) (hs.facts _ h2:Reps (e.rep Z w) ys dss)) h
end
section
variable {P:Program} {n:Dm} {R:Post} {l:Fr} {Ps:List Part} {As:List Fact} {d:Option Tmp} {ty:TypeId} {pos:String} {aft:Array Edge} {g:Option (Nat×Bool)} {K:Nx}
theorem QX {k:FuncId} {xs:List Operand} {vs:List Value} (hxs:Evs l xs vs):QR P l Ps As ⟨d, .makeFunc (.func k) #[] xs.toArray,ty,pos,aft,g⟩ (.func (.func k) #[] vs.toArray):=fun Z w ρ hs hρ=>by
  have h1:=hxs.map hρ
  simp only [execOp,List.map_toArray,h1,Instr.makeFunc]
  simp
theorem Qv {k:FuncId} {d:Nat} {x:Operand} {caps:List Value} {xs:List Operand} {ts:Array TypeId} {args:List Value} {Lin Ps':List Part} {pre:List Fact} {res:Value→List Part→List Fact→Prop}
    (hx:evs l x=some (.func (.func k) #[] caps.toArray)) (hsp:Sp P k (args++caps) Lin pre res) (hxs:Evs l xs args) (hd:d<n.sz) (hp:(Lin++Ps').flatten.Perm Ps.flatten) (hpre: ∀A∈pre,A∈As)
    (h: ∀v Lo fs,res v Lo fs→K ((d,v)::l) (Lo++Ps') (fs++As)):
    OW P n R l Ps As ⟨some d, .call ⟨.value x,xs.toArray,ts⟩,ty,pos,aft,g⟩ K:=by
  intro Z w a hs ha
  have hP:St Z w (Lin++Ps') (pre++As):=(hs.permParts hp).subFacts fun A hA=>by
    rcases List.mem_append.1 hA with hA | hA
    · exact hpre A hA
    · exact hA
  have hrun:(execOp a.eval ⟨some d, .call ⟨.value x,xs.toArray,ts⟩,ty,pos,aft,g⟩).run P w= .ok (.enter k (args++caps).toArray) w:=by
    have h1:=hxs.map fun x v hx=>ha.eval hx
    have h2:=Qj hsp.enters (args++caps).toArray w
    have h3:=ha.eval hx
    simp only [execOp,resolve,Deferred.ofValue,invoke,h3,List.map_toArray,h1,Sem.run_bind,Sem.run_pure,Result.andThen_ok]
    simpa using h2
  unfold Oper.wp
  rw [hrun,Oper.upon_enter]
  refine (hsp.calls Z w Ps' As hP).mono ?_
  rintro e w' ⟨v,rfl,Z',Lo,fs,h1,h2⟩
  refine ⟨(d,v)::l,Z',Lo++Ps',fs++As,ha.put hd v,h2.subFacts ?_,h v Lo fs h1⟩
  intro A hA
  rcases List.mem_append.1 hA with h | h
  · exact List.mem_append.2 (.inl h)
  · exact List.mem_append.2 (.inr (List.mem_append.2 (.inr h)))
theorem Sp.flat {k:FuncId} {args:List Value} {Lin:List Part} {pre:List Fact} {res:Value→List Part→List Fact→Prop} (h:Sp P k args Lin pre res):Sp P k args [Lin.flatten] pre (fun v Lo fs=> ∃Lo',res v Lo' fs∧Lo= [Lo'.flatten]):=by
  refine ⟨h.enters,fun Z w Ps As hs=> ?_⟩
  have hs':St Z w (Lin++Ps) (pre++As):=by
    refine hs.permParts ?_
    simp
  refine (h.calls Z w Ps As hs').mono ?_
  rintro e w' ⟨v,he,Z',Lo,fs,h1,h2⟩
  exact ⟨v,he,Z',[Lo.flatten],fs,⟨Lo,h1,O⟩,h2.permParts (by simp)⟩
theorem Xf {c:Code} {Qs:List Part} (h:WC P n c R l (Qs++Ps) As):WC P n c R l (Qs.flatten::Ps) As:=fun Z w a hs ha=>h Z w a (hs.permParts (by simp)) ha
theorem Jak {c:Code} {Qs:List Part} (h:WC P n c R l (Qs.flatten::Ps) As):WC P n c R l (Qs++Ps) As:=fun Z w a hs ha=>h Z w a (hs.permParts (by simp)) ha
theorem Vq {k yk:IntKind} {a b c:Int} {t t2:TypeId} {x y:Operand} (hx:evs l x=some (.int k a)) (hy:evs l y=some (.int yk b)) (hb:0≤b) (hw:a.fdiv (2 ^ (min b.toNat k.bits))=c):QR P l Ps As ⟨d, .binOp .shr t x y t2,ty,pos,aft,g⟩ (.int k c):=fun Z w ρ hs hρ=>by
  subst hw
  have h1: ¬b<0:=by omega
  simp [execOp,hρ _ _ hx,hρ _ _ hy,binOp,eqGuard,Op.shift,h1]
theorem VI {t t2:TypeId} {x y:Operand} {k:IntKind} {a b c:Int} (hx:evs l x=some (.int k a)) (hy:evs l y=some (.int k b)) (hw:bits .or k a b=c):QR P l Ps As ⟨d, .binOp .or t x y t2,ty,pos,aft,g⟩ (.int k c):=fun Z w ρ hs hρ=>by
  subst hw;simp [execOp,hρ _ _ hx,hρ _ _ hy,go_sem]
theorem Vz {d:Nat} {op:Op} {v:Value} (hq:QR P l Ps As ⟨some d,op,ty,pos,aft,g⟩ v) (hd:d<n.sz) (h:K ((d,v)::l) Ps As):OW P n R l Ps As ⟨some d,op,ty,pos,aft,g⟩ K:=
  K0 rfl hd fun Z w ρ hs hρ=>⟨v,w,Z,Ps,As,hq Z w ρ hs hρ,hs,h⟩
theorem Yx {T E:TypeId} {d:Nat} {m:Nat} {xs:List (Nat×Operand)} {vs:List (Nat×Value)} {cs:List Value} (hx:EvP l xs vs) (hb: ∀w:World,(Instr.buildSlice T m vs.toArray).run P w= .ok (.slice (some ⟨w.heap.size,0,none⟩) m m) (w.alloc (JD cs E))) (hd:d<n.sz)
    (h: ∀b,K ((d, .slice (some ⟨b,0,none⟩) m m)::l) ([(b,JD cs E)] ::Ps) As):OW P n R l Ps As ⟨some d, .buildSlice T m xs.toArray,ty,pos,aft,g⟩ K:=
  K0 rfl hd fun Z w ρ hs hρ=>by
    refine ⟨_,w.alloc (JD cs E),Z,_,As,?_,hs.alloc _,h w.heap.size⟩
    have h1:=hx.map hρ
    simp only [execOp,List.map_toArray,h1,Sem.run_bind,hb];rfl
theorem Yt {T E:TypeId} {d:Nat} {x y:Operand} {zv:Value} {sz by_ k b c m:Nat} {v:Value} {cs news:List Value} {T':TypeId} {p:Part} {Qs:List Part} (hu:P.underlying T=some (.slice E)) (ht:ti P E=some (some zv,sz,by_)) (hz:zv.cells.size=sz) (hsz:0<sz) (hx:evs l x=some v) (hy:evs l y=some (.slice (some ⟨b,0,none⟩) m c))
    (hr:Row E sz v k cs p) (hb:OwnAt Qs b (JD news T')) (hl:news.length=m*sz) (h1:news.all Value.oneCell'=true) (h63:(k+m)*by_≤140737488355328) (hmx:k+m≤maxLen) (hd:d<n.sz) (hQ:(p::Qs).flatten.Perm Ps.flatten)
    (h: ∀v' p',Row E sz v' (k+m) (cs++news) p'→K ((d,v')::l) (p'::Qs) As):OW P n R l Ps As ⟨some d, .call ⟨.builtin .append,#[x,y],#[T,T]⟩,ty,pos,aft,g⟩ K:=
  K0 rfl hd fun Z w ρ hs hρ=>by
    have hs':=hs.permParts hQ
    have hc:CellsAt w b 0 news:=⟨_,_,_,hs'.block (Ji hb),fun j v hv=>by simpa using hv⟩
    obtain ⟨v',w',p',g1,g2,g3⟩:=Qo (ty:=ty) (c:=c) hu ht hz hsz hs' hr (ad:=⟨b,0,none⟩) (m:=m) (news:=news) hl (fun j u hu=>by rw [KZ];exact hc.cell hu) (fun u hu=>List.all_eq_true.1 h1 u hu) h63 hmx
    exact ⟨v',w',Z,_,As,by rw [K5 (hρ _ _ hx) (hρ _ _ hy),Sem.run_bind,g1];rfl,g3,h v' p' g2⟩
theorem shape_own {Z:Nat→Prop} {w:World} (hs:St Z w Ps As) {b:Nat} {cs:List Value} {T:TypeId} (hb:OwnAt Ps b (JD cs T)):w.shape? b=some (T,cs.length):=by
  have:=hs.block hb
  unfold World.shape? JD at *
  rw [this];simp
theorem EQ {src dst t:TypeId} {x:Operand} {j:TypeInfo} {b T:Nat} {cs:List Value} (hs:P.underlying src=some (.pointer t)) (hd:P.underlying dst=some .unsafePointer) (ht:P.info? t=some j) (hj:j.size≠0) (hx:evs l x=some (.pointer (some ⟨b,0,none⟩))) (hb:OwnAt Ps b (JD cs T)) (hc:0<cs.length):
    QR P l Ps As ⟨d, .convert src dst x,ty,pos,aft,g⟩ (.pointer (some ⟨b,0,none⟩)):=fun Z w ρ hst hρ=>by
  have h:=Lib.run_to_unsafe (P:=P) (w:=w) ⟨b,0,none⟩ hs hd ht hj (shape_own hst hb) hc
  simp only [execOp,hρ _ _ hx,Sem.run_bind,h,Result.andThen_ok,Sem.run_pure]
theorem G3 {src dst u:TypeId} {x:Operand} {j:TypeInfo} {b T:Nat} {cs:List Value} (hs:P.underlying src=some .unsafePointer) (hd:P.underlying dst=some (.pointer u)) (hu:P.info? u=some j) (hx:evs l x=some (.pointer (some ⟨b,0,none⟩))) (hb:OwnAt Ps b (JD cs T)) (hl:liesAt P P.depth T (cs.length / P.cellsOf T) 0 u 1=true):
    QR P l Ps As ⟨d, .convert src dst x,ty,pos,aft,g⟩ (.pointer (some ⟨b,0,none⟩)):=fun Z w ρ hst hρ=>by
  have h:=Lib.run_from_unsafe (P:=P) (w:=w) ⟨b,0,none⟩ hs hd hu (shape_own hst hb) hl
  simp only [execOp,hρ _ _ hx,Sem.run_bind,h,Result.andThen_ok,Sem.run_pure]
theorem Zl {f:FuncId} {x:Operand} {v:Value} {ts:Array TypeId} (hb: ∀w,(callFunc f #[v]).run P w= .ok (.value v) w) (hx:evs l x=some v):QR P l Ps As ⟨d, .call ⟨.value (.func f),#[x],ts⟩,ty,pos,aft,g⟩ v:=fun Z w ρ hs hρ=>by
  have h0:ρ (.func f)= .func (.func f) #[] #[] :=hρ _ _ rfl
  simp only [execOp,resolve,Deferred.ofValue,invoke,h0,List.map_toArray,List.map_cons,List.map_nil,hρ _ _ hx,Sem.run_bind,Sem.run_pure,Result.andThen_ok]
  simpa using hb w
theorem Ev {T:TypeId} {x:Operand} {A:Addr} {m c:Nat} (hc:c≠0) (hx:evs l x=some (.slice (some A) m c)):QR P l Ps As ⟨d, .call ⟨.builtin .unsafeSliceData,#[x],#[T]⟩,ty,pos,aft,g⟩ (.pointer (some A)):=fun Z w ρ hs hρ=>by
  simp only [execOp,resolve,invoke,List.map_toArray,List.map_cons,List.map_nil,hρ _ _ hx,Sem.run_bind,Sem.run_pure,Result.andThen_ok]
  show ((do pure (Next.value (←Builtin.unsafeSliceData_ #[T] ty #[.slice (some A) m c])):Sem Next)).run P w=_
  rw [Sem.run_bind,Lib.run_unsafeSliceData_row _ _ _ _ _ _ hc];rfl
theorem EU {t e t2:TypeId} {x y:Operand} {a:Addr} {j:TypeInfo} (hu:P.underlying t=some (.pointer e)) (hj:P.info? e=some j) (hx:evs l x=some (.pointer (some a))) (hy:evs l y=some (.pointer (some a))):QR P l Ps As ⟨d, .binOp .neq t x y t2,ty,pos,aft,g⟩ (.bool false):=fun Z w ρ hs hρ=>by
  have h:=Lib.run_neq_ptr_same (P:=P) w a hu hj
  simp only [execOp,hρ _ _ hx,hρ _ _ hy,eqGuard_at_pointer,Sem.run_bind,h,Result.andThen_ok,Sem.run_pure]
def By (bs:List Int):Prop:= ∀x∈bs,0≤x∧x<256
def bytesU (bs:List Int):List UInt8:=bs.map fun x=>UInt8.ofNat x.toNat
def strOf (bs:List Int):ByteArray:=⟨(bytesU bs).toArray⟩
theorem Xx {d:Nat} {pt it e:TypeId} {x y:Operand} {b T:Nat} {bs:List Int} {jk:List Value} {Ps':List Part} (hp:P.underlying pt=some (.pointer T)) (hc:P.cellsOf T=1) (hby:By bs) (hne:bs≠ []) (h63:bs.length≤9223372036854775807)
    (hx:evs l x=some (.pointer (some ⟨b,0,none⟩))) (hy:evs l y=some (.int .i64 (bs.length:Nat))) (hd:d<n.sz) (hD:DelAt Ps [(b,JD (bs.map (Value.int .u8)++jk) T)] Ps') (h:K ((d, .string (strOf bs))::l) Ps' As):
    OW P n R l Ps As ⟨some d, .call ⟨.builtin .unsafeString,#[x,y],#[pt,it]⟩,ty,pos,aft,g⟩ K:=
  K0 rfl hd fun Z w ρ hs hρ=>by
    have hs':=hs.permParts hD.perm
    have hcell:=hs'.cells (b:=b) Jm
    have hrun:=Lib.run_unsafeString_row (P:=P) (w:=w) pt it ty T hp hc b _ (shape_own hs' Jm) (bytesU bs) (by unfold bytesU;simpa using hne) (by unfold bytesU;simp) (by unfold bytesU;simpa using h63) (fun j u hu=>by
      unfold bytesU at hu
      rw [List.getElem?_map] at hu
      cases hj:bs[j]? with
      | none=>rw [hj] at hu;cases hu
      | some z=>
        rw [hj] at hu
        have hz:=hby z (List.mem_of_getElem? hj)
        have hlt:j<bs.length:=by
          rcases Nat.lt_or_ge j bs.length with h | h
          · exact h
          · rw [List.getElem?_eq_none h] at hj;cases hj
        obtain rfl:=Option.some.inj hu
        have h2:(bs.map (Value.int .u8)++jk)[j]? =some (.int .u8 z):=by rw [List.getElem?_append_left (by simpa using hlt),List.getElem?_map,hj];rfl
        have h3:=hcell.cell h2
        have h4:((UInt8.ofNat z.toNat).toNat:Int)=z:=by rw [UInt8.toNat_ofNat'];omega
        rw [KZ,h4]
        simpa using h3)
    have hlen:(bytesU bs).length=bs.length:=by unfold bytesU;simp
    rw [hlen] at hrun
    refine ⟨_,w.freeze ⟨b,0,none⟩ bs.length,Z,Ps',As,?_,?_,h⟩
    · simp only [execOp,resolve,invoke,List.map_toArray,List.map_cons,List.map_nil,hρ _ _ hx,hρ _ _ hy,Sem.run_bind,Sem.run_pure,Result.andThen_ok]
      show ((do pure (Next.value (←Builtin.unsafeString_ #[pt,it] ty #[.pointer (some ⟨b,0,none⟩), .int .i64 (bs.length:Nat)])):Sem Next)).run P w=_
      rw [Sem.run_bind,hrun];rfl
    · have hb:=hs'.own (b,JD (bs.map (Value.int .u8)++jk) T) (by simp)
      have hnb: ∀q∈Ps'.flatten,q.1≠b:=fun q hq e=>by
        have:=hs'.nodup
        rw [List.flatten_cons,List.map_append,List.nodup_append] at this
        exact this.2.2 b (by simp) q.1 (List.mem_map.2 ⟨q,hq,O⟩) e.symm
      have hne0:bs.length≠0:=by simpa using hne
      have hh: ∀c,c≠b→(w.freeze ⟨b,0,none⟩ bs.length).heap[c]? =w.heap[c]? :=fun c hcb=>by
        unfold World.freeze
        rw [if_neg hne0]
        simp only [Array.getElem?_modify]
        rw [if_neg (fun e=>hcb e.symm)]
      have hos:(w.freeze ⟨b,0,none⟩ bs.length).os=w.os∧(w.freeze ⟨b,0,none⟩ bs.length).tape=w.tape∧(w.freeze ⟨b,0,none⟩ bs.length).output=w.output∧(w.freeze ⟨b,0,none⟩ bs.length).heap.size=w.heap.size:=by
        unfold World.freeze;rw [if_neg hne0];exact ⟨rfl,rfl,rfl,by simp⟩
      refine ⟨fun c hc=>by rw [hos.2.2.2];exact hs.zlt c hc,fun q hq=> ?_,?_,fun A hA=>A.stable (fun _ h=>h) (fun c hc=>hh c fun e=>hb.2 (e ▸ hc)) hos.1 hos.2.1 hos.2.2.1 (hs.facts A hA)⟩
      · have:=hs'.own q (by rw [List.flatten_cons];exact List.mem_append_right _ hq)
        exact ⟨by rw [hh _ (hnb q hq)];exact this.1,this.2⟩
      · have:=hs'.nodup
        rw [List.flatten_cons,List.map_append,List.nodup_append] at this
        exact this.2.1
end
section
variable {P:Program} {n:Dm} {R:Post} {l:Fr} {Ps:List Part} {As:List Fact} {ty:TypeId} {pos:String} {aft:Array Edge} {g:Option (Nat×Bool)} {K:Nx}
theorem Sp.thaw {α:Type} {e:De α} {k:FuncId} {args:List Value} {Lin:List Part} {pre:List Fact} {res:Value→List Part→List Fact→Prop} {b cap:Nat} {T':TypeId} {xs:List α} {css:List (List Value)} {jk:List Value} (h:Sp P k args Lin (RdF e (some ⟨b,0,none⟩) cap xs::pre) res) (hres: ∀v Lo fs,res v Lo fs→fs= []) (hc:xs.length≤cap∧cap≤maxLen):
    Sp P k args ([(b,JD (css.flatten++jk) T')] ::Lin) (RepsF e xs css::pre) (fun v Lo fs=> ∃Lo',res v Lo' [] ∧Lo= [(b,JD (css.flatten++jk) T')] ::Lo'∧fs= []):=by
  refine ⟨h.enters,fun Z w Ps As hs=> ?_⟩
  have hb:=hs.own (b,JD (css.flatten++jk) T') (by simp)
  have hf:=St.freeze (p:= [(b,JD (css.flatten++jk) T')]) (Ps:=Lin++Ps) hs
  have hrep:Reps (e.rep (fun c=>Z c∨ ∃o,(c,o)∈ [(b,JD (css.flatten++jk) T')]) w) xs css:=hf.facts (RepsF e xs css) (by simp)
  have hzb: ∃o,(b,o)∈ [(b,JD (css.flatten++jk) T')] :=⟨_,List.mem_singleton.2 rfl⟩
  have h1:=hf.addFact (A:=NearF w (fun c=>Z c∨ ∃o,(c,o)∈ [(b,JD (css.flatten++jk) T')])) ⟨fun c hc=>⟨hc,rfl⟩,rfl,rfl,rfl⟩
  have h2:=h1.addFact (A:=RdF e (some ⟨b,0,none⟩) cap xs) ⟨hc.1,hc.2, .inr ⟨b,0,css,rfl, .inr hzb,hrep,⟨_,_,_,hb.1,fun j v hv=>by
    have hj:(css.flatten++jk)[j]? =some v:=by
      rw [List.getElem?_append_left]
      · exact hv
      · rcases Nat.lt_or_ge j css.flatten.length with h | h
        · exact h
        · rw [List.getElem?_eq_none h] at hv;cases hv
    simpa using hj⟩⟩⟩
  have h3:St (fun c=>Z c∨ ∃o,(c,o)∈ [(b,JD (css.flatten++jk) T')]) w (Lin++Ps) ((RdF e (some ⟨b,0,none⟩) cap xs::pre)++(NearF w (fun c=>Z c∨ ∃o,(c,o)∈ [(b,JD (css.flatten++jk) T')])::As)):=h2.subFacts fun A hA=>by
    rcases List.mem_append.1 hA with hA | hA
    · rcases List.mem_cons.1 hA with rfl | hA
      · exact List.mem_cons_self
      · exact List.mem_cons_of_mem _ (List.mem_cons_of_mem _ (List.mem_append_left _ (List.mem_cons_of_mem _ hA)))
    · rcases List.mem_cons.1 hA with rfl | hA
      · exact List.mem_cons_of_mem _ List.mem_cons_self
      · exact List.mem_cons_of_mem _ (List.mem_cons_of_mem _ (List.mem_append_right _ hA))
  refine (h.calls _ w Ps _ h3).mono ?_
  rintro en w' ⟨v,rfl,Z',Lo,fs,g1,g2⟩
  obtain rfl:=hres _ _ _ g1
  have hn:=g2.facts (NearF w (fun c=>Z c∨ ∃o,(c,o)∈ [(b,JD (css.flatten++jk) T')])) (by simp)
  have hZb:Z' b:=(hn.1 b (.inr hzb)).1
  have hwb:w'.heap[b]? =some (JD (css.flatten++jk) T'):=by rw [(hn.1 b (.inr hzb)).2];exact hb.1
  refine ⟨v,O,fun c=>Z' c∧c≠b,_,[],⟨Lo,g1,O,O⟩,?_⟩
  have hst: ∀A:Fact,A.holds Z w→A.holds (fun c=>Z' c∧c≠b) w':=fun A hA=>A.stable (fun c hc=>⟨(hn.1 c (.inl hc)).1,fun hcb=>hb.2 (hcb ▸ hc)⟩) (fun c hc=>(hn.1 c (.inl hc)).2) hn.2.1 hn.2.2.1 hn.2.2.2 hA
  refine ⟨fun c hc=>g2.zlt c hc.1,fun q hq=> ?_,?_,fun A hA=>hst A (hs.facts A (by simpa using hA))⟩
  · rcases List.mem_append.1 (by simpa using hq:q∈ [(b,JD (css.flatten++jk) T')] ++(Lo++Ps).flatten) with hq | hq
    · rw [List.mem_singleton] at hq;subst hq
      exact ⟨hwb,fun hh=>hh.2 O⟩
    · have:=g2.own q hq
      exact ⟨this.1,fun hh=>this.2 hh.1⟩
  · have hnd:=g2.nodup
    show ((([(b,JD (css.flatten++jk) T')] ::Lo)++Ps).flatten.map Prod.fst).Nodup
    rw [List.cons_append,List.flatten_cons,List.map_append,List.nodup_append]
    refine ⟨by simp,hnd,fun x hx y hy hxy=> ?_⟩
    subst hxy
    simp only [List.map_cons,List.map_nil,List.mem_singleton] at hx
    subst hx
    obtain ⟨q,hq,hqb⟩:=List.mem_map.1 hy
    exact (g2.own q hq).2 (hqb ▸ hZb)
end
def noP (R:Post):Post:=fun e l Ps As=>match e with | .panic _=>False | e=>R e l Ps As
theorem K7 {P:Program} {n:Dm} {R:Post} {l:Fr} {Ps:List Part} {As:List Fact} {c:Code} (h:WC P n c (noP R) l Ps As):WC P n c R l Ps As:=h.mono fun e l Ps As he=>by
  cases e<;>first | exact he.elim | exact he
structure SpP (P:Program) (k:FuncId) (args:List Value) (Lin:List Part) (pre:List Fact) (res:Value→List Part→List Fact→Prop):Prop where
  enters: ∃c rs n,Enters P k c rs n
  calls: ∀Z w Ps As,St Z w (Lin++Ps) (pre++As)→Calls P k args.toArray w fun e w'=> ∃v,e= .panicked [{ v:=v,recovered:=false }] ∧ ∃Z' Lo fs,res v Lo fs∧St Z' w' (Lo++Ps) (fs++(pre++As))
def finP (res:Value→List Part→List Fact→Prop) (Ps:List Part) (As:List Fact):Post:=fun e l Ps' As'=>match e with
  | .panic ch=> ∃v Lo fs,ch= [{ v:=v,recovered:=false }] ∧res v Lo fs∧(∀Z w,St Z w Ps' As'→ ∃Z',St Z' w (Lo++Ps) (fs++As))
  | _=>False
theorem ag_args {n:Nat} {args:List Value} (hn:args.length≤n):Ag ⟨n,[]⟩ (argsFr args 0) { tmps:=args.toArray++Array.replicate (n-args.toArray.size) undef,defers:= [] } :=by
  refine ⟨?_,O,?_⟩
  · simp;omega
  · intro t v ht
    obtain ⟨_,h7⟩:=lk_argsFr args 0 t v ht
    have h8:t<args.length:=by
      rcases Nat.lt_or_ge t args.length with h | h
      · exact h
      · simp [List.getElem?_eq_none h] at h7
    simp only [Nat.sub_zero] at h7
    rw [Array.getD_eq_getD_getElem?,Array.getElem?_append_left (by simpa using h8)]
    simp [h7]
theorem SpP.of {P:Program} {k:FuncId} {args:List Value} {Lin:List Part} {pre:List Fact} {res:Value→List Part→List Fact→Prop} {c:Code} {rs:List ResultVar} {n:Nat}
    (he:Enters P k c rs n) (hn:args.length≤n) (h: ∀Ps As,WC P ⟨n,[]⟩ c (finP res Ps (pre++As)) (argsFr args 0) (Lin++Ps) (pre++As)):SpP P k args Lin pre res:=by
  refine ⟨⟨c,rs,n,he⟩,fun Z w Ps As hs=> ?_⟩
  obtain ⟨fn,h1,h2,h3,h4,h5⟩:=he.ex
  refine calls_of_wp h1 h2 (wp_mono (h Ps As Z w _ hs (by rw [h4];exact ag_args hn)) ?_)
  rintro e a w' ⟨l,Z',Ps',As',g1,g2,g3⟩
  cases e with
  | panic ch=>
    obtain ⟨v,Lo,fs,rfl,k2,k3⟩:=g3
    obtain ⟨Z2,k4⟩:=k3 Z' w' g2
    exact ⟨g1.defers,v,O,Z2,Lo,fs,k2,k4⟩
  | _=>exact g3.elim
section
variable {P:Program} {n:Dm} {R:Post} {l:Fr} {Ps Ps':List Part} {As:List Fact} {ty:TypeId} {pos:String} {aft:Array Edge} {g:Option (Nat×Bool)} {K:Nx}
theorem EM {k:FuncId} {d:Option Tmp} {xs:List Operand} {ts:Array TypeId} {args:List Value} {Lin:List Part} {pre:List Fact} {res:Value→List Part→List Fact→Prop}
    (hsp:SpP P k args Lin pre res) (hxs:Evs l xs args) (hP: ∀ {Z w},St Z w Ps As→St Z w (Lin++Ps') (pre++As))
    (h: ∀v Lo fs,res v Lo fs→R (.panic [{ v:=v,recovered:=false }]) l (Lo++Ps') (fs++As)):
    OW P n R l Ps As ⟨d, .call ⟨.value (.func k),xs.toArray,ts⟩,ty,pos,aft,g⟩ K:=by
  intro Z w a hs ha
  have hrun:(execOp a.eval ⟨d, .call ⟨.value (.func k),xs.toArray,ts⟩,ty,pos,aft,g⟩).run P w= .ok (.enter k args.toArray) w:=by
    have h1:=hxs.map fun x v hx=>ha.eval hx
    have h2:=Qj hsp.enters args.toArray w
    simp only [execOp,resolve,Deferred.ofValue,invoke,Act.eval,List.map_toArray,h1,Sem.run_bind,Sem.run_pure,Result.andThen_ok]
    simpa using h2
  unfold Oper.wp
  rw [hrun,Oper.upon_enter]
  refine (hsp.calls Z w Ps' As (hP hs)).mono ?_
  rintro e w' ⟨v,rfl,Z',Lo,fs,h1,h2⟩
  refine ⟨l,Z',Lo++Ps',fs++As,ha,h2.subFacts ?_,h v Lo fs h1⟩
  intro A hA
  rcases List.mem_append.1 hA with h | h
  · exact List.mem_append.2 (.inl h)
  · exact List.mem_append.2 (.inr (List.mem_append.2 (.inr h)))
theorem V7 {d:Option Tmp} {x:Operand} {t:TypeId} {v:Value} (hx:evs l x=some (.iface t v)) (h:R (.panic [{ v:= .iface t v,recovered:=false }]) l Ps As):
    OW P n R l Ps As ⟨d, .panic x,ty,pos,aft,g⟩ K:=by
  intro Z w a hs ha
  have hrun:(execOp a.eval ⟨d, .panic x,ty,pos,aft,g⟩).run P w= .halt (.panic (.iface t v)) w:=by
    simp only [execOp,ha.eval hx,Instr.panic]
    rfl
  unfold Oper.wp
  rw [hrun,Oper.upon_panic]
  exact ⟨l,Z,Ps,As,ha,hs,h⟩
end
structure Catches (P:Program) (d:Deferred) (ok:Value→Prop) (Lc:List Part→Prop) (Lc':Value→List Part):Prop where
  inv: ∃fv cap f args,d.target= .fn fv cap∧(∀w,(invoke d.target d.args).run P w= .ok (.enter f args) w)∧
    (∀Z w Ps As,St Z w Ps As→CallsD P f args .returning w fun e u' w'=>(∃v,e= .returned v)∧u'= .returning∧ ∃Z',St Z' w' Ps As)∧
    (∀v Z w Ps As L,ok v→Lc L→St Z w (L++Ps) As→CallsD P f args (.panicking [{ v:=v,recovered:=false }]) w fun e u' w'=>(∃x,e= .returned x)∧u'= .panicking [{ v:=v,recovered:=true }] ∧ ∃Z',St Z' w' (Lc' v++Ps) As)
def finD (P:Program) (rs:List ResultVar) (ok:Value→Prop) (Lc:List Part→Prop) (Lc':Value→List Part) (res:Value→List Part→List Fact→Prop) (Ps:List Part) (As:List Fact):Post:=fun e l Ps' As'=>match e with
  | .normal | .ret=> ∃vs Lo fs,(∀Z w,St Z w Ps' As'→RV P l w rs vs)∧res (tup vs) Lo fs∧(∀Z w,St Z w Ps' As'→ ∃Z',St Z' w (Lo++Ps) (fs++As))
  | .panic ch=> ∃v L Ps2 vs Lo fs,ch= [{ v:=v,recovered:=false }] ∧ok v∧Lc L∧(∀Z w,St Z w Ps' As'→St Z w (L++Ps2) As')∧(∀Z w,St Z w (Lc' v++Ps2) As'→RV P l w rs vs)∧res (tup vs) Lo fs∧(∀Z w,St Z w (Lc' v++Ps2) As'→ ∃Z',St Z' w (Lo++Ps) (fs++As))
  | _=>False
def DefReg (P:Program) (n:Nat) (c:Code) (d:Deferred) (l l2:Fr):Prop:= ∀a w Q,Ag ⟨n,[]⟩ l a→(∀a',Ag ⟨n,[d]⟩ l2 a'→Q .normal a' w)→c.wp P Q a w
theorem Sp.ofD {P:Program} {k:FuncId} {args:List Value} {Lin:List Part} {pre:List Fact} {res:Value→List Part→List Fact→Prop} {c0 c1 c2:Code} {rs:List ResultVar} {n:Nat}
    (he:Enters P k (.seq c0 (.seq c1 c2)) rs n) (hn:args.length≤n)
    (h: ∀Ps As,WC P ⟨n,[]⟩ c0 (fun e l' Ps' As'=>e= .normal∧ ∃d ok Lc Lc' l2,Catches P d ok Lc Lc'∧DefReg P n c1 d l' l2∧WC P ⟨n,[d]⟩ c2 (finD P rs ok Lc Lc' res Ps (pre++As)) l2 Ps' As') (argsFr args 0) (Lin++Ps) (pre++As)):Sp P k args Lin pre res:=by
  refine ⟨⟨_,rs,n,he⟩,fun Z w Ps As hs=> ?_⟩
  obtain ⟨fn,h1,h2,h3,h4,h5⟩:=he.ex
  refine calls_of_wp_defers h1 h2 (wp_seq (wp_mono (h Ps As Z w _ hs (by rw [h4];exact ag_args hn)) ?_))
  rintro e a w' ⟨l',Z',Ps',As',g1,g2,rfl,d,ok,Lc,Lc',l2,hc,hd,g3⟩
  show (Code.seq c1 c2).wp P _ a w'
  refine wp_seq (hd a w' _ g1 fun a' g4=> ?_)
  show c2.wp P _ a' w'
  refine wp_mono (g3 Z' w' a' g2 g4) ?_
  rintro e a2 w2 ⟨l3,Z3,Ps3,As3,k1,k2,k3⟩
  obtain ⟨fv,cap,f,cargs,q1,q2,q3,q4⟩:=hc.inv
  have hdf:a2.defers= [d] :=k1.defers
  have hret:(∃vs Lo fs,(∀Z w,St Z w Ps3 As3→RV P l3 w rs vs)∧res (tup vs) Lo fs∧(∀Z w,St Z w Ps3 As3→ ∃Z',St Z' w (Lo++Ps) (fs++(pre++As))))→
      Leaves P fn a2.tmps (fun e w'=> ∃v,e= .returned v∧ ∃Z' Lo fs,res v Lo fs∧St Z' w' (Lo++Ps) (fs++(pre++As))) a2.defers .returning w2:=by
    rintro ⟨vs,Lo,fs,r1,r2,r3⟩
    rw [hdf]
    refine ⟨by simp,fv,cap,f,cargs,q1,q2 w2,(q3 Z3 w2 _ _ k2).mono ?_⟩
    rintro e u' w' ⟨⟨v,rfl⟩,rfl,Z4,k4⟩
    obtain ⟨Z5,s5⟩:=r3 Z4 _ k4
    exact ⟨tup vs,Y7 k1 (h3 ▸ r1 Z4 _ k4),_,O,Z5,Lo,fs,r2,s5⟩
  cases e with
  | normal=>exact hret k3
  | ret=>exact hret k3
  | panic ch=>
    obtain ⟨v,L,Ps2,vs,Lo,fs,rfl,hok,hL,hst,hrv,hres,hfin⟩:=k3
    show Leaves P fn a2.tmps _ a2.defers (.panicking [{ v:=v,recovered:=false }]) w2
    rw [hdf]
    refine ⟨by simp,fv,cap,f,cargs,q1,q2 w2,(q4 v Z3 w2 Ps2 As3 L hok hL (hst Z3 w2 k2)).mono ?_⟩
    rintro e u' w' ⟨⟨x,rfl⟩,rfl,Z4,s4⟩
    obtain ⟨Z5,s5⟩:=hfin Z4 w' s4
    exact ⟨tup vs,Y7 k1 (h3 ▸ hrv Z4 w' s4),_,O,Z5,Lo,fs,hres,s5⟩
  | _=>exact k3.elim
theorem DefReg.mk {P:Program} {n:Nat} {l:Fr} {id t kf:Nat} {cs:List Operand} {vs:List Value} {ty ty2:TypeId} {pos pos2:String} {aft aft2:Array Edge} (hcs:Evs l cs vs) (ht:t<n):
    DefReg P n (.region id [⟨some t, .makeFunc (.func kf) #[] cs.toArray,ty,pos,aft,none⟩,⟨none, .defer ⟨.value (.tmp t),#[],#[]⟩,ty2,pos2,aft2,none⟩].toArray false) ⟨.fn (.func kf) vs.toArray,#[]⟩ l ((t, .func (.func kf) #[] vs.toArray)::l):=by
  intro a w Q ha hq
  refine wp_region_lit (wpList_plain O fun K hK=> ?_)
  have h1:=hcs.map fun x v hx=>ha.eval hx
  unfold Oper.wp
  have e1:(execOp a.eval ⟨some t, .makeFunc (.func kf) #[] cs.toArray,ty,pos,aft,none⟩).run P w= .ok (.value (.func (.func kf) #[] vs.toArray)) w:=by
    simp only [execOp,List.map_toArray,h1,Instr.makeFunc,Sem.run_bind,Sem.run_pure,Result.andThen_ok]
    simp
  rw [e1]
  have ha1:=ha.put ht (.func (.func kf) #[] vs.toArray)
  refine hK _ _ (wpList_plain O fun K hK=> ?_)
  unfold Oper.wp
  have e2:(execOp (a.put (some t) (.func (.func kf) #[] vs.toArray)).eval ⟨none, .defer ⟨.value (.tmp t),#[],#[]⟩,ty2,pos2,aft2,none⟩).run P w= .ok (.defer ⟨.fn (.func kf) vs.toArray,#[]⟩) w:=by
    have h3:(a.put (some t) (.func (.func kf) #[] vs.toArray)).eval (.tmp t)= .func (.func kf) #[] vs.toArray:=ha1.eval (by simp [evs,YO])
    simp only [execOp,resolve,h3,Deferred.ofValue,Sem.run_bind,Sem.run_pure,Result.andThen_ok]
    simp
  rw [e2,Oper.upon_defer]
  refine hK _ _ (wpList_nil (hq _ ?_))
  exact ⟨ha1.size,by show _::_=_;rw [ha1.defers],ha1.get⟩
theorem K9 {K:Nx} {R:Post} {c:List PanicEntry} {l:Fr} {Ps:List Part} {As:List Fact} (h:R (.panic c) l Ps As):VJ K R (.panic c) l Ps As:=h
theorem ZE {id:Nat} {R:Post} {c:List PanicEntry} {l:Fr} {Ps:List Part} {As:List Fact} (h:R (.panic c) l Ps As):Va id R (.panic c) l Ps As:=h
theorem dl {d:Nat} {n:Dm} (h:Nat.ble (d+1) n.sz=true):d<n.sz:=Nat.le_of_ble_eq_true h
theorem wpS_recover {P:Program} {i0 a b n:Nat} {l:Fr} {act:Act} {cs cs':List Frame} {v:Value} {w:World} {ts:Array TypeId} {ty ty2:TypeId} {pos pos2:String} {aft aft2:Array Edge} {Q:Exit→Act→List Frame→World→Prop}
    (ha:Ag ⟨n,[]⟩ l act) (han:a<n) (hbn:b<n) (hr:(recoverD cs=some (v,cs'))∨(recoverD cs=none∧v= .nilIface∧cs'=cs)) (h: ∀act',Ag ⟨n,[]⟩ ((b,v)::(a,v)::l) act'→Q .normal act' cs' w):
    (Code.region i0 [⟨some a, .call ⟨.builtin .recover,#[],ts⟩,ty,pos,aft,none⟩,⟨some b, .assign (.tmp a),ty2,pos2,aft2,none⟩].toArray false).wpS P Q act cs w:=by
  apply wpS_region
  have e0:(execOp act.eval ⟨some a, .call ⟨.builtin .recover,#[],ts⟩,ty,pos,aft,none⟩).run P w= .ok .recover w:=by
    simp [execOp,resolve,invoke,builtin]
  have a1:=Ag.put (n:=⟨n,[]⟩) ha han v
  have e1:(execOp (act.put (some a) v).eval ⟨some b, .assign (.tmp a),ty2,pos2,aft2,none⟩).run P w= .ok (.value v) w:=by
    have:(act.put (some a) v).eval (.tmp a)=v:=a1.eval (by simp [evs,YO])
    simp only [execOp,this];rfl
  have a2:=Ag.put (n:=⟨n,[]⟩) a1 hbn v
  have hl:List.range ([⟨some a, .call ⟨.builtin .recover,#[],ts⟩,ty,pos,aft,none⟩,⟨some b, .assign (.tmp a),ty2,pos2,aft2,none⟩] :List Oper).toArray.size= [0,1] :=rfl
  rw [hl]
  have g0: ∀r,Region.wanted ⟨some a, .call ⟨.builtin .recover,#[],ts⟩,ty,pos,aft,none⟩ r=true:=fun _=>rfl
  have g1: ∀r,Region.wanted ⟨some b, .assign (.tmp a),ty2,pos2,aft2,none⟩ r=true:=fun _=>rfl
  simp only [wpOpsS,List.getElem?_toArray,List.getElem?_cons_zero,List.getElem?_cons_succ,g0,g1,if_true,e0]
  rcases hr with hr | ⟨hr,rfl,rfl⟩
  · rw [hr]
    simp only [e1,Oper.upon_value]
    exact h _ a2
  · rw [hr]
    simp only [e1,Oper.upon_value]
    exact h _ a2
theorem Catches.of {P:Program} {k:FuncId} {fn:Func} {i0 a b n:Nat} {c2:Code} {ts:Array TypeId} {ty ty2:TypeId} {pos pos2:String} {aft aft2:Array Edge} {caps:List Value} {ok:Value→Prop} {Lc:List Part→Prop} {Lc':Value→List Part}
    (hf : P.funcs[k]? = some fn) (hb : fn.body = some (.seq (.region i0 [⟨some a, .call ⟨.builtin .recover, #[], ts⟩, ty, pos, aft, none⟩, ⟨some b, .assign (.tmp a), ty2, pos2, aft2, none⟩].toArray false) c2)) (hr : fn.results.toList = []) (hn : fn.ntmps = n) (hnm : (fn.name == "runtime.NumGoroutine") = false) (hcap : caps.length ≤ n) (han : a < n) (hbn : b < n)
    (h0: ∀Ps As,WC P ⟨n,[]⟩ c2 (fun e l Ps' As'=>e= .normal∧Ps'=Ps∧As'=As) ((b, .nilIface)::(a, .nilIface)::argsFr caps 0) Ps As)
    (h1: ∀v L Ps As,ok v→Lc L→WC P ⟨n,[]⟩ c2 (fun e l Ps' As'=>e= .normal∧ ∀Z w,St Z w Ps' As'→ ∃Z',St Z' w (Lc' v++Ps) As) ((b,v)::(a,v)::argsFr caps 0) (L++Ps) As):
    Catches P ⟨.fn (.func k) caps.toArray,#[]⟩ ok Lc Lc':=by
  refine ⟨_,_,k,caps.toArray,O,fun w=> ?_,fun Z w Ps As hs=> ?_,fun v Z w Ps As L hok hL hs=> ?_⟩
  · have h2:=Qj (P:=P) (k:=k) ⟨_,_,n,fn,hf,hb,rfl,hn,hnm⟩ caps.toArray w
    simpa [invoke] using h2
  · refine callsD_of_wpS hf hb fun c₀ cs hu=>wpS_seq ?_
    refine wpS_recover (v:= .nilIface) (by rw [hn];exact ag_args hcap) han hbn (.inr ⟨by simp [recoverD,hu],O,O⟩) fun act' ha'=> ?_
    show c2.wpS P _ act' _ w
    refine wpS_of_wp (wp_mono (h0 Ps As Z w act' hs ha') ?_)
    rintro e a w' ⟨l,Z',Ps',As',g1,g2,rfl,rfl,rfl⟩
    exact ⟨g1.defers, .returning,by cases c₀;simp_all,_,Y7 g1 (hr ▸ RV.nil),⟨_,rfl⟩,rfl,Z',g2⟩
  · refine callsD_of_wpS hf hb fun c₀ cs hu=>wpS_seq ?_
    refine wpS_recover (v:=v) (cs':= { c₀ with mode:= .panicking [{ v:=v,recovered:=true }] } ::cs) (by rw [hn];exact ag_args hcap) han hbn (.inl (by simp [recoverD,hu])) fun act' ha'=> ?_
    show c2.wpS P _ act' _ w
    refine wpS_of_wp (wp_mono (h1 v L Ps As hok hL Z w act' hs ha') ?_)
    rintro e a w' ⟨l,Z',Ps',As',g1,g2,rfl,g3⟩
    exact ⟨g1.defers,_,O,_,Y7 g1 (hr ▸ RV.nil),⟨_,O⟩,O,g3 Z' w' g2⟩
section
variable {P:Program} {n:Dm} {R:Post} {l:Fr} {Ps:List Part} {As:List Fact} {d:Option Tmp} {ty:TypeId} {pos:String} {aft:Array Edge} {g:Option (Nat×Bool)} {K:Nx}
def concrete:Option TypeDesc→Bool
  | some (.interface _)=>false
  | some .invalid=>false
  | none=>false
  | _=>true
theorem QH {T:TypeId} {x:Operand} {v:Value} (hc:concrete (P.underlying T)=true) (hx:evs l x=some v):QR P l Ps As ⟨d, .makeInterface T x,ty,pos,aft,g⟩ (.iface T v):=fun Z w ρ hs hρ=>by
  cases hu:P.underlying T with
  | none=>rw [hu] at hc;cases hc
  | some u=>
    rw [hu] at hc
    have h1:=run_underlying' (P:=P) (w:=w) hu
    simp only [execOp,hρ _ _ hx,Instr.makeInterface,Sem.run_bind,h1,Result.andThen_ok]
    cases u<;>first | rfl | cases hc
theorem Jbb {t T:TypeId} {x:Operand} {v:Value} (hc:concrete (P.underlying T)=true) (hx:evs l x=some (.iface T v)):QR P l Ps As ⟨d, .typeAssert x t T true,ty,pos,aft,g⟩ (.tuple #[v, .bool true]):=fun Z w ρ hs hρ=>by
  cases hu:P.underlying T with
  | none=>rw [hu] at hc;cases hc
  | some u=>
    rw [hu] at hc
    have h1:=run_underlying' (P:=P) (w:=w) hu
    simp only [execOp,hρ _ _ hx,Instr.typeAssert,Sem.run_bind,h1,Result.andThen_ok]
    cases u<;>first | rfl | (simp only [Sem.run_bind,Sem.run_pure,Result.andThen_ok,if_true,ite_true];done) | (simp;done) | (cases hc;done)
theorem Eq {t:TypeId} {ms:Array (String×TypeId)} {w:World} {T:TypeId} {v:Value} (hu:P.underlying t=some (.interface ms)):(Op.equalIn (9999+1) t (.iface T v) .nilIface).run P w= .ok false w:=by
  unfold Op.equalIn
  simp only [Sem.run_bind,run_underlying' hu,Result.andThen_ok]
  rfl
theorem Er {t:TypeId} {ms:Array (String×TypeId)} {w:World} (hu:P.underlying t=some (.interface ms)):(Op.equalIn (9999+1) t .nilIface .nilIface).run P w= .ok true w:=by
  unfold Op.equalIn
  simp only [Sem.run_bind,run_underlying' hu,Result.andThen_ok]
  rfl
theorem Y0 {t t2 T:TypeId} {ms:Array (String×TypeId)} {x y:Operand} {v:Value} (hu:P.underlying t=some (.interface ms)) (hx:evs l x=some (.iface T v)) (hy:evs l y=some .nilIface):QR P l Ps As ⟨d, .binOp .neq t x y t2,ty,pos,aft,g⟩ (.bool true):=fun Z w ρ hs hρ=>by
  have h0:binOp .neq t (.iface T v) .nilIface=(do pure (.bool (!(←Op.equalIn (9999+1) t (.iface T v) .nilIface)))):=rfl
  have h1:eqGuard .neq t x y (.iface T v) .nilIface=pure ():=by unfold eqGuard;rfl
  simp only [execOp,hρ _ _ hx,hρ _ _ hy,h1,h0,Sem.run_bind,Eq hu,Result.andThen_ok,Sem.run_pure]
  rfl
theorem EW {t t2 T:TypeId} {ms:Array (String×TypeId)} {x y:Operand} {v:Value} (hu:P.underlying t=some (.interface ms)) (hx:evs l x=some (.iface T v)) (hy:evs l y=some .nilIface):QR P l Ps As ⟨d, .binOp .eql t x y t2,ty,pos,aft,g⟩ (.bool false):=fun Z w ρ hs hρ=>by
  have h0:binOp .eql t (.iface T v) .nilIface=(do pure (.bool (←Op.equalIn (9999+1) t (.iface T v) .nilIface))):=rfl
  have h1:eqGuard .eql t x y (.iface T v) .nilIface=pure ():=by unfold eqGuard;rfl
  simp only [execOp,hρ _ _ hx,hρ _ _ hy,h1,h0,Sem.run_bind,Eq hu,Result.andThen_ok,Sem.run_pure]
theorem Yf {t t2:TypeId} {ms:Array (String×TypeId)} {x:Operand} (hu:P.underlying t=some (.interface ms)) (hx:evs l x=some .nilIface):QR P l Ps As ⟨d, .binOp .neq t x (.const .nilIface) t2,ty,pos,aft,g⟩ (.bool false):=fun Z w ρ hs hρ=>by
  have h0:binOp .neq t .nilIface .nilIface=(do pure (.bool (!(←Op.equalIn (9999+1) t .nilIface .nilIface)))):=rfl
  have h1:eqGuard .neq t x (.const .nilIface) .nilIface .nilIface=pure ():=by unfold eqGuard;simp
  have hy:ρ (.const .nilIface)= .nilIface:=hρ _ _ rfl
  simp only [execOp,hρ _ _ hx,hy,h1,h0,Sem.run_bind,Er hu,Result.andThen_ok,Sem.run_pure]
  rfl
theorem XZ {t t2:TypeId} {ms:Array (String×TypeId)} {x:Operand} (hu:P.underlying t=some (.interface ms)) (hx:evs l x=some .nilIface):QR P l Ps As ⟨d, .binOp .eql t x (.const .nilIface) t2,ty,pos,aft,g⟩ (.bool true):=fun Z w ρ hs hρ=>by
  have h0:binOp .eql t .nilIface .nilIface=(do pure (.bool (←Op.equalIn (9999+1) t .nilIface .nilIface))):=rfl
  have h1:eqGuard .eql t x (.const .nilIface) .nilIface .nilIface=pure ():=by unfold eqGuard;simp
  have hy:ρ (.const .nilIface)= .nilIface:=hρ _ _ rfl
  simp only [execOp,hρ _ _ hx,hy,h1,h0,Sem.run_bind,Er hu,Result.andThen_ok,Sem.run_pure]
theorem KD {k:FuncId} {xs:List Operand} {ts:Array TypeId} {args:List Value} {pre:List Fact} {res:Value→List Part→List Fact→Prop}
    (hsp:SpP P k args [] pre res) (hxs:Evs l xs args) (hpre: ∀A∈pre,A∈As)
    (h: ∀v Lo fs,res v Lo fs→R (.panic [{ v:=v,recovered:=false }]) l (Lo++Ps) (fs++As)):
    OW P n R l Ps As ⟨d, .call ⟨.value (.func k),xs.toArray,ts⟩,ty,pos,aft,g⟩ K:=
  EM hsp hxs (fun hs=>hs.subFacts fun A hA=>by
    rcases List.mem_append.1 hA with hA | hA
    · exact hpre A hA
    · exact hA) h
theorem GU {k:FuncId} {xs:List Operand} {ts:Array TypeId} {args:List Value} {Lin Qs:List Part} {pre:List Fact} {res:Value→List Part→List Fact→Prop}
    (hsp:SpP P k args Lin pre res) (hxs:Evs l xs args) (hp:(Lin++Qs).flatten.Perm Ps.flatten) (hpre: ∀A∈pre,A∈As)
    (h: ∀v Lo fs,res v Lo fs→R (.panic [{ v:=v,recovered:=false }]) l (Lo++Qs) (fs++As)):
    OW P n R l Ps As ⟨d, .call ⟨.value (.func k),xs.toArray,ts⟩,ty,pos,aft,g⟩ K:=
  EM hsp hxs (fun hs=>(hs.permParts hp).subFacts fun A hA=>by
    rcases List.mem_append.1 hA with hA | hA
    · exact hpre A hA
    · exact hA) h
theorem QM {k:FuncId} {xs:List Operand} {ts:Array TypeId} {args:List Value} {p:Part} {Ps':List Part} {pre:List Fact} {res:Value→List Part→List Fact→Prop}
    (hsp:SpP P k args [p] pre res) (hxs:Evs l xs args) (hp:DelAt Ps p Ps') (hpre: ∀A∈pre,A∈As)
    (h: ∀v Lo fs,res v Lo fs→R (.panic [{ v:=v,recovered:=false }]) l (Lo++Ps') (fs++As)):
    OW P n R l Ps As ⟨d, .call ⟨.value (.func k),xs.toArray,ts⟩,ty,pos,aft,g⟩ K:=GU hsp hxs hp.perm hpre h
theorem Xh {k:FuncId} {xs:List Operand} {ts:Array TypeId} {args:List Value} {p1 p2:Part} {Q1 Q2:List Part} {pre:List Fact} {res:Value→List Part→List Fact→Prop}
    (hsp:SpP P k args [p1,p2] pre res) (hxs:Evs l xs args) (h1:DelAt Ps p1 Q1) (h2:DelAt Q1 p2 Q2) (hpre: ∀A∈pre,A∈As)
    (h: ∀v Lo fs,res v Lo fs→R (.panic [{ v:=v,recovered:=false }]) l (Lo++Q2) (fs++As)):
    OW P n R l Ps As ⟨d, .call ⟨.value (.func k),xs.toArray,ts⟩,ty,pos,aft,g⟩ K:=
  GU hsp hxs (by
    have e1:=h1.perm;have e2:=h2.perm
    simp only [List.flatten_cons,List.cons_append,List.nil_append] at e1 e2 ⊢
    exact (List.Perm.append_left p1 e2).trans e1) hpre h
inductive DelL:List Part→List Part→List Part→Prop
  | nil {Ps:List Part} :DelL Ps [] Ps
  | cons {p:Part} {ps Ps Q Ps':List Part} (h:DelAt Ps p Q) (r:DelL Q ps Ps'):DelL Ps (p::ps) Ps'
theorem DelL.n1 {p0:Part}{Q0 Q1:List Part}(h0:DelAt Q0 p0 Q1):DelL Q0 ([p0]) Q1:=.cons h0 (.nil)
theorem DelL.n2 {p0 p1:Part}{Q0 Q1 Q2:List Part}(h0:DelAt Q0 p0 Q1)(h1:DelAt Q1 p1 Q2):DelL Q0 ([p0,p1]) Q2:=.cons h0 (.cons h1 (.nil))
theorem DelL.n3 {p0 p1 p2:Part}{Q0 Q1 Q2 Q3:List Part}(h0:DelAt Q0 p0 Q1)(h1:DelAt Q1 p1 Q2)(h2:DelAt Q2 p2 Q3):DelL Q0 ([p0,p1,p2]) Q3:=.cons h0 (.cons h1 (.cons h2 (.nil)))
theorem DelL.n4 {p0 p1 p2 p3:Part}{Q0 Q1 Q2 Q3 Q4:List Part}(h0:DelAt Q0 p0 Q1)(h1:DelAt Q1 p1 Q2)(h2:DelAt Q2 p2 Q3)(h3:DelAt Q3 p3 Q4):DelL Q0 ([p0,p1,p2,p3]) Q4:=.cons h0 (.cons h1 (.cons h2 (.cons h3 (.nil))))
theorem DelL.n5 {p0 p1 p2 p3 p4:Part}{Q0 Q1 Q2 Q3 Q4 Q5:List Part}(h0:DelAt Q0 p0 Q1)(h1:DelAt Q1 p1 Q2)(h2:DelAt Q2 p2 Q3)(h3:DelAt Q3 p3 Q4)(h4:DelAt Q4 p4 Q5):DelL Q0 ([p0,p1,p2,p3,p4]) Q5:=.cons h0 (.cons h1 (.cons h2 (.cons h3 (.cons h4 (.nil)))))
theorem DelL.n6 {p0 p1 p2 p3 p4 p5:Part}{Q0 Q1 Q2 Q3 Q4 Q5 Q6:List Part}(h0:DelAt Q0 p0 Q1)(h1:DelAt Q1 p1 Q2)(h2:DelAt Q2 p2 Q3)(h3:DelAt Q3 p3 Q4)(h4:DelAt Q4 p4 Q5)(h5:DelAt Q5 p5 Q6):DelL Q0 ([p0,p1,p2,p3,p4,p5]) Q6:=.cons h0 (.cons h1 (.cons h2 (.cons h3 (.cons h4 (.cons h5 (.nil))))))
theorem DelL.n8 {p0 p1 p2 p3 p4 p5 p6 p7:Part}{Q0 Q1 Q2 Q3 Q4 Q5 Q6 Q7 Q8:List Part}(h0:DelAt Q0 p0 Q1)(h1:DelAt Q1 p1 Q2)(h2:DelAt Q2 p2 Q3)(h3:DelAt Q3 p3 Q4)(h4:DelAt Q4 p4 Q5)(h5:DelAt Q5 p5 Q6)(h6:DelAt Q6 p6 Q7)(h7:DelAt Q7 p7 Q8):DelL Q0 ([p0,p1,p2,p3,p4,p5,p6,p7]) Q8:=.cons h0 (.cons h1 (.cons h2 (.cons h3 (.cons h4 (.cons h5 (.cons h6 (.cons h7 (.nil))))))))
theorem DelL.n9 {p0 p1 p2 p3 p4 p5 p6 p7 p8:Part}{Q0 Q1 Q2 Q3 Q4 Q5 Q6 Q7 Q8 Q9:List Part}(h0:DelAt Q0 p0 Q1)(h1:DelAt Q1 p1 Q2)(h2:DelAt Q2 p2 Q3)(h3:DelAt Q3 p3 Q4)(h4:DelAt Q4 p4 Q5)(h5:DelAt Q5 p5 Q6)(h6:DelAt Q6 p6 Q7)(h7:DelAt Q7 p7 Q8)(h8:DelAt Q8 p8 Q9):DelL Q0 ([p0,p1,p2,p3,p4,p5,p6,p7,p8]) Q9:=.cons h0 (.cons h1 (.cons h2 (.cons h3 (.cons h4 (.cons h5 (.cons h6 (.cons h7 (.cons h8 (.nil)))))))))
theorem DelL.perm {Ps ps Ps':List Part} (h:DelL Ps ps Ps'):(ps++Ps').flatten.Perm Ps.flatten:=by
  induction h with
  | nil=>exact List.Perm.refl _
  | cons h r ih=>
    have e:=h.perm
    simp only [List.flatten_cons,List.cons_append] at e ⊢
    exact (List.Perm.append_left _ ih).trans e
theorem JW {Ps':List Part} {k:FuncId} {d:Nat} {xs:List Operand} {ts:Array TypeId} {args:List Value} {Lin:List Part} {pre:List Fact} {res:Value→List Part→List Fact→Prop}
    (hsp:Sp P k args Lin pre res) (hxs:Evs l xs args) (hd:d<n.sz) (hp:DelL Ps Lin Ps') (hpre: ∀A∈pre,A∈As)
    (h: ∀v Lo fs,res v Lo fs→K ((d,v)::l) (Lo++Ps') (fs++As)):
    OW P n R l Ps As ⟨some d, .call ⟨.value (.func k),xs.toArray,ts⟩,ty,pos,aft,g⟩ K:=
  XJ hsp hxs hd (fun hs=>(hs.permParts hp.perm).subFacts fun A hA=>by
    rcases List.mem_append.1 hA with hA | hA
    · exact hpre A hA
    · exact hA) h
end
end Go.GW
namespace Go.Proofs.YthkkklphanidjaaGreatDoor
open Go Go.GW
def JC (o:GOp):Int:=if o.kind=1 then (utF o.text).1 else 0
def rightF (c n:Int):Bool:=decide (1≤c∧c≤8∧1≤n∧n≤1024)
def extraF (o:GOp):Bool:=
 (decide (o.kind≠1) && (decide (o.at_≠0) || !(o.text==⟨#[]⟩))) || ((decide (o.kind≠2) && decide (o.kind≠3)) && decide (0<o.rs.length)) || (decide (o.kind≠4) && ((decide (o.tc≠0) || decide (o.tn≠0)) || o.on))
def insF (o:GOp) (total:Int):Int:=
 if (utF o.text).2.2≠0 then (utF o.text).2.2
 else if (utF o.text).1=0 then 15
 else if (utF o.text).1>256 then 14
 else if o.at_<0∨o.at_>total then 12
 else if total+(utF o.text).1>1048576 then 24
 else 0
def YZ (xs:List Rg) (total:Int):Int:=
 match xs.getLast? with
 | none=>43
 | some r=>if (ckF xs).2≠0 then (ckF xs).2 else if r.hi>total then 12 else 0
theorem Qx {xs:List Rg} {total:Int} (h:xs.length=0):YZ xs total=43:=by
 rw [List.length_eq_zero_iff.1 h];rfl
theorem QW {xs:List Rg} {total:Int} (h: ¬xs.length=0) (h2:(ckF xs).2≠0):YZ xs total=(ckF xs).2:=by
 have hk:xs.length-1<xs.length:=by omega
 unfold YZ
 rw [List.getLast?_eq_getElem?,List.getElem?_eq_getElem hk]
 simp only [if_pos h2]
theorem YA {xs:List Rg} {total:Int} (hk:xs.length-1<xs.length) (h2:(ckF xs).2=0):YZ xs total=if xs[xs.length-1].hi>total then 12 else 0:=by
 unfold YZ
 rw [List.getLast?_eq_getElem?,List.getElem?_eq_getElem hk]
 simp only [ne_eq,h2,not_true_eq_false,if_false]
def checkF (o:GOp) (total:Int):Int:=
 if total<0∨total>1048576 then 12
 else if o.kind<1∨o.kind>4 then 40
 else if (o.c≠0∨o.n≠0)∧rightF o.c o.n=false then 41
 else if extraF o=true then 42
 else if o.kind=1 then insF o total
 else if o.kind=4 then (if rightF o.tc o.tn=false∨(o.tc=o.c∧o.tn=o.n) then 63 else 0)
 else YZ o.rs total
theorem utAt_n {s:ByteArray} : ∀(m p k:Nat),s.size-p≤m→p≤s.size→0≤(utAt s p k).1∧(utAt s p k).1≤k+(s.size-p:Nat)
 | m,p,k,hm,hp=>by
  by_cases h:p<s.size
  ·by_cases h1:begF s p (Utf8.decode s p).1=false
   ·rw [utAt_utf8 h h1];simp;omega
   ·by_cases h2:letF (Utf8.decode s p).1=false
    ·rw [utAt_rune h h1 h2];simp;omega
    ·rw [utAt_next h h1 h2]
     have h3:=decode_pos s p
     have h4:=decode_leP h
     cases m with
     | zero=>omega
     | succ m=>
      have:=utAt_n m (p+(Utf8.decode s p).2) (k+1) (by omega) h4
      omega
  ·rw [utAt_end h];constructor<;>simp<;>omega
theorem Hc (s:ByteArray):0≤(utF s).1∧(utF s).1≤s.size:=by
 have:=utAt_n (s:=s) s.size 0 0 (by omega) (Nat.zero_le _)
 unfold utF;omega
theorem KF (o:GOp):0≤JC o∧JC o≤o.text.size:=by
 unfold JC
 split
 ·exact Hc _
 ·omega
def zeroOp:GOp:=⟨0,0,0,0,⟨#[]⟩,[],0,0,false⟩
structure Fit (o:GOp):Prop where
 text:o.text.size≤2305843009213693952
 rs:o.rs.length≤8796093022208
 lo: -2305843009213693952≤o.at_
 hi:o.at_≤2305843009213693952
def ownF (o:GOp):Int:=if o.kind=1∧0≤o.at_∧o.at_≤1048576 then checkF o o.at_ else checkF o 1048576
def ownsF:List GOp→Int
 | [] =>0
 | o::r=>if ownF o≠0 then ownF o else ownsF r
def clashF (a b:GOp):Prop:=a.c=b.c∧a.n=b.n∧ ¬(a.c=0∧a.n=0)
instance (a b:GOp):Decidable (clashF a b):=by unfold clashF;infer_instance
def movedF (a:GOp) (at_:Int):GOp×Int:=if at_+JC a>1048576 then (zeroOp,24) else ({ a with at_:=at_,rs:= [] },0)
def rangedF (a:GOp) (l:List Rg) (e:Int):GOp×Int:=if e≠0 then (zeroOp,e) else ({ a with rs:=l },0)
def JT (a b:GOp) (earlier:Bool):GOp×Int:=
 if clashF a b then (zeroOp,50)
 else if b.kind≠1 then (a,0)
 else if a.kind=1 then (if b.at_<a.at_∨(b.at_=a.at_∧earlier=true) then movedF a (a.at_+JC b) else (a,0))
 else if a.kind=2∨a.kind=3 then rangedF a (thrF a.rs b.at_ (JC b)).1 (thrF a.rs b.at_ (JC b)).2
 else (a,0)
def crossIn:GOp→List GOp→Except Int (GOp×List GOp)
 | l,[] => .ok (l,[])
 | l,f::fs=>
  if (JT l f true).2≠0 then .error (JT l f true).2
  else if (JT f l false).2≠0 then .error (JT f l false).2
  else match crossIn (JT l f true).1 fs with
   | .error e=> .error e
   | .ok (l',fs')=> .ok (l',(JT f l false).1::fs')
def crossOut:List GOp→List GOp→Except Int (List GOp×List GOp)
 | fs,[] => .ok (fs,[])
 | fs,l::ls=>match crossIn l fs with
  | .error e=> .error e
  | .ok (l',fs')=>match crossOut fs' ls with
   | .error e=> .error e
   | .ok (fs2,ls2)=> .ok (fs2,l'::ls2)
def crossF (xs ys:List GOp):List GOp×List GOp×Int:=
 if ownsF xs≠0 then ([],[],ownsF xs)
 else if ownsF ys≠0 then ([],[],ownsF ys)
 else match crossOut xs ys with
  | .error e=>([],[],e)
  | .ok (a,b)=>(a,b,0)
def putIn (fs:List GOp):Except Int (GOp×List GOp)→Except Int (GOp×List GOp)
 | .error e=> .error e
 | .ok (l,r)=> .ok (l,fs++r)
def putOut (ls:List GOp):Except Int (List GOp×List GOp)→Except Int (List GOp×List GOp)
 | .error e=> .error e
 | .ok (f,r)=> .ok (f,ls++r)
def restOut (ls:List GOp):Except Int (GOp×List GOp)→Except Int (List GOp×List GOp)
 | .error e=> .error e
 | .ok (l',fs')=>match crossOut fs' ls with
   | .error e=> .error e
   | .ok (fs2,ls2)=> .ok (fs2,l'::ls2)
theorem Yw (fs:List GOp) (l:GOp) (ls:List GOp):crossOut fs (l::ls)=restOut ls (crossIn l fs):=by
 rw [crossOut];unfold restOut;rfl
theorem crossIn_err1 {l f:GOp} {fs:List GOp} (h:(JT l f true).2≠0):crossIn l (f::fs)= .error (JT l f true).2:=by rw [crossIn,if_pos h]
theorem crossIn_err2 {l f:GOp} {fs:List GOp} (h: ¬(JT l f true).2≠0) (h2:(JT f l false).2≠0):crossIn l (f::fs)= .error (JT f l false).2:=by rw [crossIn,if_neg h,if_pos h2]
theorem Qu {l f:GOp} {fs:List GOp} (h: ¬(JT l f true).2≠0) (h2: ¬(JT f l false).2≠0):crossIn l (f::fs)=putIn [(JT f l false).1] (crossIn (JT l f true).1 fs):=by
 rw [crossIn,if_neg h,if_neg h2];cases crossIn (JT l f true).1 fs<;>rfl
structure CiI (l0:GOp) (F0 F:List GOp) (l:GOp) (k:Nat):Prop where
 le:k≤F.length
 len:F.length=F0.length
 fit: ∀o∈F,Fit o
 fitl:Fit l
 eq:crossIn l0 F0=putIn (F.take k) (crossIn l (F.drop k))
structure CoI (xs ys F L:List GOp) (i:Nat):Prop where
 le:i≤L.length
 lenF:F.length=xs.length
 lenL:L.length=ys.length
 fitF: ∀o∈F,Fit o
 fitL: ∀o∈L,Fit o
 eq:crossOut xs ys=putOut (L.take i) (crossOut F (L.drop i))
theorem Gk (xs:List Rg):(boundF xs).1.length≤32768:=by
 unfold boundF;split
 ·simp
 ·simp only;omega
theorem En (xs:List Rg) (at_ n:Int):(thrF xs at_ n).1.length≤32768:=by
 unfold thrF
 split
 ·simp
 ·split
  ·simp
  ·split
   ·split
    ·simp
    ·exact Gk _
   ·exact Gk _
theorem Fit.zero:Fit zeroOp:=⟨by decide,by decide,by decide,by decide⟩
theorem Fit.include {a b:GOp} (ha:Fit a) (hb:Fit b) (e:Bool):Fit (JT a b e).1:=by
 have h1:=KF a
 have h2:=KF b
 have h3:=hb.text
 have h4:=ha.lo
 have h5:=ha.hi
 unfold JT
 split
 ·exact Fit.zero
 ·split
  ·exact ha
  ·split
   ·split
    ·unfold movedF
     split
     ·exact Fit.zero
     ·exact ⟨ha.text,by simp,by show _≤a.at_+JC b;omega,by show a.at_+JC b≤_;omega⟩
    ·exact ha
   ·split
    ·unfold rangedF
     split
     ·exact Fit.zero
     ·exact ⟨ha.text,by have:=En a.rs b.at_ (JC b);show (thrF a.rs b.at_ (JC b)).1.length≤_;omega,ha.lo,ha.hi⟩
    ·exact ha
theorem CiI.zero {l0:GOp} {F0:List GOp} (hF: ∀o∈F0,Fit o) (hl:Fit l0):CiI l0 F0 F0 l0 0:=⟨Nat.zero_le _,rfl,hF,hl,by
 simp only [List.take_zero,List.drop_zero];cases crossIn l0 F0<;>rfl⟩
theorem CiI.err1 {l0 l:GOp} {F0 F:List GOp} {k:Nat} (h:CiI l0 F0 F l k) (hk:k<F.length) (h1:(JT l F[k] true).2≠0):crossIn l0 F0= .error (JT l F[k] true).2:=by
 rw [h.eq,List.drop_eq_getElem_cons hk,crossIn_err1 h1];rfl
theorem CiI.err2 {l0 l:GOp} {F0 F:List GOp} {k:Nat} (h:CiI l0 F0 F l k) (hk:k<F.length) (h1: ¬(JT l F[k] true).2≠0) (h2:(JT F[k] l false).2≠0):crossIn l0 F0= .error (JT F[k] l false).2:=by
 rw [h.eq,List.drop_eq_getElem_cons hk,crossIn_err2 h1 h2];rfl
theorem CiI.next {l0 l:GOp} {F0 F:List GOp} {k:Nat} (h:CiI l0 F0 F l k) (hk:k<F.length) (h1: ¬(JT l F[k] true).2≠0) (h2: ¬(JT F[k] l false).2≠0):CiI l0 F0 (F.set k (JT F[k] l false).1) (JT l F[k] true).1 (k+1):=by
 have hfk:Fit F[k] :=h.fit _ (List.getElem_mem hk)
 refine ⟨by simp;omega,by simp [h.len],fun o ho=> ?_,h.fitl.include hfk _,?_⟩
 ·rcases List.mem_or_eq_of_mem_set ho with ho | rfl
  ·exact h.fit o ho
  ·exact hfk.include h.fitl _
 ·rw [h.eq,List.drop_eq_getElem_cons hk,Qu h1 h2]
  have e1:(F.set k (JT F[k] l false).1).take (k+1)=F.take k++ [(JT F[k] l false).1] :=by
   rw [List.set_eq_take_append_cons_drop,if_pos hk,List.take_append]
   simp [List.length_take,List.take_take,Nat.min_eq_left (by omega:k≤F.length)]
  have e2:(F.set k (JT F[k] l false).1).drop (k+1)=F.drop (k+1):=by
   rw [List.drop_set_of_lt (by omega)]
  rw [e1,e2]
  cases crossIn (JT l F[k] true).1 (F.drop (k+1)) with
  | error e=>rfl
  | ok r=>simp [putIn]
theorem CiI.done {l0 l:GOp} {F0 F:List GOp} {k:Nat} (h:CiI l0 F0 F l k) (hk: ¬k<F.length):crossIn l0 F0= .ok (l,F):=by
 have:=h.le
 rw [h.eq,List.drop_eq_nil_of_le (by omega),List.take_of_length_le (by omega)]
 simp [crossIn,putIn]
theorem CoI.zero {xs ys:List GOp} (hx: ∀o∈xs,Fit o) (hy: ∀o∈ys,Fit o):CoI xs ys xs ys 0:=⟨Nat.zero_le _,rfl,rfl,hx,hy,by
 simp only [List.take_zero,List.drop_zero];cases crossOut xs ys<;>rfl⟩
theorem CoI.err {xs ys F L:List GOp} {i:Nat} {e:Int} (h:CoI xs ys F L i) (hi:i<L.length) (h1:crossIn L[i] F= .error e):crossOut xs ys= .error e:=by
 rw [h.eq,List.drop_eq_getElem_cons hi,Yw,h1];rfl
theorem CoI.next {xs ys F L F':List GOp} {i:Nat} {l':GOp} (h:CoI xs ys F L i) (hi:i<L.length) (h1:crossIn L[i] F= .ok (l',F')) (hlen:F'.length=F.length) (hF: ∀o∈F',Fit o) (hl:Fit l'):CoI xs ys F' (L.set i l') (i+1):=by
 refine ⟨by simp;omega,by rw [hlen,h.lenF],by simp [h.lenL],hF,fun o ho=> ?_,?_⟩
 ·rcases List.mem_or_eq_of_mem_set ho with ho | rfl
  ·exact h.fitL o ho
  ·exact hl
 ·rw [h.eq,List.drop_eq_getElem_cons hi,Yw,h1]
  have e1:(L.set i l').take (i+1)=L.take i++ [l'] :=by
   rw [List.set_eq_take_append_cons_drop,if_pos hi,List.take_append]
   simp [List.length_take,List.take_take,Nat.min_eq_left (by omega:i≤L.length)]
  have e2:(L.set i l').drop (i+1)=L.drop (i+1):=by
   rw [List.drop_set_of_lt (by omega)]
  rw [e1,e2]
  unfold restOut
  simp only
  cases crossOut F' (L.drop (i+1)) with
  | error e=>rfl
  | ok r=>simp [putOut]
theorem CoI.done {xs ys F L:List GOp} {i:Nat} (h:CoI xs ys F L i) (hi: ¬i<L.length):crossOut xs ys= .ok (F,L):=by
 have:=h.le
 rw [h.eq,List.drop_eq_nil_of_le (by omega),List.take_of_length_le (by omega)]
 simp [crossOut,putOut]
def OpP (r:GOp×Int):Value→List Part→List Fact→Prop:=fun v Lo fs=> ∃(A':Option Addr) (c':Nat),v= .tuple #[opV r.1 A' c', .int .i64 r.2] ∧Lo= [] ∧fs= [RdF rgD A' c' r.1.rs]
def CrP (r:List GOp×List GOp×Int):Value→List Part→List Fact→Prop:=fun v Lo fs=> ∃(A1:Option Addr) (c1:Nat) (A2:Option Addr) (c2:Nat),v= .tuple #[.slice A1 r.1.length c1, .slice A2 r.2.1.length c2, .int .i64 r.2.2] ∧Lo= [] ∧fs= [RdF opD A1 c1 r.1,RdF opD A2 c2 r.2.1]
theorem ED {xs ys:List GOp} (h:ownsF xs≠0):crossF xs ys=([],[],ownsF xs):=by unfold crossF;rw [if_pos h]
theorem EC {xs ys:List GOp} (h:ownsF xs=0) (h2:ownsF ys≠0):crossF xs ys=([],[],ownsF ys):=by unfold crossF;rw [if_neg (by simpa using h),if_pos h2]
theorem Gf {xs ys:List GOp} {e:Int} (h:ownsF xs=0) (h2:ownsF ys=0) (h3:crossOut xs ys= .error e):crossF xs ys=([],[],e):=by unfold crossF;rw [if_neg (by simpa using h),if_neg (by simpa using h2),h3]
theorem Ge {xs ys a b:List GOp} (h:ownsF xs=0) (h2:ownsF ys=0) (h3:crossOut xs ys= .ok (a,b)):crossF xs ys=(a,b,0):=by unfold crossF;rw [if_neg (by simpa using h),if_neg (by simpa using h2),h3]
def FltV (v:Value):Prop:= ∃p,v= .iface 86 (.pointer (some ⟨p,0,none⟩))
def FltR:Value→List Part→List Fact→Prop:=fun v Lo fs=>FltV v∧Lo= [] ∧fs= []
theorem fault_0 (s:ByteArray) (at_:Int):Sp Tryz.prog 10 [.string s, .int .i64 at_, .int .i64 0] [] [] (Is .nilIface):=by
 refine Sp.of (n:=16) ⟨_,Tryz.func10,O,O,O,O⟩ (Nat.le_of_ble_eq_true O) fun Ps As=>Jc (Ja (Lq (Jd O) (Je (Jf (Jc (Jc (Ja (Lq (Jb O) (Lq (Ka O O) (Je (Jf (JQ O O (Jc (Ja (Lq (Jd O) (Je (Jf (Jn (Jr ?_)))))))))))))))))))
 refine ⟨_,[],[],fun Z w hs=> .tmp O .nil,?_,fun Z w hs=>hs.out (Sr) (fun _ h=>h)⟩
 exact ⟨O,O,O⟩
theorem bd118_0_1_2Xg1 (x0_:ByteArray) (x1_:Int) (x2_t:TypeId) (x2_v:Value) (w:World):(Instr.build 88 #[(0, .string x0_),(1, .int .i64 x1_),(2, .iface x2_t x2_v)]).run Tryz.prog w= .ok (.agg #[.string x0_, .int .i64 x1_, .iface x2_t x2_v]) w:=by kernel_rfl
theorem fault_e (s:ByteArray) (at_ e:Int) (he:e≠0):Sp Tryz.prog 10 [.string s, .int .i64 at_, .int .i64 e] [] [] FltR:=by
 refine Sp.of (n:=16) ⟨_,Tryz.func10,O,O,O,O⟩ (Nat.le_of_ble_eq_true O) fun Ps As=>Jc (Ja (Lq (Jd O) (Je (Jf (Jc (Jc (Ja (Lq (Jb O) (Lq (Ka O O) (Je (Jf (Jz O (by simpa using he) (Jp (Jf (Jc (Ja (Lq (Jb O) ?_)))))))))))))))))
 refine Lq (Jb O) (Lq (Jb O) (Lq (QH (by rw [Un54];rfl) O) (Lq (JV (.n3 O O O) (bd118_0_1_2Xg1 _ _ _ _)) (Jg O (J1 (cs:= [_,_,_]) O O (by decide) fun b14=>Lq (QH (by rw [Un86];rfl) O) (Lq (Jd O) (Je (Jf (Jn ?_)))))))))
 refine ⟨_,[],[],fun Z w hs=> .tmp O .nil,?_,fun Z w hs=>hs.out (Sd (Sr)) (fun _ h=>h)⟩
 exact ⟨⟨b14,O⟩,O,O⟩
theorem give_0 (s:ByteArray) (at_:Int):Sp Tryz.prog 42 [.string s, .int .i64 at_, .int .i64 0] [] [] (Is (.tuple #[])):=by
 refine Sp.of (n:=12) ⟨_,Tryz.func42,O,O,O,O⟩ (Nat.le_of_ble_eq_true O) fun Ps As=>Jc (Ja (Lq (Jb O) (Lq (Kp O O) (Je (Jf (Jz O O (Jp ?_)))))))
 refine ⟨_,[],[],fun Z w hs=> .nil,?_,fun Z w hs=>hs.out (Sr) (fun _ h=>h)⟩
 exact ⟨O,O,O⟩
theorem give_e (s:ByteArray) (at_ e:Int) (he:e≠0):SpP Tryz.prog 42 [.string s, .int .i64 at_, .int .i64 e] [] [] FltR:=by
 refine SpP.of (n:=12) ⟨_,Tryz.func42,O,O,O,O⟩ (Nat.le_of_ble_eq_true O) fun Ps As=>Jc (Ja (Lq (Jb O) (Lq (Kp O O) (Je (Jf (JQ O (by simpa using he) (Ja (Lq (Jb O) (Lq (Jb O) (Lq (Jb O) ?_))))))))))
 refine Jg O (Jo (fault_e s at_ e he) (.n3 O O O) (by decide) Jx fun _ _ _ q9=>?_)
 obtain ⟨⟨p,rfl⟩,rfl,rfl⟩:=q9
 refine Jg O (V7 O ?_)
 refine ⟨_,[],[],O,?_,fun Z w hs=>hs.out (Sr) (fun _ h=>h)⟩
 exact ⟨⟨p,O⟩,O,O⟩
theorem Qf (p:Nat):Sp Tryz.prog 39 [.iface 86 (.pointer (some ⟨p,0,none⟩))] [] [] (Is (.iface 86 (.pointer (some ⟨p,0,none⟩)))):=by
 refine Sp.of (n:=15) ⟨_,Tryz.func39,O,O,O,O⟩ (Nat.le_of_ble_eq_true O) fun Ps As=>Jc (Ja (Lq (Jd O) (Je (Jf (Jc (Ja (Lq (Jb O) (Lq (Jbb (by rw [Un86];rfl) O) (Lq (Jb O) (Lq (Jk (vs:= [_,_]) O O) (Lq (Jk (vs:= [_,_]) O O) (Lq (Jd O) ?_))))))))))))
 refine Lq (Jd O) (Je (Jf (Jc (Jc (Ja (Lq (Jb O) (Lq (KC O) (Je (Jf (Jz O O (Jp (Jf (Jc (Ja (Lq (Jb O) (Lq (QH (by rw [Un86];rfl) O) (Lq (Jd O) (Je (Jf (Jn ?_))))))))))))))))))))
 refine ⟨_,[],[],fun Z w hs=> .tmp O .nil,?_,fun Z w hs=>hs.out (Sr) (fun _ h=>h)⟩
 exact ⟨O,O,O⟩
theorem KG (n lo hi:Int):Sp Tryz.prog 9 [.int .i64 n, .int .i64 lo, .int .i64 hi] [] [] (Is (.bool (decide (lo≤n∧n≤hi)))):=by
 refine Sp.of (n:=15) ⟨_,Tryz.func9,O,O,O,O⟩ (Nat.le_of_ble_eq_true O) fun Ps As=>Jc (Ja (Lq (Jd O) (Je (Jf (Jc (Ja (Lq (Jb O) (Lq (Jb O) (Lq (YK O O) (Lq (Jb O) (JU (t:=10) O (fun g10=> ?_) (fun g10=> ?_))))))))))))
 ·refine Lg O O O g10 (Jb O) (Lg O O O g10 (Jb O) (Lg O O O g10 (YK O O) (Lq (JH O g10 O) (Lq (Jd O) (Je (Jf (Jn ?_)))))))
  refine ⟨_,[],[],fun Z w hs=> .tmp O .nil,?_,fun Z w hs=>hs.out (Sr) (fun _ h=>h)⟩
  try simp only [Bp,Bq] at *
  exact ⟨congrArg Value.bool (by first | exact (decide_eq_true (by omega)).symm | exact (decide_eq_false (by omega)).symm | exact decide_eq_decide.2 (by omega) | (rw [Bool.eq_iff_iff];simp;omega) | (rw [Bool.eq_iff_iff];simp;done)),O,O⟩
 ·refine Ln O O O g10 (Ln O O O g10 (Ln O O O g10 (Lq (JA O g10 O) (Lq (Jd O) (Je (Jf (Jn ?_)))))))
  refine ⟨_,[],[],fun Z w hs=> .tmp O .nil,?_,fun Z w hs=>hs.out (Sr) (fun _ h=>h)⟩
  try simp only [Bp,Bq] at *
  exact ⟨congrArg Value.bool (by first | exact (decide_eq_true (by omega)).symm | exact (decide_eq_false (by omega)).symm | exact decide_eq_decide.2 (by omega) | (rw [Bool.eq_iff_iff];simp;omega) | (rw [Bool.eq_iff_iff];simp;done)),O,O⟩
def OpCell (bo:Nat) (cs:List Value):Part:= [(bo,JD cs 40)]
def ErCell (be:Nat) (v:Value):Part:= [(be,JD [v] 29)]
def Res2 (bo be:Nat):List Part→Prop:=fun L=> ∃c0 c1 c2 c3 c4 c5 c6 c7 c8 x,L= [OpCell bo [c0,c1,c2,c3,c4,c5,c6,c7,c8],ErCell be x]
def Res1 (be:Nat):List Part→Prop:=fun L=> ∃x,L= [ErCell be x]
theorem bdZ (w:World):(Instr.build 40 #[]).run Tryz.prog w= .ok (opV zeroOp none 0) w:=by kernel_rfl
theorem catch_Insert (bo be:Nat):Catches Tryz.prog ⟨.fn (.func 38) [Value.pointer (some ⟨bo,0,none⟩),Value.pointer (some ⟨be,0,none⟩)].toArray,#[]⟩ FltV (Res2 bo be) (fun v=> [OpCell bo (opC zeroOp none 0),ErCell be v]):=by
 refine Catches.of (n:=9) Tryz.func38 O O O O (Nat.le_of_ble_eq_true O) (by decide) (by decide) (fun Ps As=> ?_) (fun v L Ps As hok hL=> ?_)
 ·refine Jc (Ja (JG (Jb O) (by decide) (JG (Yf Un20 O) (by decide) (Je (Jf (Jz O O (Jp ?_)))))))
  exact ⟨O,O,O⟩
 ·obtain ⟨p,rfl⟩:=hok
  obtain ⟨c0,c1,c2,c3,c4,c5,c6,c7,c8,x,rfl⟩:=hL
  refine Jc (Ja (JG (Jb O) (by decide) (JG (Y0 Un20 O O) (by decide) (Je (Jf (JQ O O (Ja (JG (JV .nil bdZ) (by decide) (JG (Jb O) (by decide) (Jg O (Jo (Qf p) (.n1 O) (by decide) Jx fun u Lo fs hres=> ?_)))))))))))
  obtain ⟨rfl,rfl,rfl⟩:=hres
  refine Jg O (Jq (cs':= [_,_,_,_,_,_,_,_,_]) (vs:= [_,_,_,_,_,_,_,_,_]) JF O O O O O (Nat.le_of_ble_eq_true O) .z (Jg O (JN Ye O O O .z (.s .z) ?_)))
  exact Je ⟨O,fun Z w hs=>⟨Z,hs⟩⟩
theorem catch_Delete (bo be:Nat):Catches Tryz.prog ⟨.fn (.func 47) [Value.pointer (some ⟨bo,0,none⟩),Value.pointer (some ⟨be,0,none⟩)].toArray,#[]⟩ FltV (Res2 bo be) (fun v=> [OpCell bo (opC zeroOp none 0),ErCell be v]):=by
 refine Catches.of (n:=9) Tryz.func47 O O O O (Nat.le_of_ble_eq_true O) (by decide) (by decide) (fun Ps As=> ?_) (fun v L Ps As hok hL=> ?_)
 ·refine Jc (Ja (JG (Jb O) (by decide) (JG (Yf Un20 O) (by decide) (Je (Jf (Jz O O (Jp ?_)))))))
  exact ⟨O,O,O⟩
 ·obtain ⟨p,rfl⟩:=hok
  obtain ⟨c0,c1,c2,c3,c4,c5,c6,c7,c8,x,rfl⟩:=hL
  refine Jc (Ja (JG (Jb O) (by decide) (JG (Y0 Un20 O O) (by decide) (Je (Jf (JQ O O (Ja (JG (JV .nil bdZ) (by decide) (JG (Jb O) (by decide) (Jg O (Jo (Qf p) (.n1 O) (by decide) Jx fun u Lo fs hres=> ?_)))))))))))
  obtain ⟨rfl,rfl,rfl⟩:=hres
  refine Jg O (Jq (cs':= [_,_,_,_,_,_,_,_,_]) (vs:= [_,_,_,_,_,_,_,_,_]) JF O O O O O (Nat.le_of_ble_eq_true O) .z (Jg O (JN Ye O O O .z (.s .z) ?_)))
  exact Je ⟨O,fun Z w hs=>⟨Z,hs⟩⟩
theorem catch_Undo (bo be:Nat):Catches Tryz.prog ⟨.fn (.func 52) [Value.pointer (some ⟨bo,0,none⟩),Value.pointer (some ⟨be,0,none⟩)].toArray,#[]⟩ FltV (Res2 bo be) (fun v=> [OpCell bo (opC zeroOp none 0),ErCell be v]):=by
 refine Catches.of (n:=9) Tryz.func52 O O O O (Nat.le_of_ble_eq_true O) (by decide) (by decide) (fun Ps As=> ?_) (fun v L Ps As hok hL=> ?_)
 ·refine Jc (Ja (JG (Jb O) (by decide) (JG (Yf Un20 O) (by decide) (Je (Jf (Jz O O (Jp ?_)))))))
  exact ⟨O,O,O⟩
 ·obtain ⟨p,rfl⟩:=hok
  obtain ⟨c0,c1,c2,c3,c4,c5,c6,c7,c8,x,rfl⟩:=hL
  refine Jc (Ja (JG (Jb O) (by decide) (JG (Y0 Un20 O O) (by decide) (Je (Jf (JQ O O (Ja (JG (JV .nil bdZ) (by decide) (JG (Jb O) (by decide) (Jg O (Jo (Qf p) (.n1 O) (by decide) Jx fun u Lo fs hres=> ?_)))))))))))
  obtain ⟨rfl,rfl,rfl⟩:=hres
  refine Jg O (Jq (cs':= [_,_,_,_,_,_,_,_,_]) (vs:= [_,_,_,_,_,_,_,_,_]) JF O O O O O (Nat.le_of_ble_eq_true O) .z (Jg O (JN Ye O O O .z (.s .z) ?_)))
  exact Je ⟨O,fun Z w hs=>⟨Z,hs⟩⟩
theorem catch_Redo (bo be:Nat):Catches Tryz.prog ⟨.fn (.func 62) [Value.pointer (some ⟨bo,0,none⟩),Value.pointer (some ⟨be,0,none⟩)].toArray,#[]⟩ FltV (Res2 bo be) (fun v=> [OpCell bo (opC zeroOp none 0),ErCell be v]):=by
 refine Catches.of (n:=9) Tryz.func62 O O O O (Nat.le_of_ble_eq_true O) (by decide) (by decide) (fun Ps As=> ?_) (fun v L Ps As hok hL=> ?_)
 ·refine Jc (Ja (JG (Jb O) (by decide) (JG (Yf Un20 O) (by decide) (Je (Jf (Jz O O (Jp ?_)))))))
  exact ⟨O,O,O⟩
 ·obtain ⟨p,rfl⟩:=hok
  obtain ⟨c0,c1,c2,c3,c4,c5,c6,c7,c8,x,rfl⟩:=hL
  refine Jc (Ja (JG (Jb O) (by decide) (JG (Y0 Un20 O O) (by decide) (Je (Jf (JQ O O (Ja (JG (JV .nil bdZ) (by decide) (JG (Jb O) (by decide) (Jg O (Jo (Qf p) (.n1 O) (by decide) Jx fun u Lo fs hres=> ?_)))))))))))
  obtain ⟨rfl,rfl,rfl⟩:=hres
  refine Jg O (Jq (cs':= [_,_,_,_,_,_,_,_,_]) (vs:= [_,_,_,_,_,_,_,_,_]) JF O O O O O (Nat.le_of_ble_eq_true O) .z (Jg O (JN Ye O O O .z (.s .z) ?_)))
  exact Je ⟨O,fun Z w hs=>⟨Z,hs⟩⟩
theorem catch_Turn (bo be:Nat):Catches Tryz.prog ⟨.fn (.func 64) [Value.pointer (some ⟨bo,0,none⟩),Value.pointer (some ⟨be,0,none⟩)].toArray,#[]⟩ FltV (Res2 bo be) (fun v=> [OpCell bo (opC zeroOp none 0),ErCell be v]):=by
 refine Catches.of (n:=9) Tryz.func64 O O O O (Nat.le_of_ble_eq_true O) (by decide) (by decide) (fun Ps As=> ?_) (fun v L Ps As hok hL=> ?_)
 ·refine Jc (Ja (JG (Jb O) (by decide) (JG (Yf Un20 O) (by decide) (Je (Jf (Jz O O (Jp ?_)))))))
  exact ⟨O,O,O⟩
 ·obtain ⟨p,rfl⟩:=hok
  obtain ⟨c0,c1,c2,c3,c4,c5,c6,c7,c8,x,rfl⟩:=hL
  refine Jc (Ja (JG (Jb O) (by decide) (JG (Y0 Un20 O O) (by decide) (Je (Jf (JQ O O (Ja (JG (JV .nil bdZ) (by decide) (JG (Jb O) (by decide) (Jg O (Jo (Qf p) (.n1 O) (by decide) Jx fun u Lo fs hres=> ?_)))))))))))
  obtain ⟨rfl,rfl,rfl⟩:=hres
  refine Jg O (Jq (cs':= [_,_,_,_,_,_,_,_,_]) (vs:= [_,_,_,_,_,_,_,_,_]) JF O O O O O (Nat.le_of_ble_eq_true O) .z (Jg O (JN Ye O O O .z (.s .z) ?_)))
  exact Je ⟨O,fun Z w hs=>⟨Z,hs⟩⟩
theorem catch_Move (be:Nat):Catches Tryz.prog ⟨.fn (.func 61) [Value.pointer (some ⟨be,0,none⟩)].toArray,#[]⟩ FltV (Res1 be) (fun v=> [ErCell be v]):=by
 refine Catches.of (n:=7) Tryz.func61 O O O O (Nat.le_of_ble_eq_true O) (by decide) (by decide) (fun Ps As=> ?_) (fun v L Ps As hok hL=> ?_)
 ·refine Jc (Ja (JG (Jb O) (by decide) (JG (Yf Un20 O) (by decide) (Je (Jf (Jz O O (Jp ?_)))))))
  exact ⟨O,O,O⟩
 ·obtain ⟨p,rfl⟩:=hok
  obtain ⟨x,rfl⟩:=hL
  refine Jc (Ja (JG (Jb O) (by decide) (JG (Y0 Un20 O O) (by decide) (Je (Jf (JQ O O (Ja (Lq (Jb O) (Jg O (Jo (Qf p) (.n1 O) (by decide) Jx fun u Lo fs hres=> ?_))))))))))
  obtain ⟨rfl,rfl,rfl⟩:=hres
  refine Jg O (JN Ye O O O .z .z ?_)
  exact Je ⟨O,fun Z w hs=>⟨Z,hs⟩⟩
theorem catch_Confirm (be:Nat):Catches Tryz.prog ⟨.fn (.func 71) [Value.pointer (some ⟨be,0,none⟩)].toArray,#[]⟩ FltV (Res1 be) (fun v=> [ErCell be v]):=by
 refine Catches.of (n:=7) Tryz.func71 O O O O (Nat.le_of_ble_eq_true O) (by decide) (by decide) (fun Ps As=> ?_) (fun v L Ps As hok hL=> ?_)
 ·refine Jc (Ja (JG (Jb O) (by decide) (JG (Yf Un20 O) (by decide) (Je (Jf (Jz O O (Jp ?_)))))))
  exact ⟨O,O,O⟩
 ·obtain ⟨p,rfl⟩:=hok
  obtain ⟨x,rfl⟩:=hL
  refine Jc (Ja (JG (Jb O) (by decide) (JG (Y0 Un20 O O) (by decide) (Je (Jf (JQ O O (Ja (Lq (Jb O) (Jg O (Jo (Qf p) (.n1 O) (by decide) Jx fun u Lo fs hres=> ?_))))))))))
  obtain ⟨rfl,rfl,rfl⟩:=hres
  refine Jg O (JN Ye O O O .z .z ?_)
  exact Je ⟨O,fun Z w hs=>⟨Z,hs⟩⟩
theorem catch_Take (be:Nat):Catches Tryz.prog ⟨.fn (.func 66) [Value.pointer (some ⟨be,0,none⟩)].toArray,#[]⟩ FltV (Res1 be) (fun v=> [ErCell be v]):=by
 refine Catches.of (n:=7) Tryz.func66 O O O O (Nat.le_of_ble_eq_true O) (by decide) (by decide) (fun Ps As=> ?_) (fun v L Ps As hok hL=> ?_)
 ·refine Jc (Ja (JG (Jb O) (by decide) (JG (Yf Un20 O) (by decide) (Je (Jf (Jz O O (Jp ?_)))))))
  exact ⟨O,O,O⟩
 ·obtain ⟨p,rfl⟩:=hok
  obtain ⟨x,rfl⟩:=hL
  refine Jc (Ja (JG (Jb O) (by decide) (JG (Y0 Un20 O O) (by decide) (Je (Jf (JQ O O (Ja (Lq (Jb O) (Jg O (Jo (Qf p) (.n1 O) (by decide) Jx fun u Lo fs hres=> ?_))))))))))
  obtain ⟨rfl,rfl,rfl⟩:=hres
  refine Jg O (JN Ye O O O .z .z ?_)
  exact Je ⟨O,fun Z w hs=>⟨Z,hs⟩⟩
def memR (q:Int) (xs:List Rg):Prop:= ∃r∈xs,r.lo≤q∧q<r.hi
def NormB:Int→List Rg→Prop
 | _,[] =>True
 | b,r::rs=>b≤r.lo∧r.lo<r.hi∧NormB (r.hi+1) rs
def BelowR (T:Int) (xs:List Rg):Prop:= ∀r∈xs,r.hi≤T
def endB:Int→List Rg→Int
 | b,[] =>b
 | _,r::rs=>endB (r.hi+1) rs
theorem Qt (q:Int): ¬memR q [] :=fun ⟨r,h,_⟩=>by cases h
theorem Ql {q:Int} {r:Rg} {xs:List Rg} :memR q (r::xs)↔(r.lo≤q∧q<r.hi)∨memR q xs:=by
 unfold memR;simp only [List.mem_cons]
 constructor
 ·rintro ⟨x,rfl | h,h2⟩
  ·exact .inl h2
  ·exact .inr ⟨x,h,h2⟩
 ·rintro (h | ⟨x,h,h2⟩)
  ·exact ⟨r, .inl O,h⟩
  ·exact ⟨x, .inr h,h2⟩
theorem Vw {q:Int} {xs ys:List Rg} :memR q (xs++ys)↔memR q xs∨memR q ys:=by
 unfold memR;simp only [List.mem_append]
 constructor
 ·rintro ⟨x,h | h,h2⟩
  ·exact .inl ⟨x,h,h2⟩
  ·exact .inr ⟨x,h,h2⟩
 ·rintro (⟨x,h,h2⟩ | ⟨x,h,h2⟩)
  ·exact ⟨x, .inl h,h2⟩
  ·exact ⟨x, .inr h,h2⟩
theorem V1 {q:Int} {r:Rg} :memR q [r] ↔(r.lo≤q∧q<r.hi):=by
 rw [Ql];exact ⟨fun h=>h.elim id (fun h=>absurd h (Qt q)), .inl⟩
theorem BelowR.append {T:Int} {xs ys:List Rg} :BelowR T (xs++ys)↔BelowR T xs∧BelowR T ys:=by
 unfold BelowR;simp only [List.mem_append]
 exact ⟨fun h=>⟨fun r hr=>h r (.inl hr),fun r hr=>h r (.inr hr)⟩,fun h r hr=>hr.elim (h.1 r) (h.2 r)⟩
theorem BelowR.mono {T T':Int} {xs:List Rg} (h:BelowR T xs) (ht:T≤T'):BelowR T' xs:=fun r hr=>by have:=h r hr;omega
theorem Yp: ∀ {b:Int} {xs ys:List Rg},NormB b (xs++ys)↔NormB b xs∧NormB (endB b xs) ys
 | b,[],ys=>by simp [NormB,endB]
 | b,r::xs,ys=>by
  simp only [List.cons_append,NormB,endB,Yp (xs:=xs),and_assoc]
theorem Xs: ∀ {b:Int} {xs ys:List Rg},endB b (xs++ys)=endB (endB b xs) ys
 | b,[],ys=>rfl
 | b,r::xs,ys=>by simp only [List.cons_append,endB];exact Xs
theorem NormB.mem: ∀ {b:Int} {xs:List Rg},NormB b xs→ ∀r∈xs,b≤r.lo∧r.lo<r.hi
 | b,[],_,r,h=>by cases h
 | b,x::xs,h,r,hr=>by
  rcases List.mem_cons.1 hr with rfl | hr
  ·exact ⟨h.1,h.2.1⟩
  ·have:=NormB.mem h.2.2 r hr
   have:=h.1;have:=h.2.1
   omega
theorem NormB.below {b:Int} {xs:List Rg} (h:NormB b xs) {q:Int} (hq:memR q xs):b≤q:=by
 obtain ⟨r,hr,h2⟩:=hq
 have:=h.mem r hr
 omega
theorem NormB.len: ∀ {b T:Int} {xs:List Rg},NormB b xs→BelowR T xs→xs≠ [] →b+2*(xs.length:Int)≤T+1
 | b,T,[],_,_,h=>absurd rfl h
 | b,T,[r],h,ht,_=>by
  have:=ht r List.mem_cons_self
  have h1:=h.1
  have h2:=h.2.1
  simp;omega
 | b,T,r::s::xs,h,ht,_=>by
  have:=NormB.len h.2.2 (fun x hx=>ht x (List.mem_cons_of_mem _ hx)) (by simp)
  have h1:=h.1
  have h2:=h.2.1
  simp only [List.length_cons,Int.natCast_add,Int.natCast_one] at this ⊢
  omega
theorem ckAt_norm: ∀(rs:List Rg) (i:Int) (p:Option Rg) (b:Int),(∀q,p=some q→b=q.hi+1∧0≤q.hi)→(p=none→b=0)→((ckAt i p rs).2=0↔NormB b rs∧BelowR 1048576 rs)
 | [],i,p,b,_,_=>by simp [ckAt,NormB,BelowR]
 | r::rs,i,p,b,h1,h2=>by
  by_cases hb:r.lo<0∨r.hi>1048576∨r.lo≥r.hi
  ·rw [ckAt_bad hb]
   constructor
   ·intro h;cases h
   ·rintro ⟨g1,g2⟩
    have:=g2 r List.mem_cons_self
    have g3:=g1.1
    have g4:=g1.2.1
    rcases p with _ | q
    ·have:=h2 rfl;omega
    ·have:=h1 q rfl;omega
  ·have ih:=ckAt_norm rs (i+1) (some r) (r.hi+1) (fun q e=>by cases e;exact ⟨rfl,by omega⟩) (fun e=>by cases e)
   have hbel:BelowR 1048576 (r::rs)↔BelowR 1048576 rs:=⟨fun h x hx=>h x (List.mem_cons_of_mem _ hx),fun h x hx=>by
    rcases List.mem_cons.1 hx with rfl | hx
    ·omega
    ·exact h x hx⟩
   rw [hbel]
   simp only [NormB]
   rcases p with _ | q
   ·have:=h2 rfl
    rw [ckAt_first hb,ih]
    constructor
    ·rintro ⟨g1,g2⟩;exact ⟨⟨by omega,by omega,g1⟩,g2⟩
    ·rintro ⟨⟨_,_,g1⟩,g2⟩;exact ⟨g1,g2⟩
   ·have:=h1 q rfl
    by_cases ho:r.lo≤q.hi
    ·rw [ckAt_ord hb ho]
     constructor
     ·intro h;cases h
     ·rintro ⟨⟨g1,_⟩,_⟩;omega
    ·rw [ckAt_next hb ho,ih]
     constructor
     ·rintro ⟨g1,g2⟩;exact ⟨⟨by omega,by omega,g1⟩,g2⟩
     ·rintro ⟨⟨_,_,g1⟩,g2⟩;exact ⟨g1,g2⟩
theorem Gh {xs:List Rg} :(ckF xs).2=0↔xs.length≤32768∧NormB 0 xs∧BelowR 1048576 xs:=by
 unfold ckF
 split
 ·constructor
  ·intro h;cases h
  ·intro h;omega
 ·rw [ckAt_norm xs 0 none 0 (fun q e=>by cases e) (fun _=>rfl)]
  exact ⟨fun h=>⟨by omega,h⟩,fun h=>h.2⟩
def LastLe (xs:List Rg) (m:Int):Prop:= ∀r,xs.getLast? =some r→r.lo≤m
theorem Eh {b lo hi:Int} {xs:List Rg} (h:NormB b xs) (hb:b≤lo) (hl:lo<hi→LastLe xs lo):
  NormB b (addF xs lo hi)∧(∀q,memR q (addF xs lo hi)↔memR q xs∨(lo≤q∧q<hi))∧(∀T,BelowR T xs→(lo<hi→hi≤T)→BelowR T (addF xs lo hi))∧(∀m,LastLe xs m→(lo<hi→lo≤m)→LastLe (addF xs lo hi) m)∧(lo<hi→LastLe (addF xs lo hi) lo):=by
 by_cases hlh:hi≤lo
 ·rw [GN hlh]
  exact ⟨h,fun q=>⟨.inl,fun h=>h.elim id (fun h=>by omega)⟩,fun T h _=>h,fun m h _=>h,fun h=>by omega⟩
 ·have hlt:lo<hi:=by omega
  rcases List.eq_nil_or_concat xs with rfl | ⟨ys,r,rfl⟩
  ·rw [Gm hlh]
   refine ⟨⟨hb,hlt,trivial⟩,fun q=> ?_,fun T _ ht x hx=> ?_,fun m _ hm x hx=> ?_,fun _ x hx=> ?_⟩
   ·rw [V1];exact ⟨.inr,fun h=>h.elim (fun h=>absurd h (Qt q)) id⟩
   ·simp only [List.mem_singleton] at hx;subst hx;exact ht hlt
   ·simp at hx;subst hx;exact hm hlt
   ·simp at hx;subst hx;exact Int.le_refl _
  ·rw [List.concat_eq_append] at *
   have hrlo:r.lo≤lo:=hl hlt r (by simp)
   obtain ⟨g1,g2⟩:=Yp.1 h
   by_cases hj:lo≤r.hi
   ·rw [Xe hlh hj]
    refine ⟨Yp.2 ⟨g1,g2.1,by have:=g2.2.1;show r.lo<max r.hi hi;omega,trivial⟩,fun q=> ?_,fun T hT ht=> ?_,fun m hm _ x hx=> ?_,fun _ x hx=> ?_⟩
    ·rw [Vw,Vw,V1,V1]
     have:=g2.2.1
     simp only
     constructor
     ·rintro (h | h)
      ·exact .inl (.inl h)
      ·by_cases hq:q<r.hi
       ·exact .inl (.inr ⟨h.1,hq⟩)
       ·exact .inr (by omega)
     ·rintro ((h | h) | h)
      ·exact .inl h
      ·exact .inr (by omega)
      ·exact .inr (by omega)
    ·obtain ⟨k1,k2⟩:=BelowR.append.1 hT
     refine BelowR.append.2 ⟨k1,fun x hx=> ?_⟩
     simp only [List.mem_singleton] at hx
     subst hx
     have:=k2 r List.mem_cons_self
     have:=ht hlt
     show max r.hi hi≤T
     omega
    ·simp at hx;subst hx;exact hm r (by simp)
    ·simp at hx;subst hx;exact hrlo
   ·rw [Xd hlh hj]
    refine ⟨Yp.2 ⟨h,?_,hlt,trivial⟩,fun q=> ?_,fun T hT ht=> ?_,fun m hm hm2 x hx=> ?_,fun _ x hx=> ?_⟩
    ·rw [Xs];show r.hi+1≤lo;omega
    ·rw [Vw,V1]
    ·refine BelowR.append.2 ⟨hT,fun x hx=> ?_⟩
     simp only [List.mem_singleton] at hx
     subst hx;exact ht hlt
    ·simp at hx;subst hx;exact hm2 hlt
    ·simp at hx;subst hx;exact Int.le_refl _
theorem Hd {at_ n T:Int} (hn:0≤n) (ha:0≤at_): ∀(xs acc:List Rg) (b:Int),0≤b→NormB b xs→NormB 0 acc→BelowR T xs→BelowR (T+n) acc→
  (∀l,acc.getLast? =some l→(l.lo≤b∨at_≤b)∧l.lo≤b+n)→
  NormB 0 (thrL at_ n acc xs)∧BelowR (T+n) (thrL at_ n acc xs)∧ ∀q,memR q (thrL at_ n acc xs)↔memR q acc∨(q<at_∧memR q xs)∨(at_+n≤q∧memR (q-n) xs)
 | [],acc,b,_,_,hacc,_,hT,_=>⟨hacc,hT,fun q=>by
   simp only [thrL]
   exact ⟨.inl,fun h=>h.elim id (fun h=>h.elim (fun h=>absurd h.2 (Qt _)) (fun h=>absurd h.2 (Qt _)))⟩⟩
 | r::xs,acc,b,hb,hx,hacc,hTx,hT,hl=>by
  obtain ⟨h1,h2,h3⟩:=hx
  have hTr:=hTx r List.mem_cons_self
  obtain ⟨a1,a2,a3,a4,a5⟩:=Eh (lo:=r.lo) (hi:=min r.hi at_) hacc (by omega) (fun h l hll=>by have:=hl l hll;omega)
  have a6:=a3 (T+n) hT (fun h=>by omega)
  have a7:LastLe (addF acc r.lo (min r.hi at_)) (max r.lo at_+n):=a4 _ (fun l hll=>by have:=hl l hll;omega) (fun h=>by omega)
  obtain ⟨b1,b2,b3,b4,b5⟩:=Eh (lo:=max r.lo at_+n) (hi:=r.hi+n) a1 (by omega) (fun h=>a7)
  have b6:=b3 (T+n) a6 (fun h=>by omega)
  have hlast: ∀l,(addF (addF acc r.lo (min r.hi at_)) (max r.lo at_+n) (r.hi+n)).getLast? =some l→(l.lo≤r.hi+1∨at_≤r.hi+1)∧l.lo≤r.hi+1+n:=by
   intro l hll
   have c1:=b4 (max r.lo at_+n) a7 (fun h=>by omega) l hll
   by_cases hat:r.hi≤at_
   ·have c2:=b4 r.lo (a4 r.lo (fun l hll=>by have:=hl l hll;omega) (fun h=>by omega)) (fun h=>by omega) l hll
    omega
   ·omega
  obtain ⟨c1,c2,c3⟩:=Hd hn ha xs _ (r.hi+1) (by omega) h3 b1 (fun x hx=>hTx x (List.mem_cons_of_mem _ hx)) b6 hlast
  refine ⟨c1,c2,fun q=> ?_⟩
  simp only [thrL]
  rw [c3,b2,a2,Ql,Ql]
  constructor
  ·rintro ((h | h) | h)
   ·rcases h with h | h
    ·exact .inl h
    ·exact .inr (.inl ⟨by omega, .inl (by omega)⟩)
   ·exact .inr (.inr ⟨by omega, .inl (by omega)⟩)
   ·rcases h with h | h
    ·exact .inr (.inl ⟨h.1, .inr h.2⟩)
    ·exact .inr (.inr ⟨h.1, .inr h.2⟩)
  ·rintro (h | ⟨h,h4 | h4⟩ | ⟨h,h4 | h4⟩)
   ·exact .inl (.inl (.inl h))
   ·exact .inl (.inl (.inr (by omega)))
   ·exact .inr (.inl ⟨h,h4⟩)
   ·exact .inl (.inr (by omega))
   ·exact .inr (.inr ⟨h,h4⟩)
structure Pls (T:Int) (xs:List Rg):Prop where
 norm:NormB 0 xs
 below:BelowR T xs
theorem Pls.len {T:Int} {xs:List Rg} (h:Pls T xs) (hT:0≤T):2*(xs.length:Int)≤T+1:=by
 by_cases hx:xs= []
 ·subst hx;simp;omega
 ·have:=h.norm.len h.below hx;omega
theorem Pls.ck {T:Int} {xs:List Rg} (h:Pls T xs) (hT:0≤T∧T≤65535):(ckF xs).2=0:=
 Gh.2 ⟨by have:=h.len hT.1;omega,h.norm,h.below.mono (by omega)⟩
theorem GV {T at_ n:Int} {xs:List Rg} (h:Pls T xs) (hT:0≤T) (ha:0≤at_∧at_≤T) (hn:0≤n) (hs:T+n≤65535):
  (thrF xs at_ n).2=0∧Pls (T+n) (thrF xs at_ n).1∧(∀q,memR q (thrF xs at_ n).1↔(q<at_∧memR q xs)∨(at_+n≤q∧memR (q-n) xs))∧(xs= [] ↔(thrF xs at_ n).1= []):=by
 have h1:=h.ck (by omega)
 have h2: ¬(at_<0∨at_>1048576∨n<0∨n>1048576):=by omega
 obtain ⟨c1,c2,c3⟩:=Hd (T:=T) hn ha.1 xs [] 0 (by omega) h.norm trivial h.below (fun r hr=>by cases hr) (fun l hl=>by cases hl)
 have hp:Pls (T+n) (thrL at_ n [] xs):=⟨c1,c2⟩
 have hlen:=hp.len (by omega)
 have hb:boundF (thrL at_ n [] xs)=(thrL at_ n [] xs,0):=by unfold boundF;rw [if_neg (by omega)]
 have he:thrF xs at_ n=(thrL at_ n [] xs,0):=by
  by_cases hk:xs.length=0
  ·have:=List.length_eq_zero_iff.1 hk;subst this
   rw [VY h2,hb]
  ·have hk':xs.length-1<xs.length:=by omega
   have:=h.below _ (List.getElem_mem hk')
   rw [XC h1 h2 hk' (by omega),hb]
 rw [he]
 refine ⟨O,hp,fun q=> ?_,?_⟩
 ·rw [c3];exact ⟨fun h=>h.elim (fun h=>absurd h (Qt q)) id, .inr⟩
 ·constructor
  ·rintro rfl;rfl
  ·intro e
   simp only at e
   rcases xs with _ | ⟨r,xs⟩
   ·rfl
   ·have hr:=h.norm.mem r List.mem_cons_self
    by_cases hlt:r.lo<at_
    ·have:=(c3 r.lo).2 (.inr (.inl ⟨hlt,r,List.mem_cons_self,by omega⟩))
     rw [e] at this;exact absurd this (Qt _)
    ·have:=(c3 (r.lo+n)).2 (.inr (.inr ⟨by omega,r,List.mem_cons_self,by omega⟩))
     rw [e] at this;exact absurd this (Qt _)
structure Ent where
 op:GOp
 now:List Rg
 off:Bool
structure Hist where
 ents:List Ent
 total:Int
def Hist.ops (H:Hist):List GOp:=H.ents.map (·.op)
structure Mark where
 c:Int
 n:Int
 num:Int
 now:List Rg
 off:Bool
def markAt (k:Nat) (e:Ent):Mark:=⟨e.op.c,e.op.n,k,e.now,e.off⟩
def marksFrom:List Ent→Nat→List Mark
 | [],_=> []
 | e::r,k=>markAt k e::marksFrom r (k+1)
structure MR where
 mark:Mark
 b:Nat
 A:Option Addr
 cap:Nat
def keys (L:List MR):List MK:=L.map fun x=>⟨x.mark.c,x.mark.n,x.b⟩
abbrev hdP (h:Nat) (A:Option Addr) (len cap m:Nat) (total:Int):Part:= [(h,JD [.slice A len cap, .map (some m), .int .i64 total] 125)]
abbrev mpP (m:Nat) (L:List MR):Part:= [(m,mapO (keys L))]
def mrO (x:MR):Obj:=JD [.int .i64 x.mark.num, .slice x.A x.mark.now.length x.cap, .bool x.mark.off] 165
def mkP (L:List MR):Part:=L.map fun x=>(x.b,mrO x)
abbrev nowF (x:MR):Fact:=RdF rgD x.A x.cap x.mark.now
structure HR (H:Hist) (L:List MR):Prop where
 perm:(L.map (·.mark)).Perm (marksFrom H.ents 0)
 ids:(H.ents.map fun e=>(e.op.c,e.op.n)).Nodup
 fit: ∀e∈H.ents,Fit e.op
 wid: ∀e∈H.ents,JC e.op≤256
 now: ∀e∈H.ents,e.now.length≤8796093022208
 len:H.ents.length≤1000000
 tot:0≤H.total∧H.total≤1048576
def HIs (u:Value) (ps:List Part):Value→List Part→List Fact→Prop:=fun v Lo fs=>v=u∧Lo=ps∧fs= []
theorem Xb: ∀(l:List Ent) (k:Nat),(marksFrom l k).length=l.length
 | [],_=>rfl
 | e::r,k=>by simp [marksFrom,Xb r (k+1)]
theorem QD: ∀(l:List Ent) (k j:Nat) (e:Ent),l[j]? =some e→(marksFrom l k)[j]? =some (markAt (k+j) e)
 | [],_,j,e,h=>by simp at h
 | a::r,k,0,e,h=>by simp at h;subst h;simp [marksFrom]
 | a::r,k,j+1,e,h=>by
  have:=QD r (k+1) j e (by simpa using h)
  simp only [marksFrom,List.getElem?_cons_succ,this]
  congr 2;omega
theorem VO: ∀ {l:List Ent} {k:Nat} {x:Mark},x∈marksFrom l k→ ∃j e,l[j]? =some e∧x=markAt (k+j) e
 | [],_,x,h=>by cases h
 | a::r,k,x,h=>by
  unfold marksFrom at h
  rcases List.mem_cons.1 h with rfl | h
  ·exact ⟨0,a,by simp,O⟩
  ·obtain ⟨j,e,h1,h2⟩:=VO h
   exact ⟨j+1,e,by simpa using h1,by rw [h2];congr 1;omega⟩
theorem marksFrom_ids: ∀(l:List Ent) (k:Nat),(marksFrom l k).map (fun x=>(x.c,x.n))=l.map fun e=>(e.op.c,e.op.n)
 | [],_=>rfl
 | a::r,k=>by simp [marksFrom,markAt,marksFrom_ids r (k+1)]
theorem XH {L:List MR} {j:Nat} {x:MR} (h:L[j]? =some x):(mkP L)[j]? =some (x.b,mrO x):=by simp [mkP,h]
theorem Yq {L:List MR} {j:Nat} {x:MR} (h:L[j]? =some x):(x.b,mrO x)∈mkP L:=List.mem_of_getElem? (XH h)
theorem G9: ∀ {L:List MR} {x:MR},(L.map fun x=>(x.mark.c,x.mark.n)).Nodup→x∈L→mGet (keys L) x.mark.c x.mark.n=some x.b
 | [],x,_,h=>by cases h
 | y::L,x,hn,h=>by
  simp only [List.map_cons,List.nodup_cons] at hn
  unfold keys
  simp only [List.map_cons,mGet]
  rcases List.mem_cons.1 h with rfl | h
  ·simp
  ·rw [if_neg]
   ·exact G9 hn.2 h
   ·intro e
    exact hn.1 (List.mem_map.2 ⟨x,h,by rw [e.1,e.2]⟩)
theorem GF: ∀ {L:List MR} {c n:Int} {b:Nat},mGet (keys L) c n=some b→ ∃(j:Nat) (x:MR),L[j]? =some x∧x.mark.c=c∧x.mark.n=n∧x.b=b
 | [],c,n,b,h=>by simp [keys,mGet] at h
 | y::L,c,n,b,h=>by
  unfold keys at h
  simp only [List.map_cons,mGet] at h
  split at h
  ·rename_i e;exact ⟨0,y,by simp,e.1.symm,e.2.symm,Option.some.inj h⟩
  ·obtain ⟨j,x,h1,h2⟩:=GF (L:=L) h
   exact ⟨j+1,x,by simpa using h1,h2⟩
theorem HR.nodup {H:Hist} {L:List MR} (h:HR H L):(L.map fun x=>(x.mark.c,x.mark.n)).Nodup:=by
 have h1:(L.map fun x=>(x.mark.c,x.mark.n))=(L.map (·.mark)).map fun x=>(x.c,x.n):=by simp [List.map_map,Function.comp_def]
 rw [h1,(h.perm.map _).nodup_iff,marksFrom_ids]
 exact h.ids
theorem HR.look {H:Hist} {L:List MR} (h:HR H L) {k:Nat} (hk:k<H.ents.length): ∃(j:Nat) (x:MR),L[j]? =some x∧x.mark=markAt k H.ents[k] ∧mGet (keys L) H.ents[k].op.c H.ents[k].op.n=some x.b:=by
 have h1:=QD H.ents 0 k _ (List.getElem?_eq_getElem hk)
 have h2:=(h.perm.mem_iff).2 (List.mem_of_getElem? h1)
 obtain ⟨x,hx,hm⟩:=List.mem_map.1 h2
 obtain ⟨j,hj,rfl⟩:=List.mem_iff_getElem.1 hx
 rw [Nat.zero_add] at hm
 refine ⟨j,L[j],List.getElem?_eq_getElem hj,hm,?_⟩
 have:=G9 h.nodup hx
 rw [hm] at this
 exact this
def J5 (l:List Ent) (c n:Int):Option Nat:=l.findIdx? fun e=>decide (c=e.op.c) && decide (n=e.op.n)
theorem KJ {l:List Ent} {c n:Int} {k:Nat} (h:J5 l c n=some k): ∃hk:k<l.length,l[k].op.c=c∧l[k].op.n=n:=by
 obtain ⟨hk,h1,_⟩:=List.findIdx?_eq_some_iff_getElem.1 h
 simp at h1
 exact ⟨hk,h1.1.symm,h1.2.symm⟩
theorem K4 {l:List Ent} {c n:Int} (h:J5 l c n=none): ∀e∈l,¬(e.op.c=c∧e.op.n=n):=fun e he hh=>by
 have:=List.findIdx?_eq_none_iff.1 h e he
 simp [hh.1,hh.2] at this
theorem HR.look0 {H:Hist} {L:List MR} (h:HR H L) {c n:Int} (hn:J5 H.ents c n=none):mGet (keys L) c n=none:=by
 cases hg:mGet (keys L) c n with
 | none=>rfl
 | some b=>
  obtain ⟨j,x,h1,h2,h3,_⟩:=GF hg
  have h4:=(h.perm.mem_iff).1 (List.mem_map.2 ⟨x,List.mem_of_getElem? h1,rfl⟩)
  obtain ⟨k,e,h5,h6⟩:=VO h4
  have h7:=K4 hn e (List.mem_of_getElem? h5)
  rw [h6] at h2 h3
  exact absurd ⟨h2,h3⟩ h7
theorem HR.look1 {H:Hist} {L:List MR} (h:HR H L) {c n:Int} {k:Nat} (hn:J5 H.ents c n=some k): ∃(hk:k<H.ents.length) (j:Nat) (x:MR),H.ents[k].op.c=c∧H.ents[k].op.n=n∧L[j]? =some x∧x.mark=markAt k H.ents[k] ∧mGet (keys L) c n=some x.b:=by
 obtain ⟨hk,rfl,rfl⟩:=KJ hn
 obtain ⟨j,x,h1,h2,h3⟩:=h.look hk
 exact ⟨hk,j,x,O,O,h1,h2,h3⟩
def sumW:List Ent→Int
 | [] =>0
 | e::r=>JC e.op+sumW r
theorem Xj: ∀(a b:List Ent),sumW (a++b)=sumW a+sumW b
 | [],b=>by simp [sumW]
 | e::a,b=>by simp [sumW,Xj a b];omega
theorem He: ∀(l:List Ent),(∀e∈l,JC e.op≤256)→0≤sumW l∧sumW l≤256*l.length
 | [],_=>by simp [sumW]
 | e::r,h=>by
  have h1:=He r fun x hx=>h x (List.mem_cons_of_mem _ hx)
  have h2:=h e List.mem_cons_self
  have h3:=KF e.op
  simp only [sumW,List.length_cons]
  omega
def K2 (H:Hist) (i:Nat):Int:=sumW (H.ents.take i)
def fitsRest (H:Hist) (o:GOp):Int:=if H.total+JC o>1048576 then 24 else 0
def fitsT (H:Hist) (i:Int) (o:GOp):Int:=
 match J5 H.ents o.tc o.tn with
 | none=>60
 | some k=>if (k:Int)≥i then 60 else match H.ents[k]? with
  | some e=>if e.op.kind=4 then 63 else fitsRest H o
  | none=>60
def fitsF (H:Hist) (i:Int) (o:GOp):Int:=
 if i<0∨i>H.ents.length then 12
 else if checkF o (K2 H i.toNat)≠0 then checkF o (K2 H i.toNat)
 else if o.kind=3 then 40
 else if o.c=0∧o.n=0 then 41
 else if (J5 H.ents o.c o.n).isSome then 61
 else if o.kind=4 then fitsT H i o
 else fitsRest H o
def movedAll:List Ent→Int→Int→Except Int (List (List Rg))
 | [],_,_=> .ok []
 | e::r,at_,n=>if (thrF e.now at_ n).2≠0 then .error (thrF e.now at_ n).2 else match movedAll r at_ n with
  | .error x=> .error x
  | .ok ls=> .ok ((thrF e.now at_ n).1::ls)
def turnF (e:Ent) (on:Bool):GOp:= { zeroOp with kind:=if (decide (e.op.kind=2)==on)=true then 2 else 3,rs:=e.now }
def Qh (l:List Ent) (c n:Int):Bool:=l.any fun e=>decide (e.op.kind=4) && (decide (e.op.tc=c) && decide (e.op.tn=n))
def offE (e:Ent) (b:Bool):Ent:=⟨e.op,e.now,b⟩
def turnedF (H:Hist) (i:Nat) (o:GOp):List Ent×GOp:=
 if Qh (H.ents.drop i) o.tc o.tn=true then (H.ents,zeroOp)
 else match J5 H.ents o.tc o.tn with
  | none=>(H.ents,zeroOp)
  | some k=>match H.ents[k]? with
   | none=>(H.ents,zeroOp)
   | some e=>if e.off= !o.on then (H.ents,zeroOp) else (H.ents.set k (offE e (!o.on)),turnF e o.on)
theorem erase_perm {α:Type} : ∀ {l:List α} {n:Nat} (h:n<l.length),(l[n] ::l.eraseIdx n).Perm l
 | [],n,h=>by simp at h
 | a::l,0,h=>by simp
 | a::l,n+1,h=>by
  have h':n<l.length:=by simpa using h
  simp only [List.getElem_cons_succ,List.eraseIdx_cons_succ]
  exact (List.Perm.swap a l[n] _).trans ((erase_perm h').cons a)
theorem Qz {α:Type} : ∀ {l:List α} {n:Nat} (h:n<l.length) (b:α),(l.set n b).Perm (b::l.eraseIdx n)
 | [],n,h,b=>by simp at h
 | a::l,0,h,b=>by simp
 | a::l,n+1,h,b=>by
  have h':n<l.length:=by simpa using h
  simp only [List.set_cons_succ,List.eraseIdx_cons_succ]
  exact ((Qz h' b).cons a).trans (List.Perm.swap b a _)
theorem set_perm {α:Type} {l M:List α} {j k:Nat} {a:α} (h:l.Perm M) (hj:l[j]? =some a) (hk:M[k]? =some a) (b:α):(l.set j b).Perm (M.set k b):=by
 have hjl:j<l.length:=by
  rcases Nat.lt_or_ge j l.length with h | h
  ·exact h
  ·rw [List.getElem?_eq_none h] at hj;cases hj
 have hkl:k<M.length:=by
  rcases Nat.lt_or_ge k M.length with h | h
  ·exact h
  ·rw [List.getElem?_eq_none h] at hk;cases hk
 have e1:l[j] =a:=by rw [List.getElem?_eq_getElem hjl] at hj;exact Option.some.inj hj
 have e2:M[k] =a:=by rw [List.getElem?_eq_getElem hkl] at hk;exact Option.some.inj hk
 have h1:(a::l.eraseIdx j).Perm (a::M.eraseIdx k):=by
  have p1:=erase_perm hjl
  have p2:=erase_perm hkl
  rw [e1] at p1;rw [e2] at p2
  exact (p1.trans h).trans p2.symm
 have h2:=h1.cons_inv
 exact ((Qz hjl b).trans (h2.cons b)).trans (Qz hkl b).symm
theorem VN: ∀(l:List Ent) (k j:Nat) (e:Ent),j<l.length→marksFrom (l.set j e) k=(marksFrom l k).set j (markAt (k+j) e)
 | [],_,j,e,h=>by simp at h
 | a::r,k,0,e,h=>by simp [marksFrom]
 | a::r,k,j+1,e,h=>by
  have:=VN r (k+1) j e (by simpa using h)
  simp only [marksFrom,List.set_cons_succ,this]
  congr 2;congr 1;omega
theorem HR.upd {H:Hist} {L:List MR} (h:HR H L) {k j:Nat} (hk:k<H.ents.length) {x:MR} (hj:L[j]? =some x) (hm:x.mark=markAt k H.ents[k]) (e':Ent) (he:e'.op=H.ents[k].op) (hn:e'.now.length≤8796093022208) (A':Option Addr) (c':Nat):
  HR ⟨H.ents.set k e',H.total⟩ (L.set j ⟨markAt k e',x.b,A',c'⟩):=by
 have hjl:j<L.length:=by
  rcases Nat.lt_or_ge j L.length with h | h
  ·exact h
  ·rw [List.getElem?_eq_none h] at hj;cases hj
 refine ⟨?_,?_,?_,?_,?_,by simpa using h.len,h.tot⟩
 ·rw [List.map_set,VN _ _ _ _ hk,Nat.zero_add]
  refine set_perm h.perm (a:=markAt k H.ents[k]) ?_ ?_ _
  ·rw [List.getElem?_map,hj];simp [hm]
  ·have:=QD H.ents 0 k _ (List.getElem?_eq_getElem hk)
   rwa [Nat.zero_add] at this
 ·have:((H.ents.set k e').map fun e=>(e.op.c,e.op.n))=H.ents.map fun e=>(e.op.c,e.op.n):=by
   rw [List.map_set,he]
   apply List.ext_getElem
   ·simp
   ·intro i h1 h2
    rw [List.getElem_set]
    split
    ·rename_i e;subst e;simp
    ·rfl
  show ((H.ents.set k e').map fun e=>(e.op.c,e.op.n)).Nodup
  rw [this];exact h.ids
 ·intro e hmem
  rcases List.mem_or_eq_of_mem_set hmem with hmem | rfl
  ·exact h.fit e hmem
  ·rw [he];exact h.fit _ (List.getElem_mem hk)
 ·intro e hmem
  rcases List.mem_or_eq_of_mem_set hmem with hmem | rfl
  ·exact h.wid e hmem
  ·rw [he];exact h.wid _ (List.getElem_mem hk)
 ·intro e hmem
  rcases List.mem_or_eq_of_mem_set hmem with hmem | rfl
  ·exact h.now e hmem
  ·exact hn
theorem X8 {L:List MR} {j:Nat} {x y:MR} (hj:L[j]? =some x) (h1:y.mark.c=x.mark.c) (h2:y.mark.n=x.mark.n) (h3:y.b=x.b):keys (L.set j y)=keys L:=by
 have hjl:j<L.length:=by
  rcases Nat.lt_or_ge j L.length with h | h
  ·exact h
  ·rw [List.getElem?_eq_none h] at hj;cases hj
 have e1:L[j] =x:=by rw [List.getElem?_eq_getElem hjl] at hj;exact Option.some.inj hj
 unfold keys
 rw [List.map_set,h1,h2,h3,←e1]
 apply List.ext_getElem
 ·simp
 ·intro i g1 g2
  rw [List.getElem_set]
  split
  ·rename_i e;subst e;simp
  ·rfl
theorem G7 (L:List MR) (j:Nat) (y:MR):mkP (L.set j y)=(mkP L).set j (y.b,mrO y):=by unfold mkP;rw [List.map_set]
theorem G6 {L:List MR} {j:Nat} {y:MR} {Z:Nat→Prop} {w:World} (h:(AllF L nowF).holds Z w) (hy:(nowF y).holds Z w):(AllF (L.set j y) nowF).holds Z w:=fun x hx=>by
 rcases List.mem_or_eq_of_mem_set hx with hx | rfl
 ·exact h x hx
 ·exact hy
theorem Gb {H:Hist} {k:Nat} (hk:k<H.ents.length) (e':Ent) (he:e'.op=H.ents[k].op) (t:Int):(⟨H.ents.set k e',t⟩:Hist).ops=H.ops:=by
 unfold Hist.ops
 simp only [List.map_set,he]
 apply List.ext_getElem
 ·simp
 ·intro i h1 h2
  rw [List.getElem_set]
  split
  ·rename_i e;subst e;simp
  ·rfl
structure Same (a b:GOp):Prop where
 c:b.c=a.c
 n:b.n=a.n
 kind:b.kind=a.kind
 text:b.text=a.text
 tc:b.tc=a.tc
 tn:b.tn=a.tn
 on:b.on=a.on
inductive Sames:List GOp→List GOp→Prop
 | nil:Sames [] []
 | cons {a b:GOp} {l m:List GOp} (h:Same a b) (hr:Sames l m):Sames (a::l) (b::m)
theorem Same.refl (a:GOp):Same a a:=⟨rfl,rfl,rfl,rfl,rfl,rfl,rfl⟩
theorem Same.trans {a b c:GOp} (h:Same a b) (k:Same b c):Same a c:=⟨k.c.trans h.c,k.n.trans h.n,k.kind.trans h.kind,k.text.trans h.text,k.tc.trans h.tc,k.tn.trans h.tn,k.on.trans h.on⟩
theorem Same.width {a b:GOp} (h:Same a b):JC b=JC a:=by unfold JC;rw [h.kind,h.text]
theorem Sames.refl: ∀l,Sames l l
 | [] => .nil
 | a::l=> .cons (Same.refl a) (Sames.refl l)
theorem Sames.trans: ∀ {a b c:List GOp},Sames a b→Sames b c→Sames a c
 | _,_,_, .nil, .nil=> .nil
 | _,_,_, .cons h r, .cons k s=> .cons (h.trans k) (r.trans s)
theorem Sames.length {a b:List GOp} (h:Sames a b):b.length=a.length:=by
 induction h with
 | nil=>rfl
 | cons _ _ ih=>simp [ih]
theorem include_same {a b:GOp} {e:Bool} (h:(JT a b e).2=0):Same a (JT a b e).1:=by
 unfold JT at h ⊢
 split at h
 ·cases h
 ·rename_i h1
  rw [if_neg h1]
  split at h
  ·rename_i h2;rw [if_pos h2];exact Same.refl a
  ·rename_i h2
   rw [if_neg h2]
   split at h
   ·rename_i h3
    rw [if_pos h3]
    split at h
    ·rename_i h4
     rw [if_pos h4]
     unfold movedF at h ⊢
     split at h
     ·cases h
     ·rename_i h5;rw [if_neg h5];exact ⟨rfl,rfl,rfl,rfl,rfl,rfl,rfl⟩
    ·rename_i h4;rw [if_neg h4];exact Same.refl a
   ·rename_i h3
    rw [if_neg h3]
    split at h
    ·rename_i h4
     rw [if_pos h4]
     unfold rangedF at h ⊢
     split at h
     ·rename_i h5;exact absurd h h5
     ·rename_i h5;rw [if_neg h5];exact ⟨rfl,rfl,rfl,rfl,rfl,rfl,rfl⟩
    ·rename_i h4;rw [if_neg h4];exact Same.refl a
theorem crossIn_same: ∀ {fs:List GOp} {l l':GOp} {fs':List GOp},crossIn l fs= .ok (l',fs')→Same l l'∧Sames fs fs'
 | [],l,l',fs',h=>by
  simp only [crossIn,Except.ok.injEq,Prod.mk.injEq] at h
  obtain ⟨rfl,rfl⟩:=h
  exact ⟨Same.refl _, .nil⟩
 | f::fs,l,l',fs',h=>by
  by_cases h1:(JT l f true).2≠0
  ·rw [crossIn_err1 h1] at h;cases h
  ·by_cases h2:(JT f l false).2≠0
   ·rw [crossIn_err2 h1 h2] at h;cases h
   ·rw [Qu h1 h2] at h
    cases hq:crossIn (JT l f true).1 fs with
    | error e=>rw [hq] at h;cases h
    | ok r=>
     obtain ⟨x,y⟩:=r
     rw [hq] at h
     simp only [putIn,Except.ok.injEq,Prod.mk.injEq] at h
     obtain ⟨rfl,rfl⟩:=h
     obtain ⟨k1,k2⟩:=crossIn_same hq
     exact ⟨(include_same (by simpa using h1)).trans k1, .cons (include_same (by simpa using h2)) k2⟩
theorem crossOut_same: ∀ {ls fs a b:List GOp},crossOut fs ls= .ok (a,b)→Sames fs a∧Sames ls b
 | [],fs,a,b,h=>by
  simp only [crossOut,Except.ok.injEq,Prod.mk.injEq] at h
  obtain ⟨rfl,rfl⟩:=h
  exact ⟨Sames.refl _, .nil⟩
 | l::ls,fs,a,b,h=>by
  rw [Yw] at h
  cases hq:crossIn l fs with
  | error e=>rw [hq] at h;cases h
  | ok r=>
   obtain ⟨l',fs'⟩:=r
   rw [hq] at h
   unfold restOut at h
   simp only at h
   cases hq2:crossOut fs' ls with
   | error e=>rw [hq2] at h;cases h
   | ok r2=>
    obtain ⟨x,y⟩:=r2
    rw [hq2] at h
    simp only [Except.ok.injEq,Prod.mk.injEq] at h
    obtain ⟨rfl,rfl⟩:=h
    obtain ⟨k1,k2⟩:=crossIn_same hq
    obtain ⟨k3,k4⟩:=crossOut_same hq2
    exact ⟨k2.trans k3, .cons k1 k4⟩
theorem crossIn_ne: ∀ {fs:List GOp} {l:GOp} {e:Int},crossIn l fs= .error e→e≠0
 | [],l,e,h=>by simp [crossIn] at h
 | f::fs,l,e,h=>by
  by_cases h1:(JT l f true).2≠0
  ·rw [crossIn_err1 h1] at h;cases h;exact h1
  ·by_cases h2:(JT f l false).2≠0
   ·rw [crossIn_err2 h1 h2] at h;cases h;exact h2
   ·rw [Qu h1 h2] at h
    cases hq:crossIn (JT l f true).1 fs with
    | error e'=>rw [hq] at h;cases h;exact crossIn_ne hq
    | ok r=>rw [hq] at h;obtain ⟨a,b⟩:=r;cases h
theorem crossOut_ne: ∀ {ls fs:List GOp} {e:Int},crossOut fs ls= .error e→e≠0
 | [],fs,e,h=>by simp [crossOut] at h
 | l::ls,fs,e,h=>by
  rw [Yw] at h
  cases hq:crossIn l fs with
  | error e'=>rw [hq] at h;cases h;exact crossIn_ne hq
  | ok r=>
   obtain ⟨l',fs'⟩:=r
   rw [hq] at h
   unfold restOut at h
   simp only at h
   cases hq2:crossOut fs' ls with
   | error e'=>rw [hq2] at h;cases h;exact crossOut_ne hq2
   | ok r2=>rw [hq2] at h;obtain ⟨a,b⟩:=r2;cases h
theorem crossIn_fit: ∀ {fs:List GOp} {l l':GOp} {fs':List GOp},Fit l→(∀o∈fs,Fit o)→crossIn l fs= .ok (l',fs')→Fit l'∧ ∀o∈fs',Fit o
 | [],l,l',fs',hl,hf,h=>by
  simp only [crossIn,Except.ok.injEq,Prod.mk.injEq] at h
  obtain ⟨rfl,rfl⟩:=h
  exact ⟨hl,hf⟩
 | f::fs,l,l',fs',hl,hf,h=>by
  have hff:=hf f List.mem_cons_self
  by_cases h1:(JT l f true).2≠0
  ·rw [crossIn_err1 h1] at h;cases h
  ·by_cases h2:(JT f l false).2≠0
   ·rw [crossIn_err2 h1 h2] at h;cases h
   ·rw [Qu h1 h2] at h
    cases hq:crossIn (JT l f true).1 fs with
    | error e=>rw [hq] at h;cases h
    | ok r=>
     obtain ⟨x,y⟩:=r
     rw [hq] at h
     simp only [putIn,Except.ok.injEq,Prod.mk.injEq] at h
     obtain ⟨rfl,rfl⟩:=h
     obtain ⟨k1,k2⟩:=crossIn_fit (hl.include hff true) (fun o ho=>hf o (List.mem_cons_of_mem _ ho)) hq
     refine ⟨k1,fun o ho=> ?_⟩
     rcases List.mem_cons.1 ho with rfl | ho
     ·exact hff.include hl false
     ·exact k2 o ho
theorem crossOut_fit: ∀ {ls fs a b:List GOp},(∀o∈fs,Fit o)→(∀o∈ls,Fit o)→crossOut fs ls= .ok (a,b)→(∀o∈a,Fit o)∧ ∀o∈b,Fit o
 | [],fs,a,b,hf,hl,h=>by
  simp only [crossOut,Except.ok.injEq,Prod.mk.injEq] at h
  obtain ⟨rfl,rfl⟩:=h
  exact ⟨hf,hl⟩
 | l::ls,fs,a,b,hf,hl,h=>by
  rw [Yw] at h
  cases hq:crossIn l fs with
  | error e=>rw [hq] at h;cases h
  | ok r=>
   obtain ⟨l',fs'⟩:=r
   rw [hq] at h
   unfold restOut at h
   simp only at h
   cases hq2:crossOut fs' ls with
   | error e=>rw [hq2] at h;cases h
   | ok r2=>
    obtain ⟨x,y⟩:=r2
    rw [hq2] at h
    simp only [Except.ok.injEq,Prod.mk.injEq] at h
    obtain ⟨rfl,rfl⟩:=h
    obtain ⟨k1,k2⟩:=crossIn_fit (hl l List.mem_cons_self) hf hq
    obtain ⟨k3,k4⟩:=crossOut_fit k2 (fun o ho=>hl o (List.mem_cons_of_mem _ ho)) hq2
    refine ⟨k3,fun o ho=> ?_⟩
    rcases List.mem_cons.1 ho with rfl | ho
    ·exact k1
    ·exact k4 o ho
theorem E0 {xs ys:List GOp} (hx: ∀o∈xs,Fit o) (hy: ∀o∈ys,Fit o):(∀o∈(crossF xs ys).1,Fit o)∧ ∀o∈(crossF xs ys).2.1,Fit o:=by
 have h0: ∀e:Int,(∀o∈(([],[],e):List GOp×List GOp×Int).1,Fit o)∧ ∀o∈(([],[],e):List GOp×List GOp×Int).2.1,Fit o:=fun e=>⟨fun o h=>by simp at h,fun o h=>by simp at h⟩
 by_cases h1:ownsF xs≠0
 ·rw [ED h1];exact h0 _
 ·by_cases h2:ownsF ys≠0
  ·rw [EC (by simpa using h1) h2];exact h0 _
  ·cases hq:crossOut xs ys with
   | error e=>rw [Gf (by simpa using h1) (by simpa using h2) hq];exact h0 _
   | ok r=>
    obtain ⟨a,b⟩:=r
    rw [Ge (by simpa using h1) (by simpa using h2) hq]
    exact crossOut_fit hx hy hq
theorem Xt {xs ys:List GOp} (h:(crossF xs ys).2.2=0):Sames xs (crossF xs ys).1∧Sames ys (crossF xs ys).2.1:=by
 unfold crossF at h ⊢
 split at h
 ·rename_i h1;exact absurd h h1
 ·rename_i h1
  rw [if_neg h1]
  split at h
  ·rename_i h2;exact absurd h h2
  ·rename_i h2
   rw [if_neg h2]
   cases hq:crossOut xs ys with
   | error e=>rw [hq] at h;simp only at h;exact absurd h (crossOut_ne hq)
   | ok r=>obtain ⟨a,b⟩:=r;exact crossOut_same hq
def zipE:List GOp→List Ent→List Ent
 | x::xs,e::es=>⟨x,e.now,e.off⟩::zipE xs es
 | _,_=> []
def newEnts (i:Nat) (o:GOp) (now:List Rg) (es:List Ent) (later:List GOp):List Ent:=es.take i++⟨o,now,false⟩::zipE later (es.drop i)
def setNow:List Ent→List (List Rg)→Nat→List Ent
 | e::es,l::ls,k+1=>⟨e.op,l,e.off⟩::setNow es ls k
 | es,_,_=>es
def effF (o:GOp):GOp:= { zeroOp with kind:=o.kind }
structure Mid where
 es:List Ent
 now:List Rg
 eff:GOp
def midF (H:Hist) (i:Nat) (o t:GOp):Except Int Mid:=
 if o.kind=1 then match movedAll H.ents t.at_ (JC o) with
  | .error e=> .error e
  | .ok ls=> .ok ⟨setNow H.ents ls H.ents.length,[⟨t.at_,t.at_+JC o⟩],{ effF o with at_:=t.at_,text:=o.text }⟩
 else if o.kind=2 then .ok ⟨H.ents,t.rs,{ effF o with rs:=t.rs }⟩
 else if o.kind=4 then .ok ⟨(turnedF H i o).1,[],(turnedF H i o).2⟩
 else .ok ⟨H.ents,[],effF o⟩
def putF (H:Hist) (i:Int) (o:GOp):Hist×GOp×Int:=
 if fitsF H i o≠0 then (H,zeroOp,fitsF H i o)
 else if (crossF [o] (H.ops.drop i.toNat)).2.2≠0 then (H,zeroOp,(crossF [o] (H.ops.drop i.toNat)).2.2)
 else match midF H i.toNat o ((crossF [o] (H.ops.drop i.toNat)).1.headD zeroOp) with
  | .error e=>(H,zeroOp,e)
  | .ok m=>(⟨newEnts i.toNat o m.now m.es (crossF [o] (H.ops.drop i.toNat)).2.1,H.total+JC o⟩,m.eff,0)
theorem zipE_ops: ∀(xs:List GOp) (es:List Ent),xs.length=es.length→(zipE xs es).map (·.op)=xs
 | [],[],_=>rfl
 | x::xs,e::es,h=>by simp [zipE,zipE_ops xs es (by simpa using h)]
theorem Xi: ∀(xs:List GOp) (es:List Ent),xs.length=es.length→(zipE xs es).length=es.length
 | [],[],_=>rfl
 | x::xs,e::es,h=>by simp [zipE,Xi xs es (by simpa using h)]
theorem VK: ∀(es:List Ent) (ls:List (List Rg)) (k:Nat),(setNow es ls k).length=es.length
 | [],_,_=>by simp [setNow]
 | e::es,[],k=>by simp [setNow]
 | e::es,l::ls,0=>by simp [setNow]
 | e::es,l::ls,k+1=>by simp [setNow,VK es ls k]
theorem setNow_ops: ∀(es:List Ent) (ls:List (List Rg)) (k:Nat),(setNow es ls k).map (·.op)=es.map (·.op)
 | [],_,_=>by simp [setNow]
 | e::es,[],k=>by simp [setNow]
 | e::es,l::ls,0=>by simp [setNow]
 | e::es,l::ls,k+1=>by simp [setNow,setNow_ops es ls k]
theorem Xk (es:List Ent) (ls:List (List Rg)):setNow es ls 0=es:=by cases es<;>cases ls<;>rfl
theorem XS: ∀(es:List Ent) (ls:List (List Rg)) (k:Nat) (h:k<es.length),(setNow es ls k)[k]? =some es[k]
 | e::es,[],k,h=>by simp only [setNow];exact List.getElem?_eq_getElem h
 | e::es,l::ls,0,_=>by simp [setNow]
 | e::es,l::ls,k+1,h=>by simpa [setNow] using XS es ls k (by simpa using h)
theorem setNow_succ: ∀(es:List Ent) (ls:List (List Rg)) (k:Nat) (h:k<es.length) (h2:k<ls.length),setNow es ls (k+1)=(setNow es ls k).set k ⟨es[k].op,ls[k],es[k].off⟩
 | e::es,l::ls,0,_,_=>by simp [setNow,Xk]
 | e::es,l::ls,k+1,h,h2=>by
  have:=setNow_succ es ls k (by simpa using h) (by simpa using h2)
  simp only [setNow,List.set_cons_succ,List.getElem_cons_succ]
  rw [←this]
theorem Vk: ∀ {es:List Ent} {at_ n:Int} {ls:List (List Rg)},movedAll es at_ n= .ok ls→ls.length=es.length
 | [],_,_,ls,h=>by simp only [movedAll,Except.ok.injEq] at h;subst h;rfl
 | e::es,at_,n,ls,h=>by
  unfold movedAll at h
  split at h
  ·cases h
  ·cases hq:movedAll es at_ n with
   | error x=>rw [hq] at h;cases h
   | ok l=>rw [hq] at h;simp only [Except.ok.injEq] at h;subst h;simp [Vk hq]
theorem Xo: ∀ {es:List Ent} {at_ n:Int} {ls:List (List Rg)},movedAll es at_ n= .ok ls→ ∀l∈ls,l.length≤32768
 | [],_,_,ls,h,l,hl=>by simp only [movedAll,Except.ok.injEq] at h;subst h;cases hl
 | e::es,at_,n,ls,h,l,hl=>by
  unfold movedAll at h
  split at h
  ·cases h
  ·cases hq:movedAll es at_ n with
   | error x=>rw [hq] at h;cases h
   | ok r=>
    rw [hq] at h;simp only [Except.ok.injEq] at h;subst h
    rcases List.mem_cons.1 hl with rfl | hl
    ·exact En _ _ _
    ·exact Xo hq l hl
def marksG:List Ent→(Nat→Nat)→Nat→List Mark
 | [],_,_=> []
 | e::r,f,j=>markAt (f j) e::marksG r f (j+1)
theorem marksG_id: ∀(l:List Ent) (k:Nat),marksG l (fun j=>j) k=marksFrom l k
 | [],_=>rfl
 | e::r,k=>by simp [marksG,marksFrom,marksG_id r (k+1)]
theorem marksG_congr: ∀(l:List Ent) (f g:Nat→Nat) (k:Nat),(∀j,j<l.length→f (k+j)=g (k+j))→marksG l f k=marksG l g k
 | [],_,_,_,_=>rfl
 | e::r,f,g,k,h=>by
  have h0:=h 0 (by simp)
  simp only [Nat.add_zero] at h0
  simp only [marksG,h0]
  rw [marksG_congr r f g (k+1) fun j hj=>by have:=h (j+1) (by simpa using hj);rw [show k+1+j=k+(j+1) from by omega];exact this]
theorem QC: ∀(a b:List Ent) (f:Nat→Nat) (k:Nat),marksG (a++b) f k=marksG a f k++marksG b f (k+a.length)
 | [],b,f,k=>by simp [marksG]
 | e::a,b,f,k=>by
  simp only [List.cons_append,marksG,QC a b f (k+1),List.length_cons]
  rw [show k+1+a.length=k+(a.length+1) from by omega]
theorem VT: ∀(l:List Ent) (f:Nat→Nat) (k j:Nat) (e:Ent),l[j]? =some e→(marksG l f k)[j]? =some (markAt (f (k+j)) e)
 | [],_,_,j,e,h=>by simp at h
 | a::r,f,k,0,e,h=>by simp at h;subst h;simp [marksG]
 | a::r,f,k,j+1,e,h=>by
  have:=VT r f (k+1) j e (by simpa using h)
  simp only [marksG,List.getElem?_cons_succ,this]
  rw [show k+1+j=k+(j+1) from by omega]
theorem marksG_ids: ∀(l:List Ent) (f:Nat→Nat) (k:Nat),(marksG l f k).map (fun x=>(x.c,x.n))=l.map fun e=>(e.op.c,e.op.n)
 | [],_,_=>rfl
 | a::r,f,k=>by simp [marksG,markAt,marksG_ids r f (k+1)]
theorem X7: ∀(l:List Ent) (f:Nat→Nat) (k j v:Nat) (h:j<l.length),marksG l (fun q=>if q=k+j then v else f q) k=(marksG l f k).set j (markAt v l[j])
 | [],_,_,j,v,h=>by simp at h
 | a::r,f,k,0,v,h=>by
  simp only [marksG,List.set_cons_zero,Nat.add_zero,if_true,List.getElem_cons_zero]
  rw [marksG_congr r _ f (k+1) fun j _=>if_neg (by omega)]
 | a::r,f,k,j+1,v,h=>by
  have:=X7 r f (k+1) j v (by simpa using h)
  simp only [marksG,List.set_cons_succ,List.getElem_cons_succ,if_neg (by omega: ¬k=k+(j+1))]
  rw [show k+(j+1)=k+1+j from by omega,this]
structure HN (F:List Ent) (L:List MR) (f:Nat→Nat):Prop where
 perm:(L.map (·.mark)).Perm (marksG F f 0)
 ids:(F.map fun e=>(e.op.c,e.op.n)).Nodup
theorem HN.nodup {F:List Ent} {L:List MR} {f:Nat→Nat} (h:HN F L f):(L.map fun x=>(x.mark.c,x.mark.n)).Nodup:=by
 have h1:(L.map fun x=>(x.mark.c,x.mark.n))=(L.map (·.mark)).map fun x=>(x.c,x.n):=by simp [List.map_map,Function.comp_def]
 rw [h1,(h.perm.map _).nodup_iff,marksG_ids]
 exact h.ids
theorem HN.look {F:List Ent} {L:List MR} {f:Nat→Nat} (h:HN F L f) {k:Nat} (hk:k<F.length): ∃(j:Nat) (x:MR),L[j]? =some x∧x.mark=markAt (f k) F[k] ∧mGet (keys L) F[k].op.c F[k].op.n=some x.b:=by
 have h1:=VT F f 0 k _ (List.getElem?_eq_getElem hk)
 have h2:=(h.perm.mem_iff).2 (List.mem_of_getElem? h1)
 obtain ⟨x,hx,hm⟩:=List.mem_map.1 h2
 obtain ⟨j,hj,rfl⟩:=List.mem_iff_getElem.1 hx
 rw [Nat.zero_add] at hm
 refine ⟨j,L[j],List.getElem?_eq_getElem hj,hm,?_⟩
 have:=G9 h.nodup hx
 rw [hm] at this
 exact this
theorem HN.upd {F:List Ent} {L:List MR} {f:Nat→Nat} (h:HN F L f) {k j:Nat} (hk:k<F.length) {x:MR} (hj:L[j]? =some x) (hm:x.mark=markAt (f k) F[k]):HN F (L.set j ⟨markAt k F[k],x.b,x.A,x.cap⟩) (fun q=>if q=k then k else f q):=by
 refine ⟨?_,h.ids⟩
 have e:=X7 F f 0 k k hk
 simp only [Nat.zero_add] at e
 rw [List.map_set,e]
 refine set_perm h.perm (a:=markAt (f k) F[k]) ?_ ?_ _
 ·rw [List.getElem?_map,hj];simp [hm]
 ·have:=VT F f 0 k _ (List.getElem?_eq_getElem hk)
  rwa [Nat.zero_add] at this
def numF (i k j:Nat):Nat:=if j<k then j else if j≤i then j else j-1
theorem HN.next {F:List Ent} {L:List MR} {i k:Nat} (h:HN F L (fun q=>if q=k then k else numF i k q)):HN F L (numF i (k+1)):=by
 refine ⟨?_,h.ids⟩
 rw [marksG_congr F (numF i (k+1)) (fun q=>if q=k then k else numF i k q) 0 fun j _=> ?_]
 ·exact h.perm
 ·simp only [Nat.zero_add,numF]
  by_cases e:j=k
  ·subst e;simp
  ·rw [if_neg e]
   by_cases e2:j<k
   ·rw [if_pos e2,if_pos (by omega)]
   ·rw [if_neg e2,if_neg (by omega)]
theorem marksG_zipE: ∀(xs:List GOp) (es:List Ent) (f g:Nat→Nat) (k k':Nat),Sames (es.map (·.op)) xs→(∀j,j<es.length→f (k+j)=g (k'+j))→marksG (zipE xs es) f k=marksG es g k'
 | [],[],_,_,_,_,_,_=>rfl
 | x::xs,e::es,f,g,k,k',h,hf=>by
  cases h with
  | cons h hr=>
   have h0:=hf 0 (by simp)
   simp only [Nat.add_zero] at h0
   simp only [zipE,marksG,markAt,h0,h.c,h.n]
   congr 1
   exact marksG_zipE xs es f g (k+1) (k'+1) hr fun j hj=>by
    have:=hf (j+1) (by simpa using hj)
    rw [show k+1+j=k+(j+1) from by omega,show k'+1+j=k'+(j+1) from by omega];exact this
 | [],e::es,_,_,_,_,h,_=>by cases h
 | x::xs,[],_,_,_,_,h,_=>by cases h
theorem ids_zipE: ∀(xs:List GOp) (es:List Ent),Sames (es.map (·.op)) xs→(zipE xs es).map (fun e=>(e.op.c,e.op.n))=es.map fun e=>(e.op.c,e.op.n)
 | [],[],_=>rfl
 | x::xs,e::es,h=>by
  cases h with
  | cons h hr=>simp [zipE,h.c,h.n,ids_zipE xs es hr]
 | [],e::es,h=>by cases h
 | x::xs,[],h=>by cases h
theorem HN.start {es:List Ent} {L:List MR} {t:Int} (h:HR ⟨es,t⟩ L) {i:Nat} (hi:i≤es.length) {o:GOp} {nw:List Rg} {later:List GOp} (hs:Sames ((es.drop i).map (·.op)) later) (hn:J5 es o.c o.n=none) (b:Nat) (A:Option Addr) (c:Nat):
  HN (newEnts i o nw es later) (L++ [⟨markAt i ⟨o,nw,false⟩,b,A,c⟩]) (numF i i):=by
 have hlen:(es.take i).length=i:=by rw [List.length_take];omega
 constructor
 ·unfold newEnts
  rw [QC,hlen,List.map_append,Nat.zero_add]
  simp only [marksG,List.map_cons,List.map_nil]
  have e1:marksG (es.take i) (numF i i) 0=marksG (es.take i) (fun j=>j) 0:=marksG_congr _ _ _ _ fun j hj=>by rw [hlen] at hj;simp only [Nat.zero_add,numF,if_pos hj]
  have e2:marksG (zipE later (es.drop i)) (numF i i) (i+1)=marksG (es.drop i) (fun j=>j) i:=marksG_zipE _ _ _ _ _ _ hs fun j hj=>by
   simp only [numF];rw [if_neg (by omega),if_neg (by omega)];omega
  have e3:marksFrom es 0=marksG (es.take i) (fun j=>j) 0++marksG (es.drop i) (fun j=>j) i:=by
   rw [←marksG_id]
   conv=>lhs;rw [←List.take_append_drop i es]
   rw [QC,hlen,Nat.zero_add]
  have e4:numF i i i=i:=by simp [numF]
  rw [e1,e2,e4]
  have p1:=h.perm
  simp only at p1
  rw [e3] at p1
  refine (p1.append_right _).trans ?_
  rw [List.append_assoc]
  refine List.Perm.append_left _ ?_
  exact List.perm_append_comm
 ·have h1:=h.ids
  simp only at h1
  unfold newEnts
  rw [List.map_append,List.map_cons,ids_zipE _ _ hs]
  have e:(es.map fun e=>(e.op.c,e.op.n))=((es.take i).map fun e=>(e.op.c,e.op.n))++((es.drop i).map fun e=>(e.op.c,e.op.n)):=by rw [←List.map_append,List.take_append_drop]
  have hnot:(o.c,o.n)∉es.map fun e=>(e.op.c,e.op.n):=fun hm=>by
   obtain ⟨x,hx,hh⟩:=List.mem_map.1 hm
   simp only [Prod.mk.injEq] at hh
   exact K4 hn x hx hh
  have p:(((es.take i).map fun e=>(e.op.c,e.op.n))++(o.c,o.n)::((es.drop i).map fun e=>(e.op.c,e.op.n))).Perm ((o.c,o.n)::es.map fun e=>(e.op.c,e.op.n)):=by
   rw [e];exact List.perm_middle
  exact p.nodup_iff.2 (List.nodup_cons.2 ⟨hnot,h1⟩)
theorem HN.done {F:List Ent} {L:List MR} {i k:Nat} (h:HN F L (numF i k)) (hk: ¬k<F.length):(L.map (·.mark)).Perm (marksFrom F 0):=by
 have:=h.perm
 rw [marksG_congr F (numF i k) (fun j=>j) 0 fun j hj=>by simp only [Nat.zero_add,numF];rw [if_pos (by omega)],marksG_id] at this
 exact this
def rsl:De (List Rg):=De.sl rgD
theorem rsl_open (u:List Rg): ∀Z w cs,rsl.rep Z w u cs→ ∃y:Option Addr×Nat,cs= [.slice y.1 u.length y.2] ∧ ∀B∈ [RdF rgD y.1 y.2 u],B.holds Z w:=fun _ _ _ h=>by
 obtain ⟨A,c,h1,h2⟩:=h
 exact ⟨(A,c),h1,fun B hB=>by simp only [List.mem_singleton] at hB;subst hB;exact h2⟩
theorem crossOne {o:GOp} {ys:List GOp} (h:(crossF [o] ys).2.2=0): ∃t,(crossF [o] ys).1= [t] ∧Same o t:=by
 have h1:=(Xt h).1
 generalize (crossF [o] ys).1=q at h1
 cases h1 with
 | cons h hr=>cases hr;exact ⟨_,rfl,h⟩
theorem fits_0 {H:Hist} {i:Int} {o:GOp} (h:fitsF H i o=0):0≤i∧i≤H.ents.length∧J5 H.ents o.c o.n=none∧H.total+JC o≤1048576∧o.kind≠3∧1≤o.kind∧o.kind≤4∧checkF o (K2 H i.toNat)=0∧(o.kind=4→ ∃k,J5 H.ents o.tc o.tn=some k):=by
 unfold fitsF at h
 split at h
 ·cases h
 ·rename_i h1
  split at h
  ·rename_i h2;exact absurd h h2
  ·rename_i h2
   split at h
   ·cases h
   ·rename_i h3
    split at h
    ·cases h
    ·split at h
     ·cases h
     ·rename_i h5
      have hck:checkF o (K2 H i.toNat)=0:=by simpa using h2
      have hkind:1≤o.kind∧o.kind≤4:=by
       have hc:=hck
       unfold checkF at hc
       split at hc
       ·cases hc
       ·split at hc
        ·cases hc
        ·omega
      have hw:J5 H.ents o.c o.n=none:=by
       cases hq:J5 H.ents o.c o.n with
       | none=>rfl
       | some k=>rw [hq] at h5;simp at h5
      have hrest: ∀ {x:Int},fitsRest H o=0→H.total+JC o≤1048576:=fun h=>by
       unfold fitsRest at h
       split at h
       ·cases h
       ·omega
      split at h
      ·rename_i h6
       unfold fitsT at h
       cases hq:J5 H.ents o.tc o.tn with
       | none=>rw [hq] at h;cases h
       | some k=>
        rw [hq] at h
        simp only at h
        split at h
        ·cases h
        ·cases hq2:H.ents[k]? with
         | none=>rw [hq2] at h;cases h
         | some e=>
          rw [hq2] at h
          simp only at h
          split at h
          ·cases h
          ·exact ⟨by omega,by omega,hw,hrest (x:=0) h,h3,hkind.1,hkind.2,hck,fun _=>⟨k,O⟩⟩
      ·rename_i h6
       exact ⟨by omega,by omega,hw,hrest (x:=0) h,h3,hkind.1,hkind.2,hck,fun hh=>absurd hh h6⟩
theorem check_wid {o:GOp} {t:Int} (h:checkF o t=0):JC o≤256:=by
 unfold checkF at h
 split at h
 ·cases h
 ·split at h
  ·cases h
  ·split at h
   ·cases h
   ·split at h
    ·cases h
    ·split at h
     ·rename_i hk
      unfold insF at h
      split at h
      ·rename_i h1;exact absurd h h1
      ·split at h
       ·cases h
       ·split at h
        ·cases h
        ·unfold JC;rw [if_pos hk];omega
     ·rename_i hk
      unfold JC;rw [if_neg hk];omega
theorem newEnts_ops {i:Nat} {o:GOp} {nw:List Rg} {es:List Ent} {later:List GOp} (h:Sames ((es.drop i).map (·.op)) later):(newEnts i o nw es later).map (·.op)=(es.map (·.op)).take i++([o] ++later):=by
 unfold newEnts
 have hl:later.length=(es.drop i).length:=by rw [h.length];simp
 rw [List.map_append,List.map_cons,zipE_ops _ _ hl,List.map_take];rfl
theorem YT {i:Nat} {o:GOp} {nw:List Rg} {es:List Ent} {later:List GOp} {e:Ent} (h:Sames ((es.drop i).map (·.op)) later) (he:e∈newEnts i o nw es later):e∈es∨e=⟨o,nw,false⟩∨ ∃x∈es,∃y∈later,Same x.op y∧e=⟨y,x.now,x.off⟩:=by
 unfold newEnts at he
 rcases List.mem_append.1 he with he | he
 ·exact .inl (List.mem_of_mem_take he)
 ·rcases List.mem_cons.1 he with rfl | he
  ·exact .inr (.inl O)
  ·right;right
   have key: ∀(xs:List GOp) (l:List Ent),Sames (l.map (·.op)) xs→e∈zipE xs l→ ∃x∈l,∃y∈xs,Same x.op y∧e=⟨y,x.now,x.off⟩:=by
    intro xs
    induction xs with
    | nil=>intro l _ he;cases l<;>simp [zipE] at he
    | cons y xs ih=>
     intro l hs he
     cases l with
     | nil=>simp [zipE] at he
     | cons x l=>
      cases hs with
      | cons h1 h2=>
       unfold zipE at he
       rcases List.mem_cons.1 he with rfl | he
       ·exact ⟨x,List.mem_cons_self,y,List.mem_cons_self,h1,O⟩
       ·obtain ⟨x',hx,y',hy,hh⟩:=ih l h2 he
        exact ⟨x',List.mem_cons_of_mem _ hx,y',List.mem_cons_of_mem _ hy,hh⟩
   obtain ⟨x,hx,y,hy,hh⟩:=key later _ h he
   exact ⟨x,List.mem_of_mem_drop hx,y,hy,hh⟩
theorem Qr {i:Nat} {o:GOp} {nw:List Rg} {es:List Ent} {later:List GOp} (h:Sames ((es.drop i).map (·.op)) later) (hi:i≤es.length):(newEnts i o nw es later).length=es.length+1:=by
 unfold newEnts
 have hl:later.length=(es.drop i).length:=by rw [h.length];simp
 rw [List.length_append,List.length_cons,Xi _ _ hl,List.length_take,List.length_drop];omega
structure MidI (H:Hist) (i:Nat) (o t:GOp) (L:List MR) (es:List Ent) (L1:List MR) (nw:List Rg) (eff:GOp):Prop where
 hr:HR ⟨es,H.total⟩ L1
 keys:keys L1=keys L
 mid:midF H i o t= .ok ⟨es,nw,eff⟩
 ops:es.map (·.op)=H.ops
 now:nw.length≤8796093022208
def PuP (H:Hist) (i:Int) (o:GOp) (h m:Nat) (cap:Nat) (A:Option Addr) (L:List MR):Value→List Part→List Fact→Prop:=fun v Lo fs=>
 ∃(L':List MR) (A':Option Addr) (cap':Nat) (Ae:Option Addr) (ce:Nat),HR (putF H i o).1 L'∧v= .tuple #[opV (putF H i o).2.1 Ae ce, .int .i64 (putF H i o).2.2] ∧
  Lo= [hdP h A' (putF H i o).1.ops.length cap' m (putF H i o).1.total,mpP m L',mkP L'] ∧fs= [RdF rgD Ae ce (putF H i o).2.1.rs,RdF opD A' cap' (putF H i o).1.ops,AllF L' nowF]
theorem put_1 {H:Hist} {i:Int} {o:GOp} (h:fitsF H i o≠0):putF H i o=(H,zeroOp,fitsF H i o):=by unfold putF;rw [if_pos h]
theorem put_2 {H:Hist} {i:Int} {o:GOp} (h:fitsF H i o=0) (h2:(crossF [o] (H.ops.drop i.toNat)).2.2≠0):putF H i o=(H,zeroOp,(crossF [o] (H.ops.drop i.toNat)).2.2):=by unfold putF;rw [if_neg (by simpa using h),if_pos h2]
theorem put_3 {H:Hist} {i:Int} {o t:GOp} {e:Int} (h:fitsF H i o=0) (h2:(crossF [o] (H.ops.drop i.toNat)).2.2=0) (ht:(crossF [o] (H.ops.drop i.toNat)).1= [t]) (h3:midF H i.toNat o t= .error e):putF H i o=(H,zeroOp,e):=by
 unfold putF;rw [if_neg (by simpa using h),if_neg (by simpa using h2),ht];simp only [List.headD_cons,h3]
theorem put_4 {H:Hist} {i:Int} {o t:GOp} {es:List Ent} {nw:List Rg} {eff:GOp} (h:fitsF H i o=0) (h2:(crossF [o] (H.ops.drop i.toNat)).2.2=0) (ht:(crossF [o] (H.ops.drop i.toNat)).1= [t]) (h3:midF H i.toNat o t= .ok ⟨es,nw,eff⟩):putF H i o=(⟨newEnts i.toNat o nw es (crossF [o] (H.ops.drop i.toNat)).2.1,H.total+JC o⟩,eff,0):=by
 unfold putF;rw [if_neg (by simpa using h),if_neg (by simpa using h2),ht];simp only [List.headD_cons,h3]
theorem movedAll_ne: ∀ {es:List Ent} {at_ n:Int} {e:Int},movedAll es at_ n= .error e→e≠0
 | [],_,_,e,h=>by cases h
 | x::es,at_,n,e,h=>by
  unfold movedAll at h
  split at h
  ·rename_i h1;cases h;exact h1
  ·cases hq:movedAll es at_ n with
   | error y=>rw [hq] at h;cases h;exact movedAll_ne hq
   | ok l=>rw [hq] at h;cases h
theorem MidI.len {H:Hist} {i:Nat} {o t:GOp} {L L1:List MR} {es:List Ent} {nw:List Rg} {eff:GOp} (M:MidI H i o t L es L1 nw eff):es.length=H.ents.length:=by
 have:=congrArg List.length M.ops
 simpa [Hist.ops] using this
theorem HR.put {H:Hist} {i k:Nat} {o t:GOp} {L L1 Lk:List MR} {es:List Ent} {nw:List Rg} {eff:GOp} {later:List GOp} (M:MidI H i o t L es L1 nw eff) (hsl:Sames ((es.drop i).map (·.op)) later) (hfl: ∀y∈later,Fit y) (ho:Fit o) (hw:JC o≤256) (hlt:H.ents.length<1000000)
  (ht:H.total+JC o≤1048576) (hi:i≤H.ents.length) (hn:HN (newEnts i o nw es later) Lk (numF i k)) (hk: ¬k<(newEnts i o nw es later).length):HR ⟨newEnts i o nw es later,H.total+JC o⟩ Lk:=by
 have hl:=M.len
 refine ⟨hn.done hk,hn.ids,?_,?_,?_,?_,?_⟩
 ·intro e he
  rcases YT hsl he with he | rfl | ⟨x,hx,y,hy,hs,rfl⟩
  ·exact M.hr.fit e he
  ·exact ho
  ·exact hfl y hy
 ·intro e he
  rcases YT hsl he with he | rfl | ⟨x,hx,y,hy,hs,rfl⟩
  ·exact M.hr.wid e he
  ·exact hw
  ·show JC y≤256
   rw [hs.width];exact M.hr.wid x hx
 ·intro e he
  rcases YT hsl he with he | rfl | ⟨x,hx,y,hy,hs,rfl⟩
  ·exact M.hr.now e he
  ·exact M.now
  ·exact M.hr.now x hx
 ·show (newEnts i o nw es later).length≤1000000
  rw [Qr hsl (by omega)];omega
 ·have:=M.hr.tot
  have:=KF o
  show 0≤H.total+JC o∧H.total+JC o≤1048576
  simp only at *
  omega
def headF (o:GOp):Prop:= ¬(o.kind<1∨o.kind>4)∧ ¬((o.c≠0∨o.n≠0)∧rightF o.c o.n=false)∧ ¬extraF o=true
theorem check_ins {o:GOp} {w:Int} (hk:o.kind=1) (hw:0≤w∧w≤1048576):checkF o w=0↔headF o∧insF o w=0:=by
 unfold checkF headF
 rw [if_neg (by omega)]
 by_cases h1:o.kind<1∨o.kind>4
 ·omega
 ·by_cases h2:(o.c≠0∨o.n≠0)∧rightF o.c o.n=false
  ·rw [if_neg h1,if_pos h2];exact ⟨fun h=>(by cases h),fun h=>absurd h2 h.1.2.1⟩
  ·by_cases h3:extraF o=true
   ·rw [if_neg h1,if_neg h2,if_pos h3];exact ⟨fun h=>(by cases h),fun h=>absurd h3 h.1.2.2⟩
   ·rw [if_neg h1,if_neg h2,if_neg h3,if_pos hk];exact ⟨fun h=>⟨⟨h1,h2,h3⟩,h⟩,fun h=>h.2⟩
theorem check_cov {o:GOp} {w:Int} (hk:o.kind=2∨o.kind=3) (hw:0≤w∧w≤1048576):checkF o w=0↔headF o∧YZ o.rs w=0:=by
 unfold checkF headF
 rw [if_neg (by omega)]
 by_cases h1:o.kind<1∨o.kind>4
 ·omega
 ·by_cases h2:(o.c≠0∨o.n≠0)∧rightF o.c o.n=false
  ·rw [if_neg h1,if_pos h2];exact ⟨fun h=>(by cases h),fun h=>absurd h2 h.1.2.1⟩
  ·by_cases h3:extraF o=true
   ·rw [if_neg h1,if_neg h2,if_pos h3];exact ⟨fun h=>(by cases h),fun h=>absurd h3 h.1.2.2⟩
   ·rw [if_neg h1,if_neg h2,if_neg h3,if_neg (by omega),if_neg (by omega)];exact ⟨fun h=>⟨⟨h1,h2,h3⟩,h⟩,fun h=>h.2⟩
theorem check_st {o:GOp} {w:Int} (hk:o.kind=4) (hw:0≤w∧w≤1048576):checkF o w=0↔headF o∧rightF o.tc o.tn=true∧ ¬(o.tc=o.c∧o.tn=o.n):=by
 unfold checkF headF
 rw [if_neg (by omega)]
 by_cases h1:o.kind<1∨o.kind>4
 ·omega
 ·by_cases h2:(o.c≠0∨o.n≠0)∧rightF o.c o.n=false
  ·rw [if_neg h1,if_pos h2];exact ⟨fun h=>(by cases h),fun h=>absurd h2 h.1.2.1⟩
  ·by_cases h3:extraF o=true
   ·rw [if_neg h1,if_neg h2,if_pos h3];exact ⟨fun h=>(by cases h),fun h=>absurd h3 h.1.2.2⟩
   ·rw [if_neg h1,if_neg h2,if_neg h3,if_neg (by omega),if_pos hk]
    by_cases h4:rightF o.tc o.tn=false∨(o.tc=o.c∧o.tn=o.n)
    ·rw [if_pos h4]
     refine ⟨fun h=>(by cases h),fun h=> ?_⟩
     rcases h4 with h4 | h4
     ·rw [h4] at h;cases h.2.1
     ·exact absurd h4 h.2.2
    ·rw [if_neg h4]
     refine ⟨fun _=>⟨⟨h1,h2,h3⟩,?_,fun h=>h4 (.inr h)⟩,fun _=>O⟩
     cases hq:rightF o.tc o.tn with
     | true=>rfl
     | false=>exact absurd (.inl hq) h4
theorem Yr {o:GOp} {w:Int} :insF o w=0↔(utF o.text).2.2=0∧(1≤(utF o.text).1∧(utF o.text).1≤256)∧(0≤o.at_∧o.at_≤w)∧w+(utF o.text).1≤1048576:=by
 have h0:=Hc o.text
 unfold insF
 split
 ·rename_i h;exact ⟨fun h'=>absurd h' h,fun h'=>absurd h'.1 h⟩
 ·rename_i h
  split
  ·exact ⟨fun h=>(by cases h),fun h=>(by omega)⟩
  ·split
   ·exact ⟨fun h=>(by cases h),fun h=>(by omega)⟩
   ·split
    ·exact ⟨fun h=>(by cases h),fun h=>(by omega)⟩
    ·split
     ·exact ⟨fun h=>(by cases h),fun h=>(by omega)⟩
     ·exact ⟨fun _=>⟨by simpa using h,by omega,by omega,by omega⟩,fun _=>O⟩
theorem Hn: ∀ {b:Int} {xs:List Rg} {r:Rg},NormB b xs→xs.getLast? =some r→BelowR r.hi xs
 | b,[],r,_,h=>by cases h
 | b,[x],r,h,hl=>by
  simp at hl;subst hl
  intro y hy;simp only [List.mem_singleton] at hy;subst hy;exact Int.le_refl _
 | b,x::y::xs,r,h,hl=>by
  have h2:(y::xs).getLast? =some r:=by simpa [List.getLast?_cons_cons] using hl
  have ih:=Hn h.2.2 h2
  intro z hz
  rcases List.mem_cons.1 hz with rfl | hz
  ·have h3:=h.2.2.1
   have h4:=h.2.2.2.1
   have:=ih y List.mem_cons_self
   omega
  ·exact ih z hz
theorem Yz {xs:List Rg} {w:Int} (hw:0≤w∧w≤65535):YZ xs w=0↔xs≠ [] ∧Pls w xs:=by
 unfold YZ
 cases hl:xs.getLast? with
 | none=>
  simp only
  have:xs= [] :=List.getLast?_eq_none_iff.1 hl
  exact ⟨fun h=>(by cases h),fun h=>absurd this h.1⟩
 | some r=>
  simp only
  have hne:xs≠ [] :=fun e=>by rw [e] at hl;cases hl
  split
  ·rename_i h
   refine ⟨fun h'=>absurd h' h,fun h'=> ?_⟩
   exact absurd (h'.2.ck hw) h
  ·rename_i h
   have h':(ckF xs).2=0:=by simpa using h
   obtain ⟨g1,g2,g3⟩:=Gh.1 h'
   split
   ·refine ⟨fun h=>(by cases h),fun h2=> ?_⟩
    have:=h2.2.below r (List.mem_of_getLast? hl)
    omega
   ·exact ⟨fun _=>⟨hne,g2,(Hn g2 hl).mono (by omega)⟩,fun _=>O⟩
structure Right (w:Int) (o:GOp):Prop where
 ck:checkF o w=0
 kind:o.kind=1∨o.kind=2∨o.kind=4
theorem Right.head {w:Int} {o:GOp} (h:Right w o) (hw:0≤w∧w≤1048576):headF o:=by
 rcases h.kind with hk | hk | hk
 ·exact ((check_ins hk hw).1 h.ck).1
 ·exact ((check_cov (.inl hk) hw).1 h.ck).1
 ·exact ((check_st hk hw).1 h.ck).1
theorem Right.w0 {w:Int} {o:GOp} (h:Right w o):0≤w∧w≤1048576:=by
 have:=h.ck
 unfold checkF at this
 split at this
 ·cases this
 ·omega
theorem Right.width {w:Int} {o:GOp} (h:Right w o):0≤JC o∧JC o≤256∧(o.kind=1→1≤JC o∧JC o=(utF o.text).1)∧(o.kind≠1→JC o=0):=by
 have h1:=check_wid h.ck
 have h2:=KF o
 refine ⟨h2.1,h1,fun hk=> ?_,fun hk=>by unfold JC;rw [if_neg hk]⟩
 have h3:=Yr.1 ((check_ins hk h.w0).1 h.ck).2
 unfold JC
 rw [if_pos hk];omega
theorem Right.ins {w:Int} {o:GOp} (h:Right w o) (hk:o.kind=1):0≤o.at_∧o.at_≤w∧w+JC o≤1048576:=by
 have h3:=Yr.1 ((check_ins hk h.w0).1 h.ck).2
 have h4:=(h.width.2.2.1 hk).2
 omega
theorem Right.cov {w:Int} {o:GOp} (h:Right w o) (hk:o.kind=2) (hw:w≤65535):o.rs≠ [] ∧Pls w o.rs:=
 (Yz ⟨h.w0.1,hw⟩).1 ((check_cov (.inl hk) h.w0).1 h.ck).2
theorem Right.noRs {w:Int} {o:GOp} (h:Right w o) (hk:o.kind≠2):o.rs= [] :=by
 have hh:=(h.head h.w0).2.2
 unfold extraF at hh
 have h3:o.kind≠3:=by have:=h.kind;omega
 cases hr:o.rs with
 | nil=>rfl
 | cons r rs=>
  exfalso;apply hh
  simp [hr,hk,h3]
theorem Right.moved {w w' a:Int} {o:GOp} (h:Right w o) (hk:o.kind=1) (ha:0≤a∧a≤w') (hw:w'+JC o≤1048576):Right w' { o with at_:=a,rs:= [] } :=by
 have h0:=h.width
 have h1:=(check_ins hk h.w0).1 h.ck
 have h2:=Yr.1 h1.2
 have h4:=(h.width.2.2.1 hk).2
 refine ⟨(check_ins (o:= { o with at_:=a,rs:= [] }) hk (by omega)).2 ⟨?_,Yr.2 ⟨h2.1,h2.2.1,ha,by show w'+(utF o.text).1≤_;omega⟩⟩, .inl hk⟩
 obtain ⟨g1,g2,g3⟩:=h1.1
 refine ⟨g1,g2,fun h5=>g3 ?_⟩
 unfold extraF at h5 ⊢
 simp only [hk] at h5 ⊢
 simp at h5 ⊢
 exact .inr h5
theorem Right.ranged {w w':Int} {o:GOp} {l:List Rg} (h:Right w o) (hk:o.kind=2) (hl:l≠ []) (hp:Pls w' l) (hw:0≤w'∧w'≤65535):Right w' { o with rs:=l } :=by
 have h1:=(check_cov (.inl hk) h.w0).1 h.ck
 refine ⟨(check_cov (o:= { o with rs:=l }) (.inl hk) (by omega)).2 ⟨?_,(Yz hw).2 ⟨hl,hp⟩⟩, .inr (.inl hk)⟩
 obtain ⟨g1,g2,g3⟩:=h1.1
 refine ⟨g1,g2,fun h5=>g3 ?_⟩
 unfold extraF at h5 ⊢
 simp only [hk] at h5 ⊢
 simpa using h5
theorem Right.wider {w w':Int} {o:GOp} (h:Right w o) (hw:w≤w') (hw':w'+JC o≤65535):Right w' o:=by
 have h0:=h.w0
 have h9:=h.width
 refine ⟨?_,h.kind⟩
 rcases h.kind with hk | hk | hk
 ·have h1:=(check_ins hk h0).1 h.ck
  have h2:=Yr.1 h1.2
  have h4:=(h.width.2.2.1 hk).2
  exact (check_ins hk (by omega)).2 ⟨h1.1,Yr.2 ⟨h2.1,h2.2.1,by omega,by omega⟩⟩
 ·have h1:=h.cov hk (by omega)
  have h2:=(check_cov (.inl hk) h0).1 h.ck
  exact (check_cov (.inl hk) (by omega)).2 ⟨h2.1,(Yz (by omega)).2 ⟨h1.1,h1.2.norm,h1.2.below.mono hw⟩⟩
 ·have h1:=(check_st hk h0).1 h.ck
  exact (check_st hk (by omega)).2 h1
theorem Right.own {w:Int} {o:GOp} (h:Right w o) (hw:w≤65535):ownF o=0:=by
 have h0:=h.w0
 unfold ownF
 rcases h.kind with hk | hk | hk
 ·have h1:=(check_ins hk h0).1 h.ck
  have h2:=Yr.1 h1.2
  rw [if_pos (by omega)]
  exact (check_ins hk (by omega)).2 ⟨h1.1,Yr.2 ⟨h2.1,h2.2.1,by omega,by omega⟩⟩
 ·have h1:=h.cov hk hw
  have h2:=(check_cov (.inl hk) h0).1 h.ck
  rw [if_neg (by omega)]
  refine (check_cov (.inl hk) (by omega)).2 ⟨h2.1,?_⟩
  unfold YZ
  cases hl:o.rs.getLast? with
  | none=>exact absurd (List.getLast?_eq_none_iff.1 hl) h1.1
  | some r=>
   simp only
   rw [if_neg (by rw [h1.2.ck (by omega)];simp),if_neg (by have:=h1.2.below r (List.mem_of_getLast? hl);omega)]
 ·have h1:=(check_st hk h0).1 h.ck
  rw [if_neg (by omega)]
  exact (check_st hk (by omega)).2 h1
theorem Ga {w:Int} {a b:GOp} (e:Bool) (ha:Right w a) (hb:Right w b) (hc: ¬clashF a b) (hw:w+JC a+JC b≤65535):
  (JT a b e).2=0∧Right (w+JC b) (JT a b e).1:=by
 have h0:=ha.w0
 have hwa:=ha.width
 have hwb:=hb.width
 unfold JT
 rw [if_neg hc]
 split
 ·rename_i hk
  rw [hwb.2.2.2 hk,Int.add_zero]
  exact ⟨O,ha⟩
 ·rename_i hk
  have hk':b.kind=1:=by simpa using hk
  have hbi:=hb.ins hk'
  split
  ·rename_i hka
   have hai:=ha.ins hka
   split
   ·unfold movedF
    rw [if_neg (by omega)]
    exact ⟨O,ha.moved hka (by omega) (by omega)⟩
   ·exact ⟨O,ha.wider (by omega) (by omega)⟩
  ·rename_i hka
   split
   ·rename_i hk2
    have hk3:a.kind=2:=by have:=ha.kind;omega
    obtain ⟨g1,g2⟩:=ha.cov hk3 (by omega)
    obtain ⟨t1,t2,t3,t4⟩:=GV g2 h0.1 ⟨hbi.1,hbi.2.1⟩ hwb.1 (by omega)
    unfold rangedF
    rw [if_neg (by rw [t1];simp)]
    exact ⟨O,ha.ranged hk3 (fun h=>g1 (t4.2 h)) t2 (by omega)⟩
   ·exact ⟨O,ha.wider (by omega) (by omega)⟩
def CtxOk:Int→List GOp→Prop
 | _,[] =>True
 | w,o::r=>Right w o∧CtxOk (w+JC o) r
def sumO:List GOp→Int
 | [] =>0
 | o::r=>JC o+sumO r
theorem Qw: ∀(a b:List GOp),sumO (a++b)=sumO a+sumO b
 | [],b=>by simp [sumO]
 | o::a,b=>by simp [sumO,Qw a b];omega
theorem CtxOk.append: ∀ {w:Int} {a b:List GOp},CtxOk w (a++b)↔CtxOk w a∧CtxOk (w+sumO a) b
 | w,[],b=>by simp [CtxOk,sumO]
 | w,o::a,b=>by
  simp only [List.cons_append,CtxOk,sumO,CtxOk.append (a:=a),and_assoc]
  rw [show w+(JC o+sumO a)=w+JC o+sumO a from by omega]
theorem sumO_nonneg: ∀ {w:Int} {l:List GOp},CtxOk w l→0≤sumO l
 | _,[],_=>by simp [sumO]
 | w,o::r,h=>by have:=sumO_nonneg h.2;have:=h.1.width;simp only [sumO];omega
theorem CtxOk.owns: ∀ {w:Int} {l:List GOp},CtxOk w l→w+sumO l≤65535→ownsF l=0
 | _,[],_,_=>rfl
 | w,o::r,h,hw=>by
  have h1:=sumO_nonneg h.2
  have h2:=h.1.width
  simp only [sumO] at hw
  unfold ownsF
  rw [if_neg (by rw [h.1.own (by omega)];simp)]
  exact h.2.owns (by omega)
theorem Sames.sumO {a b:List GOp} (h:Sames a b):Proofs.YthkkklphanidjaaGreatDoor.sumO b=Proofs.YthkkklphanidjaaGreatDoor.sumO a:=by
 induction h with
 | nil=>rfl
 | cons h _ ih=>simp only [Proofs.YthkkklphanidjaaGreatDoor.sumO,ih,h.width]
def Kd (f:GOp):List GOp→GOp×List GOp
 | [] =>(f,[])
 | l::ls=>((Kd (JT f l false).1 ls).1,(JT l f true).1::(Kd (JT f l false).1 ls).2)
theorem clash_same {a a' b b':GOp} (ha:Same a a') (hb:Same b b'):clashF a' b'↔clashF a b:=by
 unfold clashF;rw [ha.c,ha.n,hb.c,hb.n]
theorem clash_comm {a b:GOp} :clashF a b↔clashF b a:=by
 unfold clashF;constructor<;>(rintro ⟨h1,h2,h3⟩;exact ⟨h1.symm,h2.symm,by rw [←h1,←h2];exact h3⟩)
theorem Gj: ∀(ls:List GOp) (f:GOp) (w:Int),Right w f→CtxOk w ls→(∀l∈ls,¬clashF f l)→w+sumO ls+JC f≤65535→
  crossOut [f] ls= .ok ([(Kd f ls).1],(Kd f ls).2)∧Right (w+sumO ls) (Kd f ls).1∧CtxOk (w+JC f) (Kd f ls).2∧Same f (Kd f ls).1∧Sames ls (Kd f ls).2
 | [],f,w,hf,_,_,_=>⟨rfl,by simpa [sumO,Kd] using hf,trivial,Same.refl f, .nil⟩
 | l::ls,f,w,hf,hl,hc,hw=>by
  simp only [sumO] at hw
  have h1:=sumO_nonneg hl.2
  have hc1: ¬clashF f l:=hc l List.mem_cons_self
  have hc2: ¬clashF l f:=fun h=>hc1 (clash_comm.1 h)
  obtain ⟨a1,a2⟩:=Ga false hf hl.1 hc1 (by omega)
  obtain ⟨b1,b2⟩:=Ga true hl.1 hf hc2 (by omega)
  have s1:=include_same a1
  have s2:=include_same b1
  obtain ⟨c1,c2,c3,c4,c5⟩:=Gj ls (JT f l false).1 (w+JC l) a2 hl.2 (fun x hx h=>hc x (List.mem_cons_of_mem _ hx) ((clash_same s1 (Same.refl x)).1 h)) (by rw [s1.width];omega)
  refine ⟨?_,?_,?_,s1.trans c4, .cons s2 c5⟩
  ·rw [Yw,Qu (by simpa using b1) (by simpa using a1)]
   simp only [crossIn,putIn,restOut,List.cons_append,List.nil_append,c1,Kd]
  ·simp only [sumO,Kd]
   rw [show w+(JC l+sumO ls)=w+JC l+sumO ls from by omega]
   exact c2
  ·simp only [Kd,CtxOk]
   refine ⟨b2,?_⟩
   rw [s2.width,show w+JC f+JC l=w+JC l+JC (JT f l false).1 from by rw [s1.width];omega]
   exact c3
theorem Zx {ls:List GOp} {f:GOp} {w:Int} (hf:Right w f) (hl:CtxOk w ls) (hc: ∀l∈ls,¬clashF f l) (hw:w+sumO ls+JC f≤65535):crossF [f] ls=([(Kd f ls).1],(Kd f ls).2,0):=by
 have h1:=sumO_nonneg hl
 have h2:=hf.width
 refine Ge ?_ (hl.owns (by omega)) (Gj ls f w hf hl hc hw).1
 unfold ownsF
 rw [if_neg (by rw [hf.own (by omega)];simp)];rfl
@[ext] structure Sm where
 tot:Int
 lv:Int
 ht:Int
 mn:Int
 am:Int
 mx:Int
deriving DecidableEq
def zeroSm:Sm:=⟨0,0,0,0,0,0⟩
inductive Tr where
 | nil:Tr
 | nd (s:Sm) (l:Tr) (rs:List Int) (hid:Int) (r:Tr) (plus:Int):Tr
def smC (s:Sm):List Value:= [.int .i64 s.tot, .int .i64 s.lv, .int .i64 s.ht, .int .i64 s.mn, .int .i64 s.am, .int .i64 s.mx]
def smV (s:Sm):Value:= .agg (smC s).toArray
abbrev runeD:De Int:=De.int .i32
def pcC (rs:List Int) (hid:Int) (A:Option Addr) (c:Nat):List Value:= [.slice A rs.length c, .int .i64 hid]
def pcV (rs:List Int) (hid:Int) (A:Option Addr) (c:Nat):Value:= .agg (pcC rs hid A c).toArray
def ndC (s:Sm) (Al Ar Ac:Option Addr) (rs:List Int) (c:Nat) (hid plus:Int):List Value:=
 [.int .i64 s.tot, .int .i64 s.lv, .int .i64 s.ht, .int .i64 s.mn, .int .i64 s.am, .int .i64 s.mx, .pointer Al, .pointer Ar, .slice Ac rs.length c, .int .i64 hid, .int .i64 plus]
def trRep (Z:Nat→Prop) (w:World):Tr→Option Addr→Prop
 | .nil,A=>A=none
 | .nd s l rs hid r plus,A=> ∃(b:Nat) (Al Ar Ac:Option Addr) (c:Nat),A=some ⟨b,0,none⟩∧Z b∧CellsAt w b 0 (ndC s Al Ar Ac rs c hid plus)∧trRep Z w l Al∧trRep Z w r Ar∧RdS runeD Z w Ac c rs
theorem trRep_stable {Z Z':Nat→Prop} {w w':World} (hz: ∀b,Z b→Z' b) (hh: ∀b,Z b→w'.heap[b]? =w.heap[b]?) (h1:w'.os=w.os) (h2:w'.tape=w.tape) (h3:w'.output=w.output): ∀(t:Tr) (A:Option Addr),trRep Z w t A→trRep Z' w' t A
 | .nil,A,h=>h
 | .nd s l rs hid r plus,A,⟨b,Al,Ar,Ac,c,e,g1,g2,g3,g4,g5⟩=>
  ⟨b,Al,Ar,Ac,c,e,hz _ g1,g2.keep (hh _ g1),trRep_stable hz hh h1 h2 h3 l Al g3,trRep_stable hz hh h1 h2 h3 r Ar g4,(RdF runeD Ac c rs).stable hz hh h1 h2 h3 g5⟩
def TrF (A:Option Addr) (t:Tr):Fact where
 holds Z w:=trRep Z w t A
 stable hz hh h1 h2 h3 h:=trRep_stable hz hh h1 h2 h3 t A h
section
variable {P:Program} {n:Dm} {R:Post} {l:Fr} {Ps Ps':List Part} {As:List Fact} {ops:Array Oper} {rest:List Oper}
theorem Ei {c:Code} {A:Option Addr} {s:Sm} {lt rt:Tr} {rs:List Int} {hid plus:Int} (hA:TrF A (.nd s lt rs hid rt plus)∈As)
  (h: ∀(b:Nat) (Al Ar Ac:Option Addr) (cc:Nat),A=some ⟨b,0,none⟩→WC P n c R l Ps (FzA b 0 (ndC s Al Ar Ac rs cc hid plus)::TrF Al lt::TrF Ar rt::RdF runeD Ac cc rs::As)):WC P n c R l Ps As:=
 fun Z w a hs ha=>by
  obtain ⟨b,Al,Ar,Ac,cc,e,g1,g2,g3,g4,g5⟩:trRep Z w (.nd s lt rs hid rt plus) A:=hs.facts _ hA
  refine h b Al Ar Ac cc e Z w a ?_ ha
  exact (((hs.addFact (A:=RdF runeD Ac cc rs) g5).addFact (A:=TrF Ar rt) g4).addFact (A:=TrF Al lt) g3).addFact (A:=FzA b 0 (ndC s Al Ar Ac rs cc hid plus)) ⟨g1,g2⟩
theorem VH {c:Code} {A:Option Addr} (hA:TrF A .nil∈As) (h:A=none→WC P n c R l Ps As):WC P n c R l Ps As:=
 fun Z w a hs ha=>h (hs.facts _ hA) Z w a hs ha
theorem stNode {Z:Nat→Prop} {w:World} {b:Nat} {s:Sm} {lt rt:Tr} {Al Ar Ac:Option Addr} {rs:List Int} {cc:Nat} {hid plus:Int} {T:TypeId} (hs:St Z w Ps As) (hp:DelAt Ps [(b,JD (ndC s Al Ar Ac rs cc hid plus) T)] Ps') (h1:TrF Al lt∈As) (h2:TrF Ar rt∈As) (h3:RdF runeD Ac cc rs∈As):
  ∃Z',St Z' w Ps' (TrF (some ⟨b,0,none⟩) (.nd s lt rs hid rt plus)::As):=by
 have h:=hs.permParts hp.perm
 have hb:w.heap[b]? =some (JD (ndC s Al Ar Ac rs cc hid plus) T):=(h.own (b,_) (by simp)).1
 have hf:=h.freeze
 refine ⟨_,hf.addFact (A:=TrF (some ⟨b,0,none⟩) (.nd s lt rs hid rt plus)) ⟨b,Al,Ar,Ac,cc,O, .inr ⟨_,List.mem_singleton.2 O⟩,⟨_,_,_,hb,fun j v hv=>by simpa using hv⟩,hf.facts _ h1,hf.facts _ h2,hf.facts _ h3⟩⟩
theorem Vc {b:Nat} {s:Sm} {lt rt:Tr} {Al Ar Ac:Option Addr} {rs:List Int} {cc:Nat} {hid plus:Int} {T:TypeId} (hp:DelAt Ps [(b,JD (ndC s Al Ar Ac rs cc hid plus) T)] Ps') (h1:TrF Al lt∈As) (h2:TrF Ar rt∈As) (h3:RdF runeD Ac cc rs∈As)
  (k:WL P n ops R rest l Ps' (TrF (some ⟨b,0,none⟩) (.nd s lt rs hid rt plus)::As)):WL P n ops R rest l Ps As:=fun Z w a hs ha=>by
 obtain ⟨Z',h⟩:=stNode hs hp h1 h2 h3
 exact k Z' w a h ha
end
def allF:Tr→Sm
 | .nil=>zeroSm
 | .nd s _ _ _ _ _=>s
def withF (s t:Sm):Sm:=
 if t.tot=0 then s else if s.tot=0 then t
 else ⟨s.tot+t.tot,s.lv+t.lv,0,min s.mn t.mn,(if s.mn=min s.mn t.mn then s.am else 0)+(if t.mn=min s.mn t.mn then t.am else 0),max s.mx t.mx⟩
def liftedF (s:Sm) (by':Int):Sm:=⟨s.tot,s.lv,s.ht,s.mn+by',s.am,s.mx+by'⟩
def knotF (l:Tr) (rs:List Int) (hid:Int) (r:Tr):Tr:=
 .nd ({ withF (withF (allF l) ⟨rs.length,1,0,hid,rs.length,hid⟩) (allF r) with ht:=1+max (allF l).ht (allF r).ht }) l rs hid r 0
def liftF (t:Tr) (by':Int):Tr:=match t with
 | .nil=> .nil
 | .nd s l rs hid r plus=>if liftedF s by'=s then t else .nd (liftedF s by') l rs hid r (plus+by')
abbrev Ce:=Int×Int
def cellsOf (rs:List Int) (hid:Int):List Ce:=rs.map fun c=>(c,hid)
def up (k:Int) (row:List Ce):List Ce:=row.map fun c=>(c.1,c.2+k)
def Tr.row:Tr→List Ce
 | .nil=> []
 | .nd _ l rs hid r plus=>up plus (l.row++(cellsOf rs hid++r.row))
def Tr.size:Tr→Nat
 | .nil=>0
 | .nd _ l _ _ r _=>l.size+r.size+1
def InR (row:List Ce):Prop:= ∀c∈row,0≤c.2∧c.2≤1048576
structure SumOf (s:Sm) (row:List Ce):Prop where
 tot:s.tot=row.length
 mnL: ∀c∈row,s.mn≤c.2
 mnI: ∃c∈row,c.2=s.mn
 am:s.am=(row.countP fun c=>c.2=s.mn)
 mxL: ∀c∈row,c.2≤s.mx
 mxI: ∃c∈row,c.2=s.mx
def Wf:Tr→Prop
 | .nil=>True
 | .nd s l rs hid r plus=>Wf l∧Wf r∧rs≠ [] ∧(0≤hid∧hid≤1048576)∧SumOf s (up plus (l.row++(cellsOf rs hid++r.row)))∧(1≤s.ht∧s.ht≤s.lv∧s.lv≤s.tot)∧InR (up plus (l.row++(cellsOf rs hid++r.row)))
theorem Xz (row:List Ce):up 0 row=row:=by unfold up;simp
theorem Gz (k:Int) (a b:List Ce):up k (a++b)=up k a++up k b:=by unfold up;simp
theorem up_up (k j:Int) (a:List Ce):up k (up j a)=up (j+k) a:=by unfold up;simp [Int.add_assoc]
theorem Qk (k:Int) (a:List Ce):(up k a).length=a.length:=by unfold up;simp
theorem up_cells (k:Int) (rs:List Int) (hid:Int):up k (cellsOf rs hid)=cellsOf rs (hid+k):=by unfold up cellsOf;simp
theorem Ju (rs:List Int) (hid:Int):(cellsOf rs hid).length=rs.length:=by unfold cellsOf;simp
theorem mem_up {k:Int} {a:List Ce} {c:Ce} :c∈up k a↔ ∃d∈a,c=(d.1,d.2+k):=by
 unfold up;simp only [List.mem_map];exact ⟨fun ⟨d,h,e⟩=>⟨d,h,e.symm⟩,fun ⟨d,h,e⟩=>⟨d,h,e.symm⟩⟩
theorem InR.append {a b:List Ce} :InR (a++b)↔InR a∧InR b:=by
 unfold InR;simp only [List.mem_append]
 exact ⟨fun h=>⟨fun c hc=>h c (.inl hc),fun c hc=>h c (.inr hc)⟩,fun h c hc=>hc.elim (h.1 c) (h.2 c)⟩
theorem SumOf.up {s:Sm} {row:List Ce} (h:SumOf s row) (k:Int):SumOf (liftedF s k) (up k row):=by
 obtain ⟨h1,h2,h3,h4,h5,h6⟩:=h
 refine ⟨by rw [Qk];exact h1,fun c hc=> ?_,?_,?_,fun c hc=> ?_,?_⟩
 ·obtain ⟨d,hd,rfl⟩:=mem_up.1 hc
  have:=h2 d hd
  show s.mn+k≤d.2+k;omega
 ·obtain ⟨d,hd,e⟩:=h3
  exact ⟨_,mem_up.2 ⟨d,hd,rfl⟩,by show d.2+k=s.mn+k;omega⟩
 ·show s.am=_
  rw [h4]
  unfold Proofs.YthkkklphanidjaaGreatDoor.up
  rw [List.countP_map]
  congr 2
  funext c
  simp only [Function.comp,liftedF]
  exact decide_eq_decide.2 (by omega)
 ·obtain ⟨d,hd,rfl⟩:=mem_up.1 hc
  have:=h5 d hd
  show d.2+k≤s.mx+k;omega
 ·obtain ⟨d,hd,e⟩:=h6
  exact ⟨_,mem_up.2 ⟨d,hd,rfl⟩,by show d.2+k=s.mx+k;omega⟩
theorem Vx (s:Sm) (l:Tr) (rs:List Int) (hid:Int) (r:Tr) (plus k:Int):liftF (.nd s l rs hid r plus) k=if liftedF s k=s then .nd s l rs hid r plus else .nd (liftedF s k) l rs hid r (plus+k):=rfl
theorem row_lift (t:Tr) (k:Int):(liftF t k).row=up k t.row:=by
 cases t with
 | nil=>rfl
 | nd s l rs hid r plus=>
  rw [Vx]
  split
  ·rename_i h
   have:k=0:=by
    have:=congrArg Sm.mn h
    simp only [liftedF] at this;omega
   subst this
   rw [Xz]
  ·simp only [Tr.row]
   rw [up_up]
theorem size_lift (t:Tr) (k:Int):(liftF t k).size=t.size:=by
 cases t with
 | nil=>rfl
 | nd s l rs hid r plus=>
  rw [Vx]
  split<;>rfl
theorem wf_lift {t:Tr} {k:Int} (h:Wf t) (hk:InR (up k t.row)):Wf (liftF t k):=by
 cases t with
 | nil=>trivial
 | nd s l rs hid r plus=>
  rw [Vx]
  split
  ·exact h
  ·obtain ⟨h1,h2,h3,h4,h5,h6,h7⟩:=h
   simp only [Tr.row,up_up] at hk
   refine ⟨h1,h2,h3,h4,?_,h6,hk⟩
   have:=h5.up k
   rwa [up_up] at this
theorem Wf.inR {t:Tr} (h:Wf t):InR t.row:=by
 cases t with
 | nil=>intro c hc;cases hc
 | nd s l rs hid r plus=>exact h.2.2.2.2.2.2
theorem Wf.tot {t:Tr} (h:Wf t):(allF t).tot=t.row.length:=by
 cases t with
 | nil=>rfl
 | nd s l rs hid r plus=>exact h.2.2.2.2.1.tot
theorem Wf.bd {t:Tr} (h:Wf t):0≤(allF t).ht∧(allF t).ht≤(allF t).lv∧(allF t).lv≤(allF t).tot∧(0≤(allF t).mn∧(allF t).mn≤1048576)∧(0≤(allF t).mx∧(allF t).mx≤1048576)∧(0≤(allF t).am∧(allF t).am≤(allF t).tot)∧((allF t).ht=0→t= .nil):=by
 cases t with
 | nil=>simp [allF,zeroSm]
 | nd s l rs hid r plus=>
  obtain ⟨h1,h2,h3,h4,h5,h6,h7⟩:=h
  obtain ⟨c,hc,e⟩:=h5.mnI
  obtain ⟨d,hd,e2⟩:=h5.mxI
  have g1:=h7 c hc
  have g2:=h7 d hd
  have g3:=List.countP_le_length (p:=fun c:Ce=>decide (c.2=s.mn)) (l:=up plus (l.row++(cellsOf rs hid++r.row)))
  have g4:=h5.tot
  have g5:=h5.am
  simp only [allF]
  refine ⟨by omega,h6.2.1,h6.2.2,by omega,by omega,by omega,by omega⟩
theorem Wf.sm40 {t:Tr} (h:Wf t) (hb:t.row.length≤1099511627776):(0≤(allF t).tot∧(allF t).tot≤1099511627776)∧(0≤(allF t).lv∧(allF t).lv≤1099511627776)∧(0≤(allF t).ht∧(allF t).ht≤1099511627776)∧(0≤(allF t).am∧(allF t).am≤1099511627776):=by
 have h1:=h.bd
 have h2:=h.tot
 omega
structure Opened (s:Sm) (l:Tr) (rs:List Int) (hid:Int) (r:Tr) (plus:Int):Prop where
 wl:Wf (liftF l plus)
 wr:Wf (liftF r plus)
 ne:rs≠ []
 hidB:0≤hid+plus∧hid+plus≤1048576
 plusB: -1048576≤plus∧plus≤1048576
 row:(Tr.nd s l rs hid r plus).row=(liftF l plus).row++(cellsOf rs (hid+plus)++(liftF r plus).row)
theorem Wf.opened {s:Sm} {l r:Tr} {rs:List Int} {hid plus:Int} (h:Wf (.nd s l rs hid r plus)):Opened s l rs hid r plus:=by
 obtain ⟨h1,h2,h3,h4,h5,h6,h7⟩:=h
 have hrow:up plus (l.row++(cellsOf rs hid++r.row))=(liftF l plus).row++(cellsOf rs (hid+plus)++(liftF r plus).row):=by
  rw [Gz,Gz,up_cells,row_lift,row_lift]
 rw [hrow] at h7
 obtain ⟨g1,g2⟩:=InR.append.1 h7
 obtain ⟨g2,g3⟩:=InR.append.1 g2
 obtain ⟨x,hx⟩:=List.exists_mem_of_ne_nil rs h3
 have hh:=g2 (x,hid+plus) (by unfold cellsOf;exact List.mem_map.2 ⟨x,hx,rfl⟩)
 simp only at hh
 exact ⟨wf_lift h1 (by rw [←row_lift];exact g1),wf_lift h2 (by rw [←row_lift];exact g3),h3,hh,by omega,hrow⟩
theorem Xu {row:List Ce} {m:Int} (h: ∀c∈row,m<c.2):(row.countP fun c=>c.2=m)=0:=by
 rw [List.countP_eq_zero]
 intro c hc
 have:=h c hc
 simp;omega
theorem sum_with {a b:Sm} {x y:List Ce} (ha:SumOf a x) (hb:SumOf b y):SumOf (withF a b) (x++y):=by
 obtain ⟨a1,a2,a3,a4,a5,a6⟩:=ha
 obtain ⟨b1,b2,b3,b4,b5,b6⟩:=hb
 have hx:x≠ [] :=by obtain ⟨c,hc,_⟩:=a3;exact List.ne_nil_of_mem hc
 have hy:y≠ [] :=by obtain ⟨c,hc,_⟩:=b3;exact List.ne_nil_of_mem hc
 have hx':=List.length_pos_iff.2 hx
 have hy':=List.length_pos_iff.2 hy
 unfold withF
 rw [if_neg (by omega),if_neg (by omega)]
 refine ⟨by simp only [List.length_append];omega,fun c hc=> ?_,?_,?_,fun c hc=> ?_,?_⟩
 ·simp only
  rcases List.mem_append.1 hc with hc | hc
  ·have:=a2 c hc;omega
  ·have:=b2 c hc;omega
 ·simp only
  obtain ⟨c,hc,e⟩:=a3
  obtain ⟨d,hd,f⟩:=b3
  rcases Int.le_total a.mn b.mn with h | h
  ·exact ⟨c,List.mem_append_left _ hc,by omega⟩
  ·exact ⟨d,List.mem_append_right _ hd,by omega⟩
 ·simp only
  rw [List.countP_append]
  rcases Int.lt_trichotomy a.mn b.mn with h | h | h
  ·have e1:min a.mn b.mn=a.mn:=by omega
   rw [e1,if_pos rfl,if_neg (by omega),Xu (row:=y) (m:=a.mn) (fun c hc=>by have:=b2 c hc;omega),a4]
   simp
  ·have e1:min a.mn b.mn=a.mn:=by omega
   rw [e1,if_pos rfl,if_pos h.symm,a4,b4,h]
   simp
  ·have e1:min a.mn b.mn=b.mn:=by omega
   rw [e1,if_neg (by omega),if_pos rfl,Xu (row:=x) (m:=b.mn) (fun c hc=>by have:=a2 c hc;omega),b4]
   simp
 ·simp only
  rcases List.mem_append.1 hc with hc | hc
  ·have:=a5 c hc;omega
  ·have:=b5 c hc;omega
 ·simp only
  obtain ⟨c,hc,e⟩:=a6
  obtain ⟨d,hd,f⟩:=b6
  rcases Int.le_total a.mx b.mx with h | h
  ·exact ⟨d,List.mem_append_right _ hd,by omega⟩
  ·exact ⟨c,List.mem_append_left _ hc,by omega⟩
theorem sum_ne {s:Sm} {row:List Ce} (h:SumOf s row):s.tot≠0:=by
 obtain ⟨c,hc,_⟩:=h.mnI
 have:=List.length_pos_of_mem hc
 have:=h.tot
 omega
theorem sum_ht {s:Sm} {row:List Ce} (k:Int) (h:SumOf s row):SumOf { s with ht:=k } row:=⟨h.tot,h.mnL,h.mnI,h.am,h.mxL,h.mxI⟩
theorem sum_own {rs:List Int} (hid:Int) (h:rs≠ []):SumOf ⟨rs.length,1,0,hid,rs.length,hid⟩ (cellsOf rs hid):=by
 obtain ⟨x,hx⟩:=List.exists_mem_of_ne_nil rs h
 have hm:(x,hid)∈cellsOf rs hid:=by unfold cellsOf;exact List.mem_map.2 ⟨x,hx,rfl⟩
 have ha: ∀c∈cellsOf rs hid,c.2=hid:=fun c hc=>by
  unfold cellsOf at hc
  obtain ⟨d,_,rfl⟩:=List.mem_map.1 hc
  rfl
 refine ⟨by simp [Ju],fun c hc=>by rw [ha c hc];exact Int.le_refl _,⟨_,hm,O⟩,?_,fun c hc=>by rw [ha c hc];exact Int.le_refl _,⟨_,hm,O⟩⟩
 simp only
 rw [List.countP_eq_length.2 (fun c hc=>by simp [ha c hc]),Ju]
theorem wf_sum {t:Tr} (h:Wf t) (ht:t≠ .nil):SumOf (allF t) t.row:=by
 cases t with
 | nil=>exact absurd rfl ht
 | nd s l rs hid r plus=>exact h.2.2.2.2.1
theorem wf_knot {l r:Tr} {rs:List Int} {hid:Int} (hl:Wf l) (hr:Wf r) (hn:rs≠ []) (hh:0≤hid∧hid≤1048576):Wf (knotF l rs hid r)∧(knotF l rs hid r).row=l.row++(cellsOf rs hid++r.row):=by
 have hrow:(knotF l rs hid r).row=l.row++(cellsOf rs hid++r.row):=by unfold knotF;simp only [Tr.row];rw [Xz]
 refine ⟨?_,hrow⟩
 have ho:=sum_own hid hn
 have hlb:=hl.bd
 have hrb:=hr.bd
 have hlt:=hl.tot
 have hrt:=hr.tot
 have ho1:=ho.tot
 have hnp:=List.length_pos_iff.2 hn
 have hins:InR (cellsOf rs hid):=fun c hc=>by
  unfold cellsOf at hc
  obtain ⟨d,_,rfl⟩:=List.mem_map.1 hc
  exact hh
 have hs:SumOf (withF (withF (allF l) ⟨rs.length,1,0,hid,rs.length,hid⟩) (allF r)) (l.row++(cellsOf rs hid++r.row))∧(withF (withF (allF l) ⟨rs.length,1,0,hid,rs.length,hid⟩) (allF r)).lv=(allF l).lv+1+(allF r).lv:=by
  have h1:SumOf (withF (allF l) ⟨rs.length,1,0,hid,rs.length,hid⟩) (l.row++cellsOf rs hid)∧(withF (allF l) ⟨rs.length,1,0,hid,rs.length,hid⟩).lv=(allF l).lv+1:=by
   cases l with
   | nil=>
    have e:withF (allF .nil) ⟨rs.length,1,0,hid,rs.length,hid⟩=⟨rs.length,1,0,hid,rs.length,hid⟩:=by
     unfold withF;rw [if_neg (by simp only;omega),if_pos (show (allF .nil).tot=0 from rfl)]
    rw [e];exact ⟨ho,rfl⟩
   | nd s l2 rs2 hid2 r2 plus2=>
    have g:=wf_sum hl (by simp)
    refine ⟨sum_with g ho,?_⟩
    unfold withF
    rw [if_neg (by simp only;omega),if_neg (sum_ne g)]
  rw [←List.append_assoc]
  cases r with
  | nil=>
   have e: ∀s,withF s (allF .nil)=s:=fun s=>by unfold withF;rw [if_pos (show (allF .nil).tot=0 from rfl)]
   rw [e]
   refine ⟨by simpa [Tr.row] using h1.1,by rw [h1.2];simp [allF,zeroSm]⟩
  | nd s l2 rs2 hid2 r2 plus2=>
   have g:=wf_sum hr (by simp)
   refine ⟨sum_with h1.1 g,?_⟩
   unfold withF
   rw [if_neg (sum_ne g)]
   have:=sum_ne h1.1
   unfold withF at this h1
   rw [if_neg this,h1.2]
 have htot:=hs.1.tot
 simp only [List.length_append,Ju] at htot
 unfold knotF
 refine ⟨hl,hr,hn,hh,?_,?_,?_⟩
 ·rw [Xz];exact sum_ht _ hs.1
 ·simp only;rw [hs.2,htot];omega
 ·rw [Xz];exact InR.append.2 ⟨hl.inR,InR.append.2 ⟨hins,hr.inR⟩⟩
def runesAt (s:ByteArray) (p:Nat):List Int:=
 if h:p<s.size then (Utf8.decode s p).1::runesAt s (p+(Utf8.decode s p).2) else []
 termination_by s.size-p
 decreasing_by
  have:=decode_pos s p
  omega
def KH (s:ByteArray):List Int:=runesAt s 0
theorem utAt_runes (s:ByteArray): ∀(m p k:Nat),s.size-p≤m→(utAt s p k).2.2=0→(utAt s p k).1=k+(runesAt s p).length
 | m,p,k,hm,h=>by
  by_cases hp:p<s.size
  ·by_cases h1:begF s p (Utf8.decode s p).1=false
   ·rw [utAt_utf8 hp h1] at h;cases h
   ·by_cases h2:letF (Utf8.decode s p).1=false
    ·rw [utAt_rune hp h1 h2] at h;cases h
    ·rw [utAt_next hp h1 h2] at h ⊢
     have h3:=decode_pos s p
     cases m with
     | zero=>omega
     | succ m=>
      have:=utAt_runes s m _ _ (by omega) h
      rw [this]
      conv=>rhs;rw [runesAt,dif_pos hp]
      simp only [List.length_cons];omega
  ·rw [utAt_end hp]
   rw [runesAt,dif_neg hp];simp
theorem Y5 {s:ByteArray} (h:(utF s).2.2=0):(utF s).1=(KH s).length:=by
 have:=utAt_runes s s.size 0 0 (by omega) h
 unfold utF KH;rw [this];simp
def inRb (q:Int) (xs:List Rg):Bool:=xs.any fun r=>decide (r.lo≤q) && decide (q<r.hi)
theorem YB {q:Int} {xs:List Rg} :inRb q xs=true↔memR q xs:=by
 unfold inRb memR;simp
theorem inRb_false {q:Int} {xs:List Rg} :inRb q xs=false↔ ¬memR q xs:=by
 rw [←YB];simp
def Vl (g:Rg) (k:Int) (row:List Ce):List Ce:=row.take g.lo.toNat ++(up k ((row.drop g.lo.toNat).take (g.hi-g.lo).toNat)++row.drop g.hi.toNat)
def K6 (rs:List Rg) (k:Int) (row:List Ce):List Ce:=rs.foldl (fun row g=>Vl g k row) row
theorem HP {g:Rg} {k:Int} {row:List Ce} (h0:0≤g.lo) (h1:g.lo<g.hi) (h2:g.hi≤row.length) (q:Nat):
  (Vl g k row)[q]? =row[q]?.map fun c=>if g.lo≤(q:Int)∧(q:Int)<g.hi then (c.1,c.2+k) else c:=by
 have e1:(row.take g.lo.toNat).length=g.lo.toNat:=by rw [List.length_take];omega
 have e2:(up k ((row.drop g.lo.toNat).take (g.hi-g.lo).toNat)).length=(g.hi-g.lo).toNat:=by rw [Qk,List.length_take,List.length_drop];omega
 unfold Vl
 by_cases c1:q<g.lo.toNat
 ·rw [List.getElem?_append_left (by omega),List.getElem?_take,if_pos c1]
  cases row[q]? with
  | none=>rfl
  | some c=>simp only [Option.map_some];rw [if_neg (by omega)]
 ·rw [List.getElem?_append_right (by omega),e1]
  by_cases c2:(q:Int)<g.hi
  ·rw [List.getElem?_append_left (by omega)]
   unfold up
   rw [List.getElem?_map,List.getElem?_take,if_pos (by omega),List.getElem?_drop,show g.lo.toNat +(q-g.lo.toNat)=q from by omega]
   cases row[q]? with
   | none=>rfl
   | some c=>simp only [Option.map_some];rw [if_pos (by omega)]
  ·rw [List.getElem?_append_right (by omega),e2,List.getElem?_drop,show g.hi.toNat +(q-g.lo.toNat - (g.hi-g.lo).toNat)=q from by omega]
   cases row[q]? with
   | none=>rfl
   | some c=>simp only [Option.map_some];rw [if_neg (by omega)]
theorem Eg {g:Rg} {k:Int} {row:List Ce} (h0:0≤g.lo) (h1:g.lo<g.hi) (h2:g.hi≤row.length):(Vl g k row).length=row.length:=by
 unfold Vl
 simp only [List.length_append,Qk,List.length_take,List.length_drop];omega
theorem YH {k:Int} : ∀(rs:List Rg) (b:Int) (row:List Ce),0≤b→NormB b rs→BelowR row.length rs→(K6 rs k row).length=row.length∧ ∀q:Nat,(K6 rs k row)[q]? =row[q]?.map fun c=>if inRb q rs=true then (c.1,c.2+k) else c
 | [],b,row,_,_,_=>⟨rfl,fun q=>by simp [K6,inRb]⟩
 | g::rs,b,row,hb,hn,ht=>by
  have h1:=hn.1
  have h2:=hn.2.1
  have h3:=ht g List.mem_cons_self
  have hl:=Eg (k:=k) (row:=row) (show 0≤g.lo by omega) h2 h3
  obtain ⟨g1,g2⟩:=YH rs (g.hi+1) (Vl g k row) (by omega) hn.2.2 (fun x hx=>by rw [hl];exact ht x (List.mem_cons_of_mem _ hx))
  refine ⟨by show (K6 rs k (Vl g k row)).length=_;rw [g1,hl],fun q=> ?_⟩
  show (K6 rs k (Vl g k row))[q]? =_
  rw [g2 q,HP (show 0≤g.lo by omega) h2 h3 q]
  cases row[q]? with
  | none=>rfl
  | some c=>
   simp only [Option.map_some]
   by_cases c1:g.lo≤(q:Int)∧(q:Int)<g.hi
   ·have c2:inRb q rs=false:=inRb_false.2 fun hm=>by have:=hn.2.2.below hm;omega
    have c3:inRb q (g::rs)=true:=YB.2 (Ql.2 (.inl c1))
    rw [if_pos c1,c2,c3];simp
   ·rw [if_neg c1]
    have c3:inRb q (g::rs)=inRb q rs:=by
     rw [Bool.eq_iff_iff,YB,YB,Ql]
     exact ⟨fun h=>h.elim (fun h=>absurd h c1) id, .inr⟩
    rw [c3]
def J6 (x:GOp) (row:List Ce):List Ce:=
 if x.kind=1 then row.take x.at_.toNat ++(cellsOf (KH x.text) 0++row.drop x.at_.toNat)
 else if x.kind=2 then K6 x.rs 1 row
 else if x.kind=3 then K6 x.rs (-1) row
 else row
structure HV (H:Hist):Prop where
 ctx:CtxOk 0 H.ops
 tot:H.total=sumO H.ops
 le:H.total≤60000
 pls: ∀e∈H.ents,Pls H.total e.now
 edit: ∀e∈H.ents,e.op.kind=4↔e.now= []
 idr: ∀e∈H.ents,rightF e.op.c e.op.n=true
 ids:(H.ents.map fun e=>(e.op.c,e.op.n)).Nodup
structure Good (H:Hist) (i:Nat) (o:GOp):Prop where
 le:i≤H.ents.length
 right:Right (K2 H i) o
 fresh:J5 H.ents o.c o.n=none
 idr:rightF o.c o.n=true
 target:o.kind=4→ ∃k,J5 H.ents o.tc o.tn=some k∧k<i∧ ∃e,H.ents[k]? =some e∧e.op.kind≠4
 room:H.total+JC o≤60000
theorem sumW_ops: ∀(l:List Ent),sumW l=sumO (l.map (·.op))
 | [] =>rfl
 | e::l=>by simp [sumW,sumO,sumW_ops l]
theorem before_ops (H:Hist) (i:Nat):K2 H i=sumO (H.ops.take i):=by
 unfold K2 Hist.ops
 rw [sumW_ops,List.map_take]
theorem HV.total0 {H:Hist} (h:HV H):0≤H.total:=by rw [h.tot];exact sumO_nonneg h.ctx
theorem HV.split {H:Hist} (h:HV H) (i:Nat):CtxOk 0 (H.ops.take i)∧CtxOk (K2 H i) (H.ops.drop i)∧K2 H i+sumO (H.ops.drop i)=H.total∧0≤K2 H i:=by
 have h1:=h.ctx
 rw [←List.take_append_drop i H.ops,CtxOk.append,Int.zero_add,←before_ops] at h1
 refine ⟨h1.1,h1.2,?_,by rw [before_ops];exact sumO_nonneg h1.1⟩
 rw [h.tot,before_ops,←Qw,List.take_append_drop]
theorem Good.noclash {H:Hist} {i:Nat} {o:GOp} (g:Good H i o): ∀l∈H.ops,¬clashF o l:=fun l hl hc=>by
 obtain ⟨e,he,rfl⟩:=List.mem_map.1 hl
 exact K4 g.fresh e he ⟨hc.1.symm,hc.2.1.symm⟩
theorem right_ne {c n:Int} (h:rightF c n=true): ¬(c=0∧n=0):=by
 unfold rightF at h;simp at h;omega
theorem fits_good {H:Hist} {i:Nat} {o:GOp} (g:Good H i o):fitsF H i o=0:=by
 have hk:=g.right.kind
 have hr:=g.room
 unfold fitsF
 rw [if_neg (by have:=g.le;omega),if_neg (by rw [Int.toNat_natCast,g.right.ck];simp),if_neg (by omega),if_neg (right_ne g.idr),if_neg (by rw [g.fresh];simp)]
 have hrest:fitsRest H o=0:=by unfold fitsRest;rw [if_neg (by omega)]
 split
 ·rename_i h4
  obtain ⟨k,hk1,hk2,e,he,hek⟩:=g.target h4
  unfold fitsT
  rw [hk1]
  simp only
  rw [if_neg (by omega),he]
  simp only
  rw [if_neg hek];exact hrest
 ·exact hrest
theorem cross_good {H:Hist} (h:HV H) {i:Nat} {o:GOp} (g:Good H i o):
  crossF [o] (H.ops.drop i)=([(Kd o (H.ops.drop i)).1],(Kd o (H.ops.drop i)).2,0)∧Right H.total (Kd o (H.ops.drop i)).1∧CtxOk (K2 H i+JC o) (Kd o (H.ops.drop i)).2∧Same o (Kd o (H.ops.drop i)).1∧Sames (H.ops.drop i) (Kd o (H.ops.drop i)).2:=by
 obtain ⟨h1,h2,h3,h4⟩:=h.split i
 have hc: ∀l∈H.ops.drop i,¬clashF o l:=fun l hl=>g.noclash l (List.mem_of_mem_drop hl)
 have hw:K2 H i+sumO (H.ops.drop i)+JC o≤65535:=by have:=g.room;omega
 obtain ⟨c1,c2,c3,c4,c5⟩:=Gj _ o _ g.right h2 hc hw
 exact ⟨Zx g.right h2 hc hw,by rw [←h3];exact c2,c3,c4,c5⟩
def shiftE (at_ n:Int) (e:Ent):Ent:=⟨e.op,(thrF e.now at_ n).1,e.off⟩
theorem Xn {T at_ n:Int} : ∀ {es:List Ent},(∀e∈es,(thrF e.now at_ n).2=0)→movedAll es at_ n= .ok (es.map fun e=>(thrF e.now at_ n).1)
 | [],_=>rfl
 | e::es,h=>by
  unfold movedAll
  rw [if_neg (by rw [h e List.mem_cons_self];simp),Xn (T:=T) fun x hx=>h x (List.mem_cons_of_mem _ hx)]
  rfl
theorem setNow_map {at_ n:Int} : ∀(es:List Ent),setNow es (es.map fun e=>(thrF e.now at_ n).1) es.length=es.map (shiftE at_ n)
 | [] =>rfl
 | e::es=>by simp only [List.map_cons,List.length_cons,setNow,setNow_map es];rfl
structure PutIs (H:Hist) (i:Nat) (o:GOp) (es:List Ent) (nw:List Rg) (eff:GOp):Prop where
 ins:o.kind=1→es=H.ents.map (shiftE (Kd o (H.ops.drop i)).1.at_ (JC o))∧nw= [⟨(Kd o (H.ops.drop i)).1.at_,(Kd o (H.ops.drop i)).1.at_+JC o⟩] ∧eff= { effF o with at_:=(Kd o (H.ops.drop i)).1.at_,text:=o.text }
 hide:o.kind=2→es=H.ents∧nw=(Kd o (H.ops.drop i)).1.rs∧eff= { effF o with rs:=(Kd o (H.ops.drop i)).1.rs }
 status:o.kind=4→es=(turnedF H i o).1∧nw= [] ∧eff=(turnedF H i o).2
 put:putF H i o=(⟨newEnts i o nw es (Kd o (H.ops.drop i)).2,H.total+JC o⟩,eff,0)
theorem turned_cases (H:Hist) (i:Nat) (o:GOp):turnedF H i o=(H.ents,zeroOp)∨ ∃k e,J5 H.ents o.tc o.tn=some k∧H.ents[k]? =some e∧e.off=o.on∧Qh (H.ents.drop i) o.tc o.tn=false∧turnedF H i o=(H.ents.set k (offE e (!o.on)),turnF e o.on):=by
 unfold turnedF
 split
 ·exact .inl O
 ·rename_i h1
  cases hw:J5 H.ents o.tc o.tn with
  | none=>exact .inl rfl
  | some k=>
   simp only
   cases he:H.ents[k]? with
   | none=>exact .inl rfl
   | some e=>
    simp only
    split
    ·exact .inl O
    ·rename_i h2
     refine .inr ⟨k,e,O,he,?_,by simpa using h1,O⟩
     cases h3:e.off<;>cases h4:o.on<;>simp_all
theorem put_good {H:Hist} (h:HV H) {i:Nat} {o:GOp} (g:Good H i o): ∃es nw eff,PutIs H i o es nw eff:=by
 obtain ⟨c1,c2,c3,c4,c5⟩:=cross_good h g
 have h0:=h.total0
 have hf:=fits_good g
 have hroom:=g.room
 have hwid:=g.right.width
 rcases g.right.kind with hk | hk | hk
 ·have hti:=c2.ins (c4.kind.trans hk)
  have hall: ∀e∈H.ents,(thrF e.now (Kd o (H.ops.drop i)).1.at_ (JC o)).2=0:=fun e he=>(GV (h.pls e he) h0 ⟨hti.1,hti.2.1⟩ hwid.1 (by omega)).1
  refine ⟨_,_,_,fun _=>⟨O,O,O⟩,fun e=>by omega,fun e=>by omega,?_⟩
  rw [put_4 (t:=(Kd o (H.ops.drop i)).1) hf (by rw [Int.toNat_natCast,c1]) (by rw [Int.toNat_natCast,c1]) (es:=H.ents.map (shiftE (Kd o (H.ops.drop i)).1.at_ (JC o))) (nw:= [⟨(Kd o (H.ops.drop i)).1.at_,(Kd o (H.ops.drop i)).1.at_+JC o⟩]) (eff:= { effF o with at_:=(Kd o (H.ops.drop i)).1.at_,text:=o.text }) ?_,Int.toNat_natCast,c1]
  unfold midF
  rw [if_pos hk,Xn (T:=H.total) hall]
  simp only
  rw [setNow_map]
 ·refine ⟨_,_,_,fun e=>by omega,fun _=>⟨O,O,O⟩,fun e=>by omega,?_⟩
  rw [put_4 (t:=(Kd o (H.ops.drop i)).1) hf (by rw [Int.toNat_natCast,c1]) (by rw [Int.toNat_natCast,c1]) (es:=H.ents) (nw:=(Kd o (H.ops.drop i)).1.rs) (eff:= { effF o with rs:=(Kd o (H.ops.drop i)).1.rs }) ?_,Int.toNat_natCast,c1]
  unfold midF
  rw [if_neg (by omega),if_pos hk]
 ·refine ⟨_,_,_,fun e=>by omega,fun e=>by omega,fun _=>⟨O,O,O⟩,?_⟩
  rw [put_4 (t:=(Kd o (H.ops.drop i)).1) hf (by rw [Int.toNat_natCast,c1]) (by rw [Int.toNat_natCast,c1]) (es:=(turnedF H i o).1) (nw:= []) (eff:=(turnedF H i o).2) ?_,Int.toNat_natCast,c1]
  unfold midF
  rw [if_neg (by omega),if_neg (by omega),if_pos hk,Int.toNat_natCast]
theorem PutIs.es_ops {H:Hist} {i:Nat} {o:GOp} {es:List Ent} {nw:List Rg} {eff:GOp} (g:Good H i o) (p:PutIs H i o es nw eff):es.map (·.op)=H.ops:=by
 rcases g.right.kind with hk | hk | hk
 ·rw [(p.ins hk).1];unfold Hist.ops;rw [List.map_map];rfl
 ·rw [(p.hide hk).1];rfl
 ·rw [(p.status hk).1]
  rcases turned_cases H i o with e | ⟨k,e,h1,h2,h3,h4,h5⟩
  ·rw [e];rfl
  ·rw [h5]
   have hk:k<H.ents.length:=by
    rcases Nat.lt_or_ge k H.ents.length with h | h
    ·exact h
    ·rw [List.getElem?_eq_none h] at h2;cases h2
   rw [List.getElem?_eq_getElem hk] at h2
   have:=Gb hk (offE e (!o.on)) (by rw [←Option.some.inj h2];rfl) H.total
   exact this
theorem PutIs.sames {H:Hist} (h:HV H) {i:Nat} {o:GOp} {es:List Ent} {nw:List Rg} {eff:GOp} (g:Good H i o) (p:PutIs H i o es nw eff):Sames ((es.drop i).map (·.op)) (Kd o (H.ops.drop i)).2:=by
 rw [List.map_drop,p.es_ops g]
 exact (cross_good h g).2.2.2.2
theorem PutIs.len {H:Hist} {i:Nat} {o:GOp} {es:List Ent} {nw:List Rg} {eff:GOp} (g:Good H i o) (p:PutIs H i o es nw eff):es.length=H.ents.length:=by
 have:=congrArg List.length (p.es_ops g)
 simpa [Hist.ops] using this
theorem PutIs.old {H:Hist} (h:HV H) {i:Nat} {o:GOp} {es:List Ent} {nw:List Rg} {eff:GOp} (g:Good H i o) (p:PutIs H i o es nw eff): ∀e∈es,∃x∈H.ents,e.op=x.op∧(e.now=x.now∨(o.kind=1∧e.now=(thrF x.now (Kd o (H.ops.drop i)).1.at_ (JC o)).1)):=by
 intro e he
 rcases g.right.kind with hk | hk | hk
 ·rw [(p.ins hk).1] at he
  obtain ⟨x,hx,rfl⟩:=List.mem_map.1 he
  exact ⟨x,hx,O, .inr ⟨hk,O⟩⟩
 ·rw [(p.hide hk).1] at he;exact ⟨e,he,rfl, .inl rfl⟩
 ·rw [(p.status hk).1] at he
  rcases turned_cases H i o with e' | ⟨k,e',h1,h2,h3,h4,h5⟩
  ·rw [e'] at he;exact ⟨e,he,rfl, .inl rfl⟩
  ·rw [h5] at he
   rcases List.mem_or_eq_of_mem_set he with he | rfl
   ·exact ⟨e,he,O, .inl O⟩
   ·exact ⟨e',List.mem_of_getElem? h2,O, .inl O⟩
theorem put_hv {H:Hist} (h:HV H) {i:Nat} {o:GOp} {es:List Ent} {nw:List Rg} {eff:GOp} (g:Good H i o) (p:PutIs H i o es nw eff):HV ⟨newEnts i o nw es (Kd o (H.ops.drop i)).2,H.total+JC o⟩:=by
 obtain ⟨c1,c2,c3,c4,c5⟩:=cross_good h g
 obtain ⟨s1,s2,s3,s4⟩:=h.split i
 have h0:=h.total0
 have hs:=p.sames h g
 have hops:(⟨newEnts i o nw es (Kd o (H.ops.drop i)).2,H.total+JC o⟩:Hist).ops=H.ops.take i++([o] ++(Kd o (H.ops.drop i)).2):=by
  show (newEnts i o nw es (Kd o (H.ops.drop i)).2).map (·.op)=_
  rw [newEnts_ops hs,p.es_ops g]
 have hroom:=g.room
 have hwid:=g.right.width
 have hpl: ∀x∈H.ents,∀e:Ent,e.op=x.op∧(e.now=x.now∨(o.kind=1∧e.now=(thrF x.now (Kd o (H.ops.drop i)).1.at_ (JC o)).1))→Pls (H.total+JC o) e.now∧(x.op.kind=4↔e.now= []):=by
  intro x hx e he
  have hpx:=h.pls x hx
  rcases he.2 with e1 | ⟨hk,e1⟩
  ·rw [e1]
   refine ⟨⟨hpx.norm,hpx.below.mono (by omega)⟩,h.edit x hx⟩
  ·have hti:=c2.ins (c4.kind.trans hk)
   obtain ⟨t1,t2,t3,t4⟩:=GV hpx h0 ⟨hti.1,hti.2.1⟩ hwid.1 (by omega)
   rw [e1]
   exact ⟨t2,(h.edit x hx).trans t4⟩
 have hnew:Pls (H.total+JC o) nw∧(o.kind=4↔nw= []):=by
  rcases g.right.kind with hk | hk | hk
  ·have hti:=c2.ins (c4.kind.trans hk)
   have h1:=(hwid.2.2.1 hk).1
   rw [(p.ins hk).2.1]
   refine ⟨⟨⟨hti.1,by dsimp only;omega,trivial⟩,fun r hr=> ?_⟩,by simp [hk]⟩
   simp only [List.mem_singleton] at hr;subst hr
   dsimp only;omega
  ·obtain ⟨t1,t2⟩:=c2.cov (c4.kind.trans hk) (by omega)
   rw [(p.hide hk).2.1]
   refine ⟨⟨t2.norm,t2.below.mono (by omega)⟩,by rw [hk];exact ⟨fun e=>by omega,fun e=>absurd e t1⟩⟩
  ·rw [(p.status hk).2.1]
   exact ⟨⟨trivial,fun r hr=>by cases hr⟩,by simp [hk]⟩
 refine ⟨?_,?_,hroom,?_,?_,?_,?_⟩
 ·rw [hops,CtxOk.append,Int.zero_add,←before_ops]
  refine ⟨s1,g.right,?_⟩
  exact c3
 ·rw [hops,Qw,←before_ops,Qw]
  simp only [sumO]
  rw [c5.sumO];omega
 ·intro e he
  show Pls (H.total+JC o) e.now
  rcases YT hs he with he | rfl | ⟨x,hx,y,hy,hsm,rfl⟩
  ·obtain ⟨x,hx,hh⟩:=p.old h g e he
   exact (hpl x hx e hh).1
  ·exact hnew.1
  ·obtain ⟨z,hz,hh⟩:=p.old h g x hx
   exact (hpl z hz x hh).1
 ·intro e he
  rcases YT hs he with he | rfl | ⟨x,hx,y,hy,hsm,rfl⟩
  ·obtain ⟨x,hx,hh⟩:=p.old h g e he
   rw [hh.1];exact (hpl x hx e hh).2
  ·exact hnew.2
  ·obtain ⟨z,hz,hh⟩:=p.old h g x hx
   show y.kind=4↔x.now= []
   rw [hsm.kind,hh.1];exact (hpl z hz x hh).2
 ·intro e he
  rcases YT hs he with he | rfl | ⟨x,hx,y,hy,hsm,rfl⟩
  ·obtain ⟨x,hx,hh⟩:=p.old h g e he
   rw [hh.1];exact h.idr x hx
  ·exact g.idr
  ·obtain ⟨z,hz,hh⟩:=p.old h g x hx
   show rightF y.c y.n=true
   rw [hsm.c,hsm.n,hh.1];exact h.idr z hz
 ·show ((newEnts i o nw es (Kd o (H.ops.drop i)).2).map fun e=>(e.op.c,e.op.n)).Nodup
  have e0:(es.map fun e=>(e.op.c,e.op.n))=H.ents.map fun e=>(e.op.c,e.op.n):=by
   have:=congrArg (List.map fun x:GOp=>(x.c,x.n)) (p.es_ops g)
   unfold Hist.ops at this
   rw [List.map_map,List.map_map] at this
   exact this
  unfold newEnts
  rw [List.map_append,List.map_cons,ids_zipE _ _ hs]
  have e:(es.map fun e=>(e.op.c,e.op.n))=((es.take i).map fun e=>(e.op.c,e.op.n))++((es.drop i).map fun e=>(e.op.c,e.op.n)):=by rw [←List.map_append,List.take_append_drop]
  have hnot:(o.c,o.n)∉es.map fun e=>(e.op.c,e.op.n):=fun hm=>by
   rw [e0] at hm
   obtain ⟨x,hx,hh⟩:=List.mem_map.1 hm
   simp only [Prod.mk.injEq] at hh
   exact K4 g.fresh x hx hh
  have pp:(((es.take i).map fun e=>(e.op.c,e.op.n))++(o.c,o.n)::((es.drop i).map fun e=>(e.op.c,e.op.n))).Perm ((o.c,o.n)::es.map fun e=>(e.op.c,e.op.n)):=by
   rw [e];exact List.perm_middle
  exact pp.nodup_iff.2 (List.nodup_cons.2 ⟨hnot,by rw [e0];exact h.ids⟩)
def hidE (e:Ent):Bool:=(decide (e.op.kind=1) && e.off) || (decide (e.op.kind=2) && !e.off)
def cnt (es:List Ent) (q:Int):Nat:=es.countP fun e=>hidE e && inRb q e.now
structure Rule (H:Hist) (row:List Ce):Prop where
 len:(row.length:Int)=H.total
 cnt: ∀(q:Nat) c,row[q]? =some c→c.2=cnt H.ents q
structure EffOk (x:GOp) (row:List Ce):Prop where
 ck:checkF x row.length=0
 kind:x.kind=1∨x.kind=2∨x.kind=3
 up:x.kind=2→ ∀(q:Nat) c,row[q]? =some c→inRb q x.rs=true→c.2<1048576
 dn:x.kind=3→ ∀(q:Nat) c,row[q]? =some c→inRb q x.rs=true→1≤c.2
theorem hidE_off (e:Ent) (b:Bool):hidE (offE e b)=((decide (e.op.kind=1) && b) || (decide (e.op.kind=2) && !b)):=rfl
theorem emptyB:((⟨#[]⟩:ByteArray)==⟨#[]⟩)=true:=by decide
theorem Gg (a b:List Ent) (q:Int):cnt (a++b) q=cnt a q+cnt b q:=by unfold cnt;rw [List.countP_append]
theorem QK (e:Ent) (b:List Ent) (q:Int):cnt (e::b) q=cnt b q+(if (hidE e && inRb q e.now)=true then 1 else 0):=by unfold cnt;rw [List.countP_cons]
theorem cnt_zipE (q:Int): ∀(xs:List GOp) (es:List Ent),Sames (es.map (·.op)) xs→cnt (zipE xs es) q=cnt es q
 | [],[],_=>rfl
 | x::xs,e::es,h=>by
  cases h with
  | cons h hr=>
   unfold zipE
   rw [QK,QK,cnt_zipE q xs es hr]
   have:hidE ⟨x,e.now,e.off⟩=hidE e:=by unfold hidE;simp only [h.kind]
   rw [this]
 | [],e::es,h=>by cases h
 | x::xs,[],h=>by cases h
theorem cnt_new (q:Int) {i:Nat} {o:GOp} {nw:List Rg} {es:List Ent} {later:List GOp} (h:Sames ((es.drop i).map (·.op)) later):cnt (newEnts i o nw es later) q=cnt es q+(if (decide (o.kind=2) && inRb q nw)=true then 1 else 0):=by
 unfold newEnts
 rw [Gg,QK,cnt_zipE q _ _ h]
 have e1:hidE ⟨o,nw,false⟩=decide (o.kind=2):=by unfold hidE;simp
 rw [e1]
 conv=>rhs;rw [←List.take_append_drop i es,Gg]
 simp only
 omega
theorem Zz (es:List Ent) (q:Int):cnt es q≤es.length:=List.countP_le_length
theorem cnt_shift {T at_ n:Int} (q:Int) (ha:0≤at_∧at_≤T) (hn:0≤n) (hs:T+n≤65535): ∀(es:List Ent),(∀e∈es,Pls T e.now)→cnt (es.map (shiftE at_ n)) q=if q<at_ then cnt es q else if q<at_+n then 0 else cnt es (q-n)
 | [],_=>by simp [cnt]
 | e::es,h=>by
  have ih:=cnt_shift q ha hn hs es fun x hx=>h x (List.mem_cons_of_mem _ hx)
  obtain ⟨t1,t2,t3,t4⟩:=GV (h e List.mem_cons_self) (by omega) ha hn hs
  rw [List.map_cons,QK,ih]
  have e1:hidE (shiftE at_ n e)=hidE e:=rfl
  have e2:inRb q (shiftE at_ n e).now=if q<at_ then inRb q e.now else if q<at_+n then false else inRb (q-n) e.now:=by
   rw [Bool.eq_iff_iff]
   have:=t3 q
   rw [show (inRb q (shiftE at_ n e).now=true)↔memR q (thrF e.now at_ n).1 from YB,this]
   by_cases c1:q<at_
   ·rw [if_pos c1,YB]
    constructor
    ·rintro (h | h)
     ·exact h.2
     ·omega
    ·intro h;exact .inl ⟨c1,h⟩
   ·rw [if_neg c1]
    by_cases c2:q<at_+n
    ·rw [if_pos c2]
     constructor
     ·rintro (h | h)<;>omega
     ·intro h;cases h
    ·rw [if_neg c2,YB]
     constructor
     ·rintro (h | h)
      ·omega
      ·exact h.2
     ·intro h;exact .inr ⟨by omega,h⟩
  rw [e1,e2]
  by_cases c1:q<at_
  ·simp only [if_pos c1];rw [QK]
  ·by_cases c2:q<at_+n
   ·simp only [if_neg c1,if_pos c2];simp
   ·simp only [if_neg c1,if_neg c2];rw [QK]
theorem effHead {x:GOp} (hk:x.kind=1∨x.kind=2∨x.kind=3) (hc:x.c=0) (hn:x.n=0) (he:extraF x=false):headF x:=by
 refine ⟨by omega,fun h=> ?_,by rw [he];simp⟩
 omega
theorem runes_width {w:Int} {o:GOp} (h:Right w o) (hk:o.kind=1):((KH o.text).length:Int)=JC o:=by
 have h3:=Yr.1 ((check_ins hk h.w0).1 h.ck).2
 rw [(h.width.2.2.1 hk).2,Y5 h3.1]
theorem put_row {H:Hist} (h:HV H) {i:Nat} {o:GOp} {es:List Ent} {nw:List Rg} {eff:GOp} (g:Good H i o) (p:PutIs H i o es nw eff) {row:List Ce} (hr:Rule H row) (hl:H.ents.length≤9000):
  (eff.kind≠0→EffOk eff row)∧(eff.kind=0→eff=zeroOp∧o.kind=4)∧Rule ⟨newEnts i o nw es (Kd o (H.ops.drop i)).2,H.total+JC o⟩ (J6 eff row):=by
 obtain ⟨c1,c2,c3,c4,c5⟩:=cross_good h g
 have h0:=h.total0
 have hs:=p.sames h g
 have hroom:=g.room
 have hwid:=g.right.width
 have hlen:=hr.len
 rcases g.right.kind with hk | hk | hk
 ·obtain ⟨e1,e2,e3⟩:=p.ins hk
  have hti:=c2.ins (c4.kind.trans hk)
  have hw2:JC (Kd o (H.ops.drop i)).1=JC o:=c4.width
  have hins:=Yr.1 ((check_ins hk g.right.w0).1 g.right.ck).2
  have hwk:=(hwid.2.2.1 hk).2
  have hrun:=runes_width g.right hk
  generalize hta:(Kd o (H.ops.drop i)).1.at_=ta at *
  have hek:eff.kind=1:=by rw [e3];exact hk
  refine ⟨fun _=>⟨?_, .inl hek,fun e=>by omega,fun e=>by omega⟩,fun e=>by omega,?_,?_⟩
  ·rw [e3]
   refine (check_ins (o:= { effF o with at_:=ta,text:=o.text }) hk (by omega)).2 ⟨effHead (.inl hk) rfl rfl ?_,Yr.2 ⟨hins.1,hins.2.1,by show 0≤ta∧ta≤_;omega,by show _+(utF o.text).1≤_;omega⟩⟩
   simp [extraF,effF,zeroOp,hk,emptyB]
  ·unfold J6
   rw [if_pos hek,e3]
   simp only [List.length_append,List.length_take,List.length_drop,Ju]
   omega
  ·intro q c hq
   show c.2=(cnt (newEnts i o nw es (Kd o (H.ops.drop i)).2) q:Nat)
   rw [cnt_new q hs,e1,cnt_shift (T:=H.total) q ⟨hti.1,hti.2.1⟩ hwid.1 (by omega) H.ents h.pls]
   simp only [hk,show ((1:Int)=2)=False from by simp,decide_false,Bool.false_and,Bool.false_eq_true,if_false,Nat.add_zero]
   unfold J6 at hq
   rw [if_pos hek,e3] at hq
   simp only at hq
   have el1:(row.take ta.toNat).length=ta.toNat:=by rw [List.length_take];omega
   by_cases d1:(q:Int)<ta
   ·rw [List.getElem?_append_left (by omega),List.getElem?_take,if_pos (by omega)] at hq
    rw [if_pos d1];exact hr.cnt q c hq
   ·rw [List.getElem?_append_right (by omega),el1] at hq
    rw [if_neg d1]
    by_cases d2:(q:Int)<ta+JC o
    ·rw [List.getElem?_append_left (by rw [Ju];omega)] at hq
     rw [if_pos d2]
     unfold cellsOf at hq
     rw [List.getElem?_map] at hq
     cases hx:(KH o.text)[q-ta.toNat]? with
     | none=>rw [hx] at hq;cases hq
     | some x=>rw [hx] at hq;simp only [Option.map_some,Option.some.injEq] at hq;subst hq;rfl
    ·rw [List.getElem?_append_right (by rw [Ju];omega),Ju,List.getElem?_drop] at hq
     rw [if_neg d2]
     have:=hr.cnt _ c hq
     rw [this]
     congr 2
     omega
 ·obtain ⟨e1,e2,e3⟩:=p.hide hk
  obtain ⟨t1,t2⟩:=c2.cov (c4.kind.trans hk) (by omega)
  generalize htr:(Kd o (H.ops.drop i)).1.rs=tr at *
  have hek:eff.kind=2:=by rw [e3];exact hk
  have hers:eff.rs=tr:=by rw [e3]
  have hget:=YH (k:=1) tr 0 row (Int.le_refl _) t2.norm (by rw [hlen];exact t2.below)
  have happ:J6 eff row=K6 tr 1 row:=by unfold J6;rw [if_neg (by omega),if_pos hek,hers]
  refine ⟨fun _=>⟨?_, .inr (.inl hek),fun _ q c hq _=> ?_,fun e=>by omega⟩,fun e=>by omega,?_,?_⟩
  ·rw [e3]
   refine (check_cov (o:= { effF o with rs:=tr }) (.inl hk) (by omega)).2 ⟨effHead (.inr (.inl hk)) rfl rfl ?_,(Yz (by omega)).2 ⟨t1,by rw [hlen];exact t2⟩⟩
   simp [extraF,effF,zeroOp,hk,emptyB]
  ·have:=hr.cnt q c hq
   have:=Zz H.ents q
   omega
  ·rw [happ,hget.1,hlen,hwid.2.2.2 (by omega)];simp
  ·intro q c hq
   show c.2=(cnt (newEnts i o nw es (Kd o (H.ops.drop i)).2) q:Nat)
   rw [cnt_new q hs,e1,e2]
   rw [happ,hget.2 q] at hq
   cases hx:row[q]? with
   | none=>rw [hx] at hq;cases hq
   | some d=>
    rw [hx] at hq
    simp only [Option.map_some,Option.some.injEq] at hq
    have:=hr.cnt q d hx
    subst hq
    simp only [hk,decide_true,Bool.true_and]
    by_cases hb:inRb q tr=true
    ·simp only [hb,if_true];omega
    ·simp only [hb];simpa using this
 ·obtain ⟨e1,e2,e3⟩:=p.status hk
  have hw0:=hwid.2.2.2 (by omega)
  obtain ⟨k0,hk0,hk1,e0,he0,hek0⟩:=g.target hk
  have hcn: ∀q,cnt (newEnts i o nw es (Kd o (H.ops.drop i)).2) q=cnt es q:=fun q=>by
   rw [cnt_new q hs];simp [hk]
  rcases turned_cases H i o with e | ⟨k,e,g1,g2,g3,g4,g5⟩
  ·rw [e] at e1 e3
   simp only at e1 e3
   have happ:J6 eff row=row:=by rw [e3];rfl
   refine ⟨fun hh=>absurd (by rw [e3];rfl) hh,fun _=>⟨e3,hk⟩,?_,?_⟩
   ·rw [happ,hlen,hw0];simp
   ·intro q c hq
    rw [happ] at hq
    show c.2=(cnt (newEnts i o nw es (Kd o (H.ops.drop i)).2) q:Nat)
    rw [hcn,e1];exact hr.cnt q c hq
  ·rw [g5] at e1 e3
   simp only at e1 e3
   have hkk:k<H.ents.length:=by
    rcases Nat.lt_or_ge k H.ents.length with h | h
    ·exact h
    ·rw [List.getElem?_eq_none h] at g2;cases g2
   have hge:H.ents[k] =e:=by rw [List.getElem?_eq_getElem hkk] at g2;exact Option.some.inj g2
   obtain rfl:k0=k:=Option.some.inj (hk0.symm.trans g1)
   obtain rfl:e0=e:=Option.some.inj (he0.symm.trans g2)
   have hem:e0∈H.ents:=List.mem_of_getElem? g2
   have hpe:=h.pls e0 hem
   have hne:e0.now≠ [] :=fun hh=>hek0 ((h.edit e0 hem).2 hh)
   have hek:e0.op.kind=1∨e0.op.kind=2:=by
    have h1:=h.ctx
    have h2: ∀(l:List GOp) (w:Int),CtxOk w l→ ∀x∈l,x.kind=1∨x.kind=2∨x.kind=4:=by
     intro l
     induction l with
     | nil=>intro w _ x hx;cases hx
     | cons y l ih=>
      intro w hc x hx
      rcases List.mem_cons.1 hx with rfl | hx
      ·exact hc.1.kind
      ·exact ih _ hc.2 x hx
    have:=h2 _ _ h1 e0.op (List.mem_map.2 ⟨e0,hem,rfl⟩)
    omega
   have hcs: ∀q,cnt es q+(if (hidE e0 && inRb q e0.now)=true then 1 else 0)=cnt H.ents q+(if (hidE (offE e0 (!o.on)) && inRb q e0.now)=true then 1 else 0):=by
    intro q
    rw [e1]
    unfold cnt
    rw [List.countP_set hkk]
    simp only [hge]
    have hpos:(if (hidE e0 && inRb q e0.now)=true then 1 else 0)≤H.ents.countP fun e=>hidE e && inRb q e.now:=by
     split
     ·rename_i hh
      exact List.countP_pos_iff.2 ⟨e0,hem,hh⟩
     ·omega
    have:(offE e0 (!o.on)).now=e0.now:=rfl
    rw [this]
    omega
   have hcheck: ∀kd:Int,(kd=2∨kd=3)→eff.kind=kd→checkF eff row.length=0:=by
    intro kd hkd hekd
    refine (check_cov (by omega) (by omega)).2 ⟨effHead (by omega) (by rw [e3];rfl) (by rw [e3];rfl) ?_,(Yz (by omega)).2 ⟨by rw [e3];exact hne,by rw [hlen,e3];exact hpe⟩⟩
    have h1:eff.at_=0:=by rw [e3];rfl
    have h2:eff.text=⟨#[]⟩:=by rw [e3];rfl
    have h3:eff.tc=0:=by rw [e3];rfl
    have h4:eff.tn=0:=by rw [e3];rfl
    have h5:eff.on=false:=by rw [e3];rfl
    have h6:(⟨#[]⟩:ByteArray)==⟨#[]⟩:=by decide
    unfold extraF
    rw [h1,h2,h3,h4,h5]
    rcases hkd with rfl | rfl<;>simp [hekd,h6]
   have hers:eff.rs=e0.now:=by rw [e3];rfl
   have hon:o.on=e0.off:=g3.symm
   by_cases hcase:(decide (e0.op.kind=2)==o.on)=true
   ·have hekd:eff.kind=2:=by rw [e3];unfold turnF;simp only;rw [if_pos hcase]
    have happ:J6 eff row=K6 e0.now 1 row:=by unfold J6;rw [if_neg (by omega),if_pos hekd,hers]
    have hget:=YH (k:=1) e0.now 0 row (Int.le_refl _) hpe.norm (by rw [hlen];exact hpe.below)
    have hh1:hidE e0=false∧hidE (offE e0 (!o.on))=true:=by
     rw [hidE_off]
     unfold hidE
     rw [hon] at hcase ⊢
     rcases hek with hh | hh<;>(rw [hh] at hcase ⊢;revert hcase;cases e0.off<;>decide)
    refine ⟨fun _=>⟨hcheck 2 (.inl O) hekd, .inr (.inl hekd),fun _ q c hq _=> ?_,fun e=>by omega⟩,fun e=>by omega,?_,?_⟩
    ·have:=hr.cnt q c hq
     have:=Zz H.ents q
     omega
    ·rw [happ,hget.1,hlen,hw0];simp
    ·intro q c hq
     show c.2=(cnt (newEnts i o nw es (Kd o (H.ops.drop i)).2) q:Nat)
     rw [hcn]
     have hc:=hcs q
     rw [hh1.1,hh1.2] at hc
     simp only [Bool.false_and,Bool.false_eq_true,if_false,Nat.add_zero,Bool.true_and] at hc
     rw [happ,hget.2 q] at hq
     cases hx:row[q]? with
     | none=>rw [hx] at hq;cases hq
     | some d=>
      rw [hx] at hq
      simp only [Option.map_some,Option.some.injEq] at hq
      have:=hr.cnt q d hx
      subst hq
      by_cases hb:inRb q e0.now=true
      ·rw [if_pos hb] at hc ⊢;simp only;omega
      ·rw [if_neg hb] at hc ⊢;omega
   ·have hekd:eff.kind=3:=by rw [e3];unfold turnF;simp only;rw [if_neg hcase]
    have happ:J6 eff row=K6 e0.now (-1) row:=by unfold J6;rw [if_neg (by omega),if_neg (by omega),if_pos hekd,hers]
    have hget:=YH (k:= -1) e0.now 0 row (Int.le_refl _) hpe.norm (by rw [hlen];exact hpe.below)
    have hh1:hidE e0=true∧hidE (offE e0 (!o.on))=false:=by
     rw [hidE_off]
     unfold hidE
     rw [hon] at hcase ⊢
     rcases hek with hh | hh<;>(rw [hh] at hcase ⊢;revert hcase;cases e0.off<;>decide)
    refine ⟨fun _=>⟨hcheck 3 (.inr O) hekd, .inr (.inr hekd),fun e=>by omega,fun _ q c hq hb=> ?_⟩,fun e=>by omega,?_,?_⟩
    ·have h1:=hr.cnt q c hq
     rw [hers] at hb
     have h2:0<cnt H.ents q:=by
      unfold cnt
      exact List.countP_pos_iff.2 ⟨e0,hem,by rw [hh1.1,hb];rfl⟩
     omega
    ·rw [happ,hget.1,hlen,hw0];simp
    ·intro q c hq
     show c.2=(cnt (newEnts i o nw es (Kd o (H.ops.drop i)).2) q:Nat)
     rw [hcn]
     have hc:=hcs q
     rw [hh1.1,hh1.2] at hc
     simp only [Bool.false_and,Bool.false_eq_true,if_false,Nat.add_zero,Bool.true_and] at hc
     rw [happ,hget.2 q] at hq
     cases hx:row[q]? with
     | none=>rw [hx] at hq;cases hq
     | some d=>
      rw [hx] at hq
      simp only [Option.map_some,Option.some.injEq] at hq
      have:=hr.cnt q d hx
      subst hq
      by_cases hb:inRb q e0.now=true
      ·rw [if_pos hb] at hc ⊢;simp only;omega
      ·rw [if_neg hb] at hc ⊢;omega
def ints (k:IntKind) (xs:List Int):List Value:=xs.map (Value.int k)
theorem ints_reps (k:IntKind) (xs:List Int) (Z:Nat→Prop) (w:World):Reps ((De.int k).rep Z w) xs (xs.map fun x=> [Value.int k x]):=by
 induction xs with
 | nil=>exact .nil
 | cons x xs ih=>exact .cons rfl ih
theorem ints_flat (k:IntKind) (xs:List Int):(xs.map fun x=> [Value.int k x]).flatten=ints k xs:=by
 induction xs with
 | nil=>rfl
 | cons x xs ih=>simp only [List.map_cons,List.flatten_cons,ih];rfl
theorem KX (k:IntKind) (xs ys:List Int):ints k (xs++ys)=ints k xs++ints k ys:=by unfold ints;simp
theorem reps_int {k:IntKind} {xs:List Int} {css:List (List Value)} {Z:Nat→Prop} {w:World} (h:Reps ((De.int k).rep Z w) xs css):css.flatten=ints k xs:=by
 induction h with
 | nil=>rfl
 | cons h _ ih=>
  have h':_= [Value.int k _] :=h
  rw [List.flatten_cons,h',ih];rfl
structure Pc where
 rs:List Int
 hid:Int
def pcD:De Pc where
 sz:=2
 rep Z w p cs:= ∃A c,cs=pcC p.rs p.hid A c∧RdS runeD Z w A c p.rs
 len h:=by obtain ⟨A,c,rfl,_⟩:=h;rfl
 one h:=by obtain ⟨A,c,rfl,_⟩:=h;rfl
 stable hz hh h1 h2 h3 h:=by
  obtain ⟨A,c,g1,g2⟩:=h
  exact ⟨A,c,g1,(RdF runeD A c _).stable hz hh h1 h2 h3 g2⟩
theorem pc_open (u:Pc): ∀Z w cs,pcD.rep Z w u cs→ ∃y:Option Addr×Nat,cs=pcC u.rs u.hid y.1 y.2∧ ∀B∈ [RdF runeD y.1 y.2 u.rs],B.holds Z w:=fun _ _ _ h=>by
 obtain ⟨A,c,h1,h2⟩:=h
 exact ⟨(A,c),h1,fun B hB=>by simp only [List.mem_singleton] at hB;subst hB;exact h2⟩
def pcsRow (ps:List Pc):List Ce:=ps.flatMap fun p=>cellsOf p.rs p.hid
def PcOk (ps:List Pc):Prop:= ∀p∈ps,p.rs≠ [] ∧0≤p.hid∧p.hid≤1048576
theorem KQ (a b:List Pc):pcsRow (a++b)=pcsRow a++pcsRow b:=by unfold pcsRow;rw [List.flatMap_append]
theorem Vv (p:Pc) (b:List Pc):pcsRow (p::b)=cellsOf p.rs p.hid++pcsRow b:=by unfold pcsRow;rw [List.flatMap_cons]
theorem Qq (p:Pc):pcsRow [p] =cellsOf p.rs p.hid:=by unfold pcsRow;simp
theorem PcOk.append {a b:List Pc} :PcOk (a++b)↔PcOk a∧PcOk b:=by
 unfold PcOk;simp only [List.mem_append]
 exact ⟨fun h=>⟨fun p hp=>h p (.inl hp),fun p hp=>h p (.inr hp)⟩,fun h p hp=>hp.elim (h.1 p) (h.2 p)⟩
theorem PcOk.one {p:Pc} (h:p.rs≠ []) (h2:0≤p.hid∧p.hid≤1048576):PcOk [p] :=fun q hq=>by
 rw [List.mem_singleton] at hq;subst hq;exact ⟨h,h2⟩
theorem PcOk.len: ∀ {ps:List Pc},PcOk ps→ps.length≤(pcsRow ps).length
 | [],_=>by simp
 | p::ps,h=>by
  have h1:=(h p List.mem_cons_self).1
  have h2:=List.length_pos_iff.2 h1
  have h3:=PcOk.len (ps:=ps) fun q hq=>h q (List.mem_cons_of_mem _ hq)
  rw [Vv,List.length_append,Ju,List.length_cons];omega
theorem V2 (a b:List Int) (hid:Int):cellsOf (a++b) hid=cellsOf a hid++cellsOf b hid:=by unfold cellsOf;rw [List.map_append]
theorem runesAt_end {s:ByteArray} {p:Nat} (h: ¬p<s.size):runesAt s p= [] :=by rw [runesAt,dif_neg h]
theorem runesAt_next {s:ByteArray} {p:Nat} (h:p<s.size):runesAt s p=((Utf8.decode s p).1:Int)::runesAt s (p+(Utf8.decode s p).2):=by
 conv=>lhs;unfold runesAt
 rw [dif_pos h]
def cutAt (n k i:Nat):Nat:=i*n / k
theorem cutAt_lt {n k i:Nat} (hk:0<k) (hn:k≤n):cutAt n k i<cutAt n k (i+1):=by
 unfold cutAt
 have h1:(i+1)*n=i*n+n:=by rw [Nat.add_mul,Nat.one_mul]
 rw [h1]
 have h2:i*n / k+1≤(i*n+n) / k:=by
  rw [Nat.le_div_iff_mul_le hk,Nat.add_mul,Nat.one_mul]
  have:=Nat.div_mul_le_self (i*n) k
  omega
 omega
theorem EB {n k i:Nat} (hk:0<k) (hi:i≤k):cutAt n k i≤n:=by
 unfold cutAt
 calc i*n / k≤k*n / k:=Nat.div_le_div_right (Nat.mul_le_mul_right n hi)
  _=n:=Nat.mul_div_cancel_left n hk
theorem cutAt_last {n k:Nat} (hk:0<k):cutAt n k k=n:=by unfold cutAt;exact Nat.mul_div_cancel_left n hk
theorem EZ {n k:Nat} :cutAt n k 0=0:=by unfold cutAt;simp
def cutPc (rs:List Int) (hid:Int) (k i:Nat):Pc:=⟨(rs.take (cutAt rs.length k (i+1))).drop (cutAt rs.length k i),hid⟩
def cutPcs (rs:List Int) (hid:Int) (k:Nat):Nat→List Pc
 | 0=> []
 | i+1=>cutPcs rs hid k i++ [cutPc rs hid k i]
theorem QE (rs:List Int) (hid:Int) (k:Nat): ∀i,(cutPcs rs hid k i).length=i
 | 0=>rfl
 | i+1=>by simp [cutPcs,QE rs hid k i]
theorem GI {rs:List Int} {hid:Int} {k:Nat} (hk:0<k) (hn:k≤rs.length) (hh:0≤hid∧hid≤1048576): ∀i,i≤k→PcOk (cutPcs rs hid k i)∧pcsRow (cutPcs rs hid k i)=cellsOf (rs.take (cutAt rs.length k i)) hid
 | 0,_=>⟨fun p hp=>by simp [cutPcs] at hp,by rw [EZ];rfl⟩
 | i+1,hi=>by
  obtain ⟨h1,h2⟩:=GI hk hn hh i (by omega)
  have h3:=cutAt_lt (n:=rs.length) (k:=k) (i:=i) hk hn
  have h4:=EB (n:=rs.length) (k:=k) (i:=i+1) hk hi
  refine ⟨PcOk.append.2 ⟨h1,PcOk.one (fun e=> ?_) hh⟩,?_⟩
  ·have:=congrArg List.length e
   simp only [cutPc,List.length_drop,List.length_take,List.length_nil] at this
   omega
  ·rw [cutPcs,KQ,h2,Qq]
   unfold cutPc
   simp only
   rw [←V2]
   congr 1
   have e:rs.take (cutAt rs.length k i)=(rs.take (cutAt rs.length k (i+1))).take (cutAt rs.length k i):=by rw [List.take_take,Nat.min_eq_left (by omega)]
   rw [e,List.take_append_drop]
theorem Jai {P:Program} {n:Dm} {R:Post} {l:Fr} {Ps:List Part} {As:List Fact} {c:Code} {k:IntKind} {xs:List Int} {css:List (List Value)} (hA:RepsF (De.int k) xs css∈As) (h:css.flatten=ints k xs→WC P n c R l Ps As):WC P n c R l Ps As:=fun Z w a hs ha=>h (reps_int (hs.facts _ hA:Reps ((De.int k).rep Z w) xs css)) Z w a hs ha
structure EvJ (ps:List Pc) (i k:Nat) (run:List Int) (hid:Int):Prop where
 ik:i≤k
 le:k≤ps.length
 eq:cellsOf run hid=pcsRow ((ps.take k).drop i)
theorem QY (ps:List Pc) (i k:Nat):(pcsRow ((ps.take k).drop i)).length≤(pcsRow ps).length:=by
 have e:ps=ps.take k++ps.drop k:=(List.take_append_drop k ps).symm
 have e2:ps.take k=(ps.take k).take i++(ps.take k).drop i:=(List.take_append_drop i _).symm
 have h1:(pcsRow ps).length=(pcsRow (ps.take k)).length+(pcsRow (ps.drop k)).length:=by
  conv=>lhs;rw [e]
  rw [KQ,List.length_append]
 have h2:(pcsRow (ps.take k)).length=(pcsRow ((ps.take k).take i)).length+(pcsRow ((ps.take k).drop i)).length:=by
  conv=>lhs;rw [e2]
  rw [KQ,List.length_append]
 omega
theorem EvJ.len {ps:List Pc} {i k:Nat} {run:List Int} {hid:Int} (h:EvJ ps i k run hid):run.length≤(pcsRow ps).length:=by
 have:=congrArg List.length h.eq
 rw [Ju] at this
 have:=QY ps i k
 omega
theorem EvJ.next {ps:List Pc} {i k:Nat} {run:List Int} {hid:Int} (h:EvJ ps i k run hid) (hk:k<ps.length) (e:ps[k].hid=hid):EvJ ps i (k+1) (run++ps[k].rs) hid:=by
 have:=h.ik
 refine ⟨by omega,hk,?_⟩
 have e1:ps.take (k+1)=ps.take k++ [ps[k]] :=by rw [List.take_succ_eq_append_getElem hk]
 rw [V2,h.eq,e1,List.drop_append_of_le_length (by rw [List.length_take];omega),KQ,Qq,e]
theorem EvJ.done {ps:List Pc} {i k:Nat} {run:List Int} {hid:Int} (h:EvJ ps i k run hid):pcsRow (ps.take i)++cellsOf run hid=pcsRow (ps.take k):=by
 have e:ps.take i=(ps.take k).take i:=by rw [List.take_take,Nat.min_eq_left h.ik]
 rw [h.eq,e,←KQ,List.take_append_drop]
structure EvI (ps:List Pc) (i:Nat) (os:List Pc) (v:Value) (p:Part) (css:List (List Value)):Prop where
 le:i≤ps.length
 row:Row 134 2 v os.length css.flatten p
 ok:PcOk os
 eq:pcsRow os=pcsRow (ps.take i)
theorem EvI.len {ps:List Pc} {i:Nat} {os:List Pc} {v:Value} {p:Part} {css:List (List Value)} (h:EvI ps i os v p css):os.length≤(pcsRow ps).length:=by
 have h1:=h.ok.len
 have h2:=congrArg List.length h.eq
 have h3:=QY ps 0 i
 rw [List.drop_zero] at h3
 omega
theorem PutIs.length {H:Hist} (h:HV H) {i:Nat} {o:GOp} {es:List Ent} {nw:List Rg} {eff:GOp} (g:Good H i o) (p:PutIs H i o es nw eff):(putF H i o).1.ents.length=H.ents.length+1:=by
 have hs:=p.sames h g
 rw [p.put]
 show (newEnts i o nw es (Kd o (H.ops.drop i)).2).length=_
 rw [Qr hs (by rw [p.len g];exact g.le),p.len g]
inductive Made:Nat→Hist→List Ce→Prop
 | zero:Made 0 ⟨[],0⟩ []
 | step {n:Nat} {H:Hist} {X:List Ce} {i:Nat} {o:GOp} (h:Made n H X) (g:Good H i o):Made (n+1) (putF H i o).1 (J6 (putF H i o).2.1 X)
theorem Made.inv {n:Nat} {H:Hist} {X:List Ce} (h:Made n H X):n≤9000→HV H∧Rule H X∧H.ents.length=n:=by
 induction h with
 | zero=>
  intro _
  refine ⟨⟨trivial,rfl,by decide,fun e he=>(by cases he),fun e he=>(by cases he),fun e he=>(by cases he),List.nodup_nil⟩,⟨rfl,fun q c hq=>(by simp at hq)⟩,rfl⟩
 | step h g ih=>
  intro hn
  obtain ⟨h1,h2,h3⟩:=ih (by omega)
  obtain ⟨es,nw,eff,p⟩:=put_good h1 g
  have h4:=put_hv h1 g p
  have h5:=(put_row h1 g p h2 (by omega)).2.2
  refine ⟨by rw [p.put];exact h4,by rw [p.put];exact h5,by rw [p.length h1 g,h3]⟩
theorem Et {c n:Int} (h:rightF c n=true):1≤c∧c≤8∧1≤n∧n≤1024:=by unfold rightF at h;simpa using h
theorem VQ {es:List Ent} (hn:(es.map fun e=>(e.op.c,e.op.n)).Nodup) {k:Nat} (hk:k<es.length):J5 es es[k].op.c es[k].op.n=some k:=by
 cases hw:J5 es es[k].op.c es[k].op.n with
 | none=>exact absurd ⟨rfl,rfl⟩ (K4 hw _ (List.getElem_mem hk))
 | some j=>
  obtain ⟨hj,h1,h2⟩:=KJ hw
  have h3:=List.getElem_inj (h₀:=by simpa using hj) (h₁:=by simpa using hk) hn
  simp only [List.getElem_map,Prod.mk.injEq] at h3
  rw [h3.1 ⟨h1,h2⟩]
theorem good_head {o:GOp} (hk:1≤o.kind∧o.kind≤4) (hr:rightF o.c o.n=true) (he:extraF o=false):headF o:=⟨by omega,fun h=>by rw [hr] at h;simp at h,by rw [he];simp⟩
theorem HK {s:ByteArray} (h:(s==⟨#[]⟩)=true):s=⟨#[]⟩:=by
 rw [beq_toListBytes,ByteArray.toList_eq,ByteArray.toList_eq] at h
 have:=eq_of_beq h
 obtain ⟨⟨x⟩⟩:=s
 simp at this
 subst this;rfl
def KA (rs:List Rg):List Int:=rs.flatMap fun r=>(List.range (r.hi-r.lo).toNat).map fun (j:Nat)=>r.lo+j
theorem Vu (r:Rg) (rs:List Rg):KA (r::rs)=((List.range (r.hi-r.lo).toNat).map fun (j:Nat)=>r.lo+j)++KA rs:=by simp [KA]
theorem mem_run {lo hi q:Int} :q∈((List.range (hi-lo).toNat).map fun (j:Nat)=>lo+j)↔lo≤q∧q<hi:=by
 simp only [List.mem_map,List.mem_range]
 constructor
 ·rintro ⟨j,hj,rfl⟩;omega
 ·intro h;exact ⟨(q-lo).toNat,by omega,by omega⟩
theorem mem_places {q:Int} : ∀ {rs:List Rg},q∈KA rs↔memR q rs
 | [] =>by simp [KA,memR]
 | r::rs=>by rw [Vu,List.mem_append,mem_run,mem_places,Ql]
theorem EO (lo:Int) (n:Nat):((List.range n).map fun (j:Nat)=>lo+j).Pairwise (· < ·):=by
 rw [List.pairwise_map]
 exact List.pairwise_lt_range.imp fun h=>by omega
theorem Qb: ∀ {b:Int} {rs:List Rg},NormB b rs→(KA rs).Pairwise (· < ·)
 | _,[],_=>List.Pairwise.nil
 | b,r::rs,h=>by
  rw [Vu,List.pairwise_append]
  refine ⟨EO _ _,Qb h.2.2,fun x hx y hy=> ?_⟩
  have h1:=mem_run.1 hx
  have h2:=h.2.2.below (mem_places.1 hy)
  omega
theorem VR: ∀ {a b:List Int},a.Pairwise (· < ·)→b.Pairwise (· < ·)→(∀q,q∈a↔q∈b)→a=b
 | [],[],_,_,_=>rfl
 | [],y::b,_,_,h=>by have:=(h y).2 List.mem_cons_self;cases this
 | x::a,[],_,_,h=>by have:=(h x).1 List.mem_cons_self;cases this
 | x::a,y::b,h1,h2,h=>by
  rw [List.pairwise_cons] at h1 h2
  have e:x=y:=by
   rcases List.mem_cons.1 ((h x).1 List.mem_cons_self) with e | e
   ·exact e
   ·rcases List.mem_cons.1 ((h y).2 List.mem_cons_self) with e' | e'
    ·exact e'.symm
    ·have:=h1.1 _ e';have:=h2.1 _ e;omega
  subst e
  rw [VR h1.2 h2.2 fun q=> ?_]
  constructor
  ·intro hq
   rcases List.mem_cons.1 ((h q).1 (List.mem_cons_of_mem _ hq)) with e | e
   ·have:=h1.1 _ hq;omega
   ·exact e
  ·intro hq
   rcases List.mem_cons.1 ((h q).2 (List.mem_cons_of_mem _ hq)) with e | e
   ·have:=h2.1 _ hq;omega
   ·exact e
theorem put_ops {H:Hist} (h:HV H) {i:Nat} {o:GOp} {es:List Ent} {nw:List Rg} {eff:GOp} (g:Good H i o) (p:PutIs H i o es nw eff):(⟨newEnts i o nw es (Kd o (H.ops.drop i)).2,H.total+JC o⟩:Hist).ops=H.ops.take i++([o] ++(Kd o (H.ops.drop i)).2):=by
 show (newEnts i o nw es (Kd o (H.ops.drop i)).2).map (·.op)=_
 rw [newEnts_ops (p.sames h g),p.es_ops g]
theorem Made.ops {n:Nat} {H:Hist} {X:List Ce} (h:Made n H X) (hn:n≤9000) {i:Nat} {o:GOp} (g:Good H i o):(putF H i o).1.ops=H.ops.take i++([o] ++(Kd o (H.ops.drop i)).2):=by
 obtain ⟨h1,h2,h3⟩:=h.inv hn
 obtain ⟨es,nw,eff,p⟩:=put_good h1 g
 rw [p.put];exact put_ops h1 g p
theorem HO (o:GOp):Kd o [] =(o,[]):=rfl
abbrev rpP (b:Nat) (A:Option Addr):Part:= [(b,JD [.pointer A] 128)]
def RpP (b:Nat) (X:List Ce):Value→List Part→List Fact→Prop:=fun v Lo fs=> ∃(A:Option Addr) (t:Tr),v= .int .i64 0∧Lo= [rpP b A] ∧fs= [TrF A t] ∧Wf t∧t.row=X
structure BuOk (rs:List Rg) (k:Int) (row:List Ce):Prop where
 ck:(ckF rs).2=0
 below:BelowR row.length rs
 cells: ∀(q:Nat) c,row[q]? =some c→inRb q rs=true→0≤c.2+k∧c.2+k≤1048576
structure BuI (rs:List Rg) (k:Int) (row:List Ce) (i:Nat) (t:Tr):Prop where
 le:i≤rs.length
 wf:Wf t
 eq:t.row=K6 (rs.take i) k row
theorem GE {b:Int} {rs:List Rg} (h:NormB b rs) (i:Nat):NormB b (rs.take i):=by
 rw [←List.take_append_drop i rs] at h
 exact (Yp.1 h).1
theorem BuOk.norm {rs:List Rg} {k:Int} {row:List Ce} (h:BuOk rs k row):NormB 0 rs:=(Gh.1 h.ck).2.1
theorem BuI.len {rs:List Rg} {k:Int} {row:List Ce} {i:Nat} {t:Tr} (h:BuI rs k row i t) (ho:BuOk rs k row):t.row.length=row.length:=by
 rw [h.eq]
 exact (YH (k:=k) _ 0 row (Int.le_refl _) (GE ho.norm i) (fun r hr=>ho.below r (List.mem_of_mem_take hr))).1
theorem E5 {rs:List Rg} {k:Int} {row:List Ce} {i:Nat} (hi:i<rs.length):K6 (rs.take (i+1)) k row=Vl rs[i] k (K6 (rs.take i) k row):=by
 unfold K6
 rw [List.take_succ_eq_append_getElem hi,List.foldl_append];rfl
theorem BuI.slice {rs:List Rg} {k:Int} {row:List Ce} {i:Nat} {t:Tr} (h:BuI rs k row i t) (ho:BuOk rs k row) (hi:i<rs.length):InR (up k ((t.row.drop rs[i].lo.toNat).take (rs[i].hi-rs[i].lo).toNat)):=by
 intro c hc
 obtain ⟨d,hd,rfl⟩:=mem_up.1 hc
 obtain ⟨j,hj,rfl⟩:=List.mem_iff_getElem.1 hd
 have hm:=ho.norm.mem _ (List.getElem_mem hi)
 have hget:=(YH (k:=k) _ 0 row (Int.le_refl _) (GE ho.norm i) (fun r hr=>ho.below r (List.mem_of_mem_take hr))).2
 rw [List.length_take,List.length_drop] at hj
 have e1:((t.row.drop rs[i].lo.toNat).take (rs[i].hi-rs[i].lo).toNat)[j]? =(K6 (rs.take i) k row)[rs[i].lo.toNat +j]? :=by
  rw [List.getElem?_take,if_pos (by omega),List.getElem?_drop,h.eq]
 rw [List.getElem?_eq_getElem (by rw [List.length_take,List.length_drop];omega),hget] at e1
 have hnot:inRb ((rs[i].lo.toNat +j:Nat):Int) (rs.take i)=false:=inRb_false.2 fun hmem=>by
  have hn:=ho.norm
  rw [←List.take_append_drop i rs,List.drop_eq_getElem_cons hi] at hn
  have h2:=(Yp.1 hn).2
  obtain ⟨r,hr,hq⟩:=hmem
  have h3: ∀(xs:List Rg) (b:Int),NormB b xs→ ∀r∈xs,r.hi+1≤endB b xs:=by
   intro xs
   induction xs with
   | nil=>intro b _ r hr;cases hr
   | cons x xs ih=>
    intro b hb r hr
    have h4: ∀(ys:List Rg) (b:Int),NormB b ys→b≤endB b ys:=by
     intro ys
     induction ys with
     | nil=>intro b _;exact Int.le_refl _
     | cons y ys ih2=>intro b hb;have:=ih2 _ hb.2.2;have:=hb.1;have:=hb.2.1;simp only [endB];omega
    rcases List.mem_cons.1 hr with rfl | hr
    ·exact h4 xs _ hb.2.2
    ·exact ih _ hb.2.2 r hr
  have h5:=h3 _ _ (Yp.1 hn).1 r hr
  have h6:=h2.1
  omega
 have hin:inRb ((rs[i].lo.toNat +j:Nat):Int) rs=true:=YB.2 ⟨_,List.getElem_mem hi,by omega⟩
 cases hx:row[rs[i].lo.toNat +j]? with
 | none=>rw [hx] at e1;cases e1
 | some c=>
  rw [hx,hnot] at e1
  simp only [Bool.false_eq_true,if_false,Option.map_some,Option.some.injEq] at e1
  have:=ho.cells _ c hx hin
  rw [e1]
  exact this
theorem BuI.next {rs:List Rg} {k:Int} {row:List Ce} {i:Nat} {t t':Tr} (h:BuI rs k row i t) (hi:i<rs.length) (hw:Wf t') (he:t'.row=Vl rs[i] k t.row):BuI rs k row (i+1) t':=⟨hi,hw,by rw [he,E5 hi,h.eq]⟩
theorem BuI.done {rs:List Rg} {k:Int} {row:List Ce} {i:Nat} {t:Tr} (h:BuI rs k row i t) (hi: ¬i<rs.length):t.row=K6 rs k row:=by
 have e:i=rs.length:=by have:=h.le;omega
 rw [h.eq,e,List.take_length]
theorem wf_mn {t:Tr} (h:Wf t) (hn:t.row≠ []):(∃c∈t.row,c.2=(allF t).mn)∧ ∃c∈t.row,c.2=(allF t).mx:=by
 cases t with
 | nil=>exact absurd rfl hn
 | nd s l rs hid r plus=>have:=wf_sum h (by simp);exact ⟨this.mnI,this.mxI⟩
def idC (x:Int×Int):List Value:= [.int .i64 x.1, .int .i64 x.2]
def idD:De (Int×Int) where
 sz:=2
 rep _ _ x cs:=cs=idC x
 len h:=by subst h;rfl
 one h:=by subst h;rfl
 stable _ _ _ _ _ h:=h
theorem id_open (u:Int×Int): ∀Z w cs,idD.rep Z w u cs→ ∃y:Unit,cs=idC u∧ ∀B∈([] :List Fact),B.holds Z w:=fun _ _ _ h=>⟨(),h,fun _ h=>by cases h⟩
def Kb {α:Type} (f:α→List Value) (xs:List α):List Value:=(xs.map f).flatten
theorem YG {α:Type} (f:α→List Value) (xs ys:List α):Kb f (xs++ys)=Kb f xs++Kb f ys:=by unfold Kb;simp
theorem VF {α:Type} (f:α→List Value) (x:α):Kb f [x] =f x:=by unfold Kb;simp
theorem G0 {α:Type} {e:De α} {f:α→List Value} (h: ∀Z w x,e.rep Z w x (f x)) (xs:List α) (Z:Nat→Prop) (w:World):Reps (e.rep Z w) xs (xs.map f):=by
 induction xs with
 | nil=>exact .nil
 | cons x xs ih=>exact .cons (h Z w x) ih
end Go.Proofs.YthkkklphanidjaaGreatDoor
namespace Go.GW
open Go
theorem JP {P:Program} {n:Dm} {R:Post} {l:Fr} {Ps Ps':List Part} {As:List Fact} {ops:Array Oper} {ws:World} {Z0:Nat→Prop} {Ps0:List Part} {r:OT} {p:Part} (hd:DelAt Ps p Ps') (k:WF P n ops R ws Z0 Ps0 r l (p::Ps') As):WF P n ops R ws Z0 Ps0 r l Ps As:=fun Z w a hs ha=>k Z w a (hs.pick hd) ha
end Go.GW
namespace Go.Proofs.YthkkklphanidjaaGreatDoor
open Go Go.GW
theorem decode_le4 (s:ByteArray) (p:Nat):(Utf8.decode s p).2≤4:=by
 unfold Utf8.decode
 simp only
 repeat' split
 all_goals (show _≤4;first | exact (by decide:1≤4) | exact (by decide:2≤4) | exact (by decide:3≤4) | exact (by decide:4≤4))
theorem runes_size (s:ByteArray): ∀(m p:Nat),s.size-p≤m→s.size-p≤4*(runesAt s p).length
 | m,p,hm=>by
  by_cases hp:p<s.size
  ·rw [runesAt,dif_pos hp]
   have h1:=decode_pos s p
   have h2:=decode_le4 s p
   cases m with
   | zero=>omega
   | succ m=>
    have:=runes_size s m (p+(Utf8.decode s p).2) (by omega)
    simp only [List.length_cons];omega
  ·omega
theorem Right.text {w:Int} {o:GOp} (h:Right w o):o.text.size≤1024:=by
 by_cases hk:o.kind=1
 ·have h3:=Yr.1 ((check_ins hk h.w0).1 h.ck).2
  have h4:=Y5 h3.1
  have h5:=runes_size o.text o.text.size 0 (by omega)
  unfold KH at h4
  omega
 ·have hh:=(h.head h.w0).2.2
  unfold extraF at hh
  have h6:(o.text==⟨#[]⟩)=true:=by
   cases hx:o.text==⟨#[]⟩ with
   | true=>rfl
   | false=>exfalso;apply hh;simp [hk,hx]
  rw [HK h6];exact Nat.zero_le _
structure DI (n:Nat) (H:Hist) (X:List Ce):Prop where
 made:Made n H X
 le:n≤8192
theorem DI.hv {n:Nat} {H:Hist} {X:List Ce} (h:DI n H X):HV H:=(h.made.inv (by have:=h.le;omega)).1
theorem DI.rule {n:Nat} {H:Hist} {X:List Ce} (h:DI n H X):Rule H X:=(h.made.inv (by have:=h.le;omega)).2.1
theorem DI.len {n:Nat} {H:Hist} {X:List Ce} (h:DI n H X):H.ents.length=n:=(h.made.inv (by have:=h.le;omega)).2.2
theorem DI.tot0 {n:Nat} {H:Hist} {X:List Ce} (h:DI n H X):0≤H.total∧H.total≤60000:=by
 have h1:=h.hv
 have h2:=sumO_nonneg h1.ctx
 rw [h1.tot]
 exact ⟨h2,by rw [←h1.tot];exact h1.le⟩
theorem DI.row {n:Nat} {H:Hist} {X:List Ce} (h:DI n H X):(X.length:Int)=H.total:=h.rule.len
theorem DI.zero:DI 0 ⟨[],0⟩ [] :=⟨.zero,by decide⟩
theorem DI.room {n:Nat} {H:Hist} {X:List Ce} (h:DI n H X) (i:Nat):0≤K2 H i∧K2 H i≤H.total:=by
 obtain ⟨s1,s2,s3,s4⟩:=h.hv.split i
 have h2:=sumO_nonneg s2
 have h3:=sumO_nonneg s1
 omega
structure TkD (H:Hist) (X:List Ce) (n i:Nat) (o:GOp) (H2:Hist) (eff:GOp):Prop where
 put:putF H i o=(H2,eff,0)
 len:H2.ents.length=n+1
 app:eff.kind≠0→EffOk eff X
 noEff:eff.kind=0→eff=zeroOp∧o.kind=4
 text:eff.text.size≤o.text.size
 rs:eff.rs.length≤60001
 fit:Fit o
 tx:o.text.size≤1024
 next:n<8192→DI (n+1) H2 (J6 eff X)
 lt:n<8192
theorem DI.take {n:Nat} {H:Hist} {X:List Ce} (h:DI n H X) (hn:n<8192) {i:Nat} {o:GOp} (g:Good H i o): ∃H2 eff,TkD H X n i o H2 eff:=by
 obtain ⟨es,nw,eff,p⟩:=put_good h.hv g
 have hp:=p.put
 have hv2:=put_hv h.hv g p
 have hrow:=put_row h.hv g p h.rule (by rw [h.len];have:=h.le;omega)
 have htx:=g.right.text
 refine ⟨_,eff,hp,?_,hrow.1,hrow.2.1,?_,?_,?_,htx,fun hn=>⟨?_,hn⟩,hn⟩
 ·have:=p.length h.hv g
  rw [hp,h.len] at this;exact this
 ·rcases g.right.kind with hk | hk | hk
  ·rw [(p.ins hk).2.2];exact Nat.le_refl _
  ·rw [(p.hide hk).2.2];exact Nat.zero_le _
  ·rw [(p.status hk).2.2]
   rcases turned_cases H i o with e | ⟨k,e,_,_,_,_,h5⟩
   ·rw [e];exact Nat.zero_le _
   ·rw [h5];exact Nat.zero_le _
 ·obtain ⟨c1,c2,c3,c4,c5⟩:=cross_good h.hv g
  have ht:=h.tot0
  have hl:=h.le
  rcases g.right.kind with hk | hk | hk
  ·rw [(p.ins hk).2.2];exact Nat.zero_le _
  ·rw [(p.hide hk).2.2]
   obtain ⟨t1,t2⟩:=c2.cov (c4.kind.trans hk) (by omega)
   have:=t2.len (by omega)
   show (Kd o (H.ops.drop i)).1.rs.length≤_
   omega
  ·rw [(p.status hk).2.2]
   rcases turned_cases H i o with e | ⟨k,e,_,h2,_,_,h5⟩
   ·rw [e];exact Nat.zero_le _
   ·rw [h5]
    have:=(h.hv.pls e (List.mem_of_getElem? h2)).len (by omega)
    show e.now.length≤_
    omega
 ·have htt:=h.tot0
  have hr:=h.room i
  have hrs:o.rs.length≤8796093022208:=by
   by_cases hk:o.kind=2
   ·have:=(g.right.cov hk (by omega)).2.len (by omega)
    omega
   ·rw [g.right.noRs hk];exact Nat.zero_le _
  have hat:0≤o.at_∧o.at_≤65535:=by
   rcases g.right.kind with hk | hk | hk
   ·have:=g.right.ins hk;omega
   all_goals
    have hh:=(g.right.head g.right.w0).2.2
    have h0:o.at_=0:=by
     unfold extraF at hh
     have h1:o.kind≠1:=by omega
     rcases Int.lt_trichotomy o.at_ 0 with h2 | h2 | h2
     ·exfalso;apply hh;have:o.at_≠0:=by omega
      simp [h1,this]
     ·exact h2
     ·exfalso;apply hh;have:o.at_≠0:=by omega
      simp [h1,this]
    omega
  exact ⟨by omega,hrs,by omega,by omega⟩
 ·have:=Made.step h.made g
  rw [hp] at this
  exact this
theorem DI.ops {n:Nat} {H:Hist} {X:List Ce} (h:DI n H X) {i:Nat} {o:GOp} (g:Good H i o):(putF H i o).1.ops=H.ops.take i++([o] ++(Kd o (H.ops.drop i)).2):=h.made.ops (by have:=h.le;omega) g
end Go.Proofs.YthkkklphanidjaaGreatDoor
