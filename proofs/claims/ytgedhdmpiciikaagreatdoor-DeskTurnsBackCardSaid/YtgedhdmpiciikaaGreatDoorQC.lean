/- Part of the proof that this claim's law answers true, whatever its arguments. Condition: the laid variables hold what their initialisers lay (the card ties that to the program's text). -/
import Derived.Laws.RangeString
import Derived.Laws.Concat
import Derived.Test.YtgedhdmpiciikaaGreatDoorQB
set_option linter.unusedVariables false
set_option linter.unusedSimpArgs false
open Go.Proofs.Tryz renaming underlying1→Un1,underlying3→Un3,underlying4→Un4,underlying9→Un9,underlying20→Un20,underlying21→Un21,underlying22→Un22,underlying24→Un24,underlying25→Un25,underlying29→Un29,underlying30→Un30,underlying33→Un33,underlying34→Un34,underlying36→Un36,underlying38→Un38,underlying39→Un39,underlying40→Un40,underlying42→Un42,underlying43→Un43,underlying46→Un46,underlying47→Un47,underlying49→Un49,underlying50→Un50,underlying52→Un52,underlying54→Un54,underlying62→Un62,underlying67→Un67,underlying71→Un71,underlying74→Un74,underlying78→Un78,underlying93→Un93,underlying98→Un98,underlying116→Un116,underlying118→Un118,underlying121→Un121,underlying141→Un141,underlying143→Un143,underlying145→Un145,underlying149→Un149,underlying152→Un152,underlying154→Un154,underlying156→Un156,underlying157→Un157,underlying159→Un159,underlying160→Un160,underlying162→Un162,underlying167→Un167,underlying168→Un168,underlying170→Un170,underlying178→Un178,underlying188→Un188,underlying191→Un191,underlying195→Un195,underlying196→Un196,underlying198→Un198,underlying201→Un201,underlying213→Un213,underlying219→Un219
namespace Go.Proofs.YtgedhdmpiciikaaGreatDoor
open Go Go.GW
structure Same (a b:GOp):Prop where
 c:b.c=a.c
 n:b.n=a.n
 kind:b.kind=a.kind
 text:b.text=a.text
 tc:b.tc=a.tc
 tn:b.tn=a.tn
 on:b.on=a.on
inductive Sames:List GOp→List GOp→Prop
 | nil:Sames [] []
 | cons {a b:GOp} {l m:List GOp} (h:Same a b) (hr:Sames l m):Sames (a::l) (b::m)
theorem Same.refl (a:GOp):Same a a:=⟨rfl,rfl,rfl,rfl,rfl,rfl,rfl⟩
theorem Same.trans {a b c:GOp} (h:Same a b) (k:Same b c):Same a c:=⟨k.c.trans h.c,k.n.trans h.n,k.kind.trans h.kind,k.text.trans h.text,k.tc.trans h.tc,k.tn.trans h.tn,k.on.trans h.on⟩
theorem Same.width {a b:GOp} (h:Same a b):Jx b=Jx a:=by unfold Jx;rw [h.kind,h.text]
theorem Sames.refl: ∀l,Sames l l
 | [] => .nil
 | a::l=> .cons (Same.refl a) (Sames.refl l)
theorem Sames.trans: ∀ {a b c:List GOp},Sames a b→Sames b c→Sames a c
 | _,_,_, .nil, .nil=> .nil
 | _,_,_, .cons h r, .cons k s=> .cons (h.trans k) (r.trans s)
theorem Sames.length {a b:List GOp} (h:Sames a b):b.length=a.length:=by
 induction h with
 | nil=>rfl
 | cons _ _ ih=>simp [ih]
theorem Sames.get {a b:List GOp} (h:Sames a b): ∀(k:Nat) (hk:k<a.length) (hk':k<b.length),Same a[k] b[k] :=by
 induction h with
 | nil=>intro k hk;simp at hk
 | cons h _ ih=>
  intro k hk hk'
  cases k with
  | zero=>exact h
  | succ k=>exact ih k (by simpa using hk) (by simpa using hk')
theorem include_same {a b:GOp} {e:Bool} (h:(JK a b e).2=0):Same a (JK a b e).1:=by
 unfold JK at h ⊢
 split at h
 ·cases h
 ·rename_i h1
  rw [if_neg h1]
  split at h
  ·rename_i h2;rw [if_pos h2];exact Same.refl a
  ·rename_i h2
   rw [if_neg h2]
   split at h
   ·rename_i h3
    rw [if_pos h3]
    split at h
    ·rename_i h4
     rw [if_pos h4]
     unfold movedF at h ⊢
     split at h
     ·cases h
     ·rename_i h5;rw [if_neg h5];exact ⟨rfl,rfl,rfl,rfl,rfl,rfl,rfl⟩
    ·rename_i h4;rw [if_neg h4];exact Same.refl a
   ·rename_i h3
    rw [if_neg h3]
    split at h
    ·rename_i h4
     rw [if_pos h4]
     unfold rangedF at h ⊢
     split at h
     ·rename_i h5;exact absurd h h5
     ·rename_i h5;rw [if_neg h5];exact ⟨rfl,rfl,rfl,rfl,rfl,rfl,rfl⟩
    ·rename_i h4;rw [if_neg h4];exact Same.refl a
theorem crossIn_same: ∀ {fs:List GOp} {l l':GOp} {fs':List GOp},crossIn l fs= .ok (l',fs')→Same l l'∧Sames fs fs'
 | [],l,l',fs',h=>by
  simp only [crossIn,Except.ok.injEq,Prod.mk.injEq] at h
  obtain ⟨rfl,rfl⟩:=h
  exact ⟨Same.refl _, .nil⟩
 | f::fs,l,l',fs',h=>by
  by_cases h1:(JK l f true).2≠0
  ·rw [crossIn_err1 h1] at h;cases h
  ·by_cases h2:(JK f l false).2≠0
   ·rw [crossIn_err2 h1 h2] at h;cases h
   ·rw [Qu h1 h2] at h
    cases hq:crossIn (JK l f true).1 fs with
    | error e=>rw [hq] at h;cases h
    | ok r=>
     obtain ⟨x,y⟩:=r
     rw [hq] at h
     simp only [putIn,Except.ok.injEq,Prod.mk.injEq] at h
     obtain ⟨rfl,rfl⟩:=h
     obtain ⟨k1,k2⟩:=crossIn_same hq
     exact ⟨(include_same (by simpa using h1)).trans k1, .cons (include_same (by simpa using h2)) k2⟩
theorem crossOut_same: ∀ {ls fs a b:List GOp},crossOut fs ls= .ok (a,b)→Sames fs a∧Sames ls b
 | [],fs,a,b,h=>by
  simp only [crossOut,Except.ok.injEq,Prod.mk.injEq] at h
  obtain ⟨rfl,rfl⟩:=h
  exact ⟨Sames.refl _, .nil⟩
 | l::ls,fs,a,b,h=>by
  rw [Ys] at h
  cases hq:crossIn l fs with
  | error e=>rw [hq] at h;cases h
  | ok r=>
   obtain ⟨l',fs'⟩:=r
   rw [hq] at h
   unfold restOut at h
   simp only at h
   cases hq2:crossOut fs' ls with
   | error e=>rw [hq2] at h;cases h
   | ok r2=>
    obtain ⟨x,y⟩:=r2
    rw [hq2] at h
    simp only [Except.ok.injEq,Prod.mk.injEq] at h
    obtain ⟨rfl,rfl⟩:=h
    obtain ⟨k1,k2⟩:=crossIn_same hq
    obtain ⟨k3,k4⟩:=crossOut_same hq2
    exact ⟨k2.trans k3, .cons k1 k4⟩
theorem crossIn_ne: ∀ {fs:List GOp} {l:GOp} {e:Int},crossIn l fs= .error e→e≠0
 | [],l,e,h=>by simp [crossIn] at h
 | f::fs,l,e,h=>by
  by_cases h1:(JK l f true).2≠0
  ·rw [crossIn_err1 h1] at h;cases h;exact h1
  ·by_cases h2:(JK f l false).2≠0
   ·rw [crossIn_err2 h1 h2] at h;cases h;exact h2
   ·rw [Qu h1 h2] at h
    cases hq:crossIn (JK l f true).1 fs with
    | error e'=>rw [hq] at h;cases h;exact crossIn_ne hq
    | ok r=>rw [hq] at h;obtain ⟨a,b⟩:=r;cases h
theorem crossOut_ne: ∀ {ls fs:List GOp} {e:Int},crossOut fs ls= .error e→e≠0
 | [],fs,e,h=>by simp [crossOut] at h
 | l::ls,fs,e,h=>by
  rw [Ys] at h
  cases hq:crossIn l fs with
  | error e'=>rw [hq] at h;cases h;exact crossIn_ne hq
  | ok r=>
   obtain ⟨l',fs'⟩:=r
   rw [hq] at h
   unfold restOut at h
   simp only at h
   cases hq2:crossOut fs' ls with
   | error e'=>rw [hq2] at h;cases h;exact crossOut_ne hq2
   | ok r2=>rw [hq2] at h;obtain ⟨a,b⟩:=r2;cases h
theorem crossIn_fit: ∀ {fs:List GOp} {l l':GOp} {fs':List GOp},Fit l→(∀o∈fs,Fit o)→crossIn l fs= .ok (l',fs')→Fit l'∧ ∀o∈fs',Fit o
 | [],l,l',fs',hl,hf,h=>by
  simp only [crossIn,Except.ok.injEq,Prod.mk.injEq] at h
  obtain ⟨rfl,rfl⟩:=h
  exact ⟨hl,hf⟩
 | f::fs,l,l',fs',hl,hf,h=>by
  have hff:=hf f List.mem_cons_self
  by_cases h1:(JK l f true).2≠0
  ·rw [crossIn_err1 h1] at h;cases h
  ·by_cases h2:(JK f l false).2≠0
   ·rw [crossIn_err2 h1 h2] at h;cases h
   ·rw [Qu h1 h2] at h
    cases hq:crossIn (JK l f true).1 fs with
    | error e=>rw [hq] at h;cases h
    | ok r=>
     obtain ⟨x,y⟩:=r
     rw [hq] at h
     simp only [putIn,Except.ok.injEq,Prod.mk.injEq] at h
     obtain ⟨rfl,rfl⟩:=h
     obtain ⟨k1,k2⟩:=crossIn_fit (hl.include hff true) (fun o ho=>hf o (List.mem_cons_of_mem _ ho)) hq
     refine ⟨k1,fun o ho=> ?_⟩
     rcases List.mem_cons.1 ho with rfl | ho
     ·exact hff.include hl false
     ·exact k2 o ho
theorem crossOut_fit: ∀ {ls fs a b:List GOp},(∀o∈fs,Fit o)→(∀o∈ls,Fit o)→crossOut fs ls= .ok (a,b)→(∀o∈a,Fit o)∧ ∀o∈b,Fit o
 | [],fs,a,b,hf,hl,h=>by
  simp only [crossOut,Except.ok.injEq,Prod.mk.injEq] at h
  obtain ⟨rfl,rfl⟩:=h
  exact ⟨hf,hl⟩
 | l::ls,fs,a,b,hf,hl,h=>by
  rw [Ys] at h
  cases hq:crossIn l fs with
  | error e=>rw [hq] at h;cases h
  | ok r=>
   obtain ⟨l',fs'⟩:=r
   rw [hq] at h
   unfold restOut at h
   simp only at h
   cases hq2:crossOut fs' ls with
   | error e=>rw [hq2] at h;cases h
   | ok r2=>
    obtain ⟨x,y⟩:=r2
    rw [hq2] at h
    simp only [Except.ok.injEq,Prod.mk.injEq] at h
    obtain ⟨rfl,rfl⟩:=h
    obtain ⟨k1,k2⟩:=crossIn_fit (hl l List.mem_cons_self) hf hq
    obtain ⟨k3,k4⟩:=crossOut_fit k2 (fun o ho=>hl o (List.mem_cons_of_mem _ ho)) hq2
    refine ⟨k3,fun o ho=> ?_⟩
    rcases List.mem_cons.1 ho with rfl | ho
    ·exact k1
    ·exact k4 o ho
theorem Ht {xs ys:List GOp} (hx: ∀o∈xs,Fit o) (hy: ∀o∈ys,Fit o):(∀o∈(crossF xs ys).1,Fit o)∧ ∀o∈(crossF xs ys).2.1,Fit o:=by
 have h0: ∀e:Int,(∀o∈(([],[],e):List GOp×List GOp×Int).1,Fit o)∧ ∀o∈(([],[],e):List GOp×List GOp×Int).2.1,Fit o:=fun e=>⟨fun o h=>by simp at h,fun o h=>by simp at h⟩
 by_cases h1:ownsF xs≠0
 ·rw [EZ h1];exact h0 _
 ·by_cases h2:ownsF ys≠0
  ·rw [EY (by simpa using h1) h2];exact h0 _
  ·cases hq:crossOut xs ys with
   | error e=>rw [Gv (by simpa using h1) (by simpa using h2) hq];exact h0 _
   | ok r=>
    obtain ⟨a,b⟩:=r
    rw [Gu (by simpa using h1) (by simpa using h2) hq]
    exact crossOut_fit hx hy hq
theorem XD {xs ys:List GOp} (h:(crossF xs ys).2.2=0):Sames xs (crossF xs ys).1∧Sames ys (crossF xs ys).2.1:=by
 unfold crossF at h ⊢
 split at h
 ·rename_i h1;exact absurd h h1
 ·rename_i h1
  rw [if_neg h1]
  split at h
  ·rename_i h2;exact absurd h h2
  ·rename_i h2
   rw [if_neg h2]
   cases hq:crossOut xs ys with
   | error e=>rw [hq] at h;simp only at h;exact absurd h (crossOut_ne hq)
   | ok r=>obtain ⟨a,b⟩:=r;exact crossOut_same hq
def zipE:List GOp→List Ent→List Ent
 | x::xs,e::es=>⟨x,e.now,e.off⟩::zipE xs es
 | _,_=> []
def newEnts (i:Nat) (o:GOp) (now:List Rg) (es:List Ent) (later:List GOp):List Ent:=es.take i++⟨o,now,false⟩::zipE later (es.drop i)
def setNow:List Ent→List (List Rg)→Nat→List Ent
 | e::es,l::ls,k+1=>⟨e.op,l,e.off⟩::setNow es ls k
 | es,_,_=>es
def effF (o:GOp):GOp:= { zeroOp with kind:=o.kind }
structure Mid where
 es:List Ent
 now:List Rg
 eff:GOp
def midF (H:Hist) (i:Nat) (o t:GOp):Except Int Mid:=
 if o.kind=1 then match movedAll H.ents t.at_ (Jx o) with
  | .error e=> .error e
  | .ok ls=> .ok ⟨setNow H.ents ls H.ents.length,[⟨t.at_,t.at_+Jx o⟩],{ effF o with at_:=t.at_,text:=o.text }⟩
 else if o.kind=2 then .ok ⟨H.ents,t.rs,{ effF o with rs:=t.rs }⟩
 else if o.kind=4 then .ok ⟨(turnedF H i o).1,[],(turnedF H i o).2⟩
 else .ok ⟨H.ents,[],effF o⟩
def putF (H:Hist) (i:Int) (o:GOp):Hist×GOp×Int:=
 if fitsF H i o≠0 then (H,zeroOp,fitsF H i o)
 else if (crossF [o] (H.ops.drop i.toNat)).2.2≠0 then (H,zeroOp,(crossF [o] (H.ops.drop i.toNat)).2.2)
 else match midF H i.toNat o ((crossF [o] (H.ops.drop i.toNat)).1.headD zeroOp) with
  | .error e=>(H,zeroOp,e)
  | .ok m=>(⟨newEnts i.toNat o m.now m.es (crossF [o] (H.ops.drop i.toNat)).2.1,H.total+Jx o⟩,m.eff,0)
theorem zipE_ops: ∀(xs:List GOp) (es:List Ent),xs.length=es.length→(zipE xs es).map (·.op)=xs
 | [],[],_=>rfl
 | x::xs,e::es,h=>by simp [zipE,zipE_ops xs es (by simpa using h)]
theorem Xr: ∀(xs:List GOp) (es:List Ent),xs.length=es.length→(zipE xs es).length=es.length
 | [],[],_=>rfl
 | x::xs,e::es,h=>by simp [zipE,Xr xs es (by simpa using h)]
theorem VP: ∀(es:List Ent) (ls:List (List Rg)) (k:Nat),(setNow es ls k).length=es.length
 | [],_,_=>by simp [setNow]
 | e::es,[],k=>by simp [setNow]
 | e::es,l::ls,0=>by simp [setNow]
 | e::es,l::ls,k+1=>by simp [setNow,VP es ls k]
theorem setNow_ops: ∀(es:List Ent) (ls:List (List Rg)) (k:Nat),(setNow es ls k).map (·.op)=es.map (·.op)
 | [],_,_=>by simp [setNow]
 | e::es,[],k=>by simp [setNow]
 | e::es,l::ls,0=>by simp [setNow]
 | e::es,l::ls,k+1=>by simp [setNow,setNow_ops es ls k]
theorem Xu (es:List Ent) (ls:List (List Rg)):setNow es ls 0=es:=by cases es<;>cases ls<;>rfl
theorem X9: ∀(es:List Ent) (ls:List (List Rg)) (k:Nat) (h:k<es.length),(setNow es ls k)[k]? =some es[k]
 | e::es,[],k,h=>by simp only [setNow];exact List.getElem?_eq_getElem h
 | e::es,l::ls,0,_=>by simp [setNow]
 | e::es,l::ls,k+1,h=>by simpa [setNow] using X9 es ls k (by simpa using h)
theorem setNow_succ: ∀(es:List Ent) (ls:List (List Rg)) (k:Nat) (h:k<es.length) (h2:k<ls.length),setNow es ls (k+1)=(setNow es ls k).set k ⟨es[k].op,ls[k],es[k].off⟩
 | e::es,l::ls,0,_,_=>by simp [setNow,Xu]
 | e::es,l::ls,k+1,h,h2=>by
  have:=setNow_succ es ls k (by simpa using h) (by simpa using h2)
  simp only [setNow,List.set_cons_succ,List.getElem_cons_succ]
  rw [←this]
theorem Vl: ∀ {es:List Ent} {at_ n:Int} {ls:List (List Rg)},movedAll es at_ n= .ok ls→ls.length=es.length
 | [],_,_,ls,h=>by simp only [movedAll,Except.ok.injEq] at h;subst h;rfl
 | e::es,at_,n,ls,h=>by
  unfold movedAll at h
  split at h
  ·cases h
  ·cases hq:movedAll es at_ n with
   | error x=>rw [hq] at h;cases h
   | ok l=>rw [hq] at h;simp only [Except.ok.injEq] at h;subst h;simp [Vl hq]
theorem Xy: ∀ {es:List Ent} {at_ n:Int} {ls:List (List Rg)},movedAll es at_ n= .ok ls→ ∀l∈ls,l.length≤32768
 | [],_,_,ls,h,l,hl=>by simp only [movedAll,Except.ok.injEq] at h;subst h;cases hl
 | e::es,at_,n,ls,h,l,hl=>by
  unfold movedAll at h
  split at h
  ·cases h
  ·cases hq:movedAll es at_ n with
   | error x=>rw [hq] at h;cases h
   | ok r=>
    rw [hq] at h;simp only [Except.ok.injEq] at h;subst h
    rcases List.mem_cons.1 hl with rfl | hl
    ·exact EI _ _ _
    ·exact Xy hq l hl
def marksG:List Ent→(Nat→Nat)→Nat→List Mark
 | [],_,_=> []
 | e::r,f,j=>markAt (f j) e::marksG r f (j+1)
theorem marksG_id: ∀(l:List Ent) (k:Nat),marksG l (fun j=>j) k=marksFrom l k
 | [],_=>rfl
 | e::r,k=>by simp [marksG,marksFrom,marksG_id r (k+1)]
theorem marksG_congr: ∀(l:List Ent) (f g:Nat→Nat) (k:Nat),(∀j,j<l.length→f (k+j)=g (k+j))→marksG l f k=marksG l g k
 | [],_,_,_,_=>rfl
 | e::r,f,g,k,h=>by
  have h0:=h 0 (by simp)
  simp only [Nat.add_zero] at h0
  simp only [marksG,h0]
  rw [marksG_congr r f g (k+1) fun j hj=>by have:=h (j+1) (by simpa using hj);rw [show k+1+j=k+(j+1) from by omega];exact this]
theorem QD: ∀(a b:List Ent) (f:Nat→Nat) (k:Nat),marksG (a++b) f k=marksG a f k++marksG b f (k+a.length)
 | [],b,f,k=>by simp [marksG]
 | e::a,b,f,k=>by
  simp only [List.cons_append,marksG,QD a b f (k+1),List.length_cons]
  rw [show k+1+a.length=k+(a.length+1) from by omega]
theorem VX: ∀(l:List Ent) (f:Nat→Nat) (k j:Nat) (e:Ent),l[j]? =some e→(marksG l f k)[j]? =some (markAt (f (k+j)) e)
 | [],_,_,j,e,h=>by simp at h
 | a::r,f,k,0,e,h=>by simp at h;subst h;simp [marksG]
 | a::r,f,k,j+1,e,h=>by
  have:=VX r f (k+1) j e (by simpa using h)
  simp only [marksG,List.getElem?_cons_succ,this]
  rw [show k+1+j=k+(j+1) from by omega]
theorem marksG_ids: ∀(l:List Ent) (f:Nat→Nat) (k:Nat),(marksG l f k).map (fun x=>(x.c,x.n))=l.map fun e=>(e.op.c,e.op.n)
 | [],_,_=>rfl
 | a::r,f,k=>by simp [marksG,markAt,marksG_ids r f (k+1)]
theorem Gn: ∀(l:List Ent) (f:Nat→Nat) (k j v:Nat) (h:j<l.length),marksG l (fun q=>if q=k+j then v else f q) k=(marksG l f k).set j (markAt v l[j])
 | [],_,_,j,v,h=>by simp at h
 | a::r,f,k,0,v,h=>by
  simp only [marksG,List.set_cons_zero,Nat.add_zero,if_true,List.getElem_cons_zero]
  rw [marksG_congr r _ f (k+1) fun j _=>if_neg (by omega)]
 | a::r,f,k,j+1,v,h=>by
  have:=Gn r f (k+1) j v (by simpa using h)
  simp only [marksG,List.set_cons_succ,List.getElem_cons_succ,if_neg (by omega: ¬k=k+(j+1))]
  rw [show k+(j+1)=k+1+j from by omega,this]
structure HN (F:List Ent) (L:List MR) (f:Nat→Nat):Prop where
 perm:(L.map (·.mark)).Perm (marksG F f 0)
 ids:(F.map fun e=>(e.op.c,e.op.n)).Nodup
theorem HN.nodup {F:List Ent} {L:List MR} {f:Nat→Nat} (h:HN F L f):(L.map fun x=>(x.mark.c,x.mark.n)).Nodup:=by
 have h1:(L.map fun x=>(x.mark.c,x.mark.n))=(L.map (·.mark)).map fun x=>(x.c,x.n):=by simp [List.map_map,Function.comp_def]
 rw [h1,(h.perm.map _).nodup_iff,marksG_ids]
 exact h.ids
theorem HN.look {F:List Ent} {L:List MR} {f:Nat→Nat} (h:HN F L f) {k:Nat} (hk:k<F.length): ∃(j:Nat) (x:MR),L[j]? =some x∧x.mark=markAt (f k) F[k] ∧mGet (keys L) F[k].op.c F[k].op.n=some x.b:=by
 have h1:=VX F f 0 k _ (List.getElem?_eq_getElem hk)
 have h2:=(h.perm.mem_iff).2 (List.mem_of_getElem? h1)
 obtain ⟨x,hx,hm⟩:=List.mem_map.1 h2
 obtain ⟨j,hj,rfl⟩:=List.mem_iff_getElem.1 hx
 rw [Nat.zero_add] at hm
 refine ⟨j,L[j],List.getElem?_eq_getElem hj,hm,?_⟩
 have:=Eu h.nodup hx
 rw [hm] at this
 exact this
theorem HN.upd {F:List Ent} {L:List MR} {f:Nat→Nat} (h:HN F L f) {k j:Nat} (hk:k<F.length) {x:MR} (hj:L[j]? =some x) (hm:x.mark=markAt (f k) F[k]):HN F (L.set j ⟨markAt k F[k],x.b,x.A,x.cap⟩) (fun q=>if q=k then k else f q):=by
 refine ⟨?_,h.ids⟩
 have e:=Gn F f 0 k k hk
 simp only [Nat.zero_add] at e
 rw [List.map_set,e]
 refine set_perm h.perm (a:=markAt (f k) F[k]) ?_ ?_ _
 ·rw [List.getElem?_map,hj];simp [hm]
 ·have:=VX F f 0 k _ (List.getElem?_eq_getElem hk)
  rwa [Nat.zero_add] at this
def numF (i k j:Nat):Nat:=if j<k then j else if j≤i then j else j-1
theorem HN.next {F:List Ent} {L:List MR} {i k:Nat} (h:HN F L (fun q=>if q=k then k else numF i k q)):HN F L (numF i (k+1)):=by
 refine ⟨?_,h.ids⟩
 rw [marksG_congr F (numF i (k+1)) (fun q=>if q=k then k else numF i k q) 0 fun j _=> ?_]
 ·exact h.perm
 ·simp only [Nat.zero_add,numF]
  by_cases e:j=k
  ·subst e;simp
  ·rw [if_neg e]
   by_cases e2:j<k
   ·rw [if_pos e2,if_pos (by omega)]
   ·rw [if_neg e2,if_neg (by omega)]
theorem marksG_zipE: ∀(xs:List GOp) (es:List Ent) (f g:Nat→Nat) (k k':Nat),Sames (es.map (·.op)) xs→(∀j,j<es.length→f (k+j)=g (k'+j))→marksG (zipE xs es) f k=marksG es g k'
 | [],[],_,_,_,_,_,_=>rfl
 | x::xs,e::es,f,g,k,k',h,hf=>by
  cases h with
  | cons h hr=>
   have h0:=hf 0 (by simp)
   simp only [Nat.add_zero] at h0
   simp only [zipE,marksG,markAt,h0,h.c,h.n]
   congr 1
   exact marksG_zipE xs es f g (k+1) (k'+1) hr fun j hj=>by
    have:=hf (j+1) (by simpa using hj)
    rw [show k+1+j=k+(j+1) from by omega,show k'+1+j=k'+(j+1) from by omega];exact this
 | [],e::es,_,_,_,_,h,_=>by cases h
 | x::xs,[],_,_,_,_,h,_=>by cases h
theorem ids_zipE: ∀(xs:List GOp) (es:List Ent),Sames (es.map (·.op)) xs→(zipE xs es).map (fun e=>(e.op.c,e.op.n))=es.map fun e=>(e.op.c,e.op.n)
 | [],[],_=>rfl
 | x::xs,e::es,h=>by
  cases h with
  | cons h hr=>simp [zipE,h.c,h.n,ids_zipE xs es hr]
 | [],e::es,h=>by cases h
 | x::xs,[],h=>by cases h
theorem HN.start {es:List Ent} {L:List MR} {t:Int} (h:HR ⟨es,t⟩ L) {i:Nat} (hi:i≤es.length) {o:GOp} {nw:List Rg} {later:List GOp} (hs:Sames ((es.drop i).map (·.op)) later) (hn:JX es o.c o.n=none) (b:Nat) (A:Option Addr) (c:Nat):
  HN (newEnts i o nw es later) (L++ [⟨markAt i ⟨o,nw,false⟩,b,A,c⟩]) (numF i i):=by
 have hlen:(es.take i).length=i:=by rw [List.length_take];omega
 constructor
 ·unfold newEnts
  rw [QD,hlen,List.map_append,Nat.zero_add]
  simp only [marksG,List.map_cons,List.map_nil]
  have e1:marksG (es.take i) (numF i i) 0=marksG (es.take i) (fun j=>j) 0:=marksG_congr _ _ _ _ fun j hj=>by rw [hlen] at hj;simp only [Nat.zero_add,numF,if_pos hj]
  have e2:marksG (zipE later (es.drop i)) (numF i i) (i+1)=marksG (es.drop i) (fun j=>j) i:=marksG_zipE _ _ _ _ _ _ hs fun j hj=>by
   simp only [numF];rw [if_neg (by omega),if_neg (by omega)];omega
  have e3:marksFrom es 0=marksG (es.take i) (fun j=>j) 0++marksG (es.drop i) (fun j=>j) i:=by
   rw [←marksG_id]
   conv=>lhs;rw [←List.take_append_drop i es]
   rw [QD,hlen,Nat.zero_add]
  have e4:numF i i i=i:=by simp [numF]
  rw [e1,e2,e4]
  have p1:=h.perm
  simp only at p1
  rw [e3] at p1
  refine (p1.append_right _).trans ?_
  rw [List.append_assoc]
  refine List.Perm.append_left _ ?_
  exact List.perm_append_comm
 ·have h1:=h.ids
  simp only at h1
  unfold newEnts
  rw [List.map_append,List.map_cons,ids_zipE _ _ hs]
  have e:(es.map fun e=>(e.op.c,e.op.n))=((es.take i).map fun e=>(e.op.c,e.op.n))++((es.drop i).map fun e=>(e.op.c,e.op.n)):=by rw [←List.map_append,List.take_append_drop]
  have hnot:(o.c,o.n)∉es.map fun e=>(e.op.c,e.op.n):=fun hm=>by
   obtain ⟨x,hx,hh⟩:=List.mem_map.1 hm
   simp only [Prod.mk.injEq] at hh
   exact K5 hn x hx hh
  have p:(((es.take i).map fun e=>(e.op.c,e.op.n))++(o.c,o.n)::((es.drop i).map fun e=>(e.op.c,e.op.n))).Perm ((o.c,o.n)::es.map fun e=>(e.op.c,e.op.n)):=by
   rw [e];exact List.perm_middle
  exact p.nodup_iff.2 (List.nodup_cons.2 ⟨hnot,h1⟩)
theorem HN.done {F:List Ent} {L:List MR} {i k:Nat} (h:HN F L (numF i k)) (hk: ¬k<F.length):(L.map (·.mark)).Perm (marksFrom F 0):=by
 have:=h.perm
 rw [marksG_congr F (numF i k) (fun j=>j) 0 fun j hj=>by simp only [Nat.zero_add,numF];rw [if_pos (by omega)],marksG_id] at this
 exact this
def rsl:De (List Rg):=De.sl rgD
theorem rsl_open (u:List Rg): ∀Z w cs,rsl.rep Z w u cs→ ∃y:Option Addr×Nat,cs= [.slice y.1 u.length y.2] ∧ ∀B∈ [RdF rgD y.1 y.2 u],B.holds Z w:=fun _ _ _ h=>by
 obtain ⟨A,c,h1,h2⟩:=h
 exact ⟨(A,c),h1,fun B hB=>by simp only [List.mem_singleton] at hB;subst hB;exact h2⟩
theorem crossOne {o:GOp} {ys:List GOp} (h:(crossF [o] ys).2.2=0): ∃t,(crossF [o] ys).1= [t] ∧Same o t:=by
 have h1:=(XD h).1
 generalize (crossF [o] ys).1=q at h1
 cases h1 with
 | cons h hr=>cases hr;exact ⟨_,rfl,h⟩
theorem fits_0 {H:Hist} {i:Int} {o:GOp} (h:fitsF H i o=0):0≤i∧i≤H.ents.length∧JX H.ents o.c o.n=none∧H.total+Jx o≤1048576∧o.kind≠3∧1≤o.kind∧o.kind≤4∧checkF o (KQ H i.toNat)=0∧(o.kind=4→ ∃k,JX H.ents o.tc o.tn=some k):=by
 unfold fitsF at h
 split at h
 ·cases h
 ·rename_i h1
  split at h
  ·rename_i h2;exact absurd h h2
  ·rename_i h2
   split at h
   ·cases h
   ·rename_i h3
    split at h
    ·cases h
    ·split at h
     ·cases h
     ·rename_i h5
      have hck:checkF o (KQ H i.toNat)=0:=by simpa using h2
      have hkind:1≤o.kind∧o.kind≤4:=by
       have hc:=hck
       unfold checkF at hc
       split at hc
       ·cases hc
       ·split at hc
        ·cases hc
        ·omega
      have hw:JX H.ents o.c o.n=none:=by
       cases hq:JX H.ents o.c o.n with
       | none=>rfl
       | some k=>rw [hq] at h5;simp at h5
      have hrest: ∀ {x:Int},fitsRest H o=0→H.total+Jx o≤1048576:=fun h=>by
       unfold fitsRest at h
       split at h
       ·cases h
       ·omega
      split at h
      ·rename_i h6
       unfold fitsT at h
       cases hq:JX H.ents o.tc o.tn with
       | none=>rw [hq] at h;cases h
       | some k=>
        rw [hq] at h
        simp only at h
        split at h
        ·cases h
        ·cases hq2:H.ents[k]? with
         | none=>rw [hq2] at h;cases h
         | some e=>
          rw [hq2] at h
          simp only at h
          split at h
          ·cases h
          ·exact ⟨by omega,by omega,hw,hrest (x:=0) h,h3,hkind.1,hkind.2,hck,fun _=>⟨k,O⟩⟩
      ·rename_i h6
       exact ⟨by omega,by omega,hw,hrest (x:=0) h,h3,hkind.1,hkind.2,hck,fun hh=>absurd hh h6⟩
theorem check_wid {o:GOp} {t:Int} (h:checkF o t=0):Jx o≤256:=by
 unfold checkF at h
 split at h
 ·cases h
 ·split at h
  ·cases h
  ·split at h
   ·cases h
   ·split at h
    ·cases h
    ·split at h
     ·rename_i hk
      unfold insF at h
      split at h
      ·rename_i h1;exact absurd h h1
      ·split at h
       ·cases h
       ·split at h
        ·cases h
        ·unfold Jx;rw [if_pos hk];omega
     ·rename_i hk
      unfold Jx;rw [if_neg hk];omega
theorem newEnts_ops {i:Nat} {o:GOp} {nw:List Rg} {es:List Ent} {later:List GOp} (h:Sames ((es.drop i).map (·.op)) later):(newEnts i o nw es later).map (·.op)=(es.map (·.op)).take i++([o] ++later):=by
 unfold newEnts
 have hl:later.length=(es.drop i).length:=by rw [h.length];simp
 rw [List.map_append,List.map_cons,zipE_ops _ _ hl,List.map_take];rfl
theorem YA {i:Nat} {o:GOp} {nw:List Rg} {es:List Ent} {later:List GOp} {e:Ent} (h:Sames ((es.drop i).map (·.op)) later) (he:e∈newEnts i o nw es later):e∈es∨e=⟨o,nw,false⟩∨ ∃x∈es,∃y∈later,Same x.op y∧e=⟨y,x.now,x.off⟩:=by
 unfold newEnts at he
 rcases List.mem_append.1 he with he | he
 ·exact .inl (List.mem_of_mem_take he)
 ·rcases List.mem_cons.1 he with rfl | he
  ·exact .inr (.inl O)
  ·right;right
   have key: ∀(xs:List GOp) (l:List Ent),Sames (l.map (·.op)) xs→e∈zipE xs l→ ∃x∈l,∃y∈xs,Same x.op y∧e=⟨y,x.now,x.off⟩:=by
    intro xs
    induction xs with
    | nil=>intro l _ he;cases l<;>simp [zipE] at he
    | cons y xs ih=>
     intro l hs he
     cases l with
     | nil=>simp [zipE] at he
     | cons x l=>
      cases hs with
      | cons h1 h2=>
       unfold zipE at he
       rcases List.mem_cons.1 he with rfl | he
       ·exact ⟨x,List.mem_cons_self,y,List.mem_cons_self,h1,O⟩
       ·obtain ⟨x',hx,y',hy,hh⟩:=ih l h2 he
        exact ⟨x',List.mem_cons_of_mem _ hx,y',List.mem_cons_of_mem _ hy,hh⟩
   obtain ⟨x,hx,y,hy,hh⟩:=key later _ h he
   exact ⟨x,List.mem_of_mem_drop hx,y,hy,hh⟩
theorem Qq {i:Nat} {o:GOp} {nw:List Rg} {es:List Ent} {later:List GOp} (h:Sames ((es.drop i).map (·.op)) later) (hi:i≤es.length):(newEnts i o nw es later).length=es.length+1:=by
 unfold newEnts
 have hl:later.length=(es.drop i).length:=by rw [h.length];simp
 rw [List.length_append,List.length_cons,Xr _ _ hl,List.length_take,List.length_drop];omega
structure MidI (H:Hist) (i:Nat) (o t:GOp) (L:List MR) (es:List Ent) (L1:List MR) (nw:List Rg) (eff:GOp):Prop where
 hr:HR ⟨es,H.total⟩ L1
 keys:keys L1=keys L
 mid:midF H i o t= .ok ⟨es,nw,eff⟩
 ops:es.map (·.op)=H.ops
 now:nw.length≤4398046511104
def PuP (H:Hist) (i:Int) (o:GOp) (h m:Nat) (cap:Nat) (A:Option Addr) (L:List MR):Value→List Part→List Fact→Prop:=fun v Lo fs=>
 ∃(L':List MR) (A':Option Addr) (cap':Nat) (Ae:Option Addr) (ce:Nat),HR (putF H i o).1 L'∧v= .tuple #[opV (putF H i o).2.1 Ae ce, .int .i64 (putF H i o).2.2] ∧
  Lo= [hdP h A' (putF H i o).1.ops.length cap' m (putF H i o).1.total,mpP m L',mkP L'] ∧fs= [RdF rgD Ae ce (putF H i o).2.1.rs,RdF opD A' cap' (putF H i o).1.ops,AllF L' nowF]
theorem put_1 {H:Hist} {i:Int} {o:GOp} (h:fitsF H i o≠0):putF H i o=(H,zeroOp,fitsF H i o):=by unfold putF;rw [if_pos h]
theorem put_2 {H:Hist} {i:Int} {o:GOp} (h:fitsF H i o=0) (h2:(crossF [o] (H.ops.drop i.toNat)).2.2≠0):putF H i o=(H,zeroOp,(crossF [o] (H.ops.drop i.toNat)).2.2):=by unfold putF;rw [if_neg (by simpa using h),if_pos h2]
theorem put_3 {H:Hist} {i:Int} {o t:GOp} {e:Int} (h:fitsF H i o=0) (h2:(crossF [o] (H.ops.drop i.toNat)).2.2=0) (ht:(crossF [o] (H.ops.drop i.toNat)).1= [t]) (h3:midF H i.toNat o t= .error e):putF H i o=(H,zeroOp,e):=by
 unfold putF;rw [if_neg (by simpa using h),if_neg (by simpa using h2),ht];simp only [List.headD_cons,h3]
theorem put_4 {H:Hist} {i:Int} {o t:GOp} {es:List Ent} {nw:List Rg} {eff:GOp} (h:fitsF H i o=0) (h2:(crossF [o] (H.ops.drop i.toNat)).2.2=0) (ht:(crossF [o] (H.ops.drop i.toNat)).1= [t]) (h3:midF H i.toNat o t= .ok ⟨es,nw,eff⟩):putF H i o=(⟨newEnts i.toNat o nw es (crossF [o] (H.ops.drop i.toNat)).2.1,H.total+Jx o⟩,eff,0):=by
 unfold putF;rw [if_neg (by simpa using h),if_neg (by simpa using h2),ht];simp only [List.headD_cons,h3]
theorem movedAll_ne: ∀ {es:List Ent} {at_ n:Int} {e:Int},movedAll es at_ n= .error e→e≠0
 | [],_,_,e,h=>by cases h
 | x::es,at_,n,e,h=>by
  unfold movedAll at h
  split at h
  ·rename_i h1;cases h;exact h1
  ·cases hq:movedAll es at_ n with
   | error y=>rw [hq] at h;cases h;exact movedAll_ne hq
   | ok l=>rw [hq] at h;cases h
theorem MidI.len {H:Hist} {i:Nat} {o t:GOp} {L L1:List MR} {es:List Ent} {nw:List Rg} {eff:GOp} (M:MidI H i o t L es L1 nw eff):es.length=H.ents.length:=by
 have:=congrArg List.length M.ops
 simpa [Hist.ops] using this
theorem HR.put {H:Hist} {i k:Nat} {o t:GOp} {L L1 Lk:List MR} {es:List Ent} {nw:List Rg} {eff:GOp} {later:List GOp} (M:MidI H i o t L es L1 nw eff) (hsl:Sames ((es.drop i).map (·.op)) later) (hfl: ∀y∈later,Fit y) (ho:Fit o) (hw:Jx o≤256) (hlt:H.ents.length<1000000)
  (ht:H.total+Jx o≤1048576) (hi:i≤H.ents.length) (hn:HN (newEnts i o nw es later) Lk (numF i k)) (hk: ¬k<(newEnts i o nw es later).length):HR ⟨newEnts i o nw es later,H.total+Jx o⟩ Lk:=by
 have hl:=M.len
 refine ⟨hn.done hk,hn.ids,?_,?_,?_,?_,?_⟩
 ·intro e he
  rcases YA hsl he with he | rfl | ⟨x,hx,y,hy,hs,rfl⟩
  ·exact M.hr.fit e he
  ·exact ho
  ·exact hfl y hy
 ·intro e he
  rcases YA hsl he with he | rfl | ⟨x,hx,y,hy,hs,rfl⟩
  ·exact M.hr.wid e he
  ·exact hw
  ·show Jx y≤256
   rw [hs.width];exact M.hr.wid x hx
 ·intro e he
  rcases YA hsl he with he | rfl | ⟨x,hx,y,hy,hs,rfl⟩
  ·exact M.hr.now e he
  ·exact M.now
  ·exact M.hr.now x hx
 ·show (newEnts i o nw es later).length≤1000000
  rw [Qq hsl (by omega)];omega
 ·have:=M.hr.tot
  have:=KV o
  show 0≤H.total+Jx o∧H.total+Jx o≤1048576
  simp only at *
  omega
def headF (o:GOp):Prop:= ¬(o.kind<1∨o.kind>4)∧ ¬((o.c≠0∨o.n≠0)∧rightF o.c o.n=false)∧ ¬extraF o=true
theorem check_ins {o:GOp} {w:Int} (hk:o.kind=1) (hw:0≤w∧w≤1048576):checkF o w=0↔headF o∧insF o w=0:=by
 unfold checkF headF
 rw [if_neg (by omega)]
 by_cases h1:o.kind<1∨o.kind>4
 ·omega
 ·by_cases h2:(o.c≠0∨o.n≠0)∧rightF o.c o.n=false
  ·rw [if_neg h1,if_pos h2];exact ⟨fun h=>(by cases h),fun h=>absurd h2 h.1.2.1⟩
  ·by_cases h3:extraF o=true
   ·rw [if_neg h1,if_neg h2,if_pos h3];exact ⟨fun h=>(by cases h),fun h=>absurd h3 h.1.2.2⟩
   ·rw [if_neg h1,if_neg h2,if_neg h3,if_pos hk];exact ⟨fun h=>⟨⟨h1,h2,h3⟩,h⟩,fun h=>h.2⟩
theorem check_cov {o:GOp} {w:Int} (hk:o.kind=2∨o.kind=3) (hw:0≤w∧w≤1048576):checkF o w=0↔headF o∧YV o.rs w=0:=by
 unfold checkF headF
 rw [if_neg (by omega)]
 by_cases h1:o.kind<1∨o.kind>4
 ·omega
 ·by_cases h2:(o.c≠0∨o.n≠0)∧rightF o.c o.n=false
  ·rw [if_neg h1,if_pos h2];exact ⟨fun h=>(by cases h),fun h=>absurd h2 h.1.2.1⟩
  ·by_cases h3:extraF o=true
   ·rw [if_neg h1,if_neg h2,if_pos h3];exact ⟨fun h=>(by cases h),fun h=>absurd h3 h.1.2.2⟩
   ·rw [if_neg h1,if_neg h2,if_neg h3,if_neg (by omega),if_neg (by omega)];exact ⟨fun h=>⟨⟨h1,h2,h3⟩,h⟩,fun h=>h.2⟩
theorem check_st {o:GOp} {w:Int} (hk:o.kind=4) (hw:0≤w∧w≤1048576):checkF o w=0↔headF o∧rightF o.tc o.tn=true∧ ¬(o.tc=o.c∧o.tn=o.n):=by
 unfold checkF headF
 rw [if_neg (by omega)]
 by_cases h1:o.kind<1∨o.kind>4
 ·omega
 ·by_cases h2:(o.c≠0∨o.n≠0)∧rightF o.c o.n=false
  ·rw [if_neg h1,if_pos h2];exact ⟨fun h=>(by cases h),fun h=>absurd h2 h.1.2.1⟩
  ·by_cases h3:extraF o=true
   ·rw [if_neg h1,if_neg h2,if_pos h3];exact ⟨fun h=>(by cases h),fun h=>absurd h3 h.1.2.2⟩
   ·rw [if_neg h1,if_neg h2,if_neg h3,if_neg (by omega),if_pos hk]
    by_cases h4:rightF o.tc o.tn=false∨(o.tc=o.c∧o.tn=o.n)
    ·rw [if_pos h4]
     refine ⟨fun h=>(by cases h),fun h=> ?_⟩
     rcases h4 with h4 | h4
     ·rw [h4] at h;cases h.2.1
     ·exact absurd h4 h.2.2
    ·rw [if_neg h4]
     refine ⟨fun _=>⟨⟨h1,h2,h3⟩,?_,fun h=>h4 (.inr h)⟩,fun _=>O⟩
     cases hq:rightF o.tc o.tn with
     | true=>rfl
     | false=>exact absurd (.inl hq) h4
theorem Yv {o:GOp} {w:Int} :insF o w=0↔(utF o.text).2.2=0∧(1≤(utF o.text).1∧(utF o.text).1≤256)∧(0≤o.at_∧o.at_≤w)∧w+(utF o.text).1≤1048576:=by
 have h0:=Zz o.text
 unfold insF
 split
 ·rename_i h;exact ⟨fun h'=>absurd h' h,fun h'=>absurd h'.1 h⟩
 ·rename_i h
  split
  ·exact ⟨fun h=>(by cases h),fun h=>(by omega)⟩
  ·split
   ·exact ⟨fun h=>(by cases h),fun h=>(by omega)⟩
   ·split
    ·exact ⟨fun h=>(by cases h),fun h=>(by omega)⟩
    ·split
     ·exact ⟨fun h=>(by cases h),fun h=>(by omega)⟩
     ·exact ⟨fun _=>⟨by simpa using h,by omega,by omega,by omega⟩,fun _=>O⟩
theorem HO: ∀ {b:Int} {xs:List Rg} {r:Rg},NormB b xs→xs.getLast? =some r→BelowR r.hi xs
 | b,[],r,_,h=>by cases h
 | b,[x],r,h,hl=>by
  simp at hl;subst hl
  intro y hy;simp only [List.mem_singleton] at hy;subst hy;exact Int.le_refl _
 | b,x::y::xs,r,h,hl=>by
  have h2:(y::xs).getLast? =some r:=by simpa [List.getLast?_cons_cons] using hl
  have ih:=HO h.2.2 h2
  intro z hz
  rcases List.mem_cons.1 hz with rfl | hz
  ·have h3:=h.2.2.1
   have h4:=h.2.2.2.1
   have:=ih y List.mem_cons_self
   omega
  ·exact ih z hz
theorem YP {xs:List Rg} {w:Int} (hw:0≤w∧w≤65535):YV xs w=0↔xs≠ [] ∧Pls w xs:=by
 unfold YV
 cases hl:xs.getLast? with
 | none=>
  simp only
  have:xs= [] :=List.getLast?_eq_none_iff.1 hl
  exact ⟨fun h=>(by cases h),fun h=>absurd this h.1⟩
 | some r=>
  simp only
  have hne:xs≠ [] :=fun e=>by rw [e] at hl;cases hl
  split
  ·rename_i h
   refine ⟨fun h'=>absurd h' h,fun h'=> ?_⟩
   exact absurd (h'.2.ck hw) h
  ·rename_i h
   have h':(ckF xs).2=0:=by simpa using h
   obtain ⟨g1,g2,g3⟩:=Gy.1 h'
   split
   ·refine ⟨fun h=>(by cases h),fun h2=> ?_⟩
    have:=h2.2.below r (List.mem_of_getLast? hl)
    omega
   ·exact ⟨fun _=>⟨hne,g2,(HO g2 hl).mono (by omega)⟩,fun _=>O⟩
structure Right (w:Int) (o:GOp):Prop where
 ck:checkF o w=0
 kind:o.kind=1∨o.kind=2∨o.kind=4
theorem Right.head {w:Int} {o:GOp} (h:Right w o) (hw:0≤w∧w≤1048576):headF o:=by
 rcases h.kind with hk | hk | hk
 ·exact ((check_ins hk hw).1 h.ck).1
 ·exact ((check_cov (.inl hk) hw).1 h.ck).1
 ·exact ((check_st hk hw).1 h.ck).1
theorem Right.w0 {w:Int} {o:GOp} (h:Right w o):0≤w∧w≤1048576:=by
 have:=h.ck
 unfold checkF at this
 split at this
 ·cases this
 ·omega
theorem Right.width {w:Int} {o:GOp} (h:Right w o):0≤Jx o∧Jx o≤256∧(o.kind=1→1≤Jx o∧Jx o=(utF o.text).1)∧(o.kind≠1→Jx o=0):=by
 have h1:=check_wid h.ck
 have h2:=KV o
 refine ⟨h2.1,h1,fun hk=> ?_,fun hk=>by unfold Jx;rw [if_neg hk]⟩
 have h3:=Yv.1 ((check_ins hk h.w0).1 h.ck).2
 unfold Jx
 rw [if_pos hk];omega
theorem Right.ins {w:Int} {o:GOp} (h:Right w o) (hk:o.kind=1):0≤o.at_∧o.at_≤w∧w+Jx o≤1048576:=by
 have h3:=Yv.1 ((check_ins hk h.w0).1 h.ck).2
 have h4:=(h.width.2.2.1 hk).2
 omega
theorem Right.cov {w:Int} {o:GOp} (h:Right w o) (hk:o.kind=2) (hw:w≤65535):o.rs≠ [] ∧Pls w o.rs:=
 (YP ⟨h.w0.1,hw⟩).1 ((check_cov (.inl hk) h.w0).1 h.ck).2
theorem Right.noRs {w:Int} {o:GOp} (h:Right w o) (hk:o.kind≠2):o.rs= [] :=by
 have hh:=(h.head h.w0).2.2
 unfold extraF at hh
 have h3:o.kind≠3:=by have:=h.kind;omega
 cases hr:o.rs with
 | nil=>rfl
 | cons r rs=>
  exfalso;apply hh
  simp [hr,hk,h3]
theorem Right.moved {w w' a:Int} {o:GOp} (h:Right w o) (hk:o.kind=1) (ha:0≤a∧a≤w') (hw:w'+Jx o≤1048576):Right w' { o with at_:=a,rs:= [] } :=by
 have h0:=h.width
 have h1:=(check_ins hk h.w0).1 h.ck
 have h2:=Yv.1 h1.2
 have h4:=(h.width.2.2.1 hk).2
 refine ⟨(check_ins (o:= { o with at_:=a,rs:= [] }) hk (by omega)).2 ⟨?_,Yv.2 ⟨h2.1,h2.2.1,ha,by show w'+(utF o.text).1≤_;omega⟩⟩, .inl hk⟩
 obtain ⟨g1,g2,g3⟩:=h1.1
 refine ⟨g1,g2,fun h5=>g3 ?_⟩
 unfold extraF at h5 ⊢
 simp only [hk] at h5 ⊢
 simp at h5 ⊢
 exact .inr h5
theorem Right.ranged {w w':Int} {o:GOp} {l:List Rg} (h:Right w o) (hk:o.kind=2) (hl:l≠ []) (hp:Pls w' l) (hw:0≤w'∧w'≤65535):Right w' { o with rs:=l } :=by
 have h1:=(check_cov (.inl hk) h.w0).1 h.ck
 refine ⟨(check_cov (o:= { o with rs:=l }) (.inl hk) (by omega)).2 ⟨?_,(YP hw).2 ⟨hl,hp⟩⟩, .inr (.inl hk)⟩
 obtain ⟨g1,g2,g3⟩:=h1.1
 refine ⟨g1,g2,fun h5=>g3 ?_⟩
 unfold extraF at h5 ⊢
 simp only [hk] at h5 ⊢
 simpa using h5
theorem Right.wider {w w':Int} {o:GOp} (h:Right w o) (hw:w≤w') (hw':w'+Jx o≤65535):Right w' o:=by
 have h0:=h.w0
 have h9:=h.width
 refine ⟨?_,h.kind⟩
 rcases h.kind with hk | hk | hk
 ·have h1:=(check_ins hk h0).1 h.ck
  have h2:=Yv.1 h1.2
  have h4:=(h.width.2.2.1 hk).2
  exact (check_ins hk (by omega)).2 ⟨h1.1,Yv.2 ⟨h2.1,h2.2.1,by omega,by omega⟩⟩
 ·have h1:=h.cov hk (by omega)
  have h2:=(check_cov (.inl hk) h0).1 h.ck
  exact (check_cov (.inl hk) (by omega)).2 ⟨h2.1,(YP (by omega)).2 ⟨h1.1,h1.2.norm,h1.2.below.mono hw⟩⟩
 ·have h1:=(check_st hk h0).1 h.ck
  exact (check_st hk (by omega)).2 h1
theorem Right.own {w:Int} {o:GOp} (h:Right w o) (hw:w≤65535):ownF o=0:=by
 have h0:=h.w0
 unfold ownF
 rcases h.kind with hk | hk | hk
 ·have h1:=(check_ins hk h0).1 h.ck
  have h2:=Yv.1 h1.2
  rw [if_pos (by omega)]
  exact (check_ins hk (by omega)).2 ⟨h1.1,Yv.2 ⟨h2.1,h2.2.1,by omega,by omega⟩⟩
 ·have h1:=h.cov hk hw
  have h2:=(check_cov (.inl hk) h0).1 h.ck
  rw [if_neg (by omega)]
  refine (check_cov (.inl hk) (by omega)).2 ⟨h2.1,?_⟩
  unfold YV
  cases hl:o.rs.getLast? with
  | none=>exact absurd (List.getLast?_eq_none_iff.1 hl) h1.1
  | some r=>
   simp only
   rw [if_neg (by rw [h1.2.ck (by omega)];simp),if_neg (by have:=h1.2.below r (List.mem_of_getLast? hl);omega)]
 ·have h1:=(check_st hk h0).1 h.ck
  rw [if_neg (by omega)]
  exact (check_st hk (by omega)).2 h1
theorem Vc {w:Int} {a b:GOp} (e:Bool) (ha:Right w a) (hb:Right w b) (hc: ¬clashF a b) (hw:w+Jx a+Jx b≤65535):
  (JK a b e).2=0∧Right (w+Jx b) (JK a b e).1:=by
 have h0:=ha.w0
 have hwa:=ha.width
 have hwb:=hb.width
 unfold JK
 rw [if_neg hc]
 split
 ·rename_i hk
  rw [hwb.2.2.2 hk,Int.add_zero]
  exact ⟨O,ha⟩
 ·rename_i hk
  have hk':b.kind=1:=by simpa using hk
  have hbi:=hb.ins hk'
  split
  ·rename_i hka
   have hai:=ha.ins hka
   split
   ·unfold movedF
    rw [if_neg (by omega)]
    exact ⟨O,ha.moved hka (by omega) (by omega)⟩
   ·exact ⟨O,ha.wider (by omega) (by omega)⟩
  ·rename_i hka
   split
   ·rename_i hk2
    have hk3:a.kind=2:=by have:=ha.kind;omega
    obtain ⟨g1,g2⟩:=ha.cov hk3 (by omega)
    obtain ⟨t1,t2,t3,t4⟩:=VU g2 h0.1 ⟨hbi.1,hbi.2.1⟩ hwb.1 (by omega)
    unfold rangedF
    rw [if_neg (by rw [t1];simp)]
    exact ⟨O,ha.ranged hk3 (fun h=>g1 (t4.2 h)) t2 (by omega)⟩
   ·exact ⟨O,ha.wider (by omega) (by omega)⟩
def CtxOk:Int→List GOp→Prop
 | _,[] =>True
 | w,o::r=>Right w o∧CtxOk (w+Jx o) r
def sumO:List GOp→Int
 | [] =>0
 | o::r=>Jx o+sumO r
theorem Y8: ∀(a b:List GOp),sumO (a++b)=sumO a+sumO b
 | [],b=>by simp [sumO]
 | o::a,b=>by simp [sumO,Y8 a b];omega
theorem CtxOk.append: ∀ {w:Int} {a b:List GOp},CtxOk w (a++b)↔CtxOk w a∧CtxOk (w+sumO a) b
 | w,[],b=>by simp [CtxOk,sumO]
 | w,o::a,b=>by
  simp only [List.cons_append,CtxOk,sumO,CtxOk.append (a:=a),and_assoc]
  rw [show w+(Jx o+sumO a)=w+Jx o+sumO a from by omega]
theorem sumO_nonneg: ∀ {w:Int} {l:List GOp},CtxOk w l→0≤sumO l
 | _,[],_=>by simp [sumO]
 | w,o::r,h=>by have:=sumO_nonneg h.2;have:=h.1.width;simp only [sumO];omega
theorem CtxOk.owns: ∀ {w:Int} {l:List GOp},CtxOk w l→w+sumO l≤65535→ownsF l=0
 | _,[],_,_=>rfl
 | w,o::r,h,hw=>by
  have h1:=sumO_nonneg h.2
  have h2:=h.1.width
  simp only [sumO] at hw
  unfold ownsF
  rw [if_neg (by rw [h.1.own (by omega)];simp)]
  exact h.2.owns (by omega)
theorem Sames.sumO {a b:List GOp} (h:Sames a b):Proofs.YtgedhdmpiciikaaGreatDoor.sumO b=Proofs.YtgedhdmpiciikaaGreatDoor.sumO a:=by
 induction h with
 | nil=>rfl
 | cons h _ ih=>simp only [Proofs.YtgedhdmpiciikaaGreatDoor.sumO,ih,h.width]
def JS (f:GOp):List GOp→GOp×List GOp
 | [] =>(f,[])
 | l::ls=>((JS (JK f l false).1 ls).1,(JK l f true).1::(JS (JK f l false).1 ls).2)
theorem clash_same {a a' b b':GOp} (ha:Same a a') (hb:Same b b'):clashF a' b'↔clashF a b:=by
 unfold clashF;rw [ha.c,ha.n,hb.c,hb.n]
theorem clash_comm {a b:GOp} :clashF a b↔clashF b a:=by
 unfold clashF;constructor<;>(rintro ⟨h1,h2,h3⟩;exact ⟨h1.symm,h2.symm,by rw [←h1,←h2];exact h3⟩)
theorem GA: ∀(ls:List GOp) (f:GOp) (w:Int),Right w f→CtxOk w ls→(∀l∈ls,¬clashF f l)→w+sumO ls+Jx f≤65535→
  crossOut [f] ls= .ok ([(JS f ls).1],(JS f ls).2)∧Right (w+sumO ls) (JS f ls).1∧CtxOk (w+Jx f) (JS f ls).2∧Same f (JS f ls).1∧Sames ls (JS f ls).2
 | [],f,w,hf,_,_,_=>⟨rfl,by simpa [sumO,JS] using hf,trivial,Same.refl f, .nil⟩
 | l::ls,f,w,hf,hl,hc,hw=>by
  simp only [sumO] at hw
  have h1:=sumO_nonneg hl.2
  have hc1: ¬clashF f l:=hc l List.mem_cons_self
  have hc2: ¬clashF l f:=fun h=>hc1 (clash_comm.1 h)
  obtain ⟨a1,a2⟩:=Vc false hf hl.1 hc1 (by omega)
  obtain ⟨b1,b2⟩:=Vc true hl.1 hf hc2 (by omega)
  have s1:=include_same a1
  have s2:=include_same b1
  obtain ⟨c1,c2,c3,c4,c5⟩:=GA ls (JK f l false).1 (w+Jx l) a2 hl.2 (fun x hx h=>hc x (List.mem_cons_of_mem _ hx) ((clash_same s1 (Same.refl x)).1 h)) (by rw [s1.width];omega)
  refine ⟨?_,?_,?_,s1.trans c4, .cons s2 c5⟩
  ·rw [Ys,Qu (by simpa using b1) (by simpa using a1)]
   simp only [crossIn,putIn,restOut,List.cons_append,List.nil_append,c1,JS]
  ·simp only [sumO,JS]
   rw [show w+(Jx l+sumO ls)=w+Jx l+sumO ls from by omega]
   exact c2
  ·simp only [JS,CtxOk]
   refine ⟨b2,?_⟩
   rw [s2.width,show w+Jx f+Jx l=w+Jx l+Jx (JK f l false).1 from by rw [s1.width];omega]
   exact c3
theorem Jaf {ls:List GOp} {f:GOp} {w:Int} (hf:Right w f) (hl:CtxOk w ls) (hc: ∀l∈ls,¬clashF f l) (hw:w+sumO ls+Jx f≤65535):crossF [f] ls=([(JS f ls).1],(JS f ls).2,0):=by
 have h1:=sumO_nonneg hl
 have h2:=hf.width
 refine Gu ?_ (hl.owns (by omega)) (GA ls f w hf hl hc hw).1
 unfold ownsF
 rw [if_neg (by rw [hf.own (by omega)];simp)];rfl
@[ext] structure Sm where
 tot:Int
 lv:Int
 ht:Int
 mn:Int
 am:Int
 mx:Int
deriving DecidableEq
def zeroSm:Sm:=⟨0,0,0,0,0,0⟩
inductive Tr where
 | nil:Tr
 | nd (s:Sm) (l:Tr) (rs:List Int) (hid:Int) (r:Tr) (plus:Int):Tr
def smC (s:Sm):List Value:= [.int .i64 s.tot, .int .i64 s.lv, .int .i64 s.ht, .int .i64 s.mn, .int .i64 s.am, .int .i64 s.mx]
def smV (s:Sm):Value:= .agg (smC s).toArray
abbrev runeD:De Int:=De.int .i32
def pcC (rs:List Int) (hid:Int) (A:Option Addr) (c:Nat):List Value:= [.slice A rs.length c, .int .i64 hid]
def pcV (rs:List Int) (hid:Int) (A:Option Addr) (c:Nat):Value:= .agg (pcC rs hid A c).toArray
def ndC (s:Sm) (Al Ar Ac:Option Addr) (rs:List Int) (c:Nat) (hid plus:Int):List Value:=
 [.int .i64 s.tot, .int .i64 s.lv, .int .i64 s.ht, .int .i64 s.mn, .int .i64 s.am, .int .i64 s.mx, .pointer Al, .pointer Ar, .slice Ac rs.length c, .int .i64 hid, .int .i64 plus]
def trRep (Z:Nat→Prop) (w:World):Tr→Option Addr→Prop
 | .nil,A=>A=none
 | .nd s l rs hid r plus,A=> ∃(b:Nat) (Al Ar Ac:Option Addr) (c:Nat),A=some ⟨b,0,none⟩∧Z b∧CellsAt w b 0 (ndC s Al Ar Ac rs c hid plus)∧trRep Z w l Al∧trRep Z w r Ar∧RdS runeD Z w Ac c rs
theorem trRep_stable {Z Z':Nat→Prop} {w w':World} (hz: ∀b,Z b→Z' b) (hh: ∀b,Z b→w'.heap[b]? =w.heap[b]?) (h1:w'.os=w.os) (h2:w'.tape=w.tape) (h3:w'.output=w.output): ∀(t:Tr) (A:Option Addr),trRep Z w t A→trRep Z' w' t A
 | .nil,A,h=>h
 | .nd s l rs hid r plus,A,⟨b,Al,Ar,Ac,c,e,g1,g2,g3,g4,g5⟩=>
  ⟨b,Al,Ar,Ac,c,e,hz _ g1,g2.keep (hh _ g1),trRep_stable hz hh h1 h2 h3 l Al g3,trRep_stable hz hh h1 h2 h3 r Ar g4,(RdF runeD Ac c rs).stable hz hh h1 h2 h3 g5⟩
def TrF (A:Option Addr) (t:Tr):Fact where
 holds Z w:=trRep Z w t A
 stable hz hh h1 h2 h3 h:=trRep_stable hz hh h1 h2 h3 t A h
section
variable {P:Program} {n:Dm} {R:Post} {l:Fr} {Ps Ps':List Part} {As:List Fact} {ops:Array Oper} {rest:List Oper}
theorem EC {c:Code} {A:Option Addr} {s:Sm} {lt rt:Tr} {rs:List Int} {hid plus:Int} (hA:TrF A (.nd s lt rs hid rt plus)∈As)
  (h: ∀(b:Nat) (Al Ar Ac:Option Addr) (cc:Nat),A=some ⟨b,0,none⟩→WC P n c R l Ps (FzA b 0 (ndC s Al Ar Ac rs cc hid plus)::TrF Al lt::TrF Ar rt::RdF runeD Ac cc rs::As)):WC P n c R l Ps As:=
 fun Z w a hs ha=>by
  obtain ⟨b,Al,Ar,Ac,cc,e,g1,g2,g3,g4,g5⟩:trRep Z w (.nd s lt rs hid rt plus) A:=hs.facts _ hA
  refine h b Al Ar Ac cc e Z w a ?_ ha
  exact (((hs.addFact (A:=RdF runeD Ac cc rs) g5).addFact (A:=TrF Ar rt) g4).addFact (A:=TrF Al lt) g3).addFact (A:=FzA b 0 (ndC s Al Ar Ac rs cc hid plus)) ⟨g1,g2⟩
theorem VL {c:Code} {A:Option Addr} (hA:TrF A .nil∈As) (h:A=none→WC P n c R l Ps As):WC P n c R l Ps As:=
 fun Z w a hs ha=>h (hs.facts _ hA) Z w a hs ha
theorem stNode {Z:Nat→Prop} {w:World} {b:Nat} {s:Sm} {lt rt:Tr} {Al Ar Ac:Option Addr} {rs:List Int} {cc:Nat} {hid plus:Int} {T:TypeId} (hs:St Z w Ps As) (hp:DelAt Ps [(b,JB (ndC s Al Ar Ac rs cc hid plus) T)] Ps') (h1:TrF Al lt∈As) (h2:TrF Ar rt∈As) (h3:RdF runeD Ac cc rs∈As):
  ∃Z',St Z' w Ps' (TrF (some ⟨b,0,none⟩) (.nd s lt rs hid rt plus)::As):=by
 have h:=hs.permParts hp.perm
 have hb:w.heap[b]? =some (JB (ndC s Al Ar Ac rs cc hid plus) T):=(h.own (b,_) (by simp)).1
 have hf:=h.freeze
 refine ⟨_,hf.addFact (A:=TrF (some ⟨b,0,none⟩) (.nd s lt rs hid rt plus)) ⟨b,Al,Ar,Ac,cc,O, .inr ⟨_,List.mem_singleton.2 O⟩,⟨_,_,_,hb,fun j v hv=>by simpa using hv⟩,hf.facts _ h1,hf.facts _ h2,hf.facts _ h3⟩⟩
theorem Vf {b:Nat} {s:Sm} {lt rt:Tr} {Al Ar Ac:Option Addr} {rs:List Int} {cc:Nat} {hid plus:Int} {T:TypeId} (hp:DelAt Ps [(b,JB (ndC s Al Ar Ac rs cc hid plus) T)] Ps') (h1:TrF Al lt∈As) (h2:TrF Ar rt∈As) (h3:RdF runeD Ac cc rs∈As)
  (k:WL P n ops R rest l Ps' (TrF (some ⟨b,0,none⟩) (.nd s lt rs hid rt plus)::As)):WL P n ops R rest l Ps As:=fun Z w a hs ha=>by
 obtain ⟨Z',h⟩:=stNode hs hp h1 h2 h3
 exact k Z' w a h ha
end
def allF:Tr→Sm
 | .nil=>zeroSm
 | .nd s _ _ _ _ _=>s
def withF (s t:Sm):Sm:=
 if t.tot=0 then s else if s.tot=0 then t
 else ⟨s.tot+t.tot,s.lv+t.lv,0,min s.mn t.mn,(if s.mn=min s.mn t.mn then s.am else 0)+(if t.mn=min s.mn t.mn then t.am else 0),max s.mx t.mx⟩
def liftedF (s:Sm) (by':Int):Sm:=⟨s.tot,s.lv,s.ht,s.mn+by',s.am,s.mx+by'⟩
def knotF (l:Tr) (rs:List Int) (hid:Int) (r:Tr):Tr:=
 .nd ({ withF (withF (allF l) ⟨rs.length,1,0,hid,rs.length,hid⟩) (allF r) with ht:=1+max (allF l).ht (allF r).ht }) l rs hid r 0
def liftF (t:Tr) (by':Int):Tr:=match t with
 | .nil=> .nil
 | .nd s l rs hid r plus=>if liftedF s by'=s then t else .nd (liftedF s by') l rs hid r (plus+by')
abbrev Ce:=Int×Int
def cellsOf (rs:List Int) (hid:Int):List Ce:=rs.map fun c=>(c,hid)
def up (k:Int) (row:List Ce):List Ce:=row.map fun c=>(c.1,c.2+k)
def Tr.row:Tr→List Ce
 | .nil=> []
 | .nd _ l rs hid r plus=>up plus (l.row++(cellsOf rs hid++r.row))
def Tr.size:Tr→Nat
 | .nil=>0
 | .nd _ l _ _ r _=>l.size+r.size+1
def InR (row:List Ce):Prop:= ∀c∈row,0≤c.2∧c.2≤1048576
structure SumOf (s:Sm) (row:List Ce):Prop where
 tot:s.tot=row.length
 mnL: ∀c∈row,s.mn≤c.2
 mnI: ∃c∈row,c.2=s.mn
 am:s.am=(row.countP fun c=>c.2=s.mn)
 mxL: ∀c∈row,c.2≤s.mx
 mxI: ∃c∈row,c.2=s.mx
def Wf:Tr→Prop
 | .nil=>True
 | .nd s l rs hid r plus=>Wf l∧Wf r∧rs≠ [] ∧(0≤hid∧hid≤1048576)∧SumOf s (up plus (l.row++(cellsOf rs hid++r.row)))∧(1≤s.ht∧s.ht≤s.lv∧s.lv≤s.tot)∧InR (up plus (l.row++(cellsOf rs hid++r.row)))
theorem XL (row:List Ce):up 0 row=row:=by unfold up;simp
theorem Xg (k:Int) (a b:List Ce):up k (a++b)=up k a++up k b:=by unfold up;simp
theorem up_up (k j:Int) (a:List Ce):up k (up j a)=up (j+k) a:=by unfold up;simp [Int.add_assoc]
theorem Y2 (k:Int) (a:List Ce):(up k a).length=a.length:=by unfold up;simp
theorem up_cells (k:Int) (rs:List Int) (hid:Int):up k (cellsOf rs hid)=cellsOf rs (hid+k):=by unfold up cellsOf;simp
theorem Jr (rs:List Int) (hid:Int):(cellsOf rs hid).length=rs.length:=by unfold cellsOf;simp
theorem mem_up {k:Int} {a:List Ce} {c:Ce} :c∈up k a↔ ∃d∈a,c=(d.1,d.2+k):=by
 unfold up;simp only [List.mem_map];exact ⟨fun ⟨d,h,e⟩=>⟨d,h,e.symm⟩,fun ⟨d,h,e⟩=>⟨d,h,e.symm⟩⟩
theorem InR.append {a b:List Ce} :InR (a++b)↔InR a∧InR b:=by
 unfold InR;simp only [List.mem_append]
 exact ⟨fun h=>⟨fun c hc=>h c (.inl hc),fun c hc=>h c (.inr hc)⟩,fun h c hc=>hc.elim (h.1 c) (h.2 c)⟩
theorem InR.take {a:List Ce} (h:InR a) (k:Nat):InR (a.take k):=fun c hc=>h c (List.mem_of_mem_take hc)
theorem InR.drop {a:List Ce} (h:InR a) (k:Nat):InR (a.drop k):=fun c hc=>h c (List.mem_of_mem_drop hc)
theorem SumOf.up {s:Sm} {row:List Ce} (h:SumOf s row) (k:Int):SumOf (liftedF s k) (up k row):=by
 obtain ⟨h1,h2,h3,h4,h5,h6⟩:=h
 refine ⟨by rw [Y2];exact h1,fun c hc=> ?_,?_,?_,fun c hc=> ?_,?_⟩
 ·obtain ⟨d,hd,rfl⟩:=mem_up.1 hc
  have:=h2 d hd
  show s.mn+k≤d.2+k;omega
 ·obtain ⟨d,hd,e⟩:=h3
  exact ⟨_,mem_up.2 ⟨d,hd,rfl⟩,by show d.2+k=s.mn+k;omega⟩
 ·show s.am=_
  rw [h4]
  unfold Proofs.YtgedhdmpiciikaaGreatDoor.up
  rw [List.countP_map]
  congr 2
  funext c
  simp only [Function.comp,liftedF]
  exact decide_eq_decide.2 (by omega)
 ·obtain ⟨d,hd,rfl⟩:=mem_up.1 hc
  have:=h5 d hd
  show d.2+k≤s.mx+k;omega
 ·obtain ⟨d,hd,e⟩:=h6
  exact ⟨_,mem_up.2 ⟨d,hd,rfl⟩,by show d.2+k=s.mx+k;omega⟩
theorem Vx (s:Sm) (l:Tr) (rs:List Int) (hid:Int) (r:Tr) (plus k:Int):liftF (.nd s l rs hid r plus) k=if liftedF s k=s then .nd s l rs hid r plus else .nd (liftedF s k) l rs hid r (plus+k):=rfl
theorem row_lift (t:Tr) (k:Int):(liftF t k).row=up k t.row:=by
 cases t with
 | nil=>rfl
 | nd s l rs hid r plus=>
  rw [Vx]
  split
  ·rename_i h
   have:k=0:=by
    have:=congrArg Sm.mn h
    simp only [liftedF] at this;omega
   subst this
   rw [XL]
  ·simp only [Tr.row]
   rw [up_up]
theorem size_lift (t:Tr) (k:Int):(liftF t k).size=t.size:=by
 cases t with
 | nil=>rfl
 | nd s l rs hid r plus=>
  rw [Vx]
  split<;>rfl
theorem wf_lift {t:Tr} {k:Int} (h:Wf t) (hk:InR (up k t.row)):Wf (liftF t k):=by
 cases t with
 | nil=>trivial
 | nd s l rs hid r plus=>
  rw [Vx]
  split
  ·exact h
  ·obtain ⟨h1,h2,h3,h4,h5,h6,h7⟩:=h
   simp only [Tr.row,up_up] at hk
   refine ⟨h1,h2,h3,h4,?_,h6,hk⟩
   have:=h5.up k
   rwa [up_up] at this
theorem Wf.inR {t:Tr} (h:Wf t):InR t.row:=by
 cases t with
 | nil=>intro c hc;cases hc
 | nd s l rs hid r plus=>exact h.2.2.2.2.2.2
theorem Wf.tot {t:Tr} (h:Wf t):(allF t).tot=t.row.length:=by
 cases t with
 | nil=>rfl
 | nd s l rs hid r plus=>exact h.2.2.2.2.1.tot
theorem Wf.bd {t:Tr} (h:Wf t):0≤(allF t).ht∧(allF t).ht≤(allF t).lv∧(allF t).lv≤(allF t).tot∧(0≤(allF t).mn∧(allF t).mn≤1048576)∧(0≤(allF t).mx∧(allF t).mx≤1048576)∧(0≤(allF t).am∧(allF t).am≤(allF t).tot)∧((allF t).ht=0→t= .nil):=by
 cases t with
 | nil=>simp [allF,zeroSm]
 | nd s l rs hid r plus=>
  obtain ⟨h1,h2,h3,h4,h5,h6,h7⟩:=h
  obtain ⟨c,hc,e⟩:=h5.mnI
  obtain ⟨d,hd,e2⟩:=h5.mxI
  have g1:=h7 c hc
  have g2:=h7 d hd
  have g3:=List.countP_le_length (p:=fun c:Ce=>decide (c.2=s.mn)) (l:=up plus (l.row++(cellsOf rs hid++r.row)))
  have g4:=h5.tot
  have g5:=h5.am
  simp only [allF]
  refine ⟨by omega,h6.2.1,h6.2.2,by omega,by omega,by omega,by omega⟩
theorem Wf.sm40 {t:Tr} (h:Wf t) (hb:t.row.length≤1099511627776):(0≤(allF t).tot∧(allF t).tot≤1099511627776)∧(0≤(allF t).lv∧(allF t).lv≤1099511627776)∧(0≤(allF t).ht∧(allF t).ht≤1099511627776)∧(0≤(allF t).am∧(allF t).am≤1099511627776):=by
 have h1:=h.bd
 have h2:=h.tot
 omega
structure Opened (s:Sm) (l:Tr) (rs:List Int) (hid:Int) (r:Tr) (plus:Int):Prop where
 wl:Wf (liftF l plus)
 wr:Wf (liftF r plus)
 ne:rs≠ []
 hidB:0≤hid+plus∧hid+plus≤1048576
 plusB: -1048576≤plus∧plus≤1048576
 row:(Tr.nd s l rs hid r plus).row=(liftF l plus).row++(cellsOf rs (hid+plus)++(liftF r plus).row)
theorem Wf.opened {s:Sm} {l r:Tr} {rs:List Int} {hid plus:Int} (h:Wf (.nd s l rs hid r plus)):Opened s l rs hid r plus:=by
 obtain ⟨h1,h2,h3,h4,h5,h6,h7⟩:=h
 have hrow:up plus (l.row++(cellsOf rs hid++r.row))=(liftF l plus).row++(cellsOf rs (hid+plus)++(liftF r plus).row):=by
  rw [Xg,Xg,up_cells,row_lift,row_lift]
 rw [hrow] at h7
 obtain ⟨g1,g2⟩:=InR.append.1 h7
 obtain ⟨g2,g3⟩:=InR.append.1 g2
 obtain ⟨x,hx⟩:=List.exists_mem_of_ne_nil rs h3
 have hh:=g2 (x,hid+plus) (by unfold cellsOf;exact List.mem_map.2 ⟨x,hx,rfl⟩)
 simp only at hh
 exact ⟨wf_lift h1 (by rw [←row_lift];exact g1),wf_lift h2 (by rw [←row_lift];exact g3),h3,hh,by omega,hrow⟩
theorem XE {row:List Ce} {m:Int} (h: ∀c∈row,m<c.2):(row.countP fun c=>c.2=m)=0:=by
 rw [List.countP_eq_zero]
 intro c hc
 have:=h c hc
 simp;omega
theorem sum_with {a b:Sm} {x y:List Ce} (ha:SumOf a x) (hb:SumOf b y):SumOf (withF a b) (x++y):=by
 obtain ⟨a1,a2,a3,a4,a5,a6⟩:=ha
 obtain ⟨b1,b2,b3,b4,b5,b6⟩:=hb
 have hx:x≠ [] :=by obtain ⟨c,hc,_⟩:=a3;exact List.ne_nil_of_mem hc
 have hy:y≠ [] :=by obtain ⟨c,hc,_⟩:=b3;exact List.ne_nil_of_mem hc
 have hx':=List.length_pos_iff.2 hx
 have hy':=List.length_pos_iff.2 hy
 unfold withF
 rw [if_neg (by omega),if_neg (by omega)]
 refine ⟨by simp only [List.length_append];omega,fun c hc=> ?_,?_,?_,fun c hc=> ?_,?_⟩
 ·simp only
  rcases List.mem_append.1 hc with hc | hc
  ·have:=a2 c hc;omega
  ·have:=b2 c hc;omega
 ·simp only
  obtain ⟨c,hc,e⟩:=a3
  obtain ⟨d,hd,f⟩:=b3
  rcases Int.le_total a.mn b.mn with h | h
  ·exact ⟨c,List.mem_append_left _ hc,by omega⟩
  ·exact ⟨d,List.mem_append_right _ hd,by omega⟩
 ·simp only
  rw [List.countP_append]
  rcases Int.lt_trichotomy a.mn b.mn with h | h | h
  ·have e1:min a.mn b.mn=a.mn:=by omega
   rw [e1,if_pos rfl,if_neg (by omega),XE (row:=y) (m:=a.mn) (fun c hc=>by have:=b2 c hc;omega),a4]
   simp
  ·have e1:min a.mn b.mn=a.mn:=by omega
   rw [e1,if_pos rfl,if_pos h.symm,a4,b4,h]
   simp
  ·have e1:min a.mn b.mn=b.mn:=by omega
   rw [e1,if_neg (by omega),if_pos rfl,XE (row:=x) (m:=b.mn) (fun c hc=>by have:=a2 c hc;omega),b4]
   simp
 ·simp only
  rcases List.mem_append.1 hc with hc | hc
  ·have:=a5 c hc;omega
  ·have:=b5 c hc;omega
 ·simp only
  obtain ⟨c,hc,e⟩:=a6
  obtain ⟨d,hd,f⟩:=b6
  rcases Int.le_total a.mx b.mx with h | h
  ·exact ⟨d,List.mem_append_right _ hd,by omega⟩
  ·exact ⟨c,List.mem_append_left _ hc,by omega⟩
theorem sum_ne {s:Sm} {row:List Ce} (h:SumOf s row):s.tot≠0:=by
 obtain ⟨c,hc,_⟩:=h.mnI
 have:=List.length_pos_of_mem hc
 have:=h.tot
 omega
theorem sum_ht {s:Sm} {row:List Ce} (k:Int) (h:SumOf s row):SumOf { s with ht:=k } row:=⟨h.tot,h.mnL,h.mnI,h.am,h.mxL,h.mxI⟩
theorem sum_own {rs:List Int} (hid:Int) (h:rs≠ []):SumOf ⟨rs.length,1,0,hid,rs.length,hid⟩ (cellsOf rs hid):=by
 obtain ⟨x,hx⟩:=List.exists_mem_of_ne_nil rs h
 have hm:(x,hid)∈cellsOf rs hid:=by unfold cellsOf;exact List.mem_map.2 ⟨x,hx,rfl⟩
 have ha: ∀c∈cellsOf rs hid,c.2=hid:=fun c hc=>by
  unfold cellsOf at hc
  obtain ⟨d,_,rfl⟩:=List.mem_map.1 hc
  rfl
 refine ⟨by simp [Jr],fun c hc=>by rw [ha c hc];exact Int.le_refl _,⟨_,hm,O⟩,?_,fun c hc=>by rw [ha c hc];exact Int.le_refl _,⟨_,hm,O⟩⟩
 simp only
 rw [List.countP_eq_length.2 (fun c hc=>by simp [ha c hc]),Jr]
theorem wf_sum {t:Tr} (h:Wf t) (ht:t≠ .nil):SumOf (allF t) t.row:=by
 cases t with
 | nil=>exact absurd rfl ht
 | nd s l rs hid r plus=>exact h.2.2.2.2.1
theorem wf_knot {l r:Tr} {rs:List Int} {hid:Int} (hl:Wf l) (hr:Wf r) (hn:rs≠ []) (hh:0≤hid∧hid≤1048576):Wf (knotF l rs hid r)∧(knotF l rs hid r).row=l.row++(cellsOf rs hid++r.row):=by
 have hrow:(knotF l rs hid r).row=l.row++(cellsOf rs hid++r.row):=by unfold knotF;simp only [Tr.row];rw [XL]
 refine ⟨?_,hrow⟩
 have ho:=sum_own hid hn
 have hlb:=hl.bd
 have hrb:=hr.bd
 have hlt:=hl.tot
 have hrt:=hr.tot
 have ho1:=ho.tot
 have hnp:=List.length_pos_iff.2 hn
 have hins:InR (cellsOf rs hid):=fun c hc=>by
  unfold cellsOf at hc
  obtain ⟨d,_,rfl⟩:=List.mem_map.1 hc
  exact hh
 have hs:SumOf (withF (withF (allF l) ⟨rs.length,1,0,hid,rs.length,hid⟩) (allF r)) (l.row++(cellsOf rs hid++r.row))∧(withF (withF (allF l) ⟨rs.length,1,0,hid,rs.length,hid⟩) (allF r)).lv=(allF l).lv+1+(allF r).lv:=by
  have h1:SumOf (withF (allF l) ⟨rs.length,1,0,hid,rs.length,hid⟩) (l.row++cellsOf rs hid)∧(withF (allF l) ⟨rs.length,1,0,hid,rs.length,hid⟩).lv=(allF l).lv+1:=by
   cases l with
   | nil=>
    have e:withF (allF .nil) ⟨rs.length,1,0,hid,rs.length,hid⟩=⟨rs.length,1,0,hid,rs.length,hid⟩:=by
     unfold withF;rw [if_neg (by simp only;omega),if_pos (show (allF .nil).tot=0 from rfl)]
    rw [e];exact ⟨ho,rfl⟩
   | nd s l2 rs2 hid2 r2 plus2=>
    have g:=wf_sum hl (by simp)
    refine ⟨sum_with g ho,?_⟩
    unfold withF
    rw [if_neg (by simp only;omega),if_neg (sum_ne g)]
  rw [←List.append_assoc]
  cases r with
  | nil=>
   have e: ∀s,withF s (allF .nil)=s:=fun s=>by unfold withF;rw [if_pos (show (allF .nil).tot=0 from rfl)]
   rw [e]
   refine ⟨by simpa [Tr.row] using h1.1,by rw [h1.2];simp [allF,zeroSm]⟩
  | nd s l2 rs2 hid2 r2 plus2=>
   have g:=wf_sum hr (by simp)
   refine ⟨sum_with h1.1 g,?_⟩
   unfold withF
   rw [if_neg (sum_ne g)]
   have:=sum_ne h1.1
   unfold withF at this h1
   rw [if_neg this,h1.2]
 have htot:=hs.1.tot
 simp only [List.length_append,Jr] at htot
 unfold knotF
 refine ⟨hl,hr,hn,hh,?_,?_,?_⟩
 ·rw [XL];exact sum_ht _ hs.1
 ·simp only;rw [hs.2,htot];omega
 ·rw [XL];exact InR.append.2 ⟨hl.inR,InR.append.2 ⟨hins,hr.inR⟩⟩
def runesAt (s:ByteArray) (p:Nat):List Int:=
 if h:p<s.size then (Utf8.decode s p).1::runesAt s (p+(Utf8.decode s p).2) else []
 termination_by s.size-p
 decreasing_by
  have:=decode_pos s p
  omega
def J2 (s:ByteArray):List Int:=runesAt s 0
theorem utAt_runes (s:ByteArray): ∀(m p k:Nat),s.size-p≤m→(utAt s p k).2.2=0→(utAt s p k).1=k+(runesAt s p).length
 | m,p,k,hm,h=>by
  by_cases hp:p<s.size
  ·by_cases h1:begF s p (Utf8.decode s p).1=false
   ·rw [utAt_utf8 hp h1] at h;cases h
   ·by_cases h2:letF (Utf8.decode s p).1=false
    ·rw [utAt_rune hp h1 h2] at h;cases h
    ·rw [utAt_next hp h1 h2] at h ⊢
     have h3:=decode_pos s p
     cases m with
     | zero=>omega
     | succ m=>
      have:=utAt_runes s m _ _ (by omega) h
      rw [this]
      conv=>rhs;rw [runesAt,dif_pos hp]
      simp only [List.length_cons];omega
  ·rw [utAt_end hp]
   rw [runesAt,dif_neg hp];simp
theorem Y1 {s:ByteArray} (h:(utF s).2.2=0):(utF s).1=(J2 s).length:=by
 have:=utAt_runes s s.size 0 0 (by omega) h
 unfold utF J2;rw [this];simp
def inRb (q:Int) (xs:List Rg):Bool:=xs.any fun r=>decide (r.lo≤q) && decide (q<r.hi)
theorem K4 {q:Int} {xs:List Rg} :inRb q xs=true↔memR q xs:=by
 unfold inRb memR;simp
theorem inRb_false {q:Int} {xs:List Rg} :inRb q xs=false↔ ¬memR q xs:=by
 rw [←K4];simp
def K1 (g:Rg) (k:Int) (row:List Ce):List Ce:=row.take g.lo.toNat ++(up k ((row.drop g.lo.toNat).take (g.hi-g.lo).toNat)++row.drop g.hi.toNat)
def Kn (rs:List Rg) (k:Int) (row:List Ce):List Ce:=rs.foldl (fun row g=>K1 g k row) row
theorem Zp {g:Rg} {k:Int} {row:List Ce} (h0:0≤g.lo) (h1:g.lo<g.hi) (h2:g.hi≤row.length) (q:Nat):
  (K1 g k row)[q]? =row[q]?.map fun c=>if g.lo≤(q:Int)∧(q:Int)<g.hi then (c.1,c.2+k) else c:=by
 have e1:(row.take g.lo.toNat).length=g.lo.toNat:=by rw [List.length_take];omega
 have e2:(up k ((row.drop g.lo.toNat).take (g.hi-g.lo).toNat)).length=(g.hi-g.lo).toNat:=by rw [Y2,List.length_take,List.length_drop];omega
 unfold K1
 by_cases c1:q<g.lo.toNat
 ·rw [List.getElem?_append_left (by omega),List.getElem?_take,if_pos c1]
  cases row[q]? with
  | none=>rfl
  | some c=>simp only [Option.map_some];rw [if_neg (by omega)]
 ·rw [List.getElem?_append_right (by omega),e1]
  by_cases c2:(q:Int)<g.hi
  ·rw [List.getElem?_append_left (by omega)]
   unfold up
   rw [List.getElem?_map,List.getElem?_take,if_pos (by omega),List.getElem?_drop,show g.lo.toNat +(q-g.lo.toNat)=q from by omega]
   cases row[q]? with
   | none=>rfl
   | some c=>simp only [Option.map_some];rw [if_pos (by omega)]
  ·rw [List.getElem?_append_right (by omega),e2,List.getElem?_drop,show g.hi.toNat +(q-g.lo.toNat - (g.hi-g.lo).toNat)=q from by omega]
   cases row[q]? with
   | none=>rfl
   | some c=>simp only [Option.map_some];rw [if_neg (by omega)]
theorem Xb {g:Rg} {k:Int} {row:List Ce} (h0:0≤g.lo) (h1:g.lo<g.hi) (h2:g.hi≤row.length):(K1 g k row).length=row.length:=by
 unfold K1
 simp only [List.length_append,Y2,List.length_take,List.length_drop];omega
theorem KS {k:Int} : ∀(rs:List Rg) (b:Int) (row:List Ce),0≤b→NormB b rs→BelowR row.length rs→(Kn rs k row).length=row.length∧ ∀q:Nat,(Kn rs k row)[q]? =row[q]?.map fun c=>if inRb q rs=true then (c.1,c.2+k) else c
 | [],b,row,_,_,_=>⟨rfl,fun q=>by simp [Kn,inRb]⟩
 | g::rs,b,row,hb,hn,ht=>by
  have h1:=hn.1
  have h2:=hn.2.1
  have h3:=ht g List.mem_cons_self
  have hl:=Xb (k:=k) (row:=row) (show 0≤g.lo by omega) h2 h3
  obtain ⟨g1,g2⟩:=KS rs (g.hi+1) (K1 g k row) (by omega) hn.2.2 (fun x hx=>by rw [hl];exact ht x (List.mem_cons_of_mem _ hx))
  refine ⟨by show (Kn rs k (K1 g k row)).length=_;rw [g1,hl],fun q=> ?_⟩
  show (Kn rs k (K1 g k row))[q]? =_
  rw [g2 q,Zp (show 0≤g.lo by omega) h2 h3 q]
  cases row[q]? with
  | none=>rfl
  | some c=>
   simp only [Option.map_some]
   by_cases c1:g.lo≤(q:Int)∧(q:Int)<g.hi
   ·have c2:inRb q rs=false:=inRb_false.2 fun hm=>by have:=hn.2.2.below hm;omega
    have c3:inRb q (g::rs)=true:=K4.2 (KE.2 (.inl c1))
    rw [if_pos c1,c2,c3];simp
   ·rw [if_neg c1]
    have c3:inRb q (g::rs)=inRb q rs:=by
     rw [Bool.eq_iff_iff,K4,K4,KE]
     exact ⟨fun h=>h.elim (fun h=>absurd h c1) id, .inr⟩
    rw [c3]
def JT (x:GOp) (row:List Ce):List Ce:=
 if x.kind=1 then row.take x.at_.toNat ++(cellsOf (J2 x.text) 0++row.drop x.at_.toNat)
 else if x.kind=2 then Kn x.rs 1 row
 else if x.kind=3 then Kn x.rs (-1) row
 else row
structure HV (H:Hist):Prop where
 ctx:CtxOk 0 H.ops
 tot:H.total=sumO H.ops
 le:H.total≤60000
 pls: ∀e∈H.ents,Pls H.total e.now
 edit: ∀e∈H.ents,e.op.kind=4↔e.now= []
 idr: ∀e∈H.ents,rightF e.op.c e.op.n=true
 ids:(H.ents.map fun e=>(e.op.c,e.op.n)).Nodup
structure Good (H:Hist) (i:Nat) (o:GOp):Prop where
 le:i≤H.ents.length
 right:Right (KQ H i) o
 fresh:JX H.ents o.c o.n=none
 idr:rightF o.c o.n=true
 target:o.kind=4→ ∃k,JX H.ents o.tc o.tn=some k∧k<i∧ ∃e,H.ents[k]? =some e∧e.op.kind≠4
 room:H.total+Jx o≤60000
theorem sumW_ops: ∀(l:List Ent),sumW l=sumO (l.map (·.op))
 | [] =>rfl
 | e::l=>by simp [sumW,sumO,sumW_ops l]
theorem before_ops (H:Hist) (i:Nat):KQ H i=sumO (H.ops.take i):=by
 unfold KQ Hist.ops
 rw [sumW_ops,List.map_take]
theorem HV.total0 {H:Hist} (h:HV H):0≤H.total:=by rw [h.tot];exact sumO_nonneg h.ctx
theorem HV.split {H:Hist} (h:HV H) (i:Nat):CtxOk 0 (H.ops.take i)∧CtxOk (KQ H i) (H.ops.drop i)∧KQ H i+sumO (H.ops.drop i)=H.total∧0≤KQ H i:=by
 have h1:=h.ctx
 rw [←List.take_append_drop i H.ops,CtxOk.append,Int.zero_add,←before_ops] at h1
 refine ⟨h1.1,h1.2,?_,by rw [before_ops];exact sumO_nonneg h1.1⟩
 rw [h.tot,before_ops,←Y8,List.take_append_drop]
theorem Good.noclash {H:Hist} {i:Nat} {o:GOp} (g:Good H i o): ∀l∈H.ops,¬clashF o l:=fun l hl hc=>by
 obtain ⟨e,he,rfl⟩:=List.mem_map.1 hl
 exact K5 g.fresh e he ⟨hc.1.symm,hc.2.1.symm⟩
theorem right_ne {c n:Int} (h:rightF c n=true): ¬(c=0∧n=0):=by
 unfold rightF at h;simp at h;omega
theorem fits_good {H:Hist} {i:Nat} {o:GOp} (g:Good H i o):fitsF H i o=0:=by
 have hk:=g.right.kind
 have hr:=g.room
 unfold fitsF
 rw [if_neg (by have:=g.le;omega),if_neg (by rw [Int.toNat_natCast,g.right.ck];simp),if_neg (by omega),if_neg (right_ne g.idr),if_neg (by rw [g.fresh];simp)]
 have hrest:fitsRest H o=0:=by unfold fitsRest;rw [if_neg (by omega)]
 split
 ·rename_i h4
  obtain ⟨k,hk1,hk2,e,he,hek⟩:=g.target h4
  unfold fitsT
  rw [hk1]
  simp only
  rw [if_neg (by omega),he]
  simp only
  rw [if_neg hek];exact hrest
 ·exact hrest
theorem cross_good {H:Hist} (h:HV H) {i:Nat} {o:GOp} (g:Good H i o):
  crossF [o] (H.ops.drop i)=([(JS o (H.ops.drop i)).1],(JS o (H.ops.drop i)).2,0)∧Right H.total (JS o (H.ops.drop i)).1∧CtxOk (KQ H i+Jx o) (JS o (H.ops.drop i)).2∧Same o (JS o (H.ops.drop i)).1∧Sames (H.ops.drop i) (JS o (H.ops.drop i)).2:=by
 obtain ⟨h1,h2,h3,h4⟩:=h.split i
 have hc: ∀l∈H.ops.drop i,¬clashF o l:=fun l hl=>g.noclash l (List.mem_of_mem_drop hl)
 have hw:KQ H i+sumO (H.ops.drop i)+Jx o≤65535:=by have:=g.room;omega
 obtain ⟨c1,c2,c3,c4,c5⟩:=GA _ o _ g.right h2 hc hw
 exact ⟨Jaf g.right h2 hc hw,by rw [←h3];exact c2,c3,c4,c5⟩
def shiftE (at_ n:Int) (e:Ent):Ent:=⟨e.op,(thrF e.now at_ n).1,e.off⟩
theorem Xx {T at_ n:Int} : ∀ {es:List Ent},(∀e∈es,(thrF e.now at_ n).2=0)→movedAll es at_ n= .ok (es.map fun e=>(thrF e.now at_ n).1)
 | [],_=>rfl
 | e::es,h=>by
  unfold movedAll
  rw [if_neg (by rw [h e List.mem_cons_self];simp),Xx (T:=T) fun x hx=>h x (List.mem_cons_of_mem _ hx)]
  rfl
theorem setNow_map {at_ n:Int} : ∀(es:List Ent),setNow es (es.map fun e=>(thrF e.now at_ n).1) es.length=es.map (shiftE at_ n)
 | [] =>rfl
 | e::es=>by simp only [List.map_cons,List.length_cons,setNow,setNow_map es];rfl
structure PutIs (H:Hist) (i:Nat) (o:GOp) (es:List Ent) (nw:List Rg) (eff:GOp):Prop where
 ins:o.kind=1→es=H.ents.map (shiftE (JS o (H.ops.drop i)).1.at_ (Jx o))∧nw= [⟨(JS o (H.ops.drop i)).1.at_,(JS o (H.ops.drop i)).1.at_+Jx o⟩] ∧eff= { effF o with at_:=(JS o (H.ops.drop i)).1.at_,text:=o.text }
 hide:o.kind=2→es=H.ents∧nw=(JS o (H.ops.drop i)).1.rs∧eff= { effF o with rs:=(JS o (H.ops.drop i)).1.rs }
 status:o.kind=4→es=(turnedF H i o).1∧nw= [] ∧eff=(turnedF H i o).2
 put:putF H i o=(⟨newEnts i o nw es (JS o (H.ops.drop i)).2,H.total+Jx o⟩,eff,0)
theorem turned_cases (H:Hist) (i:Nat) (o:GOp):turnedF H i o=(H.ents,zeroOp)∨ ∃k e,JX H.ents o.tc o.tn=some k∧H.ents[k]? =some e∧e.off=o.on∧Yg (H.ents.drop i) o.tc o.tn=false∧turnedF H i o=(H.ents.set k (offE e (!o.on)),turnF e o.on):=by
 unfold turnedF
 split
 ·exact .inl O
 ·rename_i h1
  cases hw:JX H.ents o.tc o.tn with
  | none=>exact .inl rfl
  | some k=>
   simp only
   cases he:H.ents[k]? with
   | none=>exact .inl rfl
   | some e=>
    simp only
    split
    ·exact .inl O
    ·rename_i h2
     refine .inr ⟨k,e,O,he,?_,by simpa using h1,O⟩
     cases h3:e.off<;>cases h4:o.on<;>simp_all
theorem put_good {H:Hist} (h:HV H) {i:Nat} {o:GOp} (g:Good H i o): ∃es nw eff,PutIs H i o es nw eff:=by
 obtain ⟨c1,c2,c3,c4,c5⟩:=cross_good h g
 have h0:=h.total0
 have hf:=fits_good g
 have hroom:=g.room
 have hwid:=g.right.width
 rcases g.right.kind with hk | hk | hk
 ·have hti:=c2.ins (c4.kind.trans hk)
  have hall: ∀e∈H.ents,(thrF e.now (JS o (H.ops.drop i)).1.at_ (Jx o)).2=0:=fun e he=>(VU (h.pls e he) h0 ⟨hti.1,hti.2.1⟩ hwid.1 (by omega)).1
  refine ⟨_,_,_,fun _=>⟨O,O,O⟩,fun e=>by omega,fun e=>by omega,?_⟩
  rw [put_4 (t:=(JS o (H.ops.drop i)).1) hf (by rw [Int.toNat_natCast,c1]) (by rw [Int.toNat_natCast,c1]) (es:=H.ents.map (shiftE (JS o (H.ops.drop i)).1.at_ (Jx o))) (nw:= [⟨(JS o (H.ops.drop i)).1.at_,(JS o (H.ops.drop i)).1.at_+Jx o⟩]) (eff:= { effF o with at_:=(JS o (H.ops.drop i)).1.at_,text:=o.text }) ?_,Int.toNat_natCast,c1]
  unfold midF
  rw [if_pos hk,Xx (T:=H.total) hall]
  simp only
  rw [setNow_map]
 ·refine ⟨_,_,_,fun e=>by omega,fun _=>⟨O,O,O⟩,fun e=>by omega,?_⟩
  rw [put_4 (t:=(JS o (H.ops.drop i)).1) hf (by rw [Int.toNat_natCast,c1]) (by rw [Int.toNat_natCast,c1]) (es:=H.ents) (nw:=(JS o (H.ops.drop i)).1.rs) (eff:= { effF o with rs:=(JS o (H.ops.drop i)).1.rs }) ?_,Int.toNat_natCast,c1]
  unfold midF
  rw [if_neg (by omega),if_pos hk]
 ·refine ⟨_,_,_,fun e=>by omega,fun e=>by omega,fun _=>⟨O,O,O⟩,?_⟩
  rw [put_4 (t:=(JS o (H.ops.drop i)).1) hf (by rw [Int.toNat_natCast,c1]) (by rw [Int.toNat_natCast,c1]) (es:=(turnedF H i o).1) (nw:= []) (eff:=(turnedF H i o).2) ?_,Int.toNat_natCast,c1]
  unfold midF
  rw [if_neg (by omega),if_neg (by omega),if_pos hk,Int.toNat_natCast]
theorem PutIs.es_ops {H:Hist} {i:Nat} {o:GOp} {es:List Ent} {nw:List Rg} {eff:GOp} (g:Good H i o) (p:PutIs H i o es nw eff):es.map (·.op)=H.ops:=by
 rcases g.right.kind with hk | hk | hk
 ·rw [(p.ins hk).1];unfold Hist.ops;rw [List.map_map];rfl
 ·rw [(p.hide hk).1];rfl
 ·rw [(p.status hk).1]
  rcases turned_cases H i o with e | ⟨k,e,h1,h2,h3,h4,h5⟩
  ·rw [e];rfl
  ·rw [h5]
   have hk:k<H.ents.length:=by
    rcases Nat.lt_or_ge k H.ents.length with h | h
    ·exact h
    ·rw [List.getElem?_eq_none h] at h2;cases h2
   rw [List.getElem?_eq_getElem hk] at h2
   have:=Gs hk (offE e (!o.on)) (by rw [←Option.some.inj h2];rfl) H.total
   exact this
theorem PutIs.sames {H:Hist} (h:HV H) {i:Nat} {o:GOp} {es:List Ent} {nw:List Rg} {eff:GOp} (g:Good H i o) (p:PutIs H i o es nw eff):Sames ((es.drop i).map (·.op)) (JS o (H.ops.drop i)).2:=by
 rw [List.map_drop,p.es_ops g]
 exact (cross_good h g).2.2.2.2
theorem PutIs.len {H:Hist} {i:Nat} {o:GOp} {es:List Ent} {nw:List Rg} {eff:GOp} (g:Good H i o) (p:PutIs H i o es nw eff):es.length=H.ents.length:=by
 have:=congrArg List.length (p.es_ops g)
 simpa [Hist.ops] using this
theorem PutIs.old {H:Hist} (h:HV H) {i:Nat} {o:GOp} {es:List Ent} {nw:List Rg} {eff:GOp} (g:Good H i o) (p:PutIs H i o es nw eff): ∀e∈es,∃x∈H.ents,e.op=x.op∧(e.now=x.now∨(o.kind=1∧e.now=(thrF x.now (JS o (H.ops.drop i)).1.at_ (Jx o)).1)):=by
 intro e he
 rcases g.right.kind with hk | hk | hk
 ·rw [(p.ins hk).1] at he
  obtain ⟨x,hx,rfl⟩:=List.mem_map.1 he
  exact ⟨x,hx,O, .inr ⟨hk,O⟩⟩
 ·rw [(p.hide hk).1] at he;exact ⟨e,he,rfl, .inl rfl⟩
 ·rw [(p.status hk).1] at he
  rcases turned_cases H i o with e' | ⟨k,e',h1,h2,h3,h4,h5⟩
  ·rw [e'] at he;exact ⟨e,he,rfl, .inl rfl⟩
  ·rw [h5] at he
   rcases List.mem_or_eq_of_mem_set he with he | rfl
   ·exact ⟨e,he,O, .inl O⟩
   ·exact ⟨e',List.mem_of_getElem? h2,O, .inl O⟩
theorem put_hv {H:Hist} (h:HV H) {i:Nat} {o:GOp} {es:List Ent} {nw:List Rg} {eff:GOp} (g:Good H i o) (p:PutIs H i o es nw eff):HV ⟨newEnts i o nw es (JS o (H.ops.drop i)).2,H.total+Jx o⟩:=by
 obtain ⟨c1,c2,c3,c4,c5⟩:=cross_good h g
 obtain ⟨s1,s2,s3,s4⟩:=h.split i
 have h0:=h.total0
 have hs:=p.sames h g
 have hops:(⟨newEnts i o nw es (JS o (H.ops.drop i)).2,H.total+Jx o⟩:Hist).ops=H.ops.take i++([o] ++(JS o (H.ops.drop i)).2):=by
  show (newEnts i o nw es (JS o (H.ops.drop i)).2).map (·.op)=_
  rw [newEnts_ops hs,p.es_ops g]
 have hroom:=g.room
 have hwid:=g.right.width
 have hpl: ∀x∈H.ents,∀e:Ent,e.op=x.op∧(e.now=x.now∨(o.kind=1∧e.now=(thrF x.now (JS o (H.ops.drop i)).1.at_ (Jx o)).1))→Pls (H.total+Jx o) e.now∧(x.op.kind=4↔e.now= []):=by
  intro x hx e he
  have hpx:=h.pls x hx
  rcases he.2 with e1 | ⟨hk,e1⟩
  ·rw [e1]
   refine ⟨⟨hpx.norm,hpx.below.mono (by omega)⟩,h.edit x hx⟩
  ·have hti:=c2.ins (c4.kind.trans hk)
   obtain ⟨t1,t2,t3,t4⟩:=VU hpx h0 ⟨hti.1,hti.2.1⟩ hwid.1 (by omega)
   rw [e1]
   exact ⟨t2,(h.edit x hx).trans t4⟩
 have hnew:Pls (H.total+Jx o) nw∧(o.kind=4↔nw= []):=by
  rcases g.right.kind with hk | hk | hk
  ·have hti:=c2.ins (c4.kind.trans hk)
   have h1:=(hwid.2.2.1 hk).1
   rw [(p.ins hk).2.1]
   refine ⟨⟨⟨hti.1,by dsimp only;omega,trivial⟩,fun r hr=> ?_⟩,by simp [hk]⟩
   simp only [List.mem_singleton] at hr;subst hr
   dsimp only;omega
  ·obtain ⟨t1,t2⟩:=c2.cov (c4.kind.trans hk) (by omega)
   rw [(p.hide hk).2.1]
   refine ⟨⟨t2.norm,t2.below.mono (by omega)⟩,by rw [hk];exact ⟨fun e=>by omega,fun e=>absurd e t1⟩⟩
  ·rw [(p.status hk).2.1]
   exact ⟨⟨trivial,fun r hr=>by cases hr⟩,by simp [hk]⟩
 refine ⟨?_,?_,hroom,?_,?_,?_,?_⟩
 ·rw [hops,CtxOk.append,Int.zero_add,←before_ops]
  refine ⟨s1,g.right,?_⟩
  exact c3
 ·rw [hops,Y8,←before_ops,Y8]
  simp only [sumO]
  rw [c5.sumO];omega
 ·intro e he
  show Pls (H.total+Jx o) e.now
  rcases YA hs he with he | rfl | ⟨x,hx,y,hy,hsm,rfl⟩
  ·obtain ⟨x,hx,hh⟩:=p.old h g e he
   exact (hpl x hx e hh).1
  ·exact hnew.1
  ·obtain ⟨z,hz,hh⟩:=p.old h g x hx
   exact (hpl z hz x hh).1
 ·intro e he
  rcases YA hs he with he | rfl | ⟨x,hx,y,hy,hsm,rfl⟩
  ·obtain ⟨x,hx,hh⟩:=p.old h g e he
   rw [hh.1];exact (hpl x hx e hh).2
  ·exact hnew.2
  ·obtain ⟨z,hz,hh⟩:=p.old h g x hx
   show y.kind=4↔x.now= []
   rw [hsm.kind,hh.1];exact (hpl z hz x hh).2
 ·intro e he
  rcases YA hs he with he | rfl | ⟨x,hx,y,hy,hsm,rfl⟩
  ·obtain ⟨x,hx,hh⟩:=p.old h g e he
   rw [hh.1];exact h.idr x hx
  ·exact g.idr
  ·obtain ⟨z,hz,hh⟩:=p.old h g x hx
   show rightF y.c y.n=true
   rw [hsm.c,hsm.n,hh.1];exact h.idr z hz
 ·show ((newEnts i o nw es (JS o (H.ops.drop i)).2).map fun e=>(e.op.c,e.op.n)).Nodup
  have e0:(es.map fun e=>(e.op.c,e.op.n))=H.ents.map fun e=>(e.op.c,e.op.n):=by
   have:=congrArg (List.map fun x:GOp=>(x.c,x.n)) (p.es_ops g)
   unfold Hist.ops at this
   rw [List.map_map,List.map_map] at this
   exact this
  unfold newEnts
  rw [List.map_append,List.map_cons,ids_zipE _ _ hs]
  have e:(es.map fun e=>(e.op.c,e.op.n))=((es.take i).map fun e=>(e.op.c,e.op.n))++((es.drop i).map fun e=>(e.op.c,e.op.n)):=by rw [←List.map_append,List.take_append_drop]
  have hnot:(o.c,o.n)∉es.map fun e=>(e.op.c,e.op.n):=fun hm=>by
   rw [e0] at hm
   obtain ⟨x,hx,hh⟩:=List.mem_map.1 hm
   simp only [Prod.mk.injEq] at hh
   exact K5 g.fresh x hx hh
  have pp:(((es.take i).map fun e=>(e.op.c,e.op.n))++(o.c,o.n)::((es.drop i).map fun e=>(e.op.c,e.op.n))).Perm ((o.c,o.n)::es.map fun e=>(e.op.c,e.op.n)):=by
   rw [e];exact List.perm_middle
  exact pp.nodup_iff.2 (List.nodup_cons.2 ⟨hnot,by rw [e0];exact h.ids⟩)
def hidE (e:Ent):Bool:=(decide (e.op.kind=1) && e.off) || (decide (e.op.kind=2) && !e.off)
def cnt (es:List Ent) (q:Int):Nat:=es.countP fun e=>hidE e && inRb q e.now
structure Rule (H:Hist) (row:List Ce):Prop where
 len:(row.length:Int)=H.total
 cnt: ∀(q:Nat) c,row[q]? =some c→c.2=cnt H.ents q
structure EffOk (x:GOp) (row:List Ce):Prop where
 ck:checkF x row.length=0
 kind:x.kind=1∨x.kind=2∨x.kind=3
 up:x.kind=2→ ∀(q:Nat) c,row[q]? =some c→inRb q x.rs=true→c.2<1048576
 dn:x.kind=3→ ∀(q:Nat) c,row[q]? =some c→inRb q x.rs=true→1≤c.2
theorem hidE_off (e:Ent) (b:Bool):hidE (offE e b)=((decide (e.op.kind=1) && b) || (decide (e.op.kind=2) && !b)):=rfl
theorem emptyB:((⟨#[]⟩:ByteArray)==⟨#[]⟩)=true:=by decide
theorem Gx (a b:List Ent) (q:Int):cnt (a++b) q=cnt a q+cnt b q:=by unfold cnt;rw [List.countP_append]
theorem QK (e:Ent) (b:List Ent) (q:Int):cnt (e::b) q=cnt b q+(if (hidE e && inRb q e.now)=true then 1 else 0):=by unfold cnt;rw [List.countP_cons]
theorem cnt_zipE (q:Int): ∀(xs:List GOp) (es:List Ent),Sames (es.map (·.op)) xs→cnt (zipE xs es) q=cnt es q
 | [],[],_=>rfl
 | x::xs,e::es,h=>by
  cases h with
  | cons h hr=>
   unfold zipE
   rw [QK,QK,cnt_zipE q xs es hr]
   have:hidE ⟨x,e.now,e.off⟩=hidE e:=by unfold hidE;simp only [h.kind]
   rw [this]
 | [],e::es,h=>by cases h
 | x::xs,[],h=>by cases h
theorem cnt_new (q:Int) {i:Nat} {o:GOp} {nw:List Rg} {es:List Ent} {later:List GOp} (h:Sames ((es.drop i).map (·.op)) later):cnt (newEnts i o nw es later) q=cnt es q+(if (decide (o.kind=2) && inRb q nw)=true then 1 else 0):=by
 unfold newEnts
 rw [Gx,QK,cnt_zipE q _ _ h]
 have e1:hidE ⟨o,nw,false⟩=decide (o.kind=2):=by unfold hidE;simp
 rw [e1]
 conv=>rhs;rw [←List.take_append_drop i es,Gx]
 simp only
 omega
theorem Hu (es:List Ent) (q:Int):cnt es q≤es.length:=List.countP_le_length
theorem cnt_shift {T at_ n:Int} (q:Int) (ha:0≤at_∧at_≤T) (hn:0≤n) (hs:T+n≤65535): ∀(es:List Ent),(∀e∈es,Pls T e.now)→cnt (es.map (shiftE at_ n)) q=if q<at_ then cnt es q else if q<at_+n then 0 else cnt es (q-n)
 | [],_=>by simp [cnt]
 | e::es,h=>by
  have ih:=cnt_shift q ha hn hs es fun x hx=>h x (List.mem_cons_of_mem _ hx)
  obtain ⟨t1,t2,t3,t4⟩:=VU (h e List.mem_cons_self) (by omega) ha hn hs
  rw [List.map_cons,QK,ih]
  have e1:hidE (shiftE at_ n e)=hidE e:=rfl
  have e2:inRb q (shiftE at_ n e).now=if q<at_ then inRb q e.now else if q<at_+n then false else inRb (q-n) e.now:=by
   rw [Bool.eq_iff_iff]
   have:=t3 q
   rw [show (inRb q (shiftE at_ n e).now=true)↔memR q (thrF e.now at_ n).1 from K4,this]
   by_cases c1:q<at_
   ·rw [if_pos c1,K4]
    constructor
    ·rintro (h | h)
     ·exact h.2
     ·omega
    ·intro h;exact .inl ⟨c1,h⟩
   ·rw [if_neg c1]
    by_cases c2:q<at_+n
    ·rw [if_pos c2]
     constructor
     ·rintro (h | h)<;>omega
     ·intro h;cases h
    ·rw [if_neg c2,K4]
     constructor
     ·rintro (h | h)
      ·omega
      ·exact h.2
     ·intro h;exact .inr ⟨by omega,h⟩
  rw [e1,e2]
  by_cases c1:q<at_
  ·simp only [if_pos c1];rw [QK]
  ·by_cases c2:q<at_+n
   ·simp only [if_neg c1,if_pos c2];simp
   ·simp only [if_neg c1,if_neg c2];rw [QK]
theorem effHead {x:GOp} (hk:x.kind=1∨x.kind=2∨x.kind=3) (hc:x.c=0) (hn:x.n=0) (he:extraF x=false):headF x:=by
 refine ⟨by omega,fun h=> ?_,by rw [he];simp⟩
 omega
theorem runes_width {w:Int} {o:GOp} (h:Right w o) (hk:o.kind=1):((J2 o.text).length:Int)=Jx o:=by
 have h3:=Yv.1 ((check_ins hk h.w0).1 h.ck).2
 rw [(h.width.2.2.1 hk).2,Y1 h3.1]
theorem put_row {H:Hist} (h:HV H) {i:Nat} {o:GOp} {es:List Ent} {nw:List Rg} {eff:GOp} (g:Good H i o) (p:PutIs H i o es nw eff) {row:List Ce} (hr:Rule H row) (hl:H.ents.length≤1000):
  (eff.kind≠0→EffOk eff row)∧(eff.kind=0→eff=zeroOp∧o.kind=4)∧Rule ⟨newEnts i o nw es (JS o (H.ops.drop i)).2,H.total+Jx o⟩ (JT eff row):=by
 obtain ⟨c1,c2,c3,c4,c5⟩:=cross_good h g
 have h0:=h.total0
 have hs:=p.sames h g
 have hroom:=g.room
 have hwid:=g.right.width
 have hlen:=hr.len
 rcases g.right.kind with hk | hk | hk
 ·obtain ⟨e1,e2,e3⟩:=p.ins hk
  have hti:=c2.ins (c4.kind.trans hk)
  have hw2:Jx (JS o (H.ops.drop i)).1=Jx o:=c4.width
  have hins:=Yv.1 ((check_ins hk g.right.w0).1 g.right.ck).2
  have hwk:=(hwid.2.2.1 hk).2
  have hrun:=runes_width g.right hk
  generalize hta:(JS o (H.ops.drop i)).1.at_=ta at *
  have hek:eff.kind=1:=by rw [e3];exact hk
  refine ⟨fun _=>⟨?_, .inl hek,fun e=>by omega,fun e=>by omega⟩,fun e=>by omega,?_,?_⟩
  ·rw [e3]
   refine (check_ins (o:= { effF o with at_:=ta,text:=o.text }) hk (by omega)).2 ⟨effHead (.inl hk) rfl rfl ?_,Yv.2 ⟨hins.1,hins.2.1,by show 0≤ta∧ta≤_;omega,by show _+(utF o.text).1≤_;omega⟩⟩
   simp [extraF,effF,zeroOp,hk,emptyB]
  ·unfold JT
   rw [if_pos hek,e3]
   simp only [List.length_append,List.length_take,List.length_drop,Jr]
   omega
  ·intro q c hq
   show c.2=(cnt (newEnts i o nw es (JS o (H.ops.drop i)).2) q:Nat)
   rw [cnt_new q hs,e1,cnt_shift (T:=H.total) q ⟨hti.1,hti.2.1⟩ hwid.1 (by omega) H.ents h.pls]
   simp only [hk,show ((1:Int)=2)=False from by simp,decide_false,Bool.false_and,Bool.false_eq_true,if_false,Nat.add_zero]
   unfold JT at hq
   rw [if_pos hek,e3] at hq
   simp only at hq
   have el1:(row.take ta.toNat).length=ta.toNat:=by rw [List.length_take];omega
   by_cases d1:(q:Int)<ta
   ·rw [List.getElem?_append_left (by omega),List.getElem?_take,if_pos (by omega)] at hq
    rw [if_pos d1];exact hr.cnt q c hq
   ·rw [List.getElem?_append_right (by omega),el1] at hq
    rw [if_neg d1]
    by_cases d2:(q:Int)<ta+Jx o
    ·rw [List.getElem?_append_left (by rw [Jr];omega)] at hq
     rw [if_pos d2]
     unfold cellsOf at hq
     rw [List.getElem?_map] at hq
     cases hx:(J2 o.text)[q-ta.toNat]? with
     | none=>rw [hx] at hq;cases hq
     | some x=>rw [hx] at hq;simp only [Option.map_some,Option.some.injEq] at hq;subst hq;rfl
    ·rw [List.getElem?_append_right (by rw [Jr];omega),Jr,List.getElem?_drop] at hq
     rw [if_neg d2]
     have:=hr.cnt _ c hq
     rw [this]
     congr 2
     omega
 ·obtain ⟨e1,e2,e3⟩:=p.hide hk
  obtain ⟨t1,t2⟩:=c2.cov (c4.kind.trans hk) (by omega)
  generalize htr:(JS o (H.ops.drop i)).1.rs=tr at *
  have hek:eff.kind=2:=by rw [e3];exact hk
  have hers:eff.rs=tr:=by rw [e3]
  have hget:=KS (k:=1) tr 0 row (Int.le_refl _) t2.norm (by rw [hlen];exact t2.below)
  have happ:JT eff row=Kn tr 1 row:=by unfold JT;rw [if_neg (by omega),if_pos hek,hers]
  refine ⟨fun _=>⟨?_, .inr (.inl hek),fun _ q c hq _=> ?_,fun e=>by omega⟩,fun e=>by omega,?_,?_⟩
  ·rw [e3]
   refine (check_cov (o:= { effF o with rs:=tr }) (.inl hk) (by omega)).2 ⟨effHead (.inr (.inl hk)) rfl rfl ?_,(YP (by omega)).2 ⟨t1,by rw [hlen];exact t2⟩⟩
   simp [extraF,effF,zeroOp,hk,emptyB]
  ·have:=hr.cnt q c hq
   have:=Hu H.ents q
   omega
  ·rw [happ,hget.1,hlen,hwid.2.2.2 (by omega)];simp
  ·intro q c hq
   show c.2=(cnt (newEnts i o nw es (JS o (H.ops.drop i)).2) q:Nat)
   rw [cnt_new q hs,e1,e2]
   rw [happ,hget.2 q] at hq
   cases hx:row[q]? with
   | none=>rw [hx] at hq;cases hq
   | some d=>
    rw [hx] at hq
    simp only [Option.map_some,Option.some.injEq] at hq
    have:=hr.cnt q d hx
    subst hq
    simp only [hk,decide_true,Bool.true_and]
    by_cases hb:inRb q tr=true
    ·simp only [hb,if_true];omega
    ·simp only [hb];simpa using this
 ·obtain ⟨e1,e2,e3⟩:=p.status hk
  have hw0:=hwid.2.2.2 (by omega)
  obtain ⟨k0,hk0,hk1,e0,he0,hek0⟩:=g.target hk
  have hcn: ∀q,cnt (newEnts i o nw es (JS o (H.ops.drop i)).2) q=cnt es q:=fun q=>by
   rw [cnt_new q hs];simp [hk]
  rcases turned_cases H i o with e | ⟨k,e,g1,g2,g3,g4,g5⟩
  ·rw [e] at e1 e3
   simp only at e1 e3
   have happ:JT eff row=row:=by rw [e3];rfl
   refine ⟨fun hh=>absurd (by rw [e3];rfl) hh,fun _=>⟨e3,hk⟩,?_,?_⟩
   ·rw [happ,hlen,hw0];simp
   ·intro q c hq
    rw [happ] at hq
    show c.2=(cnt (newEnts i o nw es (JS o (H.ops.drop i)).2) q:Nat)
    rw [hcn,e1];exact hr.cnt q c hq
  ·rw [g5] at e1 e3
   simp only at e1 e3
   have hkk:k<H.ents.length:=by
    rcases Nat.lt_or_ge k H.ents.length with h | h
    ·exact h
    ·rw [List.getElem?_eq_none h] at g2;cases g2
   have hge:H.ents[k] =e:=by rw [List.getElem?_eq_getElem hkk] at g2;exact Option.some.inj g2
   obtain rfl:k0=k:=Option.some.inj (hk0.symm.trans g1)
   obtain rfl:e0=e:=Option.some.inj (he0.symm.trans g2)
   have hem:e0∈H.ents:=List.mem_of_getElem? g2
   have hpe:=h.pls e0 hem
   have hne:e0.now≠ [] :=fun hh=>hek0 ((h.edit e0 hem).2 hh)
   have hek:e0.op.kind=1∨e0.op.kind=2:=by
    have h1:=h.ctx
    have h2: ∀(l:List GOp) (w:Int),CtxOk w l→ ∀x∈l,x.kind=1∨x.kind=2∨x.kind=4:=by
     intro l
     induction l with
     | nil=>intro w _ x hx;cases hx
     | cons y l ih=>
      intro w hc x hx
      rcases List.mem_cons.1 hx with rfl | hx
      ·exact hc.1.kind
      ·exact ih _ hc.2 x hx
    have:=h2 _ _ h1 e0.op (List.mem_map.2 ⟨e0,hem,rfl⟩)
    omega
   have hcs: ∀q,cnt es q+(if (hidE e0 && inRb q e0.now)=true then 1 else 0)=cnt H.ents q+(if (hidE (offE e0 (!o.on)) && inRb q e0.now)=true then 1 else 0):=by
    intro q
    rw [e1]
    unfold cnt
    rw [List.countP_set hkk]
    simp only [hge]
    have hpos:(if (hidE e0 && inRb q e0.now)=true then 1 else 0)≤H.ents.countP fun e=>hidE e && inRb q e.now:=by
     split
     ·rename_i hh
      exact List.countP_pos_iff.2 ⟨e0,hem,hh⟩
     ·omega
    have:(offE e0 (!o.on)).now=e0.now:=rfl
    rw [this]
    omega
   have hcheck: ∀kd:Int,(kd=2∨kd=3)→eff.kind=kd→checkF eff row.length=0:=by
    intro kd hkd hekd
    refine (check_cov (by omega) (by omega)).2 ⟨effHead (by omega) (by rw [e3];rfl) (by rw [e3];rfl) ?_,(YP (by omega)).2 ⟨by rw [e3];exact hne,by rw [hlen,e3];exact hpe⟩⟩
    have h1:eff.at_=0:=by rw [e3];rfl
    have h2:eff.text=⟨#[]⟩:=by rw [e3];rfl
    have h3:eff.tc=0:=by rw [e3];rfl
    have h4:eff.tn=0:=by rw [e3];rfl
    have h5:eff.on=false:=by rw [e3];rfl
    have h6:(⟨#[]⟩:ByteArray)==⟨#[]⟩:=by decide
    unfold extraF
    rw [h1,h2,h3,h4,h5]
    rcases hkd with rfl | rfl<;>simp [hekd,h6]
   have hers:eff.rs=e0.now:=by rw [e3];rfl
   have hon:o.on=e0.off:=g3.symm
   by_cases hcase:(decide (e0.op.kind=2)==o.on)=true
   ·have hekd:eff.kind=2:=by rw [e3];unfold turnF;simp only;rw [if_pos hcase]
    have happ:JT eff row=Kn e0.now 1 row:=by unfold JT;rw [if_neg (by omega),if_pos hekd,hers]
    have hget:=KS (k:=1) e0.now 0 row (Int.le_refl _) hpe.norm (by rw [hlen];exact hpe.below)
    have hh1:hidE e0=false∧hidE (offE e0 (!o.on))=true:=by
     rw [hidE_off]
     unfold hidE
     rw [hon] at hcase ⊢
     rcases hek with hh | hh<;>(rw [hh] at hcase ⊢;revert hcase;cases e0.off<;>decide)
    refine ⟨fun _=>⟨hcheck 2 (.inl O) hekd, .inr (.inl hekd),fun _ q c hq _=> ?_,fun e=>by omega⟩,fun e=>by omega,?_,?_⟩
    ·have:=hr.cnt q c hq
     have:=Hu H.ents q
     omega
    ·rw [happ,hget.1,hlen,hw0];simp
    ·intro q c hq
     show c.2=(cnt (newEnts i o nw es (JS o (H.ops.drop i)).2) q:Nat)
     rw [hcn]
     have hc:=hcs q
     rw [hh1.1,hh1.2] at hc
     simp only [Bool.false_and,Bool.false_eq_true,if_false,Nat.add_zero,Bool.true_and] at hc
     rw [happ,hget.2 q] at hq
     cases hx:row[q]? with
     | none=>rw [hx] at hq;cases hq
     | some d=>
      rw [hx] at hq
      simp only [Option.map_some,Option.some.injEq] at hq
      have:=hr.cnt q d hx
      subst hq
      by_cases hb:inRb q e0.now=true
      ·rw [if_pos hb] at hc ⊢;simp only;omega
      ·rw [if_neg hb] at hc ⊢;omega
   ·have hekd:eff.kind=3:=by rw [e3];unfold turnF;simp only;rw [if_neg hcase]
    have happ:JT eff row=Kn e0.now (-1) row:=by unfold JT;rw [if_neg (by omega),if_neg (by omega),if_pos hekd,hers]
    have hget:=KS (k:= -1) e0.now 0 row (Int.le_refl _) hpe.norm (by rw [hlen];exact hpe.below)
    have hh1:hidE e0=true∧hidE (offE e0 (!o.on))=false:=by
     rw [hidE_off]
     unfold hidE
     rw [hon] at hcase ⊢
     rcases hek with hh | hh<;>(rw [hh] at hcase ⊢;revert hcase;cases e0.off<;>decide)
    refine ⟨fun _=>⟨hcheck 3 (.inr O) hekd, .inr (.inr hekd),fun e=>by omega,fun _ q c hq hb=> ?_⟩,fun e=>by omega,?_,?_⟩
    ·have h1:=hr.cnt q c hq
     rw [hers] at hb
     have h2:0<cnt H.ents q:=by
      unfold cnt
      exact List.countP_pos_iff.2 ⟨e0,hem,by rw [hh1.1,hb];rfl⟩
     omega
    ·rw [happ,hget.1,hlen,hw0];simp
    ·intro q c hq
     show c.2=(cnt (newEnts i o nw es (JS o (H.ops.drop i)).2) q:Nat)
     rw [hcn]
     have hc:=hcs q
     rw [hh1.1,hh1.2] at hc
     simp only [Bool.false_and,Bool.false_eq_true,if_false,Nat.add_zero,Bool.true_and] at hc
     rw [happ,hget.2 q] at hq
     cases hx:row[q]? with
     | none=>rw [hx] at hq;cases hq
     | some d=>
      rw [hx] at hq
      simp only [Option.map_some,Option.some.injEq] at hq
      have:=hr.cnt q d hx
      subst hq
      by_cases hb:inRb q e0.now=true
      ·rw [if_pos hb] at hc ⊢;simp only;omega
      ·rw [if_neg hb] at hc ⊢;omega
def ints (k:IntKind) (xs:List Int):List Value:=xs.map (Value.int k)
theorem ints_reps (k:IntKind) (xs:List Int) (Z:Nat→Prop) (w:World):Reps ((De.int k).rep Z w) xs (xs.map fun x=> [Value.int k x]):=by
 induction xs with
 | nil=>exact .nil
 | cons x xs ih=>exact .cons rfl ih
theorem ints_flat (k:IntKind) (xs:List Int):(xs.map fun x=> [Value.int k x]).flatten=ints k xs:=by
 induction xs with
 | nil=>rfl
 | cons x xs ih=>simp only [List.map_cons,List.flatten_cons,ih];rfl
theorem KM (k:IntKind) (xs ys:List Int):ints k (xs++ys)=ints k xs++ints k ys:=by unfold ints;simp
theorem reps_int {k:IntKind} {xs:List Int} {css:List (List Value)} {Z:Nat→Prop} {w:World} (h:Reps ((De.int k).rep Z w) xs css):css.flatten=ints k xs:=by
 induction h with
 | nil=>rfl
 | cons h _ ih=>
  have h':_= [Value.int k _] :=h
  rw [List.flatten_cons,h',ih];rfl
structure Pc where
 rs:List Int
 hid:Int
def pcD:De Pc where
 sz:=2
 rep Z w p cs:= ∃A c,cs=pcC p.rs p.hid A c∧RdS runeD Z w A c p.rs
 len h:=by obtain ⟨A,c,rfl,_⟩:=h;rfl
 one h:=by obtain ⟨A,c,rfl,_⟩:=h;rfl
 stable hz hh h1 h2 h3 h:=by
  obtain ⟨A,c,g1,g2⟩:=h
  exact ⟨A,c,g1,(RdF runeD A c _).stable hz hh h1 h2 h3 g2⟩
theorem pc_open (u:Pc): ∀Z w cs,pcD.rep Z w u cs→ ∃y:Option Addr×Nat,cs=pcC u.rs u.hid y.1 y.2∧ ∀B∈ [RdF runeD y.1 y.2 u.rs],B.holds Z w:=fun _ _ _ h=>by
 obtain ⟨A,c,h1,h2⟩:=h
 exact ⟨(A,c),h1,fun B hB=>by simp only [List.mem_singleton] at hB;subst hB;exact h2⟩
def pcsRow (ps:List Pc):List Ce:=ps.flatMap fun p=>cellsOf p.rs p.hid
def PcOk (ps:List Pc):Prop:= ∀p∈ps,p.rs≠ [] ∧0≤p.hid∧p.hid≤1048576
theorem KK (a b:List Pc):pcsRow (a++b)=pcsRow a++pcsRow b:=by unfold pcsRow;rw [List.flatMap_append]
theorem Vv (p:Pc) (b:List Pc):pcsRow (p::b)=cellsOf p.rs p.hid++pcsRow b:=by unfold pcsRow;rw [List.flatMap_cons]
theorem Qp (p:Pc):pcsRow [p] =cellsOf p.rs p.hid:=by unfold pcsRow;simp
theorem PcOk.append {a b:List Pc} :PcOk (a++b)↔PcOk a∧PcOk b:=by
 unfold PcOk;simp only [List.mem_append]
 exact ⟨fun h=>⟨fun p hp=>h p (.inl hp),fun p hp=>h p (.inr hp)⟩,fun h p hp=>hp.elim (h.1 p) (h.2 p)⟩
theorem PcOk.one {p:Pc} (h:p.rs≠ []) (h2:0≤p.hid∧p.hid≤1048576):PcOk [p] :=fun q hq=>by
 rw [List.mem_singleton] at hq;subst hq;exact ⟨h,h2⟩
theorem PcOk.len: ∀ {ps:List Pc},PcOk ps→ps.length≤(pcsRow ps).length
 | [],_=>by simp
 | p::ps,h=>by
  have h1:=(h p List.mem_cons_self).1
  have h2:=List.length_pos_iff.2 h1
  have h3:=PcOk.len (ps:=ps) fun q hq=>h q (List.mem_cons_of_mem _ hq)
  rw [Vv,List.length_append,Jr,List.length_cons];omega
theorem Xa (a b:List Int) (hid:Int):cellsOf (a++b) hid=cellsOf a hid++cellsOf b hid:=by unfold cellsOf;rw [List.map_append]
theorem runesAt_end {s:ByteArray} {p:Nat} (h: ¬p<s.size):runesAt s p= [] :=by rw [runesAt,dif_neg h]
theorem runesAt_next {s:ByteArray} {p:Nat} (h:p<s.size):runesAt s p=((Utf8.decode s p).1:Int)::runesAt s (p+(Utf8.decode s p).2):=by
 conv=>lhs;unfold runesAt
 rw [dif_pos h]
def cutAt (n k i:Nat):Nat:=i*n / k
theorem cutAt_lt {n k i:Nat} (hk:0<k) (hn:k≤n):cutAt n k i<cutAt n k (i+1):=by
 unfold cutAt
 have h1:(i+1)*n=i*n+n:=by rw [Nat.add_mul,Nat.one_mul]
 rw [h1]
 have h2:i*n / k+1≤(i*n+n) / k:=by
  rw [Nat.le_div_iff_mul_le hk,Nat.add_mul,Nat.one_mul]
  have:=Nat.div_mul_le_self (i*n) k
  omega
 omega
theorem EX {n k i:Nat} (hk:0<k) (hi:i≤k):cutAt n k i≤n:=by
 unfold cutAt
 calc i*n / k≤k*n / k:=Nat.div_le_div_right (Nat.mul_le_mul_right n hi)
  _=n:=Nat.mul_div_cancel_left n hk
theorem cutAt_last {n k:Nat} (hk:0<k):cutAt n k k=n:=by unfold cutAt;exact Nat.mul_div_cancel_left n hk
theorem Hs {n k:Nat} :cutAt n k 0=0:=by unfold cutAt;simp
def cutPc (rs:List Int) (hid:Int) (k i:Nat):Pc:=⟨(rs.take (cutAt rs.length k (i+1))).drop (cutAt rs.length k i),hid⟩
def cutPcs (rs:List Int) (hid:Int) (k:Nat):Nat→List Pc
 | 0=> []
 | i+1=>cutPcs rs hid k i++ [cutPc rs hid k i]
theorem QG (rs:List Int) (hid:Int) (k:Nat): ∀i,(cutPcs rs hid k i).length=i
 | 0=>rfl
 | i+1=>by simp [cutPcs,QG rs hid k i]
theorem G5 {rs:List Int} {hid:Int} {k:Nat} (hk:0<k) (hn:k≤rs.length) (hh:0≤hid∧hid≤1048576): ∀i,i≤k→PcOk (cutPcs rs hid k i)∧pcsRow (cutPcs rs hid k i)=cellsOf (rs.take (cutAt rs.length k i)) hid
 | 0,_=>⟨fun p hp=>by simp [cutPcs] at hp,by rw [Hs];rfl⟩
 | i+1,hi=>by
  obtain ⟨h1,h2⟩:=G5 hk hn hh i (by omega)
  have h3:=cutAt_lt (n:=rs.length) (k:=k) (i:=i) hk hn
  have h4:=EX (n:=rs.length) (k:=k) (i:=i+1) hk hi
  refine ⟨PcOk.append.2 ⟨h1,PcOk.one (fun e=> ?_) hh⟩,?_⟩
  ·have:=congrArg List.length e
   simp only [cutPc,List.length_drop,List.length_take,List.length_nil] at this
   omega
  ·rw [cutPcs,KK,h2,Qp]
   unfold cutPc
   simp only
   rw [←Xa]
   congr 1
   have e:rs.take (cutAt rs.length k i)=(rs.take (cutAt rs.length k (i+1))).take (cutAt rs.length k i):=by rw [List.take_take,Nat.min_eq_left (by omega)]
   rw [e,List.take_append_drop]
theorem HZ {P:Program} {n:Dm} {R:Post} {l:Fr} {Ps:List Part} {As:List Fact} {c:Code} {k:IntKind} {xs:List Int} {css:List (List Value)} (hA:RepsF (De.int k) xs css∈As) (h:css.flatten=ints k xs→WC P n c R l Ps As):WC P n c R l Ps As:=fun Z w a hs ha=>h (reps_int (hs.facts _ hA:Reps ((De.int k).rep Z w) xs css)) Z w a hs ha
structure EvJ (ps:List Pc) (i k:Nat) (run:List Int) (hid:Int):Prop where
 ik:i≤k
 le:k≤ps.length
 eq:cellsOf run hid=pcsRow ((ps.take k).drop i)
theorem Q9 (ps:List Pc) (i k:Nat):(pcsRow ((ps.take k).drop i)).length≤(pcsRow ps).length:=by
 have e:ps=ps.take k++ps.drop k:=(List.take_append_drop k ps).symm
 have e2:ps.take k=(ps.take k).take i++(ps.take k).drop i:=(List.take_append_drop i _).symm
 have h1:(pcsRow ps).length=(pcsRow (ps.take k)).length+(pcsRow (ps.drop k)).length:=by
  conv=>lhs;rw [e]
  rw [KK,List.length_append]
 have h2:(pcsRow (ps.take k)).length=(pcsRow ((ps.take k).take i)).length+(pcsRow ((ps.take k).drop i)).length:=by
  conv=>lhs;rw [e2]
  rw [KK,List.length_append]
 omega
theorem EvJ.len {ps:List Pc} {i k:Nat} {run:List Int} {hid:Int} (h:EvJ ps i k run hid):run.length≤(pcsRow ps).length:=by
 have:=congrArg List.length h.eq
 rw [Jr] at this
 have:=Q9 ps i k
 omega
theorem EvJ.next {ps:List Pc} {i k:Nat} {run:List Int} {hid:Int} (h:EvJ ps i k run hid) (hk:k<ps.length) (e:ps[k].hid=hid):EvJ ps i (k+1) (run++ps[k].rs) hid:=by
 have:=h.ik
 refine ⟨by omega,hk,?_⟩
 have e1:ps.take (k+1)=ps.take k++ [ps[k]] :=by rw [List.take_succ_eq_append_getElem hk]
 rw [Xa,h.eq,e1,List.drop_append_of_le_length (by rw [List.length_take];omega),KK,Qp,e]
theorem EvJ.done {ps:List Pc} {i k:Nat} {run:List Int} {hid:Int} (h:EvJ ps i k run hid):pcsRow (ps.take i)++cellsOf run hid=pcsRow (ps.take k):=by
 have e:ps.take i=(ps.take k).take i:=by rw [List.take_take,Nat.min_eq_left h.ik]
 rw [h.eq,e,←KK,List.take_append_drop]
structure EvI (ps:List Pc) (i:Nat) (os:List Pc) (v:Value) (p:Part) (css:List (List Value)):Prop where
 le:i≤ps.length
 row:Row 145 2 v os.length css.flatten p
 ok:PcOk os
 eq:pcsRow os=pcsRow (ps.take i)
theorem EvI.len {ps:List Pc} {i:Nat} {os:List Pc} {v:Value} {p:Part} {css:List (List Value)} (h:EvI ps i os v p css):os.length≤(pcsRow ps).length:=by
 have h1:=h.ok.len
 have h2:=congrArg List.length h.eq
 have h3:=Q9 ps 0 i
 rw [List.drop_zero] at h3
 omega
def wide (j:Nat):Bool:=decide (j % 7=3)
def idsOf (es:List Ent):List (Int×Int):=es.map fun e=>(e.op.c,e.op.n)
def kindN (o:GOp):Int:=if o.kind=4 then 2 else if o.kind=2 then 1 else 0
def kindsOf (es:List Ent):List Int:=es.map fun e=>kindN e.op
def textsOf (es:List Ent):List ByteArray:=es.map fun e=>e.op.text
def insAt {α:Type} (l:List α) (i:Nat) (x:α):List α:=l.take i++x::l.drop i
def nxF (nx:List Int) (c n:Int):List Int:=if nx.getD c.toNat 0<n then nx.set c.toNat n else nx
theorem zipE_noted {β:Type} (f:GOp→β) (hf: ∀a b,Same a b→f b=f a): ∀(xs:List GOp) (es:List Ent),Sames (es.map (·.op)) xs→(zipE xs es).map (fun e=>f e.op)=es.map fun e=>f e.op
 | [],[],_=>rfl
 | x::xs,e::es,h=>by
  cases h with
  | cons h hr=>simp only [zipE,List.map_cons,hf _ _ h,zipE_noted f hf xs es hr]
 | [],e::es,h=>by cases h
 | x::xs,[],h=>by cases h
theorem PutIs.noted {β:Type} (f:GOp→β) (hf: ∀a b,Same a b→f b=f a) {H:Hist} (h:HV H) {i:Nat} {o:GOp} {es:List Ent} {nw:List Rg} {eff:GOp} (g:Good H i o) (p:PutIs H i o es nw eff):
  (putF H i o).1.ents.map (fun e=>f e.op)=insAt (H.ents.map fun e=>f e.op) i (f o):=by
 have hs:=p.sames h g
 rw [p.put]
 show (newEnts i o nw es (JS o (H.ops.drop i)).2).map (fun e=>f e.op)=_
 unfold newEnts insAt
 rw [List.map_append,List.map_cons,zipE_noted f hf _ _ hs]
 have e0:(es.map fun e=>f e.op)=H.ents.map fun e=>f e.op:=by
  have:=congrArg (List.map f) (p.es_ops g)
  unfold Hist.ops at this
  rw [List.map_map,List.map_map] at this
  exact this
 rw [←List.map_take,←List.map_drop,List.map_take,List.map_drop,e0,←List.map_take,←List.map_drop,List.map_take,List.map_drop]
theorem PutIs.length {H:Hist} (h:HV H) {i:Nat} {o:GOp} {es:List Ent} {nw:List Rg} {eff:GOp} (g:Good H i o) (p:PutIs H i o es nw eff):(putF H i o).1.ents.length=H.ents.length+1:=by
 have hs:=p.sames h g
 rw [p.put]
 show (newEnts i o nw es (JS o (H.ops.drop i)).2).length=_
 rw [Qq hs (by rw [p.len g];exact g.le),p.len g]
inductive Made:Nat→Hist→List Ce→Prop
 | zero:Made 0 ⟨[],0⟩ []
 | step {n:Nat} {H:Hist} {X:List Ce} {i:Nat} {o:GOp} (h:Made n H X) (g:Good H i o):Made (n+1) (putF H i o).1 (JT (putF H i o).2.1 X)
theorem Made.inv {n:Nat} {H:Hist} {X:List Ce} (h:Made n H X):n≤1000→HV H∧Rule H X∧H.ents.length=n:=by
 induction h with
 | zero=>
  intro _
  refine ⟨⟨trivial,rfl,by decide,fun e he=>(by cases he),fun e he=>(by cases he),fun e he=>(by cases he),List.nodup_nil⟩,⟨rfl,fun q c hq=>(by simp at hq)⟩,rfl⟩
 | step h g ih=>
  intro hn
  obtain ⟨h1,h2,h3⟩:=ih (by omega)
  obtain ⟨es,nw,eff,p⟩:=put_good h1 g
  have h4:=put_hv h1 g p
  have h5:=(put_row h1 g p h2 (by omega)).2.2
  refine ⟨by rw [p.put];exact h4,by rw [p.put];exact h5,by rw [p.length h1 g,h3]⟩
structure VI (N:Int) (n:Nat) (H:Hist) (X:List Ce) (nx:List Int):Prop where
 made:Made n H X
 le:n≤200
 nxl:nx.length=9
 nxe: ∀e∈H.ents,∃x,nx[e.op.c.toNat]? =some x∧e.op.n≤x
 nx0: ∀x∈nx,0≤x∧x≤N
theorem VI.hv {N:Int} {n:Nat} {H:Hist} {X:List Ce} {nx:List Int} (h:VI N n H X nx):HV H:=(h.made.inv (by have:=h.le;omega)).1
theorem VI.rule {N:Int} {n:Nat} {H:Hist} {X:List Ce} {nx:List Int} (h:VI N n H X nx):Rule H X:=(h.made.inv (by have:=h.le;omega)).2.1
theorem VI.len {N:Int} {n:Nat} {H:Hist} {X:List Ce} {nx:List Int} (h:VI N n H X nx):H.ents.length=n:=(h.made.inv (by have:=h.le;omega)).2.2
theorem VI.total {N:Int} {n:Nat} {H:Hist} {X:List Ce} {nx:List Int} (h:VI N n H X nx):0≤H.total∧H.total≤256*n:=by
 have h1:=h.hv
 refine ⟨h1.total0,?_⟩
 have key: ∀(l:List GOp) (w:Int),CtxOk w l→sumO l≤256*l.length:=by
  intro l
  induction l with
  | nil=>intro w _;simp [sumO]
  | cons o l ih=>
   intro w hc
   have:=ih _ hc.2
   have:=hc.1.width
   simp only [sumO,List.length_cons];omega
 have:=key _ _ h1.ctx
 rw [←h1.tot] at this
 have e:H.ops.length=n:=by unfold Hist.ops;rw [List.length_map,h.len]
 rw [e] at this;exact this
theorem Gf {c n:Int} (h:rightF c n=true):1≤c∧c≤8∧1≤n∧n≤1024:=by unfold rightF at h;simpa using h
theorem Hm (nx:List Int) (c n:Int):(nxF nx c n).length=nx.length:=by unfold nxF;split<;>simp
theorem VI.zero:VI 0 0 ⟨[],0⟩ [] (List.replicate 9 0):=⟨.zero,by decide,rfl,fun e he=>(by cases he),fun x hx=>by have:=List.eq_of_mem_replicate hx;omega⟩
theorem VI.step {N N':Int} {n:Nat} {H:Hist} {X:List Ce} {nx:List Int} (h:VI N n H X nx) {i:Nat} {o:GOp} (g:Good H i o) (hn:n<200) (hN:N≤N') (ho:o.n≤N'):VI N' (n+1) (putF H i o).1 (JT (putF H i o).2.1 X) (nxF nx o.c o.n):=by
 have hb:=Gf g.idr
 have hl:=h.nxl
 obtain ⟨es,nw,eff,p⟩:=put_good h.hv g
 refine ⟨.step h.made g,by omega,by rw [Hm];exact hl,?_,?_⟩
 ·intro e he
  have hids:=p.noted (fun o=>(o.c,o.n)) (fun a b hs=>by rw [hs.c,hs.n]) h.hv g
  have hm:(e.op.c,e.op.n)∈insAt (H.ents.map fun e=>(e.op.c,e.op.n)) i (o.c,o.n):=by
   rw [←hids];exact List.mem_map.2 ⟨e,he,rfl⟩
  have hold:(e.op.c=o.c∧e.op.n=o.n)∨ ∃x∈H.ents,e.op.c=x.op.c∧e.op.n=x.op.n:=by
   unfold insAt at hm
   rcases List.mem_append.1 hm with hm | hm
   ·obtain ⟨x,hx,hh⟩:=List.mem_map.1 (List.mem_of_mem_take hm)
    simp only [Prod.mk.injEq] at hh
    exact .inr ⟨x,hx,hh.1.symm,hh.2.symm⟩
   ·rcases List.mem_cons.1 hm with hm | hm
    ·simp only [Prod.mk.injEq] at hm;exact .inl hm
    ·obtain ⟨x,hx,hh⟩:=List.mem_map.1 (List.mem_of_mem_drop hm)
     simp only [Prod.mk.injEq] at hh
     exact .inr ⟨x,hx,hh.1.symm,hh.2.symm⟩
  rcases hold with ⟨e1,e2⟩ | ⟨x,hx,e1,e2⟩
  ·rw [e1,e2]
   unfold nxF
   have hlt:o.c.toNat<nx.length:=by omega
   split
   ·exact ⟨o.n,by rw [List.getElem?_set_self hlt],Int.le_refl _⟩
   ·rename_i hh
    refine ⟨nx[o.c.toNat],List.getElem?_eq_getElem hlt,?_⟩
    rw [List.getD_eq_getElem?_getD,List.getElem?_eq_getElem hlt] at hh
    simp only [Option.getD_some] at hh;omega
  ·obtain ⟨y,hy,hle⟩:=h.nxe x hx
   rw [e1,e2]
   unfold nxF
   split
   ·rename_i hh
    by_cases hc:o.c.toNat=x.op.c.toNat
    ·rw [hc] at hh ⊢
     rw [List.getD_eq_getElem?_getD,hy] at hh
     simp only [Option.getD_some] at hh
     have hlt:x.op.c.toNat<nx.length:=by
      rcases Nat.lt_or_ge x.op.c.toNat nx.length with h | h
      ·exact h
      ·rw [List.getElem?_eq_none h] at hy;cases hy
     exact ⟨o.n,by rw [List.getElem?_set_self hlt],by omega⟩
    ·exact ⟨y,by rw [List.getElem?_set_ne hc];exact hy,hle⟩
   ·exact ⟨y,hy,hle⟩
 ·intro x hx
  unfold nxF at hx
  split at hx
  ·rcases List.mem_or_eq_of_mem_set hx with hx | rfl
   ·have:=h.nx0 x hx;omega
   ·omega
  ·have:=h.nx0 x hx;omega
theorem VI.fresh {N:Int} {n:Nat} {H:Hist} {X:List Ce} {nx:List Int} (h:VI N n H X nx) {c:Int} {x:Int} (hc:nx[c.toNat]? =some x) (hc0:1≤c∧c≤8) {k:Int} (hk:x<k):JX H.ents c k=none:=by
 cases hw:JX H.ents c k with
 | none=>rfl
 | some j=>
  obtain ⟨hj,h1,h2⟩:=KD hw
  obtain ⟨y,hy,hle⟩:=h.nxe _ (List.getElem_mem hj)
  rw [h1,hc] at hy
  have:=Option.some.inj hy
  omega
theorem Yj {es:List Ent} (hn:(es.map fun e=>(e.op.c,e.op.n)).Nodup) {k:Nat} (hk:k<es.length):JX es es[k].op.c es[k].op.n=some k:=by
 cases hw:JX es es[k].op.c es[k].op.n with
 | none=>exact absurd ⟨rfl,rfl⟩ (K5 hw _ (List.getElem_mem hk))
 | some j=>
  obtain ⟨hj,h1,h2⟩:=KD hw
  have h3:=List.getElem_inj (h₀:=by simpa using hj) (h₁:=by simpa using hk) hn
  simp only [List.getElem_map,Prod.mk.injEq] at h3
  rw [h3.1 ⟨h1,h2⟩]
theorem good_head {o:GOp} (hk:1≤o.kind∧o.kind≤4) (hr:rightF o.c o.n=true) (he:extraF o=false):headF o:=⟨by omega,fun h=>by rw [hr] at h;simp at h,by rw [he];simp⟩
theorem VI.room {N:Int} {n:Nat} {H:Hist} {X:List Ce} {nx:List Int} (h:VI N n H X nx) (i:Nat):0≤KQ H i∧KQ H i≤H.total:=by
 obtain ⟨h1,h2,h3,h4⟩:=h.hv.split i
 have:=sumO_nonneg h2
 omega
theorem good_status {N:Int} {n:Nat} {H:Hist} {X:List Ce} {nx:List Int} (h:VI N n H X nx) {i:Nat} (hi:i≤n) {c k:Int} (hw:JX H.ents c k=none) (hr:rightF c k=true) {j:Nat} (hj:j<H.ents.length) (hji:j<i) (hk:H.ents[j].op.kind≠4) (on:Bool):Good H i { zeroOp with c:=c,n:=k,kind:=4,tc:=H.ents[j].op.c,tn:=H.ents[j].op.n,on:=on } :=by
 have ht:=h.total
 have hb:=h.room i
 have hle:=h.le
 have hne: ¬(H.ents[j].op.c=c∧H.ents[j].op.n=k):=K5 hw _ (List.getElem_mem hj)
 refine ⟨by rw [h.len];exact hi,⟨(check_st O (by omega)).2 ⟨good_head (by dsimp only;omega) hr (by simp [extraF,zeroOp,emptyB]),h.hv.idr _ (List.getElem_mem hj),hne⟩, .inr (.inr O)⟩,hw,hr,fun _=>⟨j,Yj h.hv.ids hj,hji,_,List.getElem?_eq_getElem hj,hk⟩,?_⟩
 have:Jx { zeroOp with c:=c,n:=k,kind:=4,tc:=H.ents[j].op.c,tn:=H.ents[j].op.n,on:=on } =0:=by unfold Jx;rw [if_neg (show ¬(4:Int)=1 by decide)]
 rw [this];omega
theorem G4 {s:ByteArray} (h:(s==⟨#[]⟩)=true):s=⟨#[]⟩:=by
 rw [beq_toListBytes,ByteArray.toList_eq,ByteArray.toList_eq] at h
 have:=eq_of_beq h
 obtain ⟨⟨x⟩⟩:=s
 simp at this
 subst this;rfl
theorem right_runes {w:Int} {o:GOp} (h:Right w o):((J2 o.text).length:Int)=Jx o:=by
 rcases h.kind with hk | hk | hk
 ·exact runes_width h hk
 all_goals
  have hh:=(h.head h.w0).2.2
  have ht:o.text=⟨#[]⟩:=by
   unfold extraF at hh
   have h1:o.kind≠1:=by omega
   apply G4
   cases hq:(o.text==⟨#[]⟩) with
   | true=>rfl
   | false=>exfalso;apply hh;simp [h1,hq]
  have hw:Jx o=0:=by unfold Jx;rw [if_neg (by omega)]
  rw [ht,hw]
  have:J2 ⟨#[]⟩= [] :=by unfold J2;rw [runesAt_end (by decide)]
  rw [this];rfl
def cellsN (ts:List ByteArray):Nat:=(ts.map fun s=>(J2 s).length).sum
theorem cells_before {H:Hist} (h:HV H) (i:Nat):(cellsN ((textsOf H.ents).take i):Int)=KQ H i:=by
 have key: ∀(l:List GOp) (w:Int),CtxOk w l→((cellsN (l.map (·.text)):Nat):Int)=sumO l:=by
  intro l
  induction l with
  | nil=>intro w _;rfl
  | cons o l ih=>
   intro w hc
   have h1:=ih _ hc.2
   have h2:=right_runes hc.1
   simp only [cellsN,List.map_cons,List.sum_cons,sumO] at h1 ⊢
   omega
 have e:(textsOf H.ents).take i=(H.ops.take i).map (·.text):=by unfold textsOf Hist.ops;rw [←List.map_take,←List.map_take,List.map_map];rfl
 rw [e,key _ 0 (h.split i).1,before_ops]
def Kj (rs:List Rg):List Int:=rs.flatMap fun r=>(List.range (r.hi-r.lo).toNat).map fun (j:Nat)=>r.lo+j
theorem Qa (r:Rg) (rs:List Rg):Kj (r::rs)=((List.range (r.hi-r.lo).toNat).map fun (j:Nat)=>r.lo+j)++Kj rs:=by simp [Kj]
theorem mem_run {lo hi q:Int} :q∈((List.range (hi-lo).toNat).map fun (j:Nat)=>lo+j)↔lo≤q∧q<hi:=by
 simp only [List.mem_map,List.mem_range]
 constructor
 ·rintro ⟨j,hj,rfl⟩;omega
 ·intro h;exact ⟨(q-lo).toNat,by omega,by omega⟩
theorem mem_places {q:Int} : ∀ {rs:List Rg},q∈Kj rs↔memR q rs
 | [] =>by simp [Kj,memR]
 | r::rs=>by rw [Qa,List.mem_append,mem_run,mem_places,KE]
theorem He (lo:Int) (n:Nat):((List.range n).map fun (j:Nat)=>lo+j).Pairwise (· < ·):=by
 rw [List.pairwise_map]
 exact List.pairwise_lt_range.imp fun h=>by omega
theorem Yr: ∀ {b:Int} {rs:List Rg},NormB b rs→(Kj rs).Pairwise (· < ·)
 | _,[],_=>List.Pairwise.nil
 | b,r::rs,h=>by
  rw [Qa,List.pairwise_append]
  refine ⟨He _ _,Yr h.2.2,fun x hx y hy=> ?_⟩
  have h1:=mem_run.1 hx
  have h2:=h.2.2.below (mem_places.1 hy)
  omega
theorem QO: ∀ {a b:List Int},a.Pairwise (· < ·)→b.Pairwise (· < ·)→(∀q,q∈a↔q∈b)→a=b
 | [],[],_,_,_=>rfl
 | [],y::b,_,_,h=>by have:=(h y).2 List.mem_cons_self;cases this
 | x::a,[],_,_,h=>by have:=(h x).1 List.mem_cons_self;cases this
 | x::a,y::b,h1,h2,h=>by
  rw [List.pairwise_cons] at h1 h2
  have e:x=y:=by
   rcases List.mem_cons.1 ((h x).1 List.mem_cons_self) with e | e
   ·exact e
   ·rcases List.mem_cons.1 ((h y).2 List.mem_cons_self) with e' | e'
    ·exact e'.symm
    ·have:=h1.1 _ e';have:=h2.1 _ e;omega
  subst e
  rw [QO h1.2 h2.2 fun q=> ?_]
  constructor
  ·intro hq
   rcases List.mem_cons.1 ((h q).1 (List.mem_cons_of_mem _ hq)) with e | e
   ·have:=h1.1 _ hq;omega
   ·exact e
  ·intro hq
   rcases List.mem_cons.1 ((h q).2 (List.mem_cons_of_mem _ hq)) with e | e
   ·have:=h2.1 _ hq;omega
   ·exact e
def shQ (at_ n q:Int):Int:=if q<at_ then q else q+n
theorem QZ {T at_ n:Int} {xs:List Rg} (h:Pls T xs) (hT:0≤T) (ha:0≤at_∧at_≤T) (hn:0≤n) (hs:T+n≤65535):Kj (thrF xs at_ n).1=(Kj xs).map (shQ at_ n):=by
 obtain ⟨t1,t2,t3,t4⟩:=VU h hT ha hn hs
 refine QO (Yr t2.norm) ?_ fun q=> ?_
 ·rw [List.pairwise_map]
  exact (Yr h.norm).imp fun {x y} hxy=>by unfold shQ;split<;>split<;>omega
 ·rw [mem_places,t3,List.mem_map]
  constructor
  ·rintro (⟨h1,h2⟩ | ⟨h1,h2⟩)
   ·exact ⟨q,mem_places.2 h2,by unfold shQ;rw [if_pos h1]⟩
   ·exact ⟨q-n,mem_places.2 h2,by unfold shQ;rw [if_neg (by omega)];omega⟩
  ·rintro ⟨p,hp,rfl⟩
   have hp:=mem_places.1 hp
   unfold shQ
   split
   ·exact .inl ⟨by assumption,hp⟩
   ·exact .inr ⟨by omega,by rw [Int.add_sub_cancel];exact hp⟩
abbrev Sig:=Int×ByteArray×List Rg
def sigE (e:Ent):Sig:=(e.op.kind,e.op.text,e.now)
def sigs (es:List Ent):List Sig:=es.map sigE
theorem sigs_zipE: ∀(xs:List GOp) (es:List Ent),Sames (es.map (·.op)) xs→sigs (zipE xs es)=sigs es
 | [],[],_=>rfl
 | x::xs,e::es,h=>by
  cases h with
  | cons h hr=>show sigE ⟨x,e.now,e.off⟩::sigs (zipE xs es)=_;rw [sigs_zipE xs es hr];unfold sigs sigE;simp only [List.map_cons,h.kind,h.text]
 | [],e::es,h=>by cases h
 | x::xs,[],h=>by cases h
theorem sigs_new {i:Nat} {o:GOp} {nw:List Rg} {es:List Ent} {later:List GOp} (h:Sames ((es.drop i).map (·.op)) later):sigs (newEnts i o nw es later)=insAt (sigs es) i (o.kind,o.text,nw):=by
 unfold newEnts insAt
 have:=sigs_zipE _ _ h
 unfold sigs at *
 rw [List.map_append,List.map_cons,this,List.map_take,List.map_drop];rfl
theorem sigs_turned (H:Hist) (i:Nat) (o:GOp):sigs (turnedF H i o).1=sigs H.ents:=by
 rcases turned_cases H i o with e | ⟨k,e,h1,h2,h3,h4,h5⟩
 ·rw [e]
 ·rw [h5]
  show sigs (H.ents.set k (offE e (!o.on)))=_
  have hk:k<H.ents.length:=by
   rcases Nat.lt_or_ge k H.ents.length with h | h
   ·exact h
   ·rw [List.getElem?_eq_none h] at h2;cases h2
  rw [List.getElem?_eq_getElem hk] at h2
  have e1:sigE (offE e (!o.on))=(sigs H.ents)[k]'(by unfold sigs;rw [List.length_map];exact hk):=by
   unfold sigs;rw [List.getElem_map,Option.some.inj h2];rfl
  unfold sigs
  rw [List.map_set]
  unfold sigs at e1
  rw [e1,List.set_getElem_self]
theorem GZ {α:Type} {l:List α} {i:Nat} {x y:α} :y∈insAt l i x↔y=x∨y∈l:=by
 unfold insAt
 conv=>rhs;rw [←List.take_append_drop i l]
 rw [List.mem_append,List.mem_cons,List.mem_append]
 constructor
 ·rintro (h | h | h)
  ·exact .inr (.inl h)
  ·exact .inl h
  ·exact .inr (.inr h)
 ·rintro (h | h | h)
  ·exact .inr (.inl h)
  ·exact .inl h
  ·exact .inr (.inr h)
theorem insAt_countP {α:Type} (f:α→Bool) (l:List α) (i:Nat) (x:α):(insAt l i x).countP f=l.countP f+(if f x=true then 1 else 0):=by
 unfold insAt
 conv=>rhs;rw [←List.take_append_drop i l,List.countP_append]
 rw [List.countP_append,List.countP_cons];omega
def mkOf (q:Int) (s:Sig):Bool:=decide (s.1=1) && inRb q s.2.2
structure Mk (S:List Sig) (T:Int) (X:List Ce):Prop where
 text: ∀s∈S,s.1=1→(Kj s.2.2).map (fun q=>(X[q.toNat]?).map (·.1))=(J2 s.2.1).map some
 one: ∀q,0≤q→q<T→S.countP (mkOf q)=1
theorem Mk.same {S:List Sig} {T:Int} {X X':List Ce} (h:Mk S T X) (hx: ∀q:Nat,(X'[q]?).map (·.1)=(X[q]?).map (·.1)) {i:Nat} {s:Sig} (hs:s.1≠1):Mk (insAt S i s) T X':=by
 refine ⟨fun t ht hk=> ?_,fun q h0 h1=> ?_⟩
 ·rcases GZ.1 ht with rfl | ht
  ·exact absurd hk hs
  ·rw [←h.text t ht hk]
   exact List.map_congr_left fun q _=>hx q.toNat
 ·rw [insAt_countP,h.one q h0 h1]
  have:mkOf q s=false:=by unfold mkOf;simp [hs]
  rw [this];simp
theorem countP_map_shift {T at_ n:Int} (q:Int) (ha:0≤at_∧at_≤T) (hn:0≤n) (hs:T+n≤65535): ∀(S:List Sig),(∀s∈S,Pls T s.2.2)→(S.map fun s=>(s.1,s.2.1,(thrF s.2.2 at_ n).1)).countP (mkOf q)=if q<at_ then S.countP (mkOf q) else if q<at_+n then 0 else S.countP (mkOf (q-n))
 | [],_=>by simp
 | s::S,h=>by
  have ih:=countP_map_shift q ha hn hs S fun x hx=>h x (List.mem_cons_of_mem _ hx)
  obtain ⟨t1,t2,t3,t4⟩:=VU (h s List.mem_cons_self) (by omega) ha hn hs
  have e2:inRb q (thrF s.2.2 at_ n).1=if q<at_ then inRb q s.2.2 else if q<at_+n then false else inRb (q-n) s.2.2:=by
   rw [Bool.eq_iff_iff]
   rw [K4,t3 q]
   by_cases c1:q<at_
   ·rw [if_pos c1,K4]
    constructor
    ·rintro (h | h)
     ·exact h.2
     ·omega
    ·intro h;exact .inl ⟨c1,h⟩
   ·rw [if_neg c1]
    by_cases c2:q<at_+n
    ·rw [if_pos c2]
     constructor
     ·rintro (h | h)<;>omega
     ·intro h;cases h
    ·rw [if_neg c2,K4]
     constructor
     ·rintro (h | h)
      ·omega
      ·exact h.2
     ·intro h;exact .inr ⟨by omega,h⟩
  rw [List.map_cons,List.countP_cons,ih]
  have e3:mkOf q (s.1,s.2.1,(thrF s.2.2 at_ n).1)=(decide (s.1=1) && inRb q (thrF s.2.2 at_ n).1):=rfl
  rw [e3,e2]
  by_cases c1:q<at_
  ·simp only [if_pos c1];rw [List.countP_cons];rfl
  ·by_cases c2:q<at_+n
   ·simp only [if_neg c1,if_pos c2];simp
   ·simp only [if_neg c1,if_neg c2];rw [List.countP_cons];rfl
theorem put_mk {H:Hist} (h:HV H) {i:Nat} {o:GOp} {es:List Ent} {nw:List Rg} {eff:GOp} (g:Good H i o) (p:PutIs H i o es nw eff) {X:List Ce} (hr:Rule H X) (hm:Mk (sigs H.ents) H.total X):Mk (sigs (newEnts i o nw es (JS o (H.ops.drop i)).2)) (H.total+Jx o) (JT eff X):=by
 obtain ⟨c1,c2,c3,c4,c5⟩:=cross_good h g
 have h0:=h.total0
 have hs:=p.sames h g
 have hroom:=g.room
 have hwid:=g.right.width
 have hlen:=hr.len
 rw [sigs_new hs]
 have hpl: ∀s∈sigs H.ents,Pls H.total s.2.2:=fun s hs=>by obtain ⟨e,he,rfl⟩:=List.mem_map.1 hs;exact h.pls e he
 rcases g.right.kind with hk | hk | hk
 ·obtain ⟨e1,e2,e3⟩:=p.ins hk
  have hti:=c2.ins (c4.kind.trans hk)
  have hw2:Jx (JS o (H.ops.drop i)).1=Jx o:=c4.width
  have hwk:=(hwid.2.2.1 hk).2
  have hrun:=runes_width g.right hk
  generalize hta:(JS o (H.ops.drop i)).1.at_=ta at *
  have hek:eff.kind=1:=by rw [e3];exact hk
  have hes:sigs es=(sigs H.ents).map fun s=>(s.1,s.2.1,(thrF s.2.2 ta (Jx o)).1):=by rw [e1];unfold sigs;rw [List.map_map,List.map_map];rfl
  have happ:JT eff X=X.take ta.toNat ++(cellsOf (J2 o.text) 0++X.drop ta.toNat):=by unfold JT;rw [if_pos hek,e3]
  have el1:(X.take ta.toNat).length=ta.toNat:=by rw [List.length_take];omega
  have hlo: ∀q:Nat,q<ta.toNat→(JT eff X)[q]? =X[q]? :=fun q hq=>by rw [happ,List.getElem?_append_left (by omega),List.getElem?_take,if_pos hq]
  have hhi: ∀q:Nat,ta.toNat +(Jx o).toNat≤q→(JT eff X)[q]? =X[q-(Jx o).toNat]? :=fun q hq=>by
   rw [happ,List.getElem?_append_right (by omega),List.getElem?_append_right (by rw [Jr];omega),Jr,List.getElem?_drop]
   congr 1;omega
  have hmid: ∀j:Nat,j<(J2 o.text).length→((JT eff X)[ta.toNat +j]?).map (·.1)=(J2 o.text)[j]? :=fun j hj=>by
   rw [happ,List.getElem?_append_right (by omega),List.getElem?_append_left (by rw [Jr];omega),el1,Nat.add_sub_cancel_left]
   unfold cellsOf;rw [List.getElem?_map,Option.map_map,show ((fun c:Ce=>c.1) ∘ fun c:Int=>((c,0):Ce))=id from rfl,Option.map_id];rfl
  rw [hes,e2]
  refine ⟨fun s hs2 hk2=> ?_,fun q hq0 hq1=> ?_⟩
  ·rcases GZ.1 hs2 with rfl | hs2
   ·show (Kj [⟨ta,ta+Jx o⟩]).map _=(J2 o.text).map some
    rw [Qa,show Kj [] = [] from rfl,List.append_nil,List.map_map]
    dsimp only
    rw [show (ta+Jx o-ta).toNat=(J2 o.text).length from by omega]
    apply List.ext_getElem?
    intro j
    rw [List.getElem?_map,List.getElem?_map]
    by_cases hj:j<(J2 o.text).length
    ·rw [List.getElem?_range (by omega)]
     simp only [Option.map_some,Function.comp]
     rw [show (ta+(j:Int)).toNat=ta.toNat +j from by omega,hmid j hj,List.getElem?_eq_getElem hj];rfl
    ·rw [List.getElem?_eq_none (by rw [List.length_range];omega),List.getElem?_eq_none (by omega)];rfl
   ·obtain ⟨t,ht,rfl⟩:=List.mem_map.1 hs2
    show (Kj (thrF t.2.2 ta (Jx o)).1).map _=_
    rw [QZ (hpl t ht) h0 ⟨hti.1,hti.2.1⟩ hwid.1 (by omega),List.map_map,←hm.text t ht hk2]
    refine List.map_congr_left fun q hq=> ?_
    have hqp:=(hpl t ht).in (mem_places.1 hq)
    simp only [Function.comp]
    unfold shQ
    split
    ·rw [hlo _ (by omega)]
    ·rw [hhi _ (by omega)]
     congr 2;omega
  ·rw [insAt_countP,countP_map_shift (T:=H.total) q ⟨hti.1,hti.2.1⟩ hwid.1 (by omega) _ hpl]
   have e4:mkOf q (o.kind,o.text,[⟨ta,ta+Jx o⟩])=(decide (ta≤q) && decide (q<ta+Jx o)):=by unfold mkOf inRb;simp [hk]
   rw [e4]
   by_cases d1:q<ta
   ·rw [if_pos d1,hm.one q hq0 (by omega)]
    rw [show decide (ta≤q)=false from by simp;omega];rfl
   ·rw [if_neg d1]
    by_cases d2:q<ta+Jx o
    ·rw [if_pos d2,show decide (ta≤q)=true from by simp;omega,show decide (q<ta+Jx o)=true from by simp;omega];rfl
    ·rw [if_neg d2,hm.one (q-Jx o) (by omega) (by omega),show decide (q<ta+Jx o)=false from by simp;omega,Bool.and_false];rfl
 ·obtain ⟨e1,e2,e3⟩:=p.hide hk
  obtain ⟨t1,t2⟩:=c2.cov (c4.kind.trans hk) (by omega)
  rw [e1,hwid.2.2.2 (by omega),Int.add_zero]
  refine hm.same (fun q=> ?_) (by show o.kind≠1;omega)
  have hek:eff.kind=2:=by rw [e3];exact hk
  have hers:eff.rs=(JS o (H.ops.drop i)).1.rs:=by rw [e3]
  unfold JT
  rw [if_neg (by omega),if_pos hek,hers,(KS (k:=1) _ 0 X (Int.le_refl _) t2.norm (by rw [hlen];exact t2.below)).2 q,Option.map_map]
  congr 1;funext c;simp only [Function.comp];split<;>rfl
 ·obtain ⟨e1,e2,e3⟩:=p.status hk
  have hsg:sigs es=sigs H.ents:=by rw [e1];exact sigs_turned H i o
  rw [hsg,hwid.2.2.2 (by omega),Int.add_zero]
  refine hm.same (fun q=> ?_) (by show o.kind≠1;omega)
  rcases turned_cases H i o with e | ⟨k,e,g1,g2,g3,g4,g5⟩
  ·rw [e3,e];rfl
  ·have hpe:=h.pls e (List.mem_of_getElem? g2)
   have hers:eff.rs=e.now:=by rw [e3,g5];rfl
   have hek:eff.kind=2∨eff.kind=3:=by rw [e3,g5];unfold turnF;simp only;split<;>simp
   have key: ∀k,((Kn e.now k X)[q]?).map (·.1)=(X[q]?).map (·.1):=fun k=>by
    rw [(KS (k:=k) _ 0 X (Int.le_refl _) hpe.norm (by rw [hlen];exact hpe.below)).2 q,Option.map_map]
    congr 1;funext c;simp only [Function.comp];split<;>rfl
   unfold JT
   rcases hek with hek | hek
   ·rw [if_neg (by omega),if_pos hek,hers];exact key 1
   ·rw [if_neg (by omega),if_neg (by omega),if_pos hek,hers];exact key (-1)
theorem Made.mk {n:Nat} {H:Hist} {X:List Ce} (h:Made n H X):n≤1000→Mk (sigs H.ents) H.total X:=by
 induction h with
 | zero=>exact fun _=>⟨fun s hs=>(by cases hs),fun q h0 h1=>by simp at h1;omega⟩
 | step h g ih=>
  intro hn
  obtain ⟨h1,h2,h3⟩:=h.inv (by omega)
  obtain ⟨es,nw,eff,p⟩:=put_good h1 g
  have:=put_mk h1 g p h2 (ih (by omega))
  rw [p.put];exact this
abbrev Nm:=Int×Int×Nat
def blk (o:GOp):List Nm:=(List.range (Jx o).toNat).map fun k=>(o.c,o.n,k)
def insRow (o:GOp) (N:List Nm):List Nm:=N.take o.at_.toNat ++(blk o++N.drop o.at_.toNat)
def namesOf (o:GOp) (N:List Nm):List (Option Nm):=if o.kind=1 then (blk o).map some else (Kj o.rs).map fun q=>N[q.toNat]?
theorem VK (o:GOp):(blk o).length=(Jx o).toNat:=by unfold blk;simp
theorem Jbi {o:GOp} (h:Jx o=0):blk o= [] :=by unfold blk;rw [h];rfl
theorem YB {o:GOp} (h:Jx o=0) (N:List Nm):insRow o N=N:=by unfold insRow;rw [Jbi h,List.nil_append,List.take_append_drop]
theorem Hn (o:GOp) (N:List Nm) (h:0≤o.at_∧o.at_≤N.length):(insRow o N).length=N.length+(Jx o).toNat:=by
 unfold insRow;simp only [List.length_append,List.length_take,List.length_drop,VK];omega
theorem Gr {o:GOp} {N:List Nm} (h:0≤o.at_∧o.at_≤N.length) (hw:0≤Jx o) (q:Int) (hq:0≤q):(insRow o N)[(shQ o.at_ (Jx o) q).toNat]? =N[q.toNat]? :=by
 have e1:(N.take o.at_.toNat).length=o.at_.toNat:=by rw [List.length_take];omega
 unfold insRow shQ
 split
 ·rw [List.getElem?_append_left (by omega),List.getElem?_take,if_pos (by omega)]
 ·rw [List.getElem?_append_right (by omega),List.getElem?_append_right (by rw [VK];omega),List.getElem?_drop]
  congr 1
  rw [VK];omega
theorem ins_comm {α:Type} (N A B:List α) (a b:Nat) (h1:a≤b) (h2:b≤N.length):
  (N.take a++(A++N.drop a)).take (b+A.length)++(B++(N.take a++(A++N.drop a)).drop (b+A.length))=(N.take b++(B++N.drop b)).take a++(A++(N.take b++(B++N.drop b)).drop a):=by
 have e1:(N.take a).length=a:=by rw [List.length_take];omega
 have e2:(N.take b).length=b:=by rw [List.length_take];omega
 have l1:(N.take a++(A++N.drop a)).take (b+A.length)=N.take a++(A++(N.drop a).take (b-a)):=by
  rw [show b+A.length=(N.take a).length+(A.length+(b-a)) from by omega,List.take_length_add_append,List.take_length_add_append]
 have l2:(N.take a++(A++N.drop a)).drop (b+A.length)=N.drop b:=by
  rw [show b+A.length=(N.take a).length+(A.length+(b-a)) from by omega,List.drop_length_add_append,List.drop_length_add_append,List.drop_drop]
  congr 1;omega
 have l3:(N.take b++(B++N.drop b)).take a=N.take a:=by
  rw [List.take_append_of_le_length (by omega),List.take_take];congr 1;omega
 have l4:(N.take b++(B++N.drop b)).drop a=(N.drop a).take (b-a)++(B++N.drop b):=by
  rw [List.drop_append_of_le_length (by omega),List.drop_take]
 rw [l1,l2,l3,l4];simp
theorem inc_names {w:Int} {N:List Nm} (hN:(N.length:Int)=w) {g h:GOp} (e:Bool) (hg:Right w g) (hh:Right w h) (hc: ¬clashF g h) (hw:w+Jx g+Jx h≤65535):namesOf (JK g h e).1 (insRow h N)=namesOf g N:=by
 have w0:=hg.w0
 have wg:=hg.width
 have wh:=hh.width
 unfold JK
 rw [if_neg hc]
 by_cases hk:h.kind=1
 ·rw [if_neg (by omega)]
  have hi:=hh.ins hk
  rcases hg.kind with gk | gk | gk
  ·rw [if_pos gk]
   have gi:=hg.ins gk
   split
   ·unfold movedF
    rw [if_neg (show ¬(g.at_+Jx h+Jx g>1048576) by omega)]
    unfold namesOf
    rw [if_pos gk,if_pos (show ({ g with at_:=g.at_+Jx h,rs:= [] } :GOp).kind=1 from gk)];rfl
   ·unfold namesOf;rw [if_pos gk,if_pos gk]
  ·rw [if_neg (by omega),if_pos (.inl gk)]
   obtain ⟨c1,c2⟩:=hg.cov gk (by omega)
   obtain ⟨t1,t2,t3,t4⟩:=VU c2 w0.1 ⟨hi.1,hi.2.1⟩ wh.1 (by omega)
   unfold rangedF
   rw [if_neg (by rw [t1];simp)]
   unfold namesOf
   rw [if_neg (show ¬g.kind=1 by omega),if_neg (show ¬({ g with rs:=(thrF g.rs h.at_ (Jx h)).1 } :GOp).kind=1 by show ¬g.kind=1;omega)]
   show (Kj (thrF g.rs h.at_ (Jx h)).1).map _=_
   rw [QZ c2 w0.1 ⟨hi.1,hi.2.1⟩ wh.1 (by omega),List.map_map]
   refine List.map_congr_left fun q hq=> ?_
   have hq2:=c2.in (mem_places.1 hq)
   exact Gr (by omega) wh.1 q hq2.1
  ·rw [if_neg (by omega),if_neg (by omega)]
   unfold namesOf
   have g1: ¬g.kind=1:=by omega
   simp only [g1,if_false,hg.noRs (show g.kind≠2 by omega)];rfl
 ·rw [if_pos hk,YB (wh.2.2.2 hk)]
theorem inc_ins {a b:GOp} (e:Bool) (hc: ¬clashF a b) (hb:b.kind=1) (ha:a.kind=1) (hw:a.at_+Jx b+Jx a≤1048576):JK a b e=(if b.at_<a.at_∨(b.at_=a.at_∧e=true) then ({ a with at_:=a.at_+Jx b,rs:= [] },0) else (a,0)):=by
 unfold JK
 rw [if_neg hc,if_neg (by omega),if_pos ha]
 split
 ·unfold movedF;rw [if_neg (by omega)]
 ·rfl
theorem inc_rows1 {w:Int} {N:List Nm} (hN:(N.length:Int)=w) {f l:GOp} (hf:Right w f) (hl:Right w l) (hc: ¬clashF f l) (hw:w+Jx f+Jx l≤65535) (hk:f.kind=1) (lk:l.kind=1):insRow (JK l f true).1 (insRow f N)=insRow (JK f l false).1 (insRow l N):=by
 have wf:=hf.width
 have wl:=hl.width
 have hc2: ¬clashF l f:=fun h=>hc (clash_comm.1 h)
 have fi:=hf.ins hk
 have li:=hl.ins lk
 rw [inc_ins true hc2 hk lk (by omega),inc_ins false hc lk hk (by omega)]
 by_cases hlt:f.at_≤l.at_
 ·rw [if_pos (show f.at_<l.at_∨(f.at_=l.at_∧true=true) from by rcases Int.lt_or_eq_of_le hlt with h | h;exact .inl h;exact .inr ⟨h,rfl⟩),if_neg (show ¬(l.at_<f.at_∨(l.at_=f.at_∧false=true)) from by rintro (h | ⟨_,h⟩);omega;cases h)]
  have:=ins_comm N (blk f) (blk l) f.at_.toNat l.at_.toNat (by omega) (by omega)
  rw [VK,←show (l.at_+Jx f).toNat=l.at_.toNat +(Jx f).toNat from by omega] at this
  exact this
 ·rw [if_neg (show ¬(f.at_<l.at_∨(f.at_=l.at_∧true=true)) from by rintro (h | ⟨h,_⟩)<;>omega),if_pos (show l.at_<f.at_∨(l.at_=f.at_∧false=true) from .inl (by omega))]
  have:=ins_comm N (blk l) (blk f) l.at_.toNat f.at_.toNat (by omega) (by omega)
  rw [VK,←show (f.at_+Jx l).toNat=f.at_.toNat +(Jx l).toNat from by omega] at this
  exact this.symm
theorem inc_width {a b:GOp} (e:Bool) (ha:a.kind≠1) (hb:(JK a b e).1.kind=a.kind):Jx (JK a b e).1=0:=by unfold Jx;rw [if_neg (by rw [hb];exact ha)]
theorem inc_off {a b:GOp} (e:Bool) (hc: ¬clashF a b) (hb:b.kind≠1):JK a b e=(a,0):=by unfold JK;rw [if_neg hc,if_pos hb]
theorem inc_rows {w:Int} {N:List Nm} (hN:(N.length:Int)=w) {f l:GOp} (hf:Right w f) (hl:Right w l) (hc: ¬clashF f l) (hw:w+Jx f+Jx l≤65535) (s1:(JK l f true).1.kind=l.kind) (s2:(JK f l false).1.kind=f.kind):insRow (JK l f true).1 (insRow f N)=insRow (JK f l false).1 (insRow l N):=by
 have wf:=hf.width
 have wl:=hl.width
 have hc2: ¬clashF l f:=fun h=>hc (clash_comm.1 h)
 by_cases hk:f.kind=1
 ·by_cases lk:l.kind=1
  ·exact inc_rows1 hN hf hl hc hw hk lk
  ·rw [inc_off false hc lk,YB (inc_width true lk s1),YB (wl.2.2.2 lk)]
 ·rw [inc_off true hc2 hk,YB (wf.2.2.2 hk),YB (inc_width false hk s2)]
def rowN:List Nm→List GOp→List Nm
 | N,[] =>N
 | N,o::l=>rowN (insRow o N) l
def allN:List Nm→List GOp→List (List (Option Nm))
 | _,[] => []
 | N,o::l=>namesOf o N::allN (insRow o N) l
theorem Vp: ∀(N:List Nm) (a b:List GOp),rowN N (a++b)=rowN (rowN N a) b
 | N,[],b=>rfl
 | N,o::a,b=>by simp only [List.cons_append,rowN];exact Vp _ a b
theorem Vz: ∀(N:List Nm) (a b:List GOp),allN N (a++b)=allN N a++allN (rowN N a) b
 | N,[],b=>rfl
 | N,o::a,b=>by simp only [List.cons_append,allN,rowN];rw [Vz _ a b]
theorem XF: ∀(N:List Nm) (a:List GOp),(allN N a).length=a.length
 | N,[] =>rfl
 | N,o::a=>by simp only [allN,List.length_cons,XF _ a]
theorem Right.rowLen {w:Int} {o:GOp} (h:Right w o) {N:List Nm} (hN:(N.length:Int)=w):((insRow o N).length:Int)=w+Jx o:=by
 have h1:=h.width
 by_cases hk:o.kind=1
 ·have h2:=h.ins hk
  rw [Hn o N (by omega)];omega
 ·rw [YB (h1.2.2.2 hk),h1.2.2.2 hk];omega
theorem V5: ∀ {w:Int} {N:List Nm} {l:List GOp},(N.length:Int)=w→CtxOk w l→((rowN N l).length:Int)=w+sumO l
 | w,N,[],h,_=>by simp only [rowN,sumO];omega
 | w,N,o::l,h,hc=>by
  simp only [rowN,sumO]
  rw [V5 (hc.1.rowLen h) hc.2];omega
theorem carry_names: ∀(ls:List GOp) (f:GOp) (w:Int) (N:List Nm),(N.length:Int)=w→Right w f→CtxOk w ls→(∀l∈ls,¬clashF f l)→w+sumO ls+Jx f≤65535→
  namesOf (JS f ls).1 (rowN N ls)=namesOf f N∧allN (insRow f N) (JS f ls).2=allN N ls∧rowN (insRow f N) (JS f ls).2=insRow (JS f ls).1 (rowN N ls)
 | [],f,w,N,hN,hf,_,_,_=>⟨rfl,rfl,rfl⟩
 | l::ls,f,w,N,hN,hf,hl,hc,hw=>by
  simp only [sumO] at hw
  have h1:=sumO_nonneg hl.2
  have hc1: ¬clashF f l:=hc l List.mem_cons_self
  have hc2: ¬clashF l f:=fun h=>hc1 (clash_comm.1 h)
  obtain ⟨a1,a2⟩:=Vc false hf hl.1 hc1 (by omega)
  obtain ⟨b1,b2⟩:=Vc true hl.1 hf hc2 (by omega)
  have s1:=include_same a1
  have s2:=include_same b1
  obtain ⟨c1,c2,c3⟩:=carry_names ls (JK f l false).1 (w+Jx l) (insRow l N) (hl.1.rowLen hN) a2 hl.2 (fun x hx h=>hc x (List.mem_cons_of_mem _ hx) ((clash_same s1 (Same.refl x)).1 h)) (by rw [s1.width];omega)
  have e1:=inc_rows hN hf hl.1 hc1 (by omega) s2.kind s1.kind
  have e2:=inc_names hN false hf hl.1 hc1 (by omega)
  have e3:=inc_names hN true hl.1 hf hc2 (by omega)
  refine ⟨?_,?_,?_⟩
  ·simp only [JS,rowN];rw [c1,e2]
  ·simp only [JS,allN];rw [e3,e1,c2]
  ·simp only [JS,rowN];rw [e1,c3]
theorem insRow_perm (o:GOp) (N:List Nm):(insRow o N).Perm (blk o++N):=by
 unfold insRow
 have h:=(List.perm_append_comm (l₁:=N.take o.at_.toNat) (l₂:=blk o)).append_right (N.drop o.at_.toNat)
 rw [List.append_assoc,List.append_assoc,List.take_append_drop] at h
 exact h
theorem HU {o:GOp} {x:Nm} (h:x∈blk o):x.1=o.c∧x.2.1=o.n:=by
 unfold blk at h
 obtain ⟨k,_,rfl⟩:=List.mem_map.1 h
 exact ⟨O,O⟩
theorem blk_nodup (o:GOp):(blk o).Nodup:=by
 unfold blk
 refine List.Pairwise.map _ ?_ List.nodup_range
 intro a b h e
 simp only [Prod.mk.injEq] at e
 exact h e.2.2
theorem rowN_nodup: ∀ {N:List Nm} {l:List GOp},N.Nodup→(l.map fun o=>(o.c,o.n)).Nodup→(∀x∈N,∀o∈l,¬(x.1=o.c∧x.2.1=o.n))→(rowN N l).Nodup
 | N,[],h,_,_=>h
 | N,o::l,h,h2,h3=>by
  simp only [List.map_cons,List.nodup_cons] at h2
  simp only [rowN]
  refine rowN_nodup ?_ h2.2 ?_
  ·rw [(insRow_perm o N).nodup_iff,List.nodup_append]
   refine ⟨blk_nodup o,h,fun a ha b hb e=> ?_⟩
   subst e
   exact h3 a hb o List.mem_cons_self (HU ha)
  ·intro x hx p hp hh
   rcases List.mem_append.1 ((insRow_perm o N).mem_iff.1 hx) with hx | hx
   ·have:=HU hx
    exact h2.1 (List.mem_map.2 ⟨p,hp,by rw [←hh.1,←hh.2,this.1,this.2]⟩)
   ·exact h3 x hx p (List.mem_cons_of_mem _ hp) hh
def TgtOk:List GOp→List GOp→Prop
 | _,[] =>True
 | P,o::l=>(o.kind=4→ ∃p∈P,p.c=o.tc∧p.n=o.tn∧p.kind≠4)∧TgtOk (P++ [o]) l
theorem TgtOk.append: ∀ {P a b:List GOp},TgtOk P (a++b)↔TgtOk P a∧TgtOk (P++a) b
 | P,[],b=>by simp [TgtOk]
 | P,o::a,b=>by
  simp only [List.cons_append,TgtOk,TgtOk.append (a:=a),and_assoc]
  rw [List.append_assoc];rfl
theorem TgtOk.mono: ∀ {P P' l l':List GOp},Sames l l'→(∀p∈P,∃q∈P',q.c=p.c∧q.n=p.n∧q.kind=p.kind)→TgtOk P l→TgtOk P' l'
 | P,P',_,_, .nil,_,_=>trivial
 | P,P',_,_, .cons (a:=a) (b:=b) h hs,hp,ht=>by
  refine ⟨fun hk=> ?_,TgtOk.mono hs (fun p hp'=> ?_) ht.2⟩
  ·obtain ⟨p,h1,h2,h3,h4⟩:=ht.1 (by rw [←h.kind];exact hk)
   obtain ⟨q,g1,g2,g3,g4⟩:=hp p h1
   exact ⟨q,g1,by rw [g2,h2,h.tc],by rw [g3,h3,h.tn],by rw [g4];exact h4⟩
  ·rcases List.mem_append.1 hp' with hp' | hp'
   ·obtain ⟨q,g1,g2⟩:=hp p hp'
    exact ⟨q,List.mem_append_left _ g1,g2⟩
   ·simp only [List.mem_singleton] at hp';subst hp'
    exact ⟨b,List.mem_append_right _ (List.mem_singleton.2 O),h.c,h.n,h.kind⟩
theorem TgtOk.mem: ∀ {P l:List GOp},TgtOk P l→ ∀o∈l,o.kind=4→ ∃p∈P++l,p.c=o.tc∧p.n=o.tn
 | P,[],_,o,h,_=>by cases h
 | P,x::l,ht,o,h,hk=>by
  rcases List.mem_cons.1 h with rfl | h
  ·obtain ⟨p,h1,h2,h3,_⟩:=ht.1 hk
   exact ⟨p,List.mem_append_left _ h1,h2,h3⟩
  ·obtain ⟨p,h1,h2⟩:=ht.2.mem o h hk
   exact ⟨p,by rw [List.append_assoc] at h1;exact h1,h2⟩
def lastOff (c n:Int):Bool→List GOp→Bool
 | b,[] =>b
 | b,o::l=>lastOff c n (if o.kind=4∧o.tc=c∧o.tn=n then !o.on else b) l
theorem Qr (c n:Int): ∀(b:Bool) (l m:List GOp),lastOff c n b (l++m)=lastOff c n (lastOff c n b l) m
 | b,[],m=>rfl
 | b,o::l,m=>by simp only [List.cons_append,lastOff];exact Qr c n _ l m
theorem lastOff_same {c n:Int} {b:Bool} {l l':List GOp} (h:Sames l l'):lastOff c n b l'=lastOff c n b l:=by
 induction h generalizing b with
 | nil=>rfl
 | cons h _ ih=>simp only [lastOff];rw [h.kind,h.tc,h.tn,h.on];exact ih
theorem Vb {c n:Int} {b:Bool} : ∀ {l:List GOp},(∀o∈l,o.kind=4→ ¬(o.tc=c∧o.tn=n))→lastOff c n b l=b
 | [],_=>rfl
 | o::l,h=>by
  simp only [lastOff]
  rw [if_neg (fun hh=>h o List.mem_cons_self hh.1 hh.2)]
  exact Vb fun p hp=>h p (List.mem_cons_of_mem _ hp)
theorem lastOff_any {c n:Int} : ∀ {l:List GOp},(∃o∈l,o.kind=4∧o.tc=c∧o.tn=n)→ ∀b b':Bool,lastOff c n b l=lastOff c n b' l
 | [],h,_,_=>by obtain ⟨o,h,_⟩:=h;cases h
 | x::l,h,b,b'=>by
  simp only [lastOff]
  by_cases hx:x.kind=4∧x.tc=c∧x.tn=n
  ·rw [if_pos hx,if_pos hx]
  ·rw [if_neg hx,if_neg hx]
   obtain ⟨o,h1,h2⟩:=h
   rcases List.mem_cons.1 h1 with rfl | h1
   ·exact absurd h2 hx
   ·exact lastOff_any ⟨o,h1,h2⟩ b b'
theorem GY {l:List Ent} {c n:Int} :Yg l c n=true↔ ∃o∈l.map (·.op),o.kind=4∧o.tc=c∧o.tn=n:=by
 unfold Yg
 rw [List.any_eq_true]
 simp only [Bool.and_eq_true,decide_eq_true_eq,List.mem_map]
 constructor
 ·rintro ⟨e,h1,h2⟩;exact ⟨e.op,⟨e,h1,rfl⟩,h2⟩
 ·rintro ⟨o,⟨e,h1,rfl⟩,h2⟩;exact ⟨e,h1,h2⟩
def nmE (N:List Nm) (e:Ent):List (Option Nm):=(Kj e.now).map fun q=>N[q.toNat]?
structure CI (H:Hist):Prop where
 now:H.ents.map (nmE (rowN [] H.ops))=allN [] H.ops
 tgt:TgtOk [] H.ops
 off: ∀e∈H.ents,e.off=lastOff e.op.c e.op.n false H.ops
theorem nm_zipE (N:List Nm): ∀(xs:List GOp) (es:List Ent),Sames (es.map (·.op)) xs→(zipE xs es).map (nmE N)=es.map (nmE N)
 | [],[],_=>rfl
 | x::xs,e::es,h=>by
  cases h with
  | cons h hr=>simp only [zipE,List.map_cons];rw [nm_zipE N xs es hr];rfl
 | [],e::es,h=>by cases h
 | x::xs,[],h=>by cases h
theorem put_ops {H:Hist} (h:HV H) {i:Nat} {o:GOp} {es:List Ent} {nw:List Rg} {eff:GOp} (g:Good H i o) (p:PutIs H i o es nw eff):(⟨newEnts i o nw es (JS o (H.ops.drop i)).2,H.total+Jx o⟩:Hist).ops=H.ops.take i++([o] ++(JS o (H.ops.drop i)).2):=by
 show (newEnts i o nw es (JS o (H.ops.drop i)).2).map (·.op)=_
 rw [newEnts_ops (p.sames h g),p.es_ops g]
theorem put_now {H:Hist} (h:HV H) {i:Nat} {o:GOp} {es:List Ent} {nw:List Rg} {eff:GOp} (g:Good H i o) (p:PutIs H i o es nw eff) (I:CI H):
  (newEnts i o nw es (JS o (H.ops.drop i)).2).map (nmE (rowN [] (H.ops.take i++([o] ++(JS o (H.ops.drop i)).2))))=allN [] (H.ops.take i++([o] ++(JS o (H.ops.drop i)).2)):=by
 obtain ⟨c1,c2,c3,c4,c5⟩:=cross_good h g
 obtain ⟨s1,s2,s3,s4⟩:=h.split i
 have hroom:=g.room
 have hwid:=g.right.width
 have h0:=h.total0
 have hA:((rowN [] (H.ops.take i)).length:Int)=KQ H i:=by rw [V5 (w:=0) rfl s1,before_ops];omega
 obtain ⟨k1,k2,k3⟩:=carry_names (H.ops.drop i) o (KQ H i) (rowN [] (H.ops.take i)) hA g.right s2 (fun l hl=>g.noclash l (List.mem_of_mem_drop hl)) (by omega)
 have eN:rowN (rowN [] (H.ops.take i)) (H.ops.drop i)=rowN [] H.ops:=by rw [←Vp,List.take_append_drop]
 have eN':rowN [] (H.ops.take i++([o] ++(JS o (H.ops.drop i)).2))=insRow (JS o (H.ops.drop i)).1 (rowN [] H.ops):=by
  rw [Vp];show rowN (insRow o (rowN [] (H.ops.take i))) (JS o (H.ops.drop i)).2=_
  rw [k3,eN]
 have hNl:((rowN [] H.ops).length:Int)=H.total:=by rw [V5 (w:=0) rfl h.ctx,h.tot];omega
 rw [eN] at k1
 rw [eN',Vz]
 show _=allN [] (H.ops.take i)++(namesOf o (rowN [] (H.ops.take i))::allN (insRow o (rowN [] (H.ops.take i))) (JS o (H.ops.drop i)).2)
 rw [k2]
 have hal:allN [] (H.ops.take i)++allN (rowN [] (H.ops.take i)) (H.ops.drop i)=allN [] H.ops:=by rw [←Vz,List.take_append_drop]
 have hil:i≤H.ops.length:=by unfold Hist.ops;rw [List.length_map];exact g.le
 have hlen:(allN [] (H.ops.take i)).length=i:=by rw [XF,List.length_take];omega
 have e1:allN [] (H.ops.take i)=(allN [] H.ops).take i:=by rw [←hal,List.take_left' hlen]
 have e2:allN (rowN [] (H.ops.take i)) (H.ops.drop i)=(allN [] H.ops).drop i:=by rw [←hal,List.drop_left' hlen]
 rw [e1,e2,←I.now]
 have wf:Jx (JS o (H.ops.drop i)).1=Jx o:=c4.width
 have hes:es.map (nmE (insRow (JS o (H.ops.drop i)).1 (rowN [] H.ops)))=H.ents.map (nmE (rowN [] H.ops))∧nmE (insRow (JS o (H.ops.drop i)).1 (rowN [] H.ops)) ⟨o,nw,false⟩=namesOf o (rowN [] (H.ops.take i)):=by
  rw [←k1]
  rcases g.right.kind with hk | hk | hk
  ·obtain ⟨q1,q2,q3⟩:=p.ins hk
   have hti:=c2.ins (c4.kind.trans hk)
   have hw1:=(hwid.2.2.1 hk).1
   constructor
   ·rw [q1,List.map_map]
    refine List.map_congr_left fun e he=> ?_
    have hpe:=h.pls e he
    show (Kj (thrF e.now (JS o (H.ops.drop i)).1.at_ (Jx o)).1).map _=_
    rw [QZ hpe h0 ⟨hti.1,hti.2.1⟩ hwid.1 (by omega),List.map_map]
    unfold nmE
    refine List.map_congr_left fun q hq=> ?_
    have hq2:=hpe.in (mem_places.1 hq)
    have:=Gr (o:=(JS o (H.ops.drop i)).1) (N:=rowN [] H.ops) (by omega) (by omega) q hq2.1
    rw [wf] at this
    exact this
   ·rw [q2]
    unfold nmE namesOf
    rw [if_pos (show (JS o (H.ops.drop i)).1.kind=1 from c4.kind.trans hk)]
    show (Kj [⟨(JS o (H.ops.drop i)).1.at_,(JS o (H.ops.drop i)).1.at_+Jx o⟩]).map _=_
    rw [Qa,show Kj [] = [] from rfl,List.append_nil,List.map_map]
    dsimp only
    have el:(List.take (JS o (H.ops.drop i)).1.at_.toNat (rowN [] H.ops)).length=(JS o (H.ops.drop i)).1.at_.toNat:=by rw [List.length_take];omega
    apply List.ext_getElem?
    intro j
    rw [List.getElem?_map,List.getElem?_map]
    have hbl:=VK (JS o (H.ops.drop i)).1
    by_cases hj:j<(Jx o).toNat
    ·rw [List.getElem?_range (by omega),List.getElem?_eq_getElem (l:=blk _) (by omega)]
     simp only [Option.map_some,Function.comp]
     congr 1
     unfold insRow
     rw [List.getElem?_append_right (by omega),List.getElem?_append_left (by omega),el,List.getElem?_eq_getElem (by omega)]
     congr 2;omega
    ·rw [List.getElem?_eq_none (by rw [List.length_range];omega),List.getElem?_eq_none (by omega)];rfl
  ·obtain ⟨q1,q2,q3⟩:=p.hide hk
   rw [YB (by rw [wf];exact hwid.2.2.2 (by omega)),q1,q2]
   refine ⟨O,?_⟩
   unfold nmE namesOf
   rw [if_neg (by rw [c4.kind];omega)]
  ·obtain ⟨q1,q2,q3⟩:=p.status hk
   rw [YB (by rw [wf];exact hwid.2.2.2 (by omega)),q1,q2]
   constructor
   ·rcases turned_cases H i o with e | ⟨k,e,g1,g2,g3,g4,g5⟩
    ·rw [e]
    ·rw [g5]
     show (H.ents.set k (offE e (!o.on))).map _=_
     have hkk:k<H.ents.length:=by
      rcases Nat.lt_or_ge k H.ents.length with h | h
      ·exact h
      ·rw [List.getElem?_eq_none h] at g2;cases g2
     rw [List.getElem?_eq_getElem hkk] at g2
     rw [List.map_set,show nmE (rowN [] H.ops) (offE e (!o.on))=(H.ents.map (nmE (rowN [] H.ops)))[k]'(by rw [List.length_map];exact hkk) from by rw [List.getElem_map,Option.some.inj g2];rfl,List.set_getElem_self]
   ·unfold nmE namesOf
    rw [if_neg (by rw [c4.kind];omega),c2.noRs (by rw [c4.kind];omega)]
 unfold newEnts
 rw [List.map_append,List.map_cons,nm_zipE _ _ _ (p.sames h g),List.map_take,List.map_drop,hes.1,hes.2]
theorem fresh_op {H:Hist} {c n:Int} (h:JX H.ents c n=none): ∀o∈H.ops,¬(o.c=c∧o.n=n):=fun o ho=>by
 obtain ⟨e,he,rfl⟩:=List.mem_map.1 ho
 exact K5 h e he
theorem good_tgt {H:Hist} {i:Nat} {o:GOp} (g:Good H i o) (hk:o.kind=4): ∃p∈H.ops.take i,p.c=o.tc∧p.n=o.tn∧p.kind≠4:=by
 obtain ⟨k,h1,h2,e,h3,h4⟩:=g.target hk
 obtain ⟨hk,h5,h6⟩:=KD h1
 have h7:H.ents[k] =e:=by rw [List.getElem?_eq_getElem hk] at h3;exact Option.some.inj h3
 subst h7
 refine ⟨H.ents[k].op,List.mem_of_getElem? (i:=k) ?_,h5,h6,h4⟩
 rw [List.getElem?_take,if_pos h2]
 unfold Hist.ops
 rw [List.getElem?_map,List.getElem?_eq_getElem hk];rfl
theorem put_tgt {H:Hist} (h:HV H) {i:Nat} {o:GOp} (g:Good H i o) (I:TgtOk [] H.ops):TgtOk [] (H.ops.take i++([o] ++(JS o (H.ops.drop i)).2)):=by
 obtain ⟨c1,c2,c3,c4,c5⟩:=cross_good h g
 rw [←List.take_append_drop i H.ops,TgtOk.append] at I
 rw [TgtOk.append]
 refine ⟨I.1,?_,?_⟩
 ·exact good_tgt g
 ·refine TgtOk.mono c5 (fun p hp=>⟨p,?_,O,O,O⟩) I.2
  exact List.mem_append_left _ hp
theorem put_off {H:Hist} (h:HV H) {i:Nat} {o:GOp} {es:List Ent} {nw:List Rg} {eff:GOp} (g:Good H i o) (p:PutIs H i o es nw eff) (I:CI H):
  ∀e∈newEnts i o nw es (JS o (H.ops.drop i)).2,e.off=lastOff e.op.c e.op.n false (H.ops.take i++([o] ++(JS o (H.ops.drop i)).2)):=by
 obtain ⟨c1,c2,c3,c4,c5⟩:=cross_good h g
 have hT:=put_tgt h g I.tgt
 have hs:=p.sames h g
 have hsp: ∀c n,lastOff c n false (H.ops.take i++([o] ++(JS o (H.ops.drop i)).2))=lastOff c n (if o.kind=4∧o.tc=c∧o.tn=n then !o.on else lastOff c n false (H.ops.take i)) (H.ops.drop i):=fun c n=>by
  rw [Qr]
  show lastOff c n _ (JS o (H.ops.drop i)).2=_
  rw [lastOff_same c5]
 have hold: ∀c n,lastOff c n (lastOff c n false (H.ops.take i)) (H.ops.drop i)=lastOff c n false H.ops:=fun c n=>by rw [←Qr,List.take_append_drop]
 have hes: ∀e∈es,e.off=lastOff e.op.c e.op.n false (H.ops.take i++([o] ++(JS o (H.ops.drop i)).2)):=by
  by_cases hk:o.kind=4
  ·obtain ⟨q1,q2,q3⟩:=p.status hk
   obtain ⟨k0,w1,w2,e0,w3,w4⟩:=g.target hk
   obtain ⟨hk0,w5,w6⟩:=KD w1
   have w7:H.ents[k0] =e0:=by rw [List.getElem?_eq_getElem hk0] at w3;exact Option.some.inj w3
   have key: ∀(j:Nat) (hj:j<H.ents.length),∀b:Bool,(j≠k0→b=H.ents[j].off)→(j=k0→b=(if Yg (H.ents.drop i) o.tc o.tn=true then H.ents[j].off else !o.on))→b=lastOff H.ents[j].op.c H.ents[j].op.n false (H.ops.take i++([o] ++(JS o (H.ops.drop i)).2)):=by
    intro j hj b h1 h2
    have hb:=I.off _ (List.getElem_mem hj)
    rw [hsp]
    by_cases hjk:j=k0
    ·subst hjk
     rw [w5,w6] at hb ⊢
     rw [if_pos ⟨hk,rfl,rfl⟩,h2 rfl]
     by_cases hl:Yg (H.ents.drop i) o.tc o.tn=true
     ·rw [if_pos hl,hb,←hold]
      obtain ⟨x,hx,hh⟩:=GY.1 hl
      exact lastOff_any ⟨x,by unfold Hist.ops;rw [←List.map_drop];exact hx,hh⟩ _ _
     ·rw [if_neg hl,Vb]
      intro x hx hx4 hxx
      refine hl (GY.2 ⟨x,?_,hx4,hxx⟩)
      unfold Hist.ops at hx;rw [←List.map_drop] at hx;exact hx
    ·rw [if_neg,h1 hjk,hb,hold]
     rintro ⟨_,x1,x2⟩
     have hn:=h.ids
     have:=List.getElem_inj (h₀:=by simpa using hj) (h₁:=by simpa using hk0) hn
     simp only [List.getElem_map,Prod.mk.injEq] at this
     exact hjk (this.1 ⟨by rw [w5,x1],by rw [w6,x2]⟩)
   have e1:(turnedF H i o).1=H.ents.set k0 (offE e0 (if Yg (H.ents.drop i) o.tc o.tn=true then e0.off else !o.on)):=by
    unfold turnedF
    by_cases hl:Yg (H.ents.drop i) o.tc o.tn=true
    ·rw [if_pos hl,if_pos hl]
     show H.ents=H.ents.set k0 e0
     rw [←w7,List.set_getElem_self]
    ·rw [if_neg hl,if_neg hl,w1]
     simp only [w3]
     by_cases hx:e0.off= !o.on
     ·rw [if_pos hx,←hx]
      show H.ents=H.ents.set k0 e0
      rw [←w7,List.set_getElem_self]
     ·rw [if_neg hx]
   rw [q1,e1]
   intro e he
   obtain ⟨j,hj,hje⟩:=List.mem_iff_getElem.1 he
   rw [List.length_set] at hj
   rw [List.getElem_set] at hje
   split at hje
   ·rename_i hjk
    subst hjk hje
    have:=key k0 hj (if Yg (H.ents.drop i) o.tc o.tn=true then e0.off else !o.on) (fun hn=>absurd rfl hn) (fun _=>by rw [w7])
    rw [w7] at this
    exact this
   ·rename_i hjk
    rw [←hje]
    exact key j hj _ (fun _=>O) (fun hn=>absurd hn.symm hjk)
  ·intro e he
   have hx: ∃x∈H.ents,e.op=x.op∧e.off=x.off:=by
    rcases g.right.kind with h1 | h1 | h1
    ·rw [(p.ins h1).1] at he
     obtain ⟨x,hx,rfl⟩:=List.mem_map.1 he
     exact ⟨x,hx,O,O⟩
    ·rw [(p.hide h1).1] at he;exact ⟨e,he,rfl,rfl⟩
    ·exact absurd h1 hk
   obtain ⟨x,hx,h1,h2⟩:=hx
   rw [h1,h2,hsp,if_neg (fun hh=>hk hh.1),hold,←I.off x hx]
 intro e he
 rcases YA hs he with he | rfl | ⟨x,hx,y,hy,hsm,rfl⟩
 ·exact hes e he
 ·show false=lastOff o.c o.n false _
  rw [Vb]
  intro x hx h4 hh
  obtain ⟨t,t1,t2,t3⟩:=hT.mem x hx h4
  rw [List.nil_append] at t1
  have hfr:=fresh_op g.fresh
  have hnot: ∀z∈(JS o (H.ops.drop i)).2,¬(z.c=o.c∧z.n=o.n):=by
   intro z hz hzz
   obtain ⟨k,hk,rfl⟩:=List.mem_iff_getElem.1 hz
   have hk':k<(H.ops.drop i).length:=by rw [←c5.length];exact hk
   have:=c5.get k hk' hk
   exact hfr _ (List.mem_of_mem_drop (List.getElem_mem hk')) ⟨by rw [←this.c];exact hzz.1,by rw [←this.n];exact hzz.2⟩
  rw [TgtOk.append] at hT
  rcases List.mem_append.1 hx with hx | hx
  ·--a status ahead
   obtain ⟨t,t1,t2,t3⟩:=hT.1.mem x hx h4
   exact hfr t (List.mem_of_mem_take t1) ⟨t2.trans hh.1,t3.trans hh.2⟩
  ·rcases List.mem_append.1 hx with hx | hx
   ·simp only [List.mem_singleton] at hx;subst hx
    obtain ⟨t,t1,t2,t3,_⟩:=good_tgt g h4
    exact hfr t (List.mem_of_mem_take t1) ⟨t2.trans hh.1,t3.trans hh.2⟩
   ·--a status behind:its old form had the same target
    obtain ⟨k,hk,rfl⟩:=List.mem_iff_getElem.1 hx
    have hk':k<(H.ops.drop i).length:=by rw [←c5.length];exact hk
    have hsm:=c5.get k hk' hk
    obtain ⟨t,t1,t2,t3⟩:=I.tgt.mem _ (List.mem_of_mem_drop (List.getElem_mem hk')) (hsm.kind.symm.trans h4)
    exact hfr t t1 ⟨by rw [t2,←hsm.tc];exact hh.1,by rw [t3,←hsm.tn];exact hh.2⟩
 ·show x.off=lastOff y.c y.n false _
  rw [hsm.c,hsm.n];exact hes x hx
theorem Made.ci {n:Nat} {H:Hist} {X:List Ce} (h:Made n H X):n≤1000→CI H:=by
 induction h with
 | zero=>exact fun _=>⟨rfl,trivial,fun e he=>(by cases he)⟩
 | step h g ih=>
  intro hn
  obtain ⟨h1,h2,h3⟩:=h.inv (by omega)
  have I:=ih (by omega)
  obtain ⟨es,nw,eff,p⟩:=put_good h1 g
  have ho:=put_ops h1 g p
  rw [p.put]
  refine ⟨?_,?_,?_⟩
  ·rw [ho];exact put_now h1 g p I
  ·rw [ho];exact put_tgt h1 g I.tgt
  ·rw [ho];exact put_off h1 g p I
theorem Made.ops {n:Nat} {H:Hist} {X:List Ce} (h:Made n H X) (hn:n≤1000) {i:Nat} {o:GOp} (g:Good H i o):(putF H i o).1.ops=H.ops.take i++([o] ++(JS o (H.ops.drop i)).2):=by
 obtain ⟨h1,h2,h3⟩:=h.inv hn
 obtain ⟨es,nw,eff,p⟩:=put_good h1 g
 rw [p.put];exact put_ops h1 g p
theorem map_nth_inj {N:List Nm} (hN:N.Nodup): ∀ {a b:List Int},(∀q∈a,0≤q∧q<N.length)→(∀q∈b,0≤q∧q<N.length)→a.map (fun q=>N[q.toNat]?)=b.map (fun q=>N[q.toNat]?)→a=b
 | [],[],_,_,_=>rfl
 | [],y::b,_,_,h=>by cases h
 | x::a,[],_,_,h=>by cases h
 | x::a,y::b,h1,h2,h=>by
  simp only [List.map_cons,List.cons.injEq] at h
  have hx:=h1 x List.mem_cons_self
  have hy:=h2 y List.mem_cons_self
  have e:=h.1
  rw [List.getElem?_eq_getElem (by omega),List.getElem?_eq_getElem (by omega)] at e
  have:=(List.getElem_inj (h₀:=by omega) (h₁:=by omega) hN).1 (Option.some.inj e)
  rw [map_nth_inj hN (fun q hq=>h1 q (List.mem_cons_of_mem _ hq)) (fun q hq=>h2 q (List.mem_cons_of_mem _ hq)) h.2]
  congr 1;omega
theorem Ja7 {T:Int} {N:List Nm} (hN:N.Nodup) (hl:(N.length:Int)=T) {xs ys:List Rg} (hx:Pls T xs) (hy:Pls T ys) (h:(Kj xs).map (fun q=>N[q.toNat]?)=(Kj ys).map fun q=>N[q.toNat]?):xs=ys:=by
 have:=map_nth_inj hN (fun q hq=>by have:=hx.in (mem_places.1 hq);omega) (fun q hq=>by have:=hy.in (mem_places.1 hq);omega) h
 exact ER hx.norm hy.norm fun q=>by rw [←mem_places,←mem_places,this]
theorem EV {T:Int} {N:List Nm} (hN:N.Nodup) (hl:(N.length:Int)=T) (ops:List GOp): ∀ {a b:List Ent},a.map (·.op)=b.map (·.op)→a.map (nmE N)=b.map (nmE N)→(∀e∈a,Pls T e.now)→(∀e∈b,Pls T e.now)→
  (∀e∈a,e.off=lastOff e.op.c e.op.n false ops)→(∀e∈b,e.off=lastOff e.op.c e.op.n false ops)→a=b
 | [],[],_,_,_,_,_,_=>rfl
 | [],y::b,h,_,_,_,_,_=>by cases h
 | x::a,[],h,_,_,_,_,_=>by cases h
 | x::a,y::b,h,h1,h2,h3,h4,h5=>by
  simp only [List.map_cons,List.cons.injEq] at h h1
  have e1:=Ja7 hN hl (h2 x List.mem_cons_self) (h3 y List.mem_cons_self) h1.1
  have e2:x.off=y.off:=by rw [h4 x List.mem_cons_self,h5 y List.mem_cons_self,h.1]
  rw [EV hN hl ops h.2 h1.2 (fun e he=>h2 e (List.mem_cons_of_mem _ he)) (fun e he=>h3 e (List.mem_cons_of_mem _ he)) (fun e he=>h4 e (List.mem_cons_of_mem _ he)) (fun e he=>h5 e (List.mem_cons_of_mem _ he))]
  congr 1
  obtain ⟨o,nw,f⟩:=x
  obtain ⟨o',nw',f'⟩:=y
  have:=h.1
  simp only at this e1 e2
  subst this e1 e2;rfl
theorem Mk.ext {S:List Sig} {T:Int} {X X':List Ce} (h:Mk S T X) (h':Mk S T X') (hl:(X.length:Int)=T) (hl':(X'.length:Int)=T):X.map (·.1)=X'.map (·.1):=by
 apply List.ext_getElem?
 intro q
 rw [List.getElem?_map,List.getElem?_map]
 by_cases hq:(q:Int)<T
 ·have h1:=h.one q (by omega) hq
  have h2:0<S.countP (mkOf q):=by omega
  obtain ⟨s,hs,hm⟩:=List.countP_pos_iff.1 h2
  unfold mkOf at hm
  simp only [Bool.and_eq_true,decide_eq_true_eq] at hm
  have hp:=mem_places.2 (K4.1 hm.2)
  have e:=(h.text s hs hm.1).trans (h'.text s hs hm.1).symm
  have:=List.map_inj_left.1 e q hp
  simpa using this
 ·rw [List.getElem?_eq_none (by omega),List.getElem?_eq_none (by omega)]
theorem ZO {H:Hist} {X X':List Ce} (h:Rule H X) (h':Rule H X') (e:X.map (·.1)=X'.map (·.1)):X=X':=by
 apply List.ext_getElem?
 intro q
 have e1:=congrArg (·[q]?) e
 simp only [List.getElem?_map] at e1
 cases hx:X[q]? with
 | none=>
  rw [hx] at e1
  cases hy:X'[q]? with
  | none=>rfl
  | some d=>rw [hy] at e1;cases e1
 | some c=>
  rw [hx] at e1
  cases hy:X'[q]? with
  | none=>rw [hy] at e1;cases e1
  | some d=>
   rw [hy] at e1
   simp only [Option.map_some,Option.some.injEq] at e1
   have c1:=h.cnt q c hx
   have c2:=h'.cnt q d hy
   congr 1
   exact Prod.ext e1 (by rw [c1,c2])
theorem Made.one {n n':Nat} {H H':Hist} {X X':List Ce} (h:Made n H X) (h':Made n' H' X') (hn:n≤1000) (hn':n'≤1000) (e:H.ops=H'.ops):H=H'∧X=X':=by
 obtain ⟨v,r,l⟩:=h.inv hn
 obtain ⟨v',r',l'⟩:=h'.inv hn'
 have I:=h.ci hn
 have I':=h'.ci hn'
 have et:H.total=H'.total:=by rw [v.tot,v'.tot,e]
 have hN:(rowN [] H.ops).Nodup:=rowN_nodup List.nodup_nil (by
  have:=v.ids
  unfold Hist.ops
  rw [List.map_map];exact this) (fun x hx=>by cases hx)
 have hl:((rowN [] H.ops).length:Int)=H.total:=by rw [V5 (w:=0) rfl v.ctx,v.tot];omega
 have ee:H.ents=H'.ents:=EV hN hl H.ops e (by rw [I.now,e,←I'.now]) v.pls (by rw [et];exact v'.pls) I.off (by rw [e];exact I'.off)
 have eH:H=H':=by
  obtain ⟨a,b⟩:=H
  obtain ⟨a',b'⟩:=H'
  simp only at ee et
  subst ee et;rfl
 subst eH
 exact ⟨O,ZO r r' (Mk.ext (h.mk hn) (h'.mk hn') r.len r'.len)⟩
theorem CtxOk.take: ∀ {w:Int} {l:List GOp} (k:Nat),CtxOk w l→CtxOk w (l.take k)
 | w,[],k,_=>by simp [CtxOk]
 | w,o::l,0,_=>trivial
 | w,o::l,k+1,h=>⟨h.1,h.2.take k⟩
theorem Made.next {n:Nat} {H:Hist} {X:List Ce} (h:Made n H X) (hn:n≤1000) {k:Nat} {H1:Hist} {X1:List Ce} (h1:Made k H1 X1) (e:H1.ops=H.ops.take k) (hk:k<H.ops.length):Good H1 k H.ops[k] :=by
 have hlen:H.ops.length=n:=by unfold Hist.ops;rw [List.length_map];exact (h.inv hn).2.2
 obtain ⟨v,r,l⟩:=h.inv hn
 obtain ⟨v1,r1,l1⟩:=h1.inv (by omega)
 have I:=h.ci hn
 have hsp:H.ops=H.ops.take k++(H.ops[k] ::H.ops.drop (k+1)):=by rw [←List.drop_eq_getElem_cons hk,List.take_append_drop]
 have hb:KQ H1 k=sumO (H.ops.take k):=by
  rw [before_ops,e,List.take_of_length_le]
  rw [List.length_take];omega
 have hc:=v.ctx
 rw [hsp,CtxOk.append,Int.zero_add] at hc
 have ht:=v.tot
 rw [hsp,Y8] at ht
 simp only [sumO] at ht
 have h0:=sumO_nonneg hc.2.2
 have hle:=v.le
 have hT:=I.tgt
 rw [hsp,TgtOk.append,List.nil_append] at hT
 have hid: ∀p∈H.ops.take k,¬(p.c=H.ops[k].c∧p.n=H.ops[k].n):=by
  intro p hp hh
  obtain ⟨j,hj,rfl⟩:=List.mem_iff_getElem.1 hp
  rw [List.length_take] at hj
  rw [List.getElem_take] at hh
  have hnd:=v.ids
  have e2:(H.ents.map fun e=>(e.op.c,e.op.n))=H.ops.map fun o=>(o.c,o.n):=by unfold Hist.ops;rw [List.map_map];rfl
  rw [e2] at hnd
  have:=List.getElem_inj (h₀:=by rw [List.length_map];omega) (h₁:=by rw [List.length_map];exact hk) hnd (i:=j) (j:=k)
  simp only [List.getElem_map,Prod.mk.injEq] at this
  have:=this.1 hh
  omega
 have hfr:JX H1.ents H.ops[k].c H.ops[k].n=none:=by
  cases hw:JX H1.ents H.ops[k].c H.ops[k].n with
  | none=>rfl
  | some j=>
   obtain ⟨hj,g1,g2⟩:=KD hw
   refine absurd ⟨g1,g2⟩ (hid H1.ents[j].op ?_)
   rw [←e];exact List.mem_map.2 ⟨_,List.getElem_mem hj,rfl⟩
 refine ⟨by omega,by rw [hb];exact hc.2.1,hfr,?_,?_,?_⟩
 ·obtain ⟨x,hx,hxe⟩:=List.mem_map.1 (show H.ops[k] ∈H.ents.map (·.op) from List.getElem_mem hk)
  have:=v.idr x hx
  rw [hxe] at this;exact this
 ·intro h4
  obtain ⟨p,p1,p2,p3,p4⟩:=hT.2.1 h4
  rw [←e] at p1
  obtain ⟨x,hx,rfl⟩:=List.mem_map.1 p1
  obtain ⟨j,hj,rfl⟩:=List.mem_iff_getElem.1 hx
  refine ⟨j,?_,by omega,H1.ents[j],List.getElem?_eq_getElem hj,p4⟩
  rw [←p2,←p3];exact Yj v1.ids hj
 ·have ht1:H1.total=sumO (H.ops.take k):=by rw [v1.tot,e]
  rw [ht1];omega
theorem G6 (o:GOp):JS o [] =(o,[]):=rfl
theorem Made.next_ops {n:Nat} {H:Hist} {X:List Ce} (h:Made n H X) (hn:n≤1000) {k:Nat} {H1:Hist} {X1:List Ce} (h1:Made k H1 X1) (e:H1.ops=H.ops.take k) (hk:k<H.ops.length):(putF H1 k H.ops[k]).1.ops=H.ops.take (k+1):=by
 have g:=h.next hn h1 e hk
 have hlen:H.ops.length=n:=by unfold Hist.ops;rw [List.length_map];exact (h.inv hn).2.2
 have hl1:H1.ops.length=k:=by rw [e,List.length_take];omega
 rw [h1.ops (by omega) g,List.take_of_length_le (by omega),List.drop_eq_nil_of_le (by omega),G6,e,List.take_succ_eq_append_getElem hk]
 rfl
abbrev rpP (b:Nat) (A:Option Addr):Part:= [(b,JB [.pointer A] 143)]
def RpP (b:Nat) (X:List Ce):Value→List Part→List Fact→Prop:=fun v Lo fs=> ∃(A:Option Addr) (t:Tr),v= .int .i64 0∧Lo= [rpP b A] ∧fs= [TrF A t] ∧Wf t∧t.row=X
structure BuOk (rs:List Rg) (k:Int) (row:List Ce):Prop where
 ck:(ckF rs).2=0
 below:BelowR row.length rs
 cells: ∀(q:Nat) c,row[q]? =some c→inRb q rs=true→0≤c.2+k∧c.2+k≤1048576
structure BuI (rs:List Rg) (k:Int) (row:List Ce) (i:Nat) (t:Tr):Prop where
 le:i≤rs.length
 wf:Wf t
 eq:t.row=Kn (rs.take i) k row
theorem GU {b:Int} {rs:List Rg} (h:NormB b rs) (i:Nat):NormB b (rs.take i):=by
 rw [←List.take_append_drop i rs] at h
 exact (Yn.1 h).1
theorem BuOk.norm {rs:List Rg} {k:Int} {row:List Ce} (h:BuOk rs k row):NormB 0 rs:=(Gy.1 h.ck).2.1
theorem BuI.len {rs:List Rg} {k:Int} {row:List Ce} {i:Nat} {t:Tr} (h:BuI rs k row i t) (ho:BuOk rs k row):t.row.length=row.length:=by
 rw [h.eq]
 exact (KS (k:=k) _ 0 row (Int.le_refl _) (GU ho.norm i) (fun r hr=>ho.below r (List.mem_of_mem_take hr))).1
theorem Vd {rs:List Rg} {k:Int} {row:List Ce} {i:Nat} (hi:i<rs.length):Kn (rs.take (i+1)) k row=K1 rs[i] k (Kn (rs.take i) k row):=by
 unfold Kn
 rw [List.take_succ_eq_append_getElem hi,List.foldl_append];rfl
theorem BuI.slice {rs:List Rg} {k:Int} {row:List Ce} {i:Nat} {t:Tr} (h:BuI rs k row i t) (ho:BuOk rs k row) (hi:i<rs.length):InR (up k ((t.row.drop rs[i].lo.toNat).take (rs[i].hi-rs[i].lo).toNat)):=by
 intro c hc
 obtain ⟨d,hd,rfl⟩:=mem_up.1 hc
 obtain ⟨j,hj,rfl⟩:=List.mem_iff_getElem.1 hd
 have hm:=ho.norm.mem _ (List.getElem_mem hi)
 have hget:=(KS (k:=k) _ 0 row (Int.le_refl _) (GU ho.norm i) (fun r hr=>ho.below r (List.mem_of_mem_take hr))).2
 rw [List.length_take,List.length_drop] at hj
 have e1:((t.row.drop rs[i].lo.toNat).take (rs[i].hi-rs[i].lo).toNat)[j]? =(Kn (rs.take i) k row)[rs[i].lo.toNat +j]? :=by
  rw [List.getElem?_take,if_pos (by omega),List.getElem?_drop,h.eq]
 rw [List.getElem?_eq_getElem (by rw [List.length_take,List.length_drop];omega),hget] at e1
 have hnot:inRb ((rs[i].lo.toNat +j:Nat):Int) (rs.take i)=false:=inRb_false.2 fun hmem=>by
  have hn:=ho.norm
  rw [←List.take_append_drop i rs,List.drop_eq_getElem_cons hi] at hn
  have h2:=(Yn.1 hn).2
  obtain ⟨r,hr,hq⟩:=hmem
  have h3: ∀(xs:List Rg) (b:Int),NormB b xs→ ∀r∈xs,r.hi+1≤endB b xs:=by
   intro xs
   induction xs with
   | nil=>intro b _ r hr;cases hr
   | cons x xs ih=>
    intro b hb r hr
    have h4: ∀(ys:List Rg) (b:Int),NormB b ys→b≤endB b ys:=by
     intro ys
     induction ys with
     | nil=>intro b _;exact Int.le_refl _
     | cons y ys ih2=>intro b hb;have:=ih2 _ hb.2.2;have:=hb.1;have:=hb.2.1;simp only [endB];omega
    rcases List.mem_cons.1 hr with rfl | hr
    ·exact h4 xs _ hb.2.2
    ·exact ih _ hb.2.2 r hr
  have h5:=h3 _ _ (Yn.1 hn).1 r hr
  have h6:=h2.1
  omega
 have hin:inRb ((rs[i].lo.toNat +j:Nat):Int) rs=true:=K4.2 ⟨_,List.getElem_mem hi,by omega⟩
 cases hx:row[rs[i].lo.toNat +j]? with
 | none=>rw [hx] at e1;cases e1
 | some c=>
  rw [hx,hnot] at e1
  simp only [Bool.false_eq_true,if_false,Option.map_some,Option.some.injEq] at e1
  have:=ho.cells _ c hx hin
  rw [e1]
  exact this
theorem BuI.next {rs:List Rg} {k:Int} {row:List Ce} {i:Nat} {t t':Tr} (h:BuI rs k row i t) (hi:i<rs.length) (hw:Wf t') (he:t'.row=K1 rs[i] k t.row):BuI rs k row (i+1) t':=⟨hi,hw,by rw [he,Vd hi,h.eq]⟩
theorem BuI.done {rs:List Rg} {k:Int} {row:List Ce} {i:Nat} {t:Tr} (h:BuI rs k row i t) (hi: ¬i<rs.length):t.row=Kn rs k row:=by
 have e:i=rs.length:=by have:=h.le;omega
 rw [h.eq,e,List.take_length]
theorem wf_mn {t:Tr} (h:Wf t) (hn:t.row≠ []):(∃c∈t.row,c.2=(allF t).mn)∧ ∃c∈t.row,c.2=(allF t).mx:=by
 cases t with
 | nil=>exact absurd rfl hn
 | nd s l rs hid r plus=>have:=wf_sum h (by simp);exact ⟨this.mnI,this.mxI⟩
def idC (x:Int×Int):List Value:= [.int .i64 x.1, .int .i64 x.2]
def idD:De (Int×Int) where
 sz:=2
 rep _ _ x cs:=cs=idC x
 len h:=by subst h;rfl
 one h:=by subst h;rfl
 stable _ _ _ _ _ h:=h
theorem id_open (u:Int×Int): ∀Z w cs,idD.rep Z w u cs→ ∃y:Unit,cs=idC u∧ ∀B∈([] :List Fact),B.holds Z w:=fun _ _ _ h=>⟨(),h,fun _ h=>by cases h⟩
def Kg {α:Type} (f:α→List Value) (xs:List α):List Value:=(xs.map f).flatten
theorem YF {α:Type} (f:α→List Value) (xs ys:List α):Kg f (xs++ys)=Kg f xs++Kg f ys:=by unfold Kg;simp
theorem VJ {α:Type} (f:α→List Value) (x:α):Kg f [x] =f x:=by unfold Kg;simp
theorem HJ {α:Type} {e:De α} {f:α→List Value} (h: ∀Z w x,e.rep Z w x (f x)) (xs:List α) (Z:Nat→Prop) (w:World):Reps (e.rep Z w) xs (xs.map f):=by
 induction xs with
 | nil=>exact .nil
 | cons x xs ih=>exact .cons (h Z w x) ih
theorem Ej (a:Int) (m:Nat) (hm:0<m): -(m:Int)<a.tmod m∧a.tmod m<m:=
 ⟨Int.lt_tmod_of_pos a (by omega),Int.tmod_lt_of_pos a (by omega)⟩
structure ToI (s:ByteArray) (k p j:Nat):Prop where
 le:p≤s.size
 eq:j+(runesAt s p).length=k+(J2 s).length
structure SoI (n q:Nat) (xs:List Rg) (v:Value) (p:Part):Prop where
 le:q≤n
 pls:Pls q xs
 row:Row 74 2 v xs.length (rgs xs) p
theorem SoI.len {n q:Nat} {xs:List Rg} {v:Value} {p:Part} (h:SoI n q xs v p):xs.length≤q:=by
 have:=h.pls.len (by omega);omega
structure Mv where
 kind:Int
 i:Int
 client:Int
 a:Int
 b:Int
 n:Int
structure Body (H:Hist) (i:Nat) (o:GOp):Prop where
 good: ∀c k:Int,JX H.ents c k=none→rightF c k=true→Good H i { o with c:=c,n:=k }
 text:o.text.size≤1000
 rs:o.rs.length≤60000
end Go.Proofs.YtgedhdmpiciikaaGreatDoor
namespace Go.GW
open Go
end Go.GW
namespace Go.Proofs.YtgedhdmpiciikaaGreatDoor
open Go Go.GW
def preI {α:Type} (l:List α) (i:Nat) (x:α) (k:Nat):List α:=if k≤i then l.take k else (insAt l i x).take (k+1)
def strs (xs:List ByteArray):List Value:=xs.map Value.string
structure NoI (ids:List (Int×Int)) (ks:List Int) (ts:List ByteArray) (i:Nat) (d:Int×Int) (z:Int) (s:ByteArray) (k:Nat) (w1:Value) (p1:Part) (w2:Value) (p2:Part) (w3:Value) (p3:Part):Prop where
 le:k≤ids.length+1
 r1:Row 46 2 w1 (preI ids i d k).length (Kg idC (preI ids i d k)) p1
 r2:Row 3 1 w2 (preI ks i z k).length (ints .i64 (preI ks i z k)) p2
 r3:Row 9 1 w3 (preI ts i s k).length (strs (preI ts i s k)) p3
structure Tk (H:Hist) (X:List Ce) (n i:Nat) (o:GOp) (H2:Hist) (eff:GOp):Prop where
 put:putF H i o=(H2,eff,0)
 ids:insAt (idsOf H.ents) i (o.c,o.n)=idsOf H2.ents
 ks:insAt (kindsOf H.ents) i (kindN o)=kindsOf H2.ents
 ts:insAt (textsOf H.ents) i o.text=textsOf H2.ents
 len:H2.ents.length=n+1
 tot:(cellsN ((textsOf H2.ents).take (n+1)):Int)=H2.total
 cb: ∀j,cellsN ((textsOf H2.ents).take j)≤60000
 app:eff.kind≠0→EffOk eff X
 noEff:eff.kind=0→eff=zeroOp∧o.kind=4
 text:eff.text.size≤o.text.size
 rs:eff.rs.length≤60001
theorem take_facts {N:Int} {n:Nat} {H:Hist} {X:List Ce} {nx:List Int} (h:VI N n H X nx) {i:Nat} {o:GOp} (g:Good H i o): ∃H2 eff,Tk H X n i o H2 eff:=by
 obtain ⟨es,nw,eff,p⟩:=put_good h.hv g
 have hp:=p.put
 have hv2:=put_hv h.hv g p
 have hrow:=put_row h.hv g p h.rule (by rw [h.len];have:=h.le;omega)
 refine ⟨_,eff,hp,?_,?_,?_,?_,?_,?_,hrow.1,hrow.2.1,?_,?_⟩
 ·have:=p.noted (fun o=>(o.c,o.n)) (fun a b hs=>by rw [hs.c,hs.n]) h.hv g
  rw [hp] at this;exact this.symm
 ·have:=p.noted kindN (fun a b hs=>by unfold kindN;rw [hs.kind]) h.hv g
  rw [hp] at this;exact this.symm
 ·have:=p.noted (·.text) (fun a b hs=>hs.text) h.hv g
  rw [hp] at this;exact this.symm
 ·have:=p.length h.hv g
  rw [hp,h.len] at this;exact this
 ·rw [cells_before hv2,before_ops,List.take_of_length_le,←hv2.tot]
  have:=p.length h.hv g
  rw [hp,h.len] at this
  unfold Hist.ops
  rw [List.length_map];exact Nat.le_of_eq this
 ·intro j
  have h1:=cells_before hv2 j
  obtain ⟨s1,s2,s3,s4⟩:=hv2.split j
  have h2:=sumO_nonneg s2
  have h3:=hv2.le
  simp only at *
  omega
 ·rcases g.right.kind with hk | hk | hk
  ·rw [(p.ins hk).2.2];exact Nat.le_refl _
  ·rw [(p.hide hk).2.2];exact Nat.zero_le _
  ·rw [(p.status hk).2.2]
   rcases turned_cases H i o with e | ⟨k,e,_,_,_,_,h5⟩
   ·rw [e];exact Nat.zero_le _
   ·rw [h5];exact Nat.zero_le _
 ·obtain ⟨c1,c2,c3,c4,c5⟩:=cross_good h.hv g
  have ht:=h.total
  have hl:=h.le
  rcases g.right.kind with hk | hk | hk
  ·rw [(p.ins hk).2.2];exact Nat.zero_le _
  ·rw [(p.hide hk).2.2]
   obtain ⟨t1,t2⟩:=c2.cov (c4.kind.trans hk) (by omega)
   have:=t2.len (by omega)
   show (JS o (H.ops.drop i)).1.rs.length≤_
   omega
  ·rw [(p.status hk).2.2]
   rcases turned_cases H i o with e | ⟨k,e,_,h2,_,_,h5⟩
   ·rw [e];exact Nat.zero_le _
   ·rw [h5]
    have:=(h.hv.pls e (List.mem_of_getElem? h2)).len (by omega)
    show e.now.length≤_
    omega
theorem decode_le4 (s:ByteArray) (p:Nat):(Utf8.decode s p).2≤4:=by
 unfold Utf8.decode
 simp only
 repeat' split
 all_goals (show _≤4;first | exact (by decide:1≤4) | exact (by decide:2≤4) | exact (by decide:3≤4) | exact (by decide:4≤4))
theorem runes_size (s:ByteArray): ∀(m p:Nat),s.size-p≤m→s.size-p≤4*(runesAt s p).length
 | m,p,hm=>by
  by_cases hp:p<s.size
  ·rw [runesAt,dif_pos hp]
   have h1:=decode_pos s p
   have h2:=decode_le4 s p
   cases m with
   | zero=>omega
   | succ m=>
    have:=runes_size s m (p+(Utf8.decode s p).2) (by omega)
    simp only [List.length_cons];omega
  ·omega
theorem Right.text {w:Int} {o:GOp} (h:Right w o):o.text.size≤1024:=by
 by_cases hk:o.kind=1
 ·have h3:=Yv.1 ((check_ins hk h.w0).1 h.ck).2
  have h4:=Y1 h3.1
  have h5:=runes_size o.text o.text.size 0 (by omega)
  unfold J2 at h4
  omega
 ·have hh:=(h.head h.w0).2.2
  unfold extraF at hh
  have h6:(o.text==⟨#[]⟩)=true:=by
   cases hx:o.text==⟨#[]⟩ with
   | true=>rfl
   | false=>exfalso;apply hh;simp [hk,hx]
  rw [G4 h6];exact Nat.zero_le _
structure FoI (H:Hist) (k:Nat) (H1:Hist) (X1:List Ce) (nx1:List Int) (L1:List MR) (t1:Tr):Prop where
 le:k≤H.ents.length
 vi:VI 1024 k H1 X1 nx1
 ops:H1.ops=H.ops.take k
 hr:HR H1 L1
 wt:Wf t1
 hX:t1.row=X1
theorem VI.next {N:Int} {n:Nat} {H:Hist} {X:List Ce} {nx:List Int} (h:VI N n H X nx) {k:Nat} {H1:Hist} {X1:List Ce} {nx1:List Int} (h1:VI 1024 k H1 X1 nx1) (e:H1.ops=H.ops.take k) (hk:k<H.ents.length) {o:GOp} (ho:H.ops[k]? =some o):
  Good H1 k o∧o.text.size≤1024∧VI 1024 (k+1) (putF H1 k o).1 (JT (putF H1 k o).2.1 X1) (nxF nx1 o.c o.n)∧(putF H1 k o).1.ops=H.ops.take (k+1):=by
 have hkl:k<H.ops.length:=by unfold Hist.ops;rw [List.length_map];exact hk
 have hn:=h.le
 have hl:=h.len
 have g:=h.made.next (by omega) h1.made e hkl
 have hp:=h.made.next_ops (by omega) h1.made e hkl
 rw [List.getElem?_eq_getElem hkl] at ho
 obtain rfl:=Option.some.inj ho
 have hb:=Gf g.idr
 exact ⟨g,g.right.text,h1.step g (by omega) (Int.le_refl _) hb.2.2.2,hp⟩
theorem VI.one {N N':Int} {n n':Nat} {H H':Hist} {X X':List Ce} {nx nx':List Int} (h:VI N n H X nx) (h':VI N' n' H' X' nx') (e:H.ops=H'.ops):H=H'∧X=X':=
 h.made.one h'.made (by have:=h.le;omega) (by have:=h'.le;omega) e
structure DI (n:Nat) (H:Hist) (X:List Ce):Prop where
 made:Made n H X
 le:n≤900
theorem DI.hv {n:Nat} {H:Hist} {X:List Ce} (h:DI n H X):HV H:=(h.made.inv (by have:=h.le;omega)).1
theorem DI.rule {n:Nat} {H:Hist} {X:List Ce} (h:DI n H X):Rule H X:=(h.made.inv (by have:=h.le;omega)).2.1
theorem DI.len {n:Nat} {H:Hist} {X:List Ce} (h:DI n H X):H.ents.length=n:=(h.made.inv (by have:=h.le;omega)).2.2
theorem DI.tot0 {n:Nat} {H:Hist} {X:List Ce} (h:DI n H X):0≤H.total∧H.total≤60000:=by
 have h1:=h.hv
 have h2:=sumO_nonneg h1.ctx
 rw [h1.tot]
 exact ⟨h2,by rw [←h1.tot];exact h1.le⟩
theorem DI.row {n:Nat} {H:Hist} {X:List Ce} (h:DI n H X):(X.length:Int)=H.total:=h.rule.len
theorem DI.zero:DI 0 ⟨[],0⟩ [] :=⟨.zero,by decide⟩
theorem DI.room {n:Nat} {H:Hist} {X:List Ce} (h:DI n H X) (i:Nat):0≤KQ H i∧KQ H i≤H.total:=by
 obtain ⟨s1,s2,s3,s4⟩:=h.hv.split i
 have h2:=sumO_nonneg s2
 have h3:=sumO_nonneg s1
 omega
structure TkD (H:Hist) (X:List Ce) (n i:Nat) (o:GOp) (H2:Hist) (eff:GOp):Prop where
 put:putF H i o=(H2,eff,0)
 len:H2.ents.length=n+1
 app:eff.kind≠0→EffOk eff X
 noEff:eff.kind=0→eff=zeroOp∧o.kind=4
 text:eff.text.size≤o.text.size
 rs:eff.rs.length≤60001
 fit:Fit o
 tx:o.text.size≤1024
 next:n<900→DI (n+1) H2 (JT eff X)
theorem DI.take {n:Nat} {H:Hist} {X:List Ce} (h:DI n H X) {i:Nat} {o:GOp} (g:Good H i o): ∃H2 eff,TkD H X n i o H2 eff:=by
 obtain ⟨es,nw,eff,p⟩:=put_good h.hv g
 have hp:=p.put
 have hv2:=put_hv h.hv g p
 have hrow:=put_row h.hv g p h.rule (by rw [h.len];have:=h.le;omega)
 have htx:=g.right.text
 refine ⟨_,eff,hp,?_,hrow.1,hrow.2.1,?_,?_,?_,htx,fun hn=>⟨?_,hn⟩⟩
 ·have:=p.length h.hv g
  rw [hp,h.len] at this;exact this
 ·rcases g.right.kind with hk | hk | hk
  ·rw [(p.ins hk).2.2];exact Nat.le_refl _
  ·rw [(p.hide hk).2.2];exact Nat.zero_le _
  ·rw [(p.status hk).2.2]
   rcases turned_cases H i o with e | ⟨k,e,_,_,_,_,h5⟩
   ·rw [e];exact Nat.zero_le _
   ·rw [h5];exact Nat.zero_le _
 ·obtain ⟨c1,c2,c3,c4,c5⟩:=cross_good h.hv g
  have ht:=h.tot0
  have hl:=h.le
  rcases g.right.kind with hk | hk | hk
  ·rw [(p.ins hk).2.2];exact Nat.zero_le _
  ·rw [(p.hide hk).2.2]
   obtain ⟨t1,t2⟩:=c2.cov (c4.kind.trans hk) (by omega)
   have:=t2.len (by omega)
   show (JS o (H.ops.drop i)).1.rs.length≤_
   omega
  ·rw [(p.status hk).2.2]
   rcases turned_cases H i o with e | ⟨k,e,_,h2,_,_,h5⟩
   ·rw [e];exact Nat.zero_le _
   ·rw [h5]
    have:=(h.hv.pls e (List.mem_of_getElem? h2)).len (by omega)
    show e.now.length≤_
    omega
 ·have htt:=h.tot0
  have hr:=h.room i
  have hrs:o.rs.length≤4398046511104:=by
   by_cases hk:o.kind=2
   ·have:=(g.right.cov hk (by omega)).2.len (by omega)
    omega
   ·rw [g.right.noRs hk];exact Nat.zero_le _
  have hat:0≤o.at_∧o.at_≤65535:=by
   rcases g.right.kind with hk | hk | hk
   ·have:=g.right.ins hk;omega
   all_goals
    have hh:=(g.right.head g.right.w0).2.2
    have h0:o.at_=0:=by
     unfold extraF at hh
     have h1:o.kind≠1:=by omega
     rcases Int.lt_trichotomy o.at_ 0 with h2 | h2 | h2
     ·exfalso;apply hh;have:o.at_≠0:=by omega
      simp [h1,this]
     ·exact h2
     ·exfalso;apply hh;have:o.at_≠0:=by omega
      simp [h1,this]
    omega
  exact ⟨by omega,hrs,by omega,by omega⟩
 ·have:=Made.step h.made g
  rw [hp] at this
  exact this
theorem DI.ops {n:Nat} {H:Hist} {X:List Ce} (h:DI n H X) {i:Nat} {o:GOp} (g:Good H i o):(putF H i o).1.ops=H.ops.take i++([o] ++(JS o (H.ops.drop i)).2):=h.made.ops (by have:=h.le;omega) g
set_option maxRecDepth 10000 in
theorem Em (c n:Int):Sp Tryz.prog 131 [.agg #[.int .i64 c, .int .i64 n]] [] [] (Is (.bool (decide (1≤c∧c≤8∧1≤n∧n≤1024)))):=by
 refine Sp.of (n:=21) ⟨_,Tryz.func131,O,O,O,O⟩ (Nat.le_of_ble_eq_true O) fun Ps As=>Jc (Ja (Jg O (J9 (cs:= [_,_]) O O (by decide) fun b1=>Lq (Jd O) (Je (Jf (Jc (Ja (Lq (Yf (o':=0) Un46 ti3 O O (by decide) (by decide) O) (Lq (Jj Un3 O O Jn O) (Lq (Yz O O) (Lq (Jb O) (J4 (t:=6) O (fun g6=> ?_) (fun g6=> ?_)))))))))))))
 ·refine Lg O O O g6 (Yf (o':=0) Un46 ti3 O O (by decide) (by decide) O) (Lg O O O g6 (Jj Un3 O O Jn O) (Lg O O O g6 (YW O O) (Lq (JP O g6 O) (Lq (Jb O) (J4 (t:=11) O (fun g11=> ?_) (fun g11=> ?_))))))
  ·refine Lg O O O g11 (Yf (o':=1) Un46 ti3 O O (by decide) (by decide) O) (Lg O O O g11 (Jj Un3 O O Jn O) (Lg O O O g11 (Yz O O) (Lq (JP O g11 O) (Lq (Jb O) (J4 (t:=16) O (fun g16=> ?_) (fun g16=> ?_))))))
   ·refine Lg O O O g16 (Yf (o':=1) Un46 ti3 O O (by decide) (by decide) O) (Lg O O O g16 (Jj Un3 O O Jn O) (Lg O O O g16 (YW O O) (Lq (JP O g16 O) (Lq (Jd O) (Je (Jf (JF [(2,_)] (.m1 O) (Jo ?_))))))))
    refine ⟨_,[],[],fun Z w hs=> .tmp O .nil,?_,fun Z w hs=>hs.out (Sd (Sr)) (fun _ h=>h)⟩
    try simp only [Bp,Bq] at *
    exact ⟨congrArg Value.bool (by first | exact (decide_eq_true (by omega)).symm | exact (decide_eq_false (by omega)).symm | exact decide_eq_decide.2 (by omega) | (rw [Bool.eq_iff_iff];simp;omega) | (rw [Bool.eq_iff_iff];simp;done)),O,O⟩
   ·refine Ln O O O g16 (Ln O O O g16 (Ln O O O g16 (Lq (JH O g16 O) (Lq (Jd O) (Je (Jf (JF [(2,_)] (.m1 O) (Jo ?_))))))))
    refine ⟨_,[],[],fun Z w hs=> .tmp O .nil,?_,fun Z w hs=>hs.out (Sd (Sr)) (fun _ h=>h)⟩
    try simp only [Bp,Bq] at *
    exact ⟨congrArg Value.bool (by first | exact (decide_eq_true (by omega)).symm | exact (decide_eq_false (by omega)).symm | exact decide_eq_decide.2 (by omega) | (rw [Bool.eq_iff_iff];simp;omega) | (rw [Bool.eq_iff_iff];simp;done)),O,O⟩
  ·refine Ln O O O g11 (Ln O O O g11 (Ln O O O g11 (Lq (JH O g11 O) (Lq (Jb O) (Ln O O O O (Ln O O O O (Ln O O O O (Lq (JH O O O) (Lq (Jd O) ?_)))))))))
   refine Je (Jf (JF [(2,_)] (.m1 O) (Jo ?_)))
   refine ⟨_,[],[],fun Z w hs=> .tmp O .nil,?_,fun Z w hs=>hs.out (Sd (Sr)) (fun _ h=>h)⟩
   try simp only [Bp,Bq] at *
   exact ⟨congrArg Value.bool (by first | exact (decide_eq_true (by omega)).symm | exact (decide_eq_false (by omega)).symm | exact decide_eq_decide.2 (by omega) | (rw [Bool.eq_iff_iff];simp;omega) | (rw [Bool.eq_iff_iff];simp;done)),O,O⟩
 ·refine Ln O O O g6 (Ln O O O g6 (Ln O O O g6 (Lq (JH O g6 O) (Lq (Jb O) (Ln O O O O (Ln O O O O (Ln O O O O (Lq (JH O O O) (Lq (Jb O) ?_)))))))))
  refine Ln O O O O (Ln O O O O (Ln O O O O (Lq (JH O O O) (Lq (Jd O) (Je (Jf (JF [(2,_)] (.m1 O) (Jo ?_))))))))
  refine ⟨_,[],[],fun Z w hs=> .tmp O .nil,?_,fun Z w hs=>hs.out (Sd (Sr)) (fun _ h=>h)⟩
  try simp only [Bp,Bq] at *
  exact ⟨congrArg Value.bool (by first | exact (decide_eq_true (by omega)).symm | exact (decide_eq_false (by omega)).symm | exact decide_eq_decide.2 (by omega) | (rw [Bool.eq_iff_iff];simp;omega) | (rw [Bool.eq_iff_iff];simp;done)),O,O⟩
set_option maxRecDepth 10000 in
theorem GT (n:Int):Sp Tryz.prog 157 [.int .i64 n] [] [] (Is (.bool (decide (n<0∨n>1048576)))):=by
 refine Sp.of (n:=9) ⟨_,Tryz.func157,O,O,O,O⟩ (Nat.le_of_ble_eq_true O) fun Ps As=>Jc (Ja (Lq (Jd O) (Je (Jf (Jc (Ja (Lq (Jb O) (Lq (Km O O) (Lq (Jb O) (J4 (t:=5) O (fun g5=> ?_) (fun g5=> ?_)))))))))))
 ·refine Ln O O O g5 (Ln O O O g5 (Lq (JP O g5 O) (Lq (Jd O) (Je (Jf (Jo ?_))))))
  refine ⟨_,[],[],fun Z w hs=> .tmp O .nil,?_,fun Z w hs=>hs.out (Sr) (fun _ h=>h)⟩
  try simp only [Bp,Bq] at *
  exact ⟨congrArg Value.bool (by first | exact (decide_eq_true (by omega)).symm | exact (decide_eq_false (by omega)).symm | exact decide_eq_decide.2 (by omega) | (rw [Bool.eq_iff_iff];simp;omega) | (rw [Bool.eq_iff_iff];simp;done)),O,O⟩
 ·refine Lg O O O g5 (Jb O) (Lg O O O g5 (Kl O O) (Lq (JH O g5 O) (Lq (Jd O) (Je (Jf (Jo ?_))))))
  refine ⟨_,[],[],fun Z w hs=> .tmp O .nil,?_,fun Z w hs=>hs.out (Sr) (fun _ h=>h)⟩
  try simp only [Bp,Bq] at *
  exact ⟨congrArg Value.bool (by first | exact (decide_eq_true (by omega)).symm | exact (decide_eq_false (by omega)).symm | exact decide_eq_decide.2 (by omega) | (rw [Bool.eq_iff_iff];simp;omega) | (rw [Bool.eq_iff_iff];simp;done)),O,O⟩
def bndV (A:Option Addr) (c:Nat) (xs:List Rg):Value:=if xs.length>32768 then .tuple #[.slice none 0 0, .int .i64 21] else .tuple #[.slice A xs.length c, .int .i64 0]
set_option maxRecDepth 10000 in
theorem G8 (A:Option Addr) (c:Nat) (xs:List Rg):Sp Tryz.prog 159 [.slice A xs.length c] [] [] (Is (bndV A c xs)):=by
 refine Sp.of (n:=8) ⟨_,Tryz.func159,O,O,O,O⟩ (Nat.le_of_ble_eq_true O) fun Ps As=>Jc (Ja (Lq (Jd O) (Lq (Jd O) (Je (Jf (Jc (Jc (Ja (Lq (Jb O) (Lq (J3 Un50 O) (Lq (Kl O O) (Je (Jf (Jy O (fun h6=> ?_) (fun h6=> ?_)))))))))))))))
 ·refine Jc (Ja (Lq (Jd O) (Lq (Jd O) (Je (Jf (Jo (Js ?_)))))))
  refine ⟨_,[],[],fun Z w hs=> .tmp O (.tmp O .nil),?_,fun Z w hs=>hs.out (Sr) (fun _ h=>h)⟩
  try simp only [Bp,Bq] at *
  unfold bndV
  first | (rw [if_pos (by omega)];exact ⟨rfl,rfl,rfl⟩) | (rw [if_neg (by omega)];exact ⟨rfl,rfl,rfl⟩)
 ·refine Jp (Jf (Jc (Ja (Lq (Jb O) (Lq (Jd O) (Lq (Jd O) (Je (Jf (Jo ?_)))))))))
  refine ⟨_,[],[],fun Z w hs=> .tmp O (.tmp O .nil),?_,fun Z w hs=>hs.out (Sr) (fun _ h=>h)⟩
  try simp only [Bp,Bq] at *
  unfold bndV
  first | (rw [if_pos (by omega)];exact ⟨rfl,rfl,rfl⟩) | (rw [if_neg (by omega)];exact ⟨rfl,rfl,rfl⟩)
theorem bd25Xw1 (w:World):(Instr.build 46 #[]).run Tryz.prog w= .ok (.agg #[.int .i64 0, .int .i64 0]) w:=by kernel_rfl
set_option maxRecDepth 10000 in
theorem Jbg (a b:GOp) (Aa Ab:Option Addr) (ca cb:Nat):Sp Tryz.prog 154 [opV a Aa ca,opV b Ab cb] [] [] (Is (.bool (decide (a.c=b.c∧a.n=b.n∧ ¬(a.c=0∧a.n=0))))):=by
 refine Sp.of (n:=19) ⟨_,Tryz.func154,O,O,O,O⟩ (Nat.le_of_ble_eq_true O) fun Ps As=>Jc (Ja (Jg O (J9 (cs:= [_,_,_,_,_,_,_,_,_]) O O (by decide) fun b2=>Jg O (J9 (cs:= [_,_,_,_,_,_,_,_,_]) O O (by decide) fun b3=>Lq (Jd O) (Je (Jf (Jc (Ja (Lq (Jh (o':=0) Un52 O KW O O) (Lq (Jh (o':=0) Un49 O JW O O) (Lq (Jt (vs:= [_,_]) Un46 O JW O (Ji (Jn)) O O) (Lq (Jh (o':=0) Un52 O KW O O) ?_))))))))))))
 refine Lq (Jh (o':=0) Un49 O JW O O) (Lq (Jt (vs:= [_,_]) Un46 O JW O Jn O O) (Lq (Qo O O (eq46 _ _ _ _)) (Lq (Jb O) (J4 (t:=12) O (fun g12=> ?_) (fun g12=> ?_)))))
 ·refine Lg O O O g12 (Jh (o':=0) Un52 O KW O O) (Lg O O O g12 (Jh (o':=0) Un49 O JW O O) (Lg O O O g12 (Jt (vs:= [_,_]) Un46 O JW O (Ji (Jn)) O O) (Lg O O O g12 (JZ .nil (bd25Xw1)) (Lg O O O g12 (Yq O O (eq46 _ _ _ _)) (Lq (JP O g12 O) (Lq (Jd O) (Je (Jf (JF [(4,_)] (.m1 O) (Jo ?_))))))))))
  refine ⟨_,[],[],fun Z w hs=> .tmp O .nil,?_,fun Z w hs=>hs.out (Sd (Sd (Sr))) (fun _ h=>h)⟩
  try simp only [Bp,Bq] at *
  exact ⟨congrArg Value.bool (by first | exact (decide_eq_true (by omega)).symm | exact (decide_eq_false (by omega)).symm | exact decide_eq_decide.2 (by omega) | (rw [Bool.eq_iff_iff];simp;omega) | (rw [Bool.eq_iff_iff];simp;done)),O,O⟩
 ·refine Ln O O O g12 (Ln O O O g12 (Ln O O O g12 (Ln O O O g12 (Ln O O O g12 (Lq (JH O g12 O) (Lq (Jd O) (Je (Jf (JF [(4,_)] (.m1 O) (Jo ?_))))))))))
  refine ⟨_,[],[],fun Z w hs=> .tmp O .nil,?_,fun Z w hs=>hs.out (Sd (Sd (Sr))) (fun _ h=>h)⟩
  try simp only [Bp,Bq] at *
  exact ⟨congrArg Value.bool (by first | exact (decide_eq_true (by omega)).symm | exact (decide_eq_false (by omega)).symm | exact decide_eq_decide.2 (by omega) | (rw [Bool.eq_iff_iff];simp;omega) | (rw [Bool.eq_iff_iff];simp;done)),O,O⟩
set_option maxRecDepth 10000 in
theorem YY (o:GOp) (A:Option Addr) (c:Nat) (hl:o.rs.length≤4398046511104):Sp Tryz.prog 91 [opV o A c] [] [RdF rgD A c o.rs] (fun v Lo fs=> ∃A' c',v=opV o A' c'∧Lo= [] ∧fs= [RdF rgD A' c' o.rs]):=by
 refine Sp.of (n:=8) ⟨_,Tryz.func91,O,O,O,O⟩ (Nat.le_of_ble_eq_true O) fun Ps As=>Jc (Ja (Jg O (J9 (cs:= [_,_,_,_,_,_,_,_,_]) O O (by decide) fun b1=>Jg O (Ju (cs:= [_,_,_,_,_,_,_,_,_]) JD O (by decide) fun b2=>Je (Jf (Jc (Ja (Lq (Jh (o':=5) Un52 O Ya O O) (Lq (Jj Un50 O O (Ji (Jn)) O) (VY (Jg O (YD (e:=rgD) (ys:=o.rs) Un50 KZ O (by decide) O O (Row.nil _ _) Mm0 (by simp only [Nat.zero_add];omega) (by unfold maxLen;omega) (by decide) (List.Perm.refl _) fun v5 p5 cs5 hr5=>Ec (e:=rgD) (css:=cs5) hr5 .z (by simp) Mm0 fun A5 c5 e5=> ?_))))))))))))
 subst e5
 refine Lq (Jh (o':=5) Un52 O Ya O O) (Jg O (JJ Ya O O O .z5 .z1 (Je (Jf (Jc (Ja (Lq (Jt (vs:= [_,_,_,_,_,_,_,_,_]) Un52 O JD O (Ji (Jn)) O O) (Jg O (Jq (cs':= [_,_,_,_,_,_,_,_,_]) (vs:= [_,_,_,_,_,_,_,_,_]) JD O O O O O (Nat.le_of_ble_eq_true O) .z (Je (Jf (Jo ?_))))))))))))
 refine ⟨_,[],[RdF rgD A5 c5 o.rs],fun Z w hs=>JV hs Un52 O JD O Jn O .nil,?_,fun Z w hs=>hs.out (Sd (Sd (Sr))) (Jl Mm0 Tt2)⟩
 exact ⟨A5,c5,O,O,O⟩
set_option maxRecDepth 10000 in
theorem add_1 (v:Value) (xs:List Rg) (p:Part) (lo hi:Int) (hr:Row 74 2 v xs.length (rgs xs) p) (h:hi≤lo):Sp Tryz.prog 158 [v, .int .i64 lo, .int .i64 hi] [p] [] (fun v' Lo fs=> ∃p',Row 74 2 v' (addF xs lo hi).length (rgs (addF xs lo hi)) p'∧Lo= [p'] ∧fs= []):=by
 refine Sp.of (n:=46) ⟨_,Tryz.func158,O,O,O,O⟩ (Nat.le_of_ble_eq_true O) fun Ps As=>Jc (Ja (Lq (Jd O) (Je (Jf (Jc (Jc (Ja (Lq (Jb O) (Lq (Jb O) (Lq (Yz O O) (Je (Jf (J1 O (by simpa using h) (Jc (Ja ?_)))))))))))))))
 refine Lq (Jb O) (Lq (Jd O) (Je (Jf (Jo (Js ?_)))))
 refine ⟨_,[p],[],fun Z w hs=> .tmp O .nil,?_,fun Z w hs=>hs.out (Sk (Sr)) (fun _ h=>h)⟩
 exact ⟨p,by rw [Eb h];exact hr,O,O⟩
theorem bd37_0_1Xw3 (x0_:Int) (x1_:Int) (w:World):(Instr.build 74 #[(0, .int .i64 x0_),(1, .int .i64 x1_)]).run Tryz.prog w= .ok (.agg #[.int .i64 x0_, .int .i64 x1_]) w:=by kernel_rfl
set_option maxRecDepth 10000 in
theorem add_2 (v:Value) (p:Part) (lo hi:Int) (hr:Row 74 2 v 0 (rgs []) p) (h: ¬hi≤lo):Sp Tryz.prog 158 [v, .int .i64 lo, .int .i64 hi] [p] [] (fun v' Lo fs=> ∃p',Row 74 2 v' (addF [] lo hi).length (rgs (addF [] lo hi)) p'∧Lo= [p'] ∧fs= []):=by
 obtain ⟨A,cap,rfl⟩:=hr.slice
 refine Sp.of (n:=46) ⟨_,Tryz.func158,O,O,O,O⟩ (Nat.le_of_ble_eq_true O) fun Ps As=>Jc (Ja (Lq (Jd O) (Je (Jf (Jc (Jc (Ja (Lq (Jb O) (Lq (Jb O) (Lq (Yz O O) (Je (Jf (Jv O (by simpa using h) (Jp (Jf (Jc (Jc (Ja ?_))))))))))))))))))
 refine Lq (Jb O) (Lq (J3 Un50 O) (Lq (Jd O) (Je (Jf (Jc (Ja (Lq (Jb O) (Lq (Kl O O) (Lq (Jb O) (Ln O O O (by simp) (Ln O O O (by simp) (Ln O O O (by simp) ?_))))))))))))
 refine Ln O O O (by simp) (Ln O O O (by simp) (Ln O O O (by simp) (Ln O O O (by simp) (Ln O O O (by simp) (Lq (JH O (by simp) O) (Je (Jf (JF [(25,_),(7,_),(6,_),(0,_),(1,_),(2,_)] (.m6 O O O O O O) (Jv O O (Jp (Jf (Jc (Ja (Lq (Jb O) ?_))))))))))))))
 refine Lq (Jb O) (Lq (Jb O) (Lq (JZ (.n2 O O) (bd37_0_1Xw3 _ _)) (Jg O (KF (cs:= [_,_]) Un50 KZ (by decide) (by decide) O O O O (by decide) fun b44=>Jg O (KH (news:= [_,_]) Un50 KZ O (by decide) O O hr Jn O O (by omega) (by unfold maxLen;omega) (by decide) (DelAt.perm .z1) fun v45 p45 hr45=>Lq (Jd O) (Je (Jf (Jo ?_))))))))
 refine ⟨_,[p45],[],fun Z w hs=> .tmp O .nil,?_,fun Z w hs=>hs.out (Sk (Sd (Sr))) (fun _ h=>h)⟩
 exact ⟨p45,by rw [GG h,QU];exact hr45,O,O⟩
set_option maxRecDepth 10000 in
theorem add_3 (v:Value) (ys:List Rg) (r:Rg) (p:Part) (lo hi:Int) (hr:Row 74 2 v (ys++ [r]).length (rgs (ys++ [r])) p) (hb:ys.length≤1000000) (h: ¬hi≤lo) (hj:lo≤r.hi):Sp Tryz.prog 158 [v, .int .i64 lo, .int .i64 hi] [p] [] (fun v' Lo fs=> ∃p',Row 74 2 v' (addF (ys++ [r]) lo hi).length (rgs (addF (ys++ [r]) lo hi)) p'∧Lo= [p'] ∧fs= []):=by
 have hn:(ys++ [r]).length=ys.length+1:=by simp
 obtain ⟨hlen,⟨_,h0,_⟩ | ⟨b,cap,jk,rfl,rfl,h1,h2,h3⟩⟩:=hr
 ·omega
 have hcs:(rgs (ys++ [r])++jk).length=((ys++ [r]).length)*2+jk.length:=by rw [List.length_append,hlen]
 have hix:((((ys++ [r]).length:Nat):Int)-1).toNat=ys.length:=by omega
 refine Sp.of (n:=46) ⟨_,Tryz.func158,O,O,O,O⟩ (Nat.le_of_ble_eq_true O) fun Ps As=>Jc (Ja (Lq (Jd O) (Je (Jf (Jc (Jc (Ja (Lq (Jb O) (Lq (Jb O) (Lq (Yz O O) (Je (Jf (Jv O (by simpa using h) (Jp (Jf (Jc (Jc (Ja ?_))))))))))))))))))
 refine Lq (Jb O) (Lq (J3 Un50 O) (Lq (Jd O) (Je (Jf (Jc (Ja (Lq (Jb O) (Lq (Kl O O) (Lq (Jb O) (Lg O O O (by simp) (Jb O) (Lg O O O (by simp) (Jb O) (Lg O O O (by simp) (KP O O (wr64 (by omega))) ?_))))))))))))
 refine Lg O O O (by simp) (Yb Un50 KZ O O (by omega) (by omega)) (Lg O O O (by simp) (Jh (o':=_+1) Un74 O ti3 O O) (Lg O O O (by simp) (Jj Un3 O O Jn (by rw [hix];exact rgs_last ys r jk)) (Lg O O O (by simp) (Jb O) (Lg O O O (by simp) (Yz O O) (Lq (JP O (by simp) O) (Je (Jf (JF [(25,_),(7,_),(6,_),(0,_),(1,_),(2,_)] (.m6 O O O O O O) (J1 O (by simpa using hj) (Jc (Ja ?_)))))))))))
 refine Lq (Jb O) (Lq (Jb O) (Lq (KP O O (wr64 (by omega))) (Lq (Jb O) (Lq (Jb O) (Lq (KP O O (wr64 (by omega))) (Lq (Yb Un50 KZ O O (by omega) (by omega)) (Lq (Jh (o':=_+1) Un74 O ti3 O O) (Lq (Jj Un3 O O Jn (by rw [hix];exact rgs_last ys r jk)) (Lq (Jb O) ?_)))))))))
 refine Lq (VR O O) (Lq (Yb Un50 KZ O O (by omega) (by omega)) (Lq (Jh (o':=_+1) Un74 O ti3 O O) (Jg O (K2 ti3 O O O (by rw [hcs,hix];omega) .z (Je (Jf (JF [(6,_),(0,_),(1,_),(2,_)] (.m4 O O O O) (Jc (Ja (Lq (Jb O) (Lq (Jd O) (Je (Jf (Jo (Js ?_)))))))))))))))
 refine ⟨_,[_],[],fun Z w hs=> .tmp O .nil,?_,fun Z w hs=>hs.out (Sk (Sr)) (fun _ h=>h)⟩
 refine ⟨_,?_,O,O⟩
 rw [Xo h hj,hix,HI,show (ys++ [r]).length=(ys++ [(⟨r.lo,max r.hi hi⟩:Rg)]).length from by simp]
 refine ⟨Yx _, .inr ⟨b,cap,jk,O,O,?_,by simpa using h2,h3⟩⟩
 rw [List.length_append,Yx] at h1 ⊢
 simpa using h1
set_option maxRecDepth 10000 in
theorem add_4 (v:Value) (ys:List Rg) (r:Rg) (p:Part) (lo hi:Int) (hr:Row 74 2 v (ys++ [r]).length (rgs (ys++ [r])) p) (hb:ys.length≤1000000) (h: ¬hi≤lo) (hj: ¬lo≤r.hi):Sp Tryz.prog 158 [v, .int .i64 lo, .int .i64 hi] [p] [] (fun v' Lo fs=> ∃p',Row 74 2 v' (addF (ys++ [r]) lo hi).length (rgs (addF (ys++ [r]) lo hi)) p'∧Lo= [p'] ∧fs= []):=by
 have hr0:=hr
 have hn:(ys++ [r]).length=ys.length+1:=by simp
 obtain ⟨hlen,⟨_,h0,_⟩ | ⟨b,cap,jk,rfl,rfl,h1,h2,h3⟩⟩:=hr
 ·omega
 have hcs:(rgs (ys++ [r])++jk).length=((ys++ [r]).length)*2+jk.length:=by rw [List.length_append,hlen]
 have hix:((((ys++ [r]).length:Nat):Int)-1).toNat=ys.length:=by omega
 refine Sp.of (n:=46) ⟨_,Tryz.func158,O,O,O,O⟩ (Nat.le_of_ble_eq_true O) fun Ps As=>Jc (Ja (Lq (Jd O) (Je (Jf (Jc (Jc (Ja (Lq (Jb O) (Lq (Jb O) (Lq (Yz O O) (Je (Jf (Jv O (by simpa using h) (Jp (Jf (Jc (Jc (Ja ?_))))))))))))))))))
 refine Lq (Jb O) (Lq (J3 Un50 O) (Lq (Jd O) (Je (Jf (Jc (Ja (Lq (Jb O) (Lq (Kl O O) (Lq (Jb O) (Lg O O O (by simp) (Jb O) (Lg O O O (by simp) (Jb O) (Lg O O O (by simp) (KP O O (wr64 (by omega))) ?_))))))))))))
 refine Lg O O O (by simp) (Yb Un50 KZ O O (by omega) (by omega)) (Lg O O O (by simp) (Jh (o':=_+1) Un74 O ti3 O O) (Lg O O O (by simp) (Jj Un3 O O Jn (by rw [hix];exact rgs_last ys r jk)) (Lg O O O (by simp) (Jb O) (Lg O O O (by simp) (Yz O O) (Lq (JP O (by simp) O) (Je (Jf (JF [(25,_),(7,_),(6,_),(0,_),(1,_),(2,_)] (.m6 O O O O O O) (Jv O (by simpa using hj) (Jp (Jf (Jc (Ja ?_)))))))))))))
 refine Lq (Jb O) (Lq (Jb O) (Lq (Jb O) (Lq (JZ (.n2 O O) (bd37_0_1Xw3 _ _)) (Jg O (KF (cs:= [_,_]) Un50 KZ (by decide) (by decide) O O O O (by decide) fun b44=>Jg O (KH (news:= [_,_]) Un50 KZ O (by decide) O O hr0 Jn O O (by omega) (by unfold maxLen;omega) (by decide) (DelAt.perm .z1) fun v45 p45 hr45=>Lq (Jd O) (Je (Jf (Jo ?_)))))))))
 refine ⟨_,[p45],[],fun Z w hs=> .tmp O .nil,?_,fun Z w hs=>hs.out (Sk (Sd (Sr))) (fun _ h=>h)⟩
 exact ⟨p45,by rw [Xn h hj,Qn (ys++ [r]),QU,List.length_append];exact hr45,O,O⟩
theorem Ea (v:Value) (xs:List Rg) (p:Part) (lo hi:Int) (hr:Row 74 2 v xs.length (rgs xs) p) (hb:xs.length≤1000000):Sp Tryz.prog 158 [v, .int .i64 lo, .int .i64 hi] [p] [] (fun v' Lo fs=> ∃p',Row 74 2 v' (addF xs lo hi).length (rgs (addF xs lo hi)) p'∧Lo= [p'] ∧fs= []):=by
 by_cases h:hi≤lo
 ·exact add_1 v xs p lo hi hr h
 ·rcases List.eq_nil_or_concat xs with rfl | ⟨ys,r,rfl⟩
  ·exact add_2 v p lo hi hr h
  ·rw [List.concat_eq_append] at *
   have hb':ys.length≤1000000:=by simp at hb;omega
   by_cases hj:lo≤r.hi
   ·exact add_3 v ys r p lo hi hr hb' h hj
   ·exact add_4 v ys r p lo hi hr hb' h hj
theorem bounded_1 (A:Option Addr) (c:Nat) (xs:List Rg) (h:xs.length>32768):Sp Tryz.prog 159 [.slice A xs.length c] [] [] (Is (.tuple #[.slice none 0 0, .int .i64 21])):=by
 have:=G8 A c xs
 unfold bndV at this
 rwa [if_pos h] at this
theorem bounded_2 (A:Option Addr) (c:Nat) (xs:List Rg) (h: ¬xs.length>32768):Sp Tryz.prog 159 [.slice A xs.length c] [] [] (Is (.tuple #[.slice A xs.length c, .int .i64 0])):=by
 have:=G8 A c xs
 unfold bndV at this
 rwa [if_neg h] at this
set_option maxRecDepth 10000 in
theorem XW (A:Option Addr) (c:Nat) (xs:List Rg) (hl:xs.length≤4398046511104):Sp Tryz.prog 141 [.slice A xs.length c] [] [RdF rgD A c xs] (Is (.tuple #[.int .i64 (ckF xs).1, .int .i64 (ckF xs).2])):=by
 refine Sp.of (n:=47) ⟨_,Tryz.func141,O,O,O,O⟩ (Nat.le_of_ble_eq_true O) fun Ps As=>Jc (Ja (Lq (Jd O) (Lq (Jd O) (Je (Jf (Jc (Jc (Ja (Lq (Jb O) (Lq (J3 Un50 O) (Lq (Kl O O) (Je (Jf (Jy O (fun h8=> ?_) (fun h8=> ?_)))))))))))))))
 ·refine Jc (Ja (Lq (Jd O) (Lq (Jd O) (Je (Jf (Jo (Js ?_)))))))
  refine ⟨_,[],[],fun Z w hs=> .tmp O (.tmp O .nil),?_,fun Z w hs=>hs.out (Sr) (fun _ h=>h)⟩
  try simp only [Bp,Bq] at *
  exact ⟨by unfold ckF;rw [if_pos (by omega)];rfl,O,O⟩
 ·refine Jp (Jf (Jc (Jc (Ja (Lq (Jb O) (Lq (J3 Un50 O) (Lq (Jb O) (Je (Jf (JE ?_))))))))))
  refine Kf (α:=Nat) (fun k=>xs.length-k)
   (fun k=> [(0, .slice A xs.length c),(9, .slice A xs.length c),(10, .int .i64 xs.length),(11, .int .i64 k)])
   (fun k=>Ps)
   (fun k=>(RdF rgD A c xs::As))
   (fun k=>CkI xs k)
   0 ?_ (.m4 rfl rfl rfl rfl) (Sr) (fun _ h=>h) ?_
  ·simp only [decide_eq_false_iff_not] at h8
   exact CkI.zero (by omega)
  ·rintro k hI
   refine Jc (Ja (Lq (Km O O) (Je (Jf (Jc (Jy O (fun h12=> ?_) (fun h12=> ?_)))))))
   ·refine Jp (Jf (Jc (JE (Jc ?_))))
    have hk:k<xs.length:=by simpa using h12
    refine Kd (k:=k) Mm0 (List.getElem?_eq_getElem hk) (rg_open _) fun b5 q5 y5 e5=> ?_
    cases e5
    refine Ja (Lq (Jb O) (Lq (J7 Un50 KZ O O (by omega) (by omega)) (Lq (Kq (k:=0) (vs:= [_,_]) Un74 O KZ O Mm0 O O O) (Jg O (Ju (cs:= [_,_]) KZ O (by decide) fun b5=>Lq (Jd O) (Jg O (Jq (cs':= [_,_]) (vs:= [_,_]) KZ O O O O O (Nat.le_of_ble_eq_true O) .z (Je (Jf (Jc (Jc (Ja (Lq (Jh (o':=0) Un74 O ti3 O O) (Lq (Jj Un3 O O Jn O) ?_))))))))))))))
    refine Lq (Km O O) (Lq (Jb O) (J4 (t:=19) O (fun g19=> ?_) (fun g19=> ?_)))
    ·refine Ln O O O g19 (Ln O O O g19 (Ln O O O g19 (Lq (JP O g19 O) (Lq (Jb O) (Ln O O O O (Ln O O O O (Ln O O O O (Ln O O O O (Ln O O O O ?_)))))))))
     refine Lq (JP O O O) (Je (Jf (J1 O O (Jc (Ja (Lq (Jb O) (Lq (Jd O) (Lq (Jd O) (Je (Jf (Jo (Js (JG (Js (Js (JG (Js ?_)))))))))))))))))
     refine ⟨_,[],[],fun Z w hs=> .tmp O (.tmp O .nil),?_,fun Z w hs=>hs.out (Sd (Sr)) Tt1⟩
     try simp only [Bp,Bq] at *
     first
      | (have hF:=CkI.bad hI hk (by omega);exact ⟨by rw [hF];rfl,rfl,rfl⟩)
      | (have hF:=CkI.ord hI hk (by omega) (by omega);exact ⟨by rw [hF];rfl,rfl,rfl⟩)
      | (have hF:=CkI.done hI (by omega);exact ⟨by rw [hF];rfl,rfl,rfl⟩)
    ·refine Lg O O O g19 (Jh (o':=1) Un74 O ti3 O O) (Lg O O O g19 (Jj Un3 O O Jn O) (Lg O O O g19 (Kl O O) (Lq (JH O g19 O) (Lq (Jb O) (J4 (t:=24) O (fun g24=> ?_) (fun g24=> ?_))))))
     ·refine Ln O O O g24 (Ln O O O g24 (Ln O O O g24 (Ln O O O g24 (Ln O O O g24 (Lq (JP O g24 O) (Je (Jf (J1 O O (Jc (Ja (Lq (Jb O) (Lq (Jd O) (Lq (Jd O) ?_)))))))))))))
      refine Je (Jf (Jo (Js (JG (Js (Js (JG (Js ?_))))))))
      refine ⟨_,[],[],fun Z w hs=> .tmp O (.tmp O .nil),?_,fun Z w hs=>hs.out (Sd (Sr)) Tt1⟩
      try simp only [Bp,Bq] at *
      first
       | (have hF:=CkI.bad hI hk (by omega);exact ⟨by rw [hF];rfl,rfl,rfl⟩)
       | (have hF:=CkI.ord hI hk (by omega) (by omega);exact ⟨by rw [hF];rfl,rfl,rfl⟩)
       | (have hF:=CkI.done hI (by omega);exact ⟨by rw [hF];rfl,rfl,rfl⟩)
     ·refine Lg O O O g24 (Jh (o':=0) Un74 O ti3 O O) (Lg O O O g24 (Jj Un3 O O Jn O) (Lg O O O g24 (Jh (o':=1) Un74 O ti3 O O) (Lg O O O g24 (Jj Un3 O O Jn O) (Lg O O O g24 (Yz O O) (Lq (JH O g24 O) (Je (Jf (Jy O (fun h30=> ?_) (fun h30=> ?_)))))))))
      ·refine Jc (Ja (Lq (Jb O) (Lq (Jd O) (Lq (Jd O) (Je (Jf (Jo (Js (JG (Js (Js (JG (Js ?_)))))))))))))
       refine ⟨_,[],[],fun Z w hs=> .tmp O (.tmp O .nil),?_,fun Z w hs=>hs.out (Sd (Sr)) Tt1⟩
       try simp only [Bp,Bq] at *
       first
        | (have hF:=CkI.bad hI hk (by omega);exact ⟨by rw [hF];rfl,rfl,rfl⟩)
        | (have hF:=CkI.ord hI hk (by omega) (by omega);exact ⟨by rw [hF];rfl,rfl,rfl⟩)
        | (have hF:=CkI.done hI (by omega);exact ⟨by rw [hF];rfl,rfl,rfl⟩)
      ·refine Jp (Jf (Jc ?_))
       rcases k with _ | k
       ·refine JI _ _ [] (.c 0 0 (.c 1 0 (.c 2 0 (.c 3 0 (.c 4 0 (.c 5 0 (.c 6 0 (.c 7 0 (.c 8 0 (.c 9 0 (.c 10 0 (.c 11 0 (.c 12 0 .nil))))))))))))) mixed (fun _ _ _ _ h=>h) (Sk (Sr)) (fun _ h=>h) (by kernel_rfl) (by decide) fun ws Z0=>Qe O (Jb O) (Qe O (Kl O O) (Qe O (Jb O) (Kr O O O O (by simp) (by decide) (Kr O O O O (by simp) (by decide) (Kr O O O O (by simp) (by decide) (Kr O O O O (by simp) (by decide) (Kr O O O O (by simp) (by decide) (Kr O O O O (by simp) (by decide) ?_))))))))
        refine Kr O O O O (by simp) (by decide) (Kr O O O O (by simp) (by decide) (Kr O O O O (by simp) (by decide) (Qe O (JH O (by simp) O) (JN (JM (Jf (Jv O O (Jp (Ka (Jf (Ja (Lq (JU O O (wr64 (by omega))) (Lq (Jb O) (Je (Kp ?_)))))))))))))))
        refine ⟨0+1,?_,(.m4 O O O O),(Sd (Sr)),Tt2⟩
        try simp only [Bp,Bq] at *
        exact ⟨by omega,by first | exact CkI.first hI hk (by omega) | exact CkI.next hI hk (by omega) (by omega)⟩
       ·refine Kd (k:=k) Mm1 (List.getElem?_eq_getElem (by omega:k<xs.length)) (rg_open _) fun b7 q7 y7 e7=> ?_
        cases e7
        refine JI _ _ [] (.c 0 0 (.c 1 0 (.c 2 0 (.c 3 0 (.c 4 0 (.c 5 0 (.c 6 0 (.c 7 0 (.c 8 0 (.c 9 0 (.c 10 0 (.c 11 0 (.c 12 0 .nil))))))))))))) mixed (fun _ _ _ _ h=>h) (Sk (Sr)) (fun _ h=>h) (by kernel_rfl) (by decide) fun ws Z0=>Qe O (Jb O) (Qe O (Kl O O) (Qe O (Jb O) (Ki O O O O (by first | (simp;done) | (simp;omega)) (Jh (o':=0) Un74 O ti3 O O) (by decide) (Ki O O O O (by first | (simp;done) | (simp;omega)) (Jj Un3 O O Jn O) (by decide) (Ki O O O O (by first | (simp;done) | (simp;omega)) (Jb O) (by decide) (Ki O O O O (by first | (simp;done) | (simp;omega)) (Jb O) (by decide) ?_))))))
        refine Ki O O O O (by first | (simp;done) | (simp;omega)) (KP O O (by rw [wr64 (by omega)];omega) (c:=(k:Int))) (by decide) (Ki O O O O (by first | (simp;done) | (simp;omega)) (J7 Un50 KZ O O (by omega) (by omega)) (by decide) (Ki O O O O (by first | (simp;done) | (simp;omega)) (Jh (o':=_+1) Un74 O ti3 O O) (by decide) (Ki O O O O (by first | (simp;done) | (simp;omega)) (Kb (j:=1) Un3 O O Mm0 O O) (by decide) (Ki O O O O (by first | (simp;done) | (simp;omega)) (YW O O) (by decide) (Qe O (JP O (by first | (simp;done) | (simp;omega)) O) (JN (JM (Jf (Jy O (fun h44=> ?_) (fun h44=> ?_))))))))))
        ·refine Jc (Ja (Lq (Jb O) (Lq (Jd O) (Lq (Jd O) (Je (Jf (Jo (JG (Js (Js (JG (Js ?_))))))))))))
         refine ⟨_,[],[],fun Z w hs=> .tmp O (.tmp O .nil),?_,fun Z w hs=>hs.out (Sd (Sr)) Tt3⟩
         try simp only [Bp,Bq] at *
         first
          | (have hF:=CkI.bad hI hk (by omega);exact ⟨by rw [hF];rfl,rfl,rfl⟩)
          | (have hF:=CkI.ord hI hk (by omega) (by omega);exact ⟨by rw [hF];rfl,rfl,rfl⟩)
          | (have hF:=CkI.done hI (by omega);exact ⟨by rw [hF];rfl,rfl,rfl⟩)
        ·refine Jp (Ka (Jf (Ja (Lq (JU O O (wr64 (by omega))) (Lq (Jb O) (Je (Kp ?_)))))))
         refine ⟨(k+1)+1,?_,(.m4 O O O O),(Sd (Sr)),Tt3⟩
         try simp only [Bp,Bq] at *
         exact ⟨by omega,by first | exact CkI.first hI hk (by omega) | exact CkI.next hI hk (by omega) (by omega)⟩
   ·refine Kk (JL (JL (Kc (Jf (Jc (Ja (Lq (Jd O) (Lq (Jd O) (Je (Jf (Jo ?_)))))))))))
    refine ⟨_,[],[],fun Z w hs=> .tmp O (.tmp O .nil),?_,fun Z w hs=>hs.out (Sr) (fun _ h=>h)⟩
    try simp only [Bp,Bq] at *
    first
     | (have hF:=CkI.bad hI hk (by omega);exact ⟨by rw [hF];rfl,rfl,rfl⟩)
     | (have hF:=CkI.ord hI hk (by omega) (by omega);exact ⟨by rw [hF];rfl,rfl,rfl⟩)
     | (have hF:=CkI.done hI (by omega);exact ⟨by rw [hF];rfl,rfl,rfl⟩)
end Go.Proofs.YtgedhdmpiciikaaGreatDoor
