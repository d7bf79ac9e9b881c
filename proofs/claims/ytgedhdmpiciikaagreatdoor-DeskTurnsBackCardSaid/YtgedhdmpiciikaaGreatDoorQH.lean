/- Part of the proof that this claim's law answers true, whatever its arguments. Condition: the laid variables hold what their initialisers lay (the card ties that to the program's text). -/
import Derived.WalkKit
import Derived.ProofKit
import Derived.OpenShut
import Derived.Deep.DeepHandedRow
import Derived.Lib.LaidTab
import Derived.LaidHandle
import Derived.Test.YtgedhdmpiciikaaGreatDoorCards
import Derived.WideKeyArgs
import Derived.Laws.BitsLemmas
import Derived.Lib.DecodeN
import Derived.Laws.Cover4
import Derived.Laws.IdiomStrings
import Derived.Test.YtgedhdmpiciikaaGreatDoorQG
set_option linter.unusedVariables false
set_option linter.unusedSimpArgs false
open Go.Proofs.Tryz renaming underlying1→Un1,underlying3→Un3,underlying4→Un4,underlying9→Un9,underlying20→Un20,underlying21→Un21,underlying22→Un22,underlying24→Un24,underlying25→Un25,underlying29→Un29,underlying30→Un30,underlying33→Un33,underlying34→Un34,underlying36→Un36,underlying38→Un38,underlying39→Un39,underlying40→Un40,underlying42→Un42,underlying43→Un43,underlying46→Un46,underlying47→Un47,underlying49→Un49,underlying50→Un50,underlying52→Un52,underlying54→Un54,underlying62→Un62,underlying67→Un67,underlying71→Un71,underlying74→Un74,underlying78→Un78,underlying93→Un93,underlying98→Un98,underlying116→Un116,underlying118→Un118,underlying121→Un121,underlying141→Un141,underlying143→Un143,underlying145→Un145,underlying149→Un149,underlying152→Un152,underlying154→Un154,underlying156→Un156,underlying157→Un157,underlying159→Un159,underlying160→Un160,underlying162→Un162,underlying167→Un167,underlying168→Un168,underlying170→Un170,underlying178→Un178,underlying188→Un188,underlying191→Un191,underlying195→Un195,underlying196→Un196,underlying198→Un198,underlying201→Un201,underlying213→Un213,underlying219→Un219
namespace Go.Proofs.YtgedhdmpiciikaaGreatDoor
open Go Go.GW
theorem KG (H:Hist):H.ops.length=H.ents.length:=by unfold Hist.ops;rw [List.length_map]
theorem drop_ops (H:Hist):H.ops.drop H.ents.length= [] :=List.drop_of_length_le (by rw [KG];exact Nat.le_refl _)
theorem Zw (xs:List GOp):zipE xs [] = [] :=by cases xs<;>rfl
theorem newEnts_end {H:Hist} {o:GOp} {nw:List Rg} {es:List Ent} {later:List GOp} (h:es.length=H.ents.length):newEnts H.ents.length o nw es later=es++ [⟨o,nw,false⟩] :=by
 unfold newEnts
 rw [List.take_of_length_le (by omega),List.drop_of_length_le (by omega),Zw]
theorem end_ins {H:Hist} (hv:HV H) {o:GOp} (g:Good H H.ents.length o) (hk:o.kind=1):(putF H H.ents.length o).2.1= { effF o with at_:=o.at_,text:=o.text } ∧(putF H H.ents.length o).1.ents=H.ents.map (shiftE o.at_ (Jx o))++ [⟨o,[⟨o.at_,o.at_+Jx o⟩],false⟩] :=by
 obtain ⟨es,nw,eff,p⟩:=put_good hv g
 have h1:=p.ins hk
 rw [drop_ops] at h1
 have hp:=p.put
 rw [hp]
 refine ⟨h1.2.2,?_⟩
 show newEnts _ _ _ _ _=_
 rw [newEnts_end (p.len g),h1.1,h1.2.1]
 rfl
theorem end_hide {H:Hist} (hv:HV H) {o:GOp} (g:Good H H.ents.length o) (hk:o.kind=2):(putF H H.ents.length o).2.1= { effF o with rs:=o.rs } ∧(putF H H.ents.length o).1.ents=H.ents++ [⟨o,o.rs,false⟩] :=by
 obtain ⟨es,nw,eff,p⟩:=put_good hv g
 have h1:=p.hide hk
 rw [drop_ops] at h1
 have hp:=p.put
 rw [hp]
 refine ⟨h1.2.2,?_⟩
 show newEnts _ _ _ _ _=_
 rw [newEnts_end (p.len g),h1.1,h1.2.1]
 rfl
theorem end_stat {H:Hist} (hv:HV H) {o:GOp} (g:Good H H.ents.length o) (hk:o.kind=4) {k:Nat} (hkl:k<H.ents.length) (hw:JX H.ents o.tc o.tn=some k) (hoff:H.ents[k].off=o.on):
  (putF H H.ents.length o).2.1=turnF H.ents[k] o.on∧(putF H H.ents.length o).1.ents=H.ents.set k (offE H.ents[k] (!o.on))++ [⟨o,[],false⟩] :=by
 obtain ⟨es,nw,eff,p⟩:=put_good hv g
 have h1:=p.status hk
 have htd:turnedF H H.ents.length o=(H.ents.set k (offE H.ents[k] (!o.on)),turnF H.ents[k] o.on):=by
  unfold turnedF
  rw [List.drop_of_length_le (Nat.le_refl _),hw]
  have e:(H.ents[k].off= !o.on)=False:=by rw [hoff];cases o.on<;>simp
  simp only [Yg,List.any_nil,Bool.false_eq_true,if_false,List.getElem?_eq_getElem hkl,e]
 rw [htd] at h1
 have hp:=p.put
 rw [hp]
 refine ⟨h1.2.2,?_⟩
 show newEnts _ _ _ _ _=_
 rw [newEnts_end (p.len g),h1.1,h1.2.1]
theorem put_total {H:Hist} (hv:HV H) {i:Nat} {o:GOp} (g:Good H i o):(putF H i o).1.total=H.total+Jx o:=by
 obtain ⟨es,nw,eff,p⟩:=put_good hv g
 rw [p.put]
theorem Good.mkd {D:DS} {o:GOp} (hdi:DI D.H.ops.length D.H D.X) (g:Good D.H D.H.ops.length o) (hn:D.H.ops.length<900):MkD D o:=by
 obtain ⟨H2,eff,T⟩:=hdi.take g
 have e1:mkH D o=H2:=by unfold mkH;rw [T.put]
 have e2:mkE D o=eff:=by unfold mkE;rw [T.put]
 have hd:=T.next hn
 have h0:=hdi.row
 have h1:=hd.row
 have h2:=put_total hdi.hv g
 have e3:(putF D.H (D.H.ops.length:Nat) o).1=H2:=e1
 rw [e3] at h2
 have hw:=g.right.width
 have ho:=hdi.ops g
 rw [e3,List.take_length,List.drop_length,G6] at ho
 exact ⟨by rw [e1,e2];exact T,by rw [e1,ho];rfl,by rw [e2];omega,by rw [e1,e2];exact hd⟩
theorem Good.tad {D:DS} {o:GOp} (hdi:DI D.H.ops.length D.H D.X) (g:Good D.H D.got o) (hn:D.H.ops.length<900):TaD D o:=by
 obtain ⟨H2,eff,T⟩:=hdi.take g
 have e1:(putF D.H D.got o).1=H2:=by rw [T.put]
 have e2:(putF D.H D.got o).2.1=eff:=by rw [T.put]
 have hd:=T.next hn
 have h0:=hdi.row
 have h1:=hd.row
 have h2:=put_total hdi.hv g
 rw [e1] at h2
 have hw:=g.right.width
 refine ⟨by rw [e1,e2];exact T,by rw [e1,KG,T.len],by rw [e2];omega,fun hk=> ?_,⟨hw.1,hw.2.1⟩,by rw [e1,e2];exact hd⟩
 obtain ⟨es,nw,eff',p⟩:=put_good hdi.hv g
 have hp:=p.put
 rw [hp] at hk ⊢
 show Jx eff'=Jx o
 have hk':eff'.kind=1:=hk
 rcases g.right.kind with h | h | h
 ·rw [(p.ins h).2.2]
  unfold Jx effF
  simp only [h]
 ·rw [(p.hide h).2.2] at hk'
  exfalso
  have:o.kind=1:=hk'
  omega
 ·rw [(p.status h).2.2] at hk'
  exfalso
  rcases turned_cases D.H D.got o with e | ⟨k,e,_,_,_,_,h5⟩
  ·rw [e] at hk';exact absurd (show (0:Int)=1 from hk') (by decide)
  ·rw [h5] at hk'
   rcases HC e o.on with h | h
   ·rw [show (turnF e o.on).kind=1 from hk'] at h;exact absurd h (by decide)
   ·rw [show (turnF e o.on).kind=1 from hk'] at h;exact absurd h (by decide)
structure DV (D:DS):Prop where
 us:1≤D.u∧D.u≤8
 own: ∀o∈D.H.ops,o.c=D.u→o.n≤D.made
 sid: ∀x∈D.U++D.R,x.2≤D.made
 pb: ∀x∈D.put,0≤x∧x≤5*D.H.ops.length
 wb: ∀o∈D.H.ops,Jx o≤5
 di:DI D.H.ops.length D.H D.X
 pl:D.put.length=9
theorem HF: ∀ {l:List GOp},(∀o∈l,Jx o≤5)→sumO l≤5*l.length
 | [],_=>by simp [sumO]
 | o::l,h=>by
  have h1:=h o List.mem_cons_self
  have h2:=HF fun x hx=>h x (List.mem_cons_of_mem _ hx)
  simp only [sumO,List.length_cons];omega
theorem DV.total {D:DS} (h:DV D):D.H.total≤5*D.H.ops.length:=by rw [h.di.hv.tot];exact HF h.wb
theorem before_all (H:Hist) (hv:HV H):KQ H H.ops.length=H.total:=by
 rw [before_ops,List.take_length,hv.tot]
theorem DV.fresh {D:DS} (h:DV D):JX D.H.ents D.u ((D.made:Int)+1)=none:=by
 cases hw:JX D.H.ents D.u ((D.made:Int)+1) with
 | none=>rfl
 | some j=>
  obtain ⟨hj,h1,h2⟩:=KD hw
  have:=h.own D.H.ents[j].op (List.mem_map.2 ⟨_,List.getElem_mem hj,rfl⟩) h1
  omega
theorem DV.idr {D:DS} (h:DV D) (hm:D.made<1024):rightF D.u ((D.made:Int)+1)=true:=by
 have:=h.us
 unfold rightF;simp;omega
theorem DV.ins {D:DS} (h:DV D) (hm:D.made<1024) (hn:D.H.ops.length<900) {k:Nat} (hk:k≤D.X.length) {text:ByteArray} (hu:(utF text).2.2=0) (hu1:1≤(utF text).1∧(utF text).1≤256):Good D.H D.H.ops.length (insO D k text):=by
 have ht:=h.total
 have hr:=h.di.row
 have h0:=h.di.tot0
 refine ⟨by rw [KG];exact Nat.le_refl _,⟨?_, .inl rfl⟩,h.fresh,h.idr hm,fun e=>(by cases e),?_⟩
 ·rw [before_all _ h.di.hv]
  exact (check_ins rfl (by omega)).2 ⟨good_head (by show 1≤(1:Int)∧(1:Int)≤4;omega) (h.idr hm) (by simp [extraF,insO,zeroOp]),Yv.2 ⟨hu,hu1,⟨by show 0≤(k:Int);omega,by show (k:Int)≤_;omega⟩,by show D.H.total+(utF text).1≤_;omega⟩⟩
 ·have:Jx (insO D k text)=(utF text).1:=by unfold Jx;rw [if_pos (show (insO D k text).kind=1 from rfl)];rfl
  rw [this];omega
theorem DV.hide {D:DS} (h:DV D) (hm:D.made<1024) (hn:D.H.ops.length<900) {rs:List Rg} (hp:Pls D.X.length rs) (hne:rs≠ []):Good D.H D.H.ops.length (hideO D rs):=by
 have ht:=h.total
 have hr:=h.di.row
 have h0:=h.di.tot0
 rw [hr] at hp
 refine ⟨by rw [KG];exact Nat.le_refl _,⟨?_, .inr (.inl rfl)⟩,h.fresh,h.idr hm,fun e=>(by cases e),?_⟩
 ·rw [before_all _ h.di.hv]
  exact (check_cov (.inl rfl) (by omega)).2 ⟨good_head (by show 1≤(2:Int)∧(2:Int)≤4;omega) (h.idr hm) (by simp [extraF,hideO,zeroOp,emptyB]),(YP (by omega)).2 ⟨hne,hp⟩⟩
 ·have:Jx (hideO D rs)=0:=by unfold Jx;rw [if_neg (show ¬(hideO D rs).kind=1 by show ¬(2:Int)=1;decide)]
  rw [this];omega
theorem DV.stat {D:DS} (h:DV D) (hm:D.made<1024) (hn:D.H.ops.length<900) {i0 i1:Int} {k:Nat} (hw:JX D.H.ents i0 i1=some k) (hk:k<D.H.ents.length) (hk4:D.H.ents[k].op.kind≠4) (on:Bool):Good D.H D.H.ops.length (statO D (i0,i1) on):=by
 have ht:=h.total
 have hr:=h.di.row
 have h0:=h.di.tot0
 have hne: ¬(D.H.ents[k].op.c=D.u∧D.H.ents[k].op.n=(D.made:Int)+1):=K5 h.fresh _ (List.getElem_mem hk)
 obtain ⟨_,g1,g2⟩:=KD hw
 refine ⟨by rw [KG];exact Nat.le_refl _,⟨?_, .inr (.inr O)⟩,h.fresh,h.idr hm,fun _=>⟨k,hw,by rw [KG];exact hk,_,List.getElem?_eq_getElem hk,hk4⟩,?_⟩
 ·rw [before_all _ h.di.hv]
  have hid:=h.di.hv.idr _ (List.getElem_mem hk)
  rw [g1,g2] at hid
  exact (check_st rfl (by omega)).2 ⟨good_head (by show 1≤(4:Int)∧(4:Int)≤4;omega) (h.idr hm) (by simp [extraF,statO,zeroOp,emptyB]),hid,fun e=>hne ⟨g1.trans e.1,g2.trans e.2⟩⟩
 ·have:Jx (statO D (i0,i1) on)=0:=by unfold Jx;rw [if_neg (show ¬(statO D (i0,i1) on).kind=1 by show ¬(4:Int)=1;decide)]
  rw [this];omega
theorem V7: ∀ {b:Int} {xs:List Rg},NormB b xs→ ∀r∈xs,b≤r.lo∧r.lo<r.hi
 | _,[],_,r,hr=>by cases hr
 | b,x::xs,h,r,hr=>by
  rcases List.mem_cons.1 hr with rfl | hr
  ·exact ⟨h.1,h.2.1⟩
  ·have h1:=V7 h.2.2 r hr
   have h2:=h.1
   have h3:=h.2.1
   omega
theorem DV.tud {D:DS} (h:DV D) (hm:D.made<1024) (hn:D.H.ops.length<900) {i0 i1:Int} {k:Nat} (hw:JX D.H.ents i0 i1=some k) (hk:k<D.H.ents.length) (hk4:D.H.ents[k].op.kind≠4) (on:Bool) (hoff:D.H.ents[k].off=on):TuD D i0 i1 on k:=by
 have g:=h.stat hm hn hw hk hk4 on
 have M:=g.mkd h.di hn
 have ho:=KG D.H
 have he:=(end_stat h.di.hv (o:=statO D (i0,i1) on) (by rw [←ho];exact g) rfl hk hw hoff).2
 rw [←ho] at he
 have he2:(mkH D (statO D (i0,i1) on)).ents=D.H.ents.set k (offE D.H.ents[k] (!on))++ [⟨statO D (i0,i1) on,[],false⟩] :=he
 have hj:k<(mkH D (statO D (i0,i1) on)).ents.length:=by rw [he2];simp;omega
 have hek:(mkH D (statO D (i0,i1) on)).ents[k] =offE D.H.ents[k] (!on):=by
  simp only [he2]
  rw [List.getElem_append_left (by simpa using hk),List.getElem_set_self]
 have hrs:(entE ((mkH D (statO D (i0,i1) on)).ents[k])).rs=D.H.ents[k].now:=by
  rw [hek];unfold entE offE;rw [if_neg hk4]
 have hpl:=h.di.hv.pls _ (List.getElem_mem hk)
 have h0:=h.di.tot0
 have hlen:=hpl.len h0.1
 have hml:=M.len
 have hr:=h.di.row
 obtain ⟨_,g1,g2⟩:=KD hw
 refine ⟨M,hj,?_,?_,?_,?_⟩
 ·have:=Yj M.di.hv.ids hj
  rw [hek,show (offE D.H.ents[k] (!on)).op.c=i0 from g1,show (offE D.H.ents[k] (!on)).op.n=i1 from g2] at this
  exact this
 ·rw [hrs];exact fun e=>hk4 ((h.di.hv.edit _ (List.getElem_mem hk)).2 e)
 ·rw [hrs];omega
 ·rw [hrs]
  intro r hr2
  have:=V7 hpl.norm r hr2
  have:=hpl.below r hr2
  omega
structure Acted (D D2:DS):Prop where
 u:D2.u=D.u
 lm:D2.cl=D.cl∧D2.ce=D.ce∧D2.op=D.op
 got:D2.got=D.got
 cm:(D2.H=D.H∧D2.X=D.X∧D2.made=D.made)∨ ∃o,o.c=D.u∧o.n=(D.made:Int)+1∧D2.H.ops=D.H.ops++ [o] ∧D2.made=D.made+1
theorem Acted.rfl' (D:DS):Acted D D:=⟨rfl,⟨rfl,rfl,rfl⟩,rfl, .inl ⟨rfl,rfl,rfl⟩⟩
theorem ET {l:List Int} {b:Int} (h: ∀x∈l,0≤x∧x≤b) (hb:0≤b) (c:Nat):0≤l.getD c 0∧l.getD c 0≤b:=by
 rw [List.getD_eq_getElem?_getD]
 cases hc:l[c]? with
 | none=>exact ⟨Int.le_refl _,hb⟩
 | some x=>exact h x (List.mem_of_getElem? hc)
theorem DV.put_ {D:DS} (h:DV D) (c:Int):0≤putA D c∧putA D c≤5*D.H.ops.length:=ET h.pb (by omega) c.toNat
theorem DV.step {D D2:DS} (h:DV D) {o:GOp} (M:MkD D o) (hc:o.c=D.u) (hn:o.n=(D.made:Int)+1) (hw:0≤Jx o∧Jx o≤5) (hu:D2.u=D.u) (hH:D2.H=mkH D o) (hX:D2.X=JT (mkE D o) D.X) (hm:D2.made=D.made+1) (hp:D2.put=D.put∨D2.put=D.put.set D.u.toNat (putA D D.u+Jx o)) (hs: ∀x∈D2.U++D2.R,x.2≤D2.made):DV D2:=by
 have hl:D2.H.ops.length=D.H.ops.length+1:=by rw [hH,M.ops];simp
 have hpu:=h.put_ D.u
 refine ⟨hu ▸ h.us,fun x hx hxc=> ?_,hs,fun x hx=> ?_,fun x hx=> ?_,?_,?_⟩
 ·rw [hH,M.ops] at hx
  rw [hm]
  rcases List.mem_append.1 hx with hx | hx
  ·have:=h.own x hx (hxc.trans hu);omega
  ·have:=List.mem_singleton.1 hx;subst this;omega
 ·rw [hl]
  rcases hp with hp | hp
  ·rw [hp] at hx
   have:=h.pb x hx;omega
  ·rw [hp] at hx
   rcases List.mem_or_eq_of_mem_set hx with hx | rfl
   ·have:=h.pb x hx;omega
   ·omega
 ·rw [hH,M.ops] at hx
  rcases List.mem_append.1 hx with hx | hx
  ·exact h.wb x hx
  ·have:=List.mem_singleton.1 hx;subst this;exact hw.2
 ·rw [hl,hH,hX];exact M.di
 ·rcases hp with hp | hp
  ·rw [hp];exact h.pl
  ·rw [hp,List.length_set];exact h.pl
theorem DV.turned {D D2:DS} (h:DV D) (hu:D2.u=D.u) (hH:D2.H=D.H) (hX:D2.X=D.X) (hm:D2.made=D.made) (hp:D2.put=D.put) (hs: ∀x∈D2.U++D2.R,x∈D.U++D.R):DV D2:=
 ⟨hu ▸ h.us,by rw [hH,hu,hm];exact h.own,fun x hx=>by rw [hm];exact h.sid x (hs x hx),by rw [hp,hH];exact h.pb,by rw [hH];exact h.wb,by rw [hH,hX];exact h.di,by rw [hp];exact h.pl⟩
theorem VD {ok:Id2→Bool} {U R:List Id2} {x:Id2} (hx:x∈(upF ok U R).2.1∨x∈(upF ok U R).2.2):x∈U∨x∈R:=by
 unfold upF at hx
 cases hp:pickF ok U with
 | none=>rw [hp] at hx;exact hx
 | some kx=>
  obtain ⟨h1,h2⟩:=Y5 (ok:=ok) (l:=U) (k:=kx.1) (x:=kx.2) hp
  rw [hp] at hx
  rcases hx with hx | hx
  ·exact .inl (List.mem_of_mem_eraseIdx hx)
  ·rcases List.mem_append.1 hx with hx | hx
   ·exact .inr hx
   ·have:=List.mem_singleton.1 hx
    subst this
    exact .inl (List.mem_of_getElem? h1)
theorem ZA {ok:Id2→Bool} {U R:List Id2} {x:Id2} (hx:(upF ok U R).1=some x):ok x=true:=by
 unfold upF at hx
 cases hp:pickF ok U with
 | none=>rw [hp] at hx;cases hx
 | some kx=>
  rw [hp] at hx
  have h2:=Y5 (ok:=ok) (l:=U) (k:=kx.1) (x:=kx.2) hp
  obtain rfl:kx.2=x:=Option.some.inj hx
  exact h2.2
theorem stand_true {H:Hist} {on:Bool} {id:Id2} (h:JY H on id=true): ∃k,JX H.ents id.1 id.2=some k∧ ∃hk:k<H.ents.length,H.ents[k].op.kind≠4∧H.ents[k].off= !on:=by
 cases hw:JX H.ents id.1 id.2 with
 | none=>rw [X8 hw] at h;cases h
 | some k=>
  obtain ⟨hk,_,_⟩:=KD hw
  rw [QN hw hk] at h
  simp only [Bool.and_eq_true,decide_eq_true_eq] at h
  refine ⟨k,O,hk,h.1,?_⟩
  have:=h.2
  cases ho:H.ents[k].off<;>cases on<;>simp_all
theorem ins_row {D:DS} (hdi:DI D.H.ops.length D.H D.X) {k:Nat} {text:ByteArray} (g:Good D.H D.H.ops.length (insO D k text)):JT (mkE D (insO D k text)) D.X=D.X.take k++(cellsOf (J2 text) 0++D.X.drop k):=by
 have ho:=KG D.H
 have he:=(end_ins hdi.hv (o:=insO D k text) (by rw [←ho];exact g) rfl).1
 rw [←ho] at he
 have he2:mkE D (insO D k text)= { effF (insO D k text) with at_:=(insO D k text).at_,text:=(insO D k text).text } :=he
 rw [he2]
 unfold JT
 rw [if_pos (show (effF (insO D k text)).kind=1 from rfl)]
 show D.X.take ((k:Int).toNat)++(cellsOf (J2 text) 0++D.X.drop ((k:Int).toNat))=_
 rw [Int.toNat_natCast]
theorem hide_row {D:DS} (hdi:DI D.H.ops.length D.H D.X) {rs:List Rg} (g:Good D.H D.H.ops.length (hideO D rs)):JT (mkE D (hideO D rs)) D.X=Kn rs 1 D.X:=by
 have ho:=KG D.H
 have he:=(end_hide hdi.hv (o:=hideO D rs) (by rw [←ho];exact g) rfl).1
 rw [←ho] at he
 have he2:mkE D (hideO D rs)= { effF (hideO D rs) with rs:=(hideO D rs).rs } :=he
 rw [he2]
 unfold JT
 rw [if_neg (show ¬(effF (hideO D rs)).kind=1 by show ¬(2:Int)=1;decide),if_pos (show (effF (hideO D rs)).kind=2 from rfl)]
 rfl
theorem stat_row {D:DS} (hdi:DI D.H.ops.length D.H D.X) {i0 i1:Int} {on:Bool} (g:Good D.H D.H.ops.length (statO D (i0,i1) on)) {k:Nat} (hk:k<D.H.ents.length) (hw:JX D.H.ents i0 i1=some k) (hoff:D.H.ents[k].off=on):JT (mkE D (statO D (i0,i1) on)) D.X=Kn D.H.ents[k].now (if (decide (D.H.ents[k].op.kind=2)==on)=true then 1 else -1) D.X:=by
 have ho:=KG D.H
 have he:=(end_stat hdi.hv (o:=statO D (i0,i1) on) (by rw [←ho];exact g) rfl hk hw hoff).1
 rw [←ho] at he
 have he2:mkE D (statO D (i0,i1) on)=turnF D.H.ents[k] on:=he
 rw [he2,turn_apply]
theorem Zy {X:List Ce} {p k:Nat} (h:Pth X p k) (rs:List Int):K3 (X.take k++(cellsOf rs 0++X.drop k))=(K3 X).take p++(rs++(K3 X).drop p):=by
 have e:K3 X=K3 (X.take k)++K3 (X.drop k):=by rw [←Yi,List.take_append_drop]
 have hl:(K3 (X.take k)).length=p:=by rw [KI,h.ct]
 rw [Yi,Yi,QM,e,List.take_left' hl,List.drop_left' hl]
theorem Zx {X:List Ce} {p k:Nat} (h:Pth X p k) (rs:List Int):J5 ((X.take k++(cellsOf rs 0++X.drop k)).take (k+rs.length))=p+rs.length:=by
 have hl:(X.take k).length=k:=by rw [List.length_take];have:=h.le;omega
 conv=>lhs;rw [show k+rs.length=(X.take k).length+(cellsOf rs 0).length by rw [hl,Jr]]
 rw [List.take_length_add_append,List.take_left,Ko,h.ct,Ye]
theorem mem_visPf: ∀(X:List Ce) (a q:Int),q∈visPf a X↔a≤q∧ ∃r,X[(q-a).toNat]? =some (r,0)
 | [],a,q=>by simp [visPf]
 | c::X,a,q=>by
  have ih:=mem_visPf X (a+1) q
  have key:(q=a∧c.2=0)∨q∈visPf (a+1) X↔a≤q∧ ∃r,(c::X)[(q-a).toNat]? =some (r,0):=by
   rw [ih]
   rcases Int.lt_trichotomy q a with h | h | h
   ·constructor
    ·rintro (⟨h1,_⟩ | ⟨h1,_⟩)<;>omega
    ·rintro ⟨h1,_⟩;omega
   ·subst h
    rw [Int.sub_self]
    constructor
    ·rintro (⟨_,h1⟩ | ⟨h1,_⟩)
     ·exact ⟨Int.le_refl _,c.1,by show some c=some (c.1,0);rw [←h1]⟩
     ·omega
    ·rintro ⟨_,r,h1⟩
     have:=Option.some.inj h1
     exact .inl ⟨O,by rw [this]⟩
   ·have e:(q-a).toNat=(q-(a+1)).toNat +1:=by omega
    rw [e,List.getElem?_cons_succ]
    constructor
    ·rintro (⟨h1,_⟩ | ⟨_,h2⟩)
     ·omega
     ·exact ⟨by omega,h2⟩
    ·rintro ⟨_,h2⟩;exact .inr ⟨by omega,h2⟩
  rw [←key]
  simp only [visPf]
  split
  ·rename_i h;rw [List.mem_cons];simp [h]
  ·rename_i h;simp [h]
theorem mem_visP {X:List Ce} {q:Int} :q∈visP X↔0≤q∧ ∃r,X[q.toNat]? =some (r,0):=by
 have:=mem_visPf X 0 q
 rwa [Int.sub_zero] at this
theorem visPf_sorted: ∀(X:List Ce) (a:Int),(visPf a X).Pairwise (· < ·)
 | [],a=>List.Pairwise.nil
 | c::X,a=>by
  have ih:=visPf_sorted X (a+1)
  simp only [visPf]
  split
  ·refine List.Pairwise.cons (fun q hq=> ?_) ih
   have:=((mem_visPf X (a+1) q).1 hq).1
   omega
  ·exact ih
def runeA (X:List Ce) (q:Int):Int:=((X[q.toNat]?).map (·.1)).getD 0
theorem X4: ∀(X Y:List Ce) (a:Nat),Y.drop a=X→K3 X=(visPf a X).map (runeA Y)
 | [],Y,a,_=>rfl
 | c::X,Y,a,h=>by
  have hc:Y[a]? =some c:=by
   have:=congrArg (fun l=>l[0]?) h
   simpa using this
  have hd:Y.drop (a+1)=X:=by
   have:=congrArg (fun l=>l.drop 1) h
   simpa [List.drop_drop] using this
  have ih:=X4 X Y (a+1) hd
  have e:((a:Int)+1)=((a+1:Nat):Int):=by omega
  unfold K3 at ih ⊢
  simp only [visPf,e]
  by_cases h0:c.2=0
  ·rw [List.filter_cons_of_pos (by simpa using h0),if_pos h0,List.map_cons,List.map_cons,ih]
   congr 1
   unfold runeA
   rw [Int.toNat_natCast,hc];rfl
  ·rw [List.filter_cons_of_neg (by simpa using h0),if_neg h0,ih]
theorem GP (X:List Ce):K3 X=(visP X).map (runeA X):=X4 X X 0 rfl
theorem runeA_bump {X:List Ce} {xs:List Rg} {k:Int} (h:Pls X.length xs) (q:Int):runeA (Kn xs k X) q=runeA X q:=by
 have h1:=(KS (k:=k) xs 0 X (Int.le_refl _) h.norm h.below).2 q.toNat
 unfold runeA
 rw [h1]
 cases X[q.toNat]? with
 | none=>rfl
 | some c=>simp only [Option.map_some,Option.getD_some];split<;>rfl
theorem visP_hide {X:List Ce} {p n:Nat} {xs:List Rg} (h:VisR p n X xs) (h0: ∀c∈X,0≤c.2):visP (Kn xs 1 X)=(visP X).take p++(visP X).drop (p+n):=by
 have hb:=KS (k:=1) xs 0 X (Int.le_refl _) h.pls.norm h.pls.below
 have hs:=visPf_sorted X 0
 have hsp:visP X=(visP X).take p++(((visP X).drop p).take n++(visP X).drop (p+n)):=by
  conv=>lhs;rw [←List.take_append_drop p (visP X),←List.take_append_drop n ((visP X).drop p),List.drop_drop]
 have hs2:((visP X).take p++(((visP X).drop p).take n++(visP X).drop (p+n))).Pairwise (· < ·):=by rw [←hsp];exact hs
 obtain ⟨s1,s2,s3⟩:=List.pairwise_append.1 hs2
 obtain ⟨s4,s5,s6⟩:=List.pairwise_append.1 s2
 refine QO (visPf_sorted _ 0) (List.pairwise_append.2 ⟨s1,s5,fun x hx y hy=>s3 x hx y (List.mem_append_right _ hy)⟩) fun q=> ?_
 have hq:q∈visP X↔q∈(visP X).take p∨q∈Kj xs∨q∈(visP X).drop (p+n):=by
  rw [h.pl]
  conv=>lhs;rw [hsp]
  simp only [List.mem_append]
 have hno:q∈Kj xs→ ¬(q∈(visP X).take p∨q∈(visP X).drop (p+n)):=by
  rw [h.pl]
  rintro h1 (h2 | h2)
  ·have:=s3 q h2 q (List.mem_append_left _ h1);omega
  ·have:=s6 q h1 q h2;omega
 have hin:q∈visP (Kn xs 1 X)↔q∈visP X∧q∉Kj xs:=by
  rw [mem_visP,mem_visP,hb.2 q.toNat,mem_places]
  constructor
  ·rintro ⟨g0,r,g1⟩
   have e:((q.toNat:Nat):Int)=q:=by omega
   rw [e] at g1
   cases hx:X[q.toNat]? with
   | none=>rw [hx] at g1;cases g1
   | some c=>
    rw [hx] at g1
    simp only [Option.map_some,Option.some.injEq] at g1
    have hc:=h0 c (List.mem_of_getElem? hx)
    by_cases hr:inRb q xs=true
    ·rw [if_pos hr] at g1
     have:=congrArg (·.2) g1
     simp only at this;omega
    ·rw [if_neg hr] at g1
     exact ⟨⟨g0,r,by rw [g1]⟩,fun hm=>hr (K4.2 hm)⟩
  ·rintro ⟨⟨g0,r,g1⟩,g2⟩
   have e:((q.toNat:Nat):Int)=q:=by omega
   rw [e]
   refine ⟨g0,r,?_⟩
   rw [g1,Option.map_some,if_neg (fun hr=>g2 (K4.1 hr))]
 show q∈visP (Kn xs 1 X)↔_
 rw [hin,hq,List.mem_append]
 constructor
 ·rintro ⟨h1 | h1 | h1,h2⟩
  ·exact .inl h1
  ·exact absurd h1 h2
  ·exact .inr h1
 ·intro h1
  refine ⟨h1.elim .inl (fun h=> .inr (.inr h)),fun h2=>hno h2 h1⟩
theorem H3 {X:List Ce} {p n:Nat} {xs:List Rg} (h:VisR p n X xs) (h0: ∀c∈X,0≤c.2):K3 (Kn xs 1 X)=(K3 X).take p++(K3 X).drop (p+n):=by
 rw [GP (Kn xs 1 X),visP_hide h h0,GP X,List.map_append,List.map_take,List.map_drop]
 have e: ∀l:List Int,l.map (runeA (Kn xs 1 X))=l.map (runeA X):=fun l=>List.map_congr_left fun q _=>runeA_bump h.pls q
 rw [e]
theorem Rule.nn {H:Hist} {X:List Ce} (h:Rule H X): ∀c∈X,0≤c.2:=fun c hc=>by
 obtain ⟨q,hq⟩:=List.mem_iff_getElem?.1 hc
 rw [h.cnt q c hq];omega
theorem VisR.ne {p n:Nat} {X:List Ce} {xs:List Rg} (h:VisR p n X xs) (hn:0<n) (hv:p+n≤J5 X):xs≠ [] :=fun e=>by
 have:=h.left
 rw [e] at this
 simp only [Kj,List.flatMap_nil,List.length_nil] at this
 omega
theorem DV.hideM {D:DS} (h:DV D) (hm:D.made<1024) (hn:D.H.ops.length<900) {p n:Nat} (hn0:0<n) (hv:p+n≤J5 D.X) {xs:List Rg} (hV:VisR p n D.X xs):MkD D (hideO D xs)∧K3 (JT (mkE D (hideO D xs)) D.X)=(K3 D.X).take p++(K3 D.X).drop (p+n):=by
 have g:=h.hide hm hn hV.pls (hV.ne hn0 hv)
 refine ⟨g.mkd h.di hn,?_⟩
 rw [hide_row h.di g,H3 hV h.di.rule.nn]
theorem DV.insM {D:DS} (h:DV D) (hm:D.made<1024) (hn:D.H.ops.length<900) {p k:Nat} (hk:Pth D.X p k) {text:ByteArray} (hu:(utF text).2.2=0) (hu1:1≤(utF text).1∧(utF text).1≤256):MkD D (insO D k text)∧K3 (JT (mkE D (insO D k text)) D.X)=(K3 D.X).take p++(J2 text++(K3 D.X).drop p)∧J5 ((JT (mkE D (insO D k text)) D.X).take (k+(utF text).1.toNat))=p+(utF text).1.toNat:=by
 have g:=h.ins hm hn hk.le hu hu1
 refine ⟨g.mkd h.di hn,?_,?_⟩
 ·rw [ins_row h.di g,Zy hk]
 ·have:=Y1 hu
  rw [ins_row h.di g,show (utF text).1.toNat=(J2 text).length by omega,Zx hk]
theorem Yc {s:ByteArray} {p k:Nat} {r w:Nat} (hp:p<s.size) (hd:Utf8.decode s p=(r,w)) (hb:begF s p r=true) (hl:letF r=true):utAt s p k=utAt s (p+w) (k+1):=by
 rw [utAt_next hp (by rw [hd];simp [hb]) (by rw [hd];simp [hl]),hd]
theorem XS {s:ByteArray} {p:Nat} {r w:Nat} (hp:p<s.size) (hd:Utf8.decode s p=(r,w)):runesAt s p=(r:Int)::runesAt s (p+w):=by
 rw [runesAt,dif_pos hp,hd]
def wordsL:List ByteArray:= [⟨#[97]⟩,⟨#[98,99]⟩,⟨#[195,169]⟩,⟨#[120,226,130,172,121]⟩,⟨#[240,159,152,128,122]⟩,⟨#[100,101,102,103,104]⟩]
def wordsC:List Value:=wordsL.map .string
abbrev wordsF:Fact:=FzA 0 0 wordsC
def wordA (k:Nat):ByteArray:=wordsL.getD k ⟨#[]⟩
theorem Ei {k:Nat} (h:k<6):wordsC[k]? =some (.string (wordA k)):=by
 unfold wordsC wordA wordsL
 match k,h with
 | 0,_=>rfl
 | 1,_=>rfl
 | 2,_=>rfl
 | 3,_=>rfl
 | 4,_=>rfl
 | 5,_=>rfl
structure WordOk (s:ByteArray):Prop where
 u:(utF s).2.2=0
 n:1≤(utF s).1∧(utF s).1≤5
 z:s.size≤100
structure GAct where
 who:Int
 kind:Int
 a:Int
 b:Int
 text:ByteArray
 on:Bool
def actC (x:GAct):List Value:= [.int .i64 x.who, .int .i64 x.kind, .int .i64 x.a, .int .i64 x.b, .string x.text, .bool x.on]
def actV (x:GAct):Value:= .agg (actC x).toArray
def actD:De GAct where
 sz:=6
 rep _ _ x cs:=cs=actC x
 len h:=by subst h;rfl
 one h:=by subst h;rfl
 stable _ _ _ _ _ h:=h
theorem act_open (u:GAct): ∀Z w cs,actD.rep Z w u cs→ ∃y:Unit,cs=actC u∧ ∀B∈([] :List Fact),B.holds Z w:=fun _ _ _ h=>⟨(),h,fun _ h=>by cases h⟩
set_option maxRecDepth 20000 in
theorem XK {k:Nat} (h:k<6):WordOk (wordA k):=by
 match k,h with
 | 0,_=>
  have e:utF (wordA 0)=(1,0,0):=by
   show utAt ⟨#[97]⟩ 0 0=_
   rw [Yc (r:=97) (w:=1) (by decide) (by decide) (by decide) (by decide),utAt_end (by decide)];rfl
  exact ⟨by rw [e],by rw [e];decide,by decide⟩
 | 1,_=>
  have e:utF (wordA 1)=(2,0,0):=by
   show utAt ⟨#[98,99]⟩ 0 0=_
   rw [Yc (r:=98) (w:=1) (by decide) (by decide) (by decide) (by decide),Yc (r:=99) (w:=1) (by decide) (by decide) (by decide) (by decide),utAt_end (by decide)];rfl
  exact ⟨by rw [e],by rw [e];decide,by decide⟩
 | 2,_=>
  have e:utF (wordA 2)=(1,0,0):=by
   show utAt ⟨#[195,169]⟩ 0 0=_
   rw [Yc (r:=233) (w:=2) (by decide) (by decide) (by decide) (by decide),utAt_end (by decide)];rfl
  exact ⟨by rw [e],by rw [e];decide,by decide⟩
 | 3,_=>
  have e:utF (wordA 3)=(3,0,0):=by
   show utAt ⟨#[120,226,130,172,121]⟩ 0 0=_
   rw [Yc (r:=120) (w:=1) (by decide) (by decide) (by decide) (by decide),Yc (r:=8364) (w:=3) (by decide) (by decide) (by decide) (by decide),Yc (r:=121) (w:=1) (by decide) (by decide) (by decide) (by decide),utAt_end (by decide)];rfl
  exact ⟨by rw [e],by rw [e];decide,by decide⟩
 | 4,_=>
  have e:utF (wordA 4)=(2,0,0):=by
   show utAt ⟨#[240,159,152,128,122]⟩ 0 0=_
   rw [Yc (r:=128512) (w:=4) (by decide) (by decide) (by decide) (by decide),Yc (r:=122) (w:=1) (by decide) (by decide) (by decide) (by decide),utAt_end (by decide)];rfl
  exact ⟨by rw [e],by rw [e];decide,by decide⟩
 | 5,_=>
  have e:utF (wordA 5)=(5,0,0):=by
   show utAt ⟨#[100,101,102,103,104]⟩ 0 0=_
   rw [Yc (r:=100) (w:=1) (by decide) (by decide) (by decide) (by decide),Yc (r:=101) (w:=1) (by decide) (by decide) (by decide) (by decide),Yc (r:=102) (w:=1) (by decide) (by decide) (by decide) (by decide),Yc (r:=103) (w:=1) (by decide) (by decide) (by decide) (by decide),Yc (r:=104) (w:=1) (by decide) (by decide) (by decide) (by decide),utAt_end (by decide)];rfl
  exact ⟨by rw [e],by rw [e];decide,by decide⟩
open Go Go.GW Go.ChangeShapes Go.WideShapes Go.ChangeAt Go.RowKit
theorem gBars : Tryz.prog.globalNamed "redraft/utext.bars" = some 1 := by kernel_rfl
theorem gBarsT:(Tryz.prog.globals[1]?).map (·.type)=some 196:=by kernel_rfl
theorem gWords : Tryz.prog.globalNamed "redraft/redraftlaw08.words" = some 0 := by kernel_rfl
theorem gWordsT:(Tryz.prog.globals[0]?).map (·.type)=some 43:=by kernel_rfl
theorem cells43:Tryz.prog.cellsOf 43=6:=by kernel_rfl
theorem cells9:Tryz.prog.cellsOf 9=1:=by kernel_rfl
theorem cells196:Tryz.prog.cellsOf 196=10:=by kernel_rfl
theorem cells195:Tryz.prog.cellsOf 195=2:=by kernel_rfl
theorem cells21:Tryz.prog.cellsOf 21=1:=by kernel_rfl
section
variable {H:Type} {enc:TypeId×Value→H} {w:World} {base:Nat} {sp:Nat→Bool} {held:Bool} {fuel:Nat}
theorem Jbk {cs:List Value} {x:DataW H×List MemPlace} {lo hi:Int} (h:DataW.trod enc Tryz.prog w base sp held fuel 195 cs=some x) (hx:x.1= .agg [.lit (.int .i32 lo), .lit (.int .i32 hi)]):cs= [.int .i32 lo, .int .i32 hi] :=by
 obtain ⟨y0,y1,n,rfl,hl,h0,h1⟩:=trod_struct2 Un195 h
 rw [cells195] at hl
 obtain ⟨n0,e0,rfl,_⟩:=DataW.trod_int Un21 h0
 obtain ⟨n1,e1,rfl,_⟩:=DataW.trod_int Un21 h1
 simp only [DataW.agg.injEq,List.cons.injEq,DataW.lit.injEq,Lit.int.injEq,true_and,and_true] at hx
 obtain ⟨rfl,rfl⟩:=hx
 rw [cells21] at e0 e1
 clear h h0 h1
 rcases cs with _ | ⟨a,_ | ⟨b,_ | ⟨c,cs⟩⟩⟩
 ·cases hl
 ·cases hl
 ·have a0: [a] = [Value.int .i32 n0] :=e0
  have a1: [b] = [Value.int .i32 n1] :=e1
  rw [List.singleton_inj.1 a0,List.singleton_inj.1 a1]
 ·simp at hl
theorem bars_cells {cs:List Value} {p:List MemPlace} (h:DataW.trod enc Tryz.prog w base sp held fuel 196 cs=some (Rows.laid_redraft_utext_bars,p)):cs=barC:=by
 cases fuel with
 | zero=>simp [DataW.trod] at h
 | succ fuel=>
  simp only [DataW.trod,Un196,cells196,cells195] at h
  split at h
  ·rename_i hl
   obtain ⟨xs,hm,hx⟩:=Option.map_eq_some_iff.1 h
   have hxs:xs.map (·.1)= [.agg [.lit (.int .i32 0), .lit (.int .i32 8)], .agg [.lit (.int .i32 11), .lit (.int .i32 31)], .agg [.lit (.int .i32 127), .lit (.int .i32 159)], .agg [.lit (.int .i32 64976), .lit (.int .i32 65007)], .agg [.lit (.int .i32 65279), .lit (.int .i32 65279)]] :=by
    have:=congrArg Prod.fst hx
    simpa [Rows.laid_redraft_utext_bars] using this
   have key: ∀(i:Nat) (hi:i<5) (lo hi':Int),(xs.map (·.1))[i]? =some (.agg [.lit (.int .i32 lo), .lit (.int .i32 hi')])→(cs.drop (i*2)).take 2= [.int .i32 lo, .int .i32 hi'] :=by
    intro i hi lo hi' he
    obtain ⟨b,hb,hf⟩:=Lib.mapM_at hm i i (by simp [hi])
    rw [List.getElem?_map,hb] at he
    exact Jbk hf (Option.some.inj he)
   have k0:=key 0 (by decide) 0 8 (by rw [hxs];rfl)
   have k1:=key 1 (by decide) 11 31 (by rw [hxs];rfl)
   have k2:=key 2 (by decide) 127 159 (by rw [hxs];rfl)
   have k3:=key 3 (by decide) 64976 65007 (by rw [hxs];rfl)
   have k4:=key 4 (by decide) 65279 65279 (by rw [hxs];rfl)
   clear h hm hx hxs key
   revert k0 k1 k2 k3 k4
   match cs,hl with
   | [c0,c1,c2,c3,c4,c5,c6,c7,c8,c9],_=>
    intro k0 k1 k2 k3 k4
    simp at k0 k1 k2 k3 k4
    obtain ⟨rfl,rfl⟩:=k0
    obtain ⟨rfl,rfl⟩:=k1
    obtain ⟨rfl,rfl⟩:=k2
    obtain ⟨rfl,rfl⟩:=k3
    obtain ⟨rfl,rfl⟩:=k4
    rfl
  ·cases h
theorem words_cells {cs:List Value} {p:List MemPlace} (h:DataW.trod enc Tryz.prog w base sp held fuel 43 cs=some (Rows.laid_redraft_redraftlaw08_words,p)):cs=wordsC:=by
 cases fuel with
 | zero=>simp [DataW.trod] at h
 | succ fuel=>
  simp only [DataW.trod,Un43,cells43,cells9] at h
  split at h
  ·rename_i hl
   obtain ⟨xs,hm,hx⟩:=Option.map_eq_some_iff.1 h
   have hxs:xs.map (·.1)=wordsL.map fun s=> .lit (.string s.data.toList):=by
    have:=congrArg Prod.fst hx
    simpa [Rows.laid_redraft_redraftlaw08_words,wordsL] using this
   have key: ∀(i:Nat) (hi:i<6),(cs.drop (i*1)).take 1= [.string (wordA i)] :=by
    intro i hi
    obtain ⟨b,hb,hf⟩:=Lib.mapM_at hm i i (by simp [hi])
    obtain ⟨s,hs,hbx,_⟩:=DataW.trod_string Un9 hf
    have e:(xs.map (·.1))[i]? =some (.lit (.string s.data.toList)):=by rw [List.getElem?_map,hb,hbx];rfl
    have hwl:i<wordsL.length:=hi
    rw [hxs,List.getElem?_map,List.getElem?_eq_getElem hwl] at e
    have e2:wordsL[i].data.toList=s.data.toList:=by simpa using e
    have e3:wordsL[i] =s:=by
     have:wordsL[i].data=s.data:=Array.ext' e2
     cases hq:wordsL[i];cases s;simp_all
    rw [hs,←e3]
    have:wordA i=wordsL[i] :=by unfold wordA;rw [List.getD_eq_getElem?_getD,List.getElem?_eq_getElem hwl];rfl
    rw [this]
   have k0:=key 0 (by decide)
   have k1:=key 1 (by decide)
   have k2:=key 2 (by decide)
   have k3:=key 3 (by decide)
   have k4:=key 4 (by decide)
   have k5:=key 5 (by decide)
   clear h hm hx hxs key
   revert k0 k1 k2 k3 k4 k5
   match cs,hl with
   | [c0,c1,c2,c3,c4,c5],_=>
    intro k0 k1 k2 k3 k4 k5
    simp at k0 k1 k2 k3 k4 k5
    rw [k0,k1,k2,k3,k4,k5]
    rfl
  ·cases h
end
theorem E3 {W:World} {g:Nat} {n:String} {cs:Array Value} (hg:Tryz.prog.globalNamed n=some g) (hvar:W.var? Tryz.prog n=some cs) {C:List Value} (hc:cs.toList=C) {v0:Value} (hC:C[0]? =some v0):CellsAt W g 0 C∧g<W.heap.size:=by
 have hcell: ∀j v,C[j]? =some v→W.cell? ⟨g,j,none⟩=some v:=fun j v hj=>by
  have h1:=World.var?_cell hg hvar j
  rw [h1]
  rw [←hc] at hj
  simpa using hj
 have h0:=hcell 0 _ hC
 unfold World.cell? at h0
 cases hb:W.heap[g]? with
 | none=>rw [hb] at h0;cases h0
 | some o=>
  refine ⟨?_,(Array.getElem?_eq_some_iff.1 hb).1⟩
  cases o with
  | cells c T fr=>
   refine ⟨c,T,fr,hb,fun j v hj=> ?_⟩
   have:=hcell j v hj
   unfold World.cell? at this
   rw [hb] at this
   simpa using this
  | _=>rw [hb] at h0;cases h0
theorem Jbc {W : World} (h : laidMetH Tryz.prog [("errors.errorType", Rows.laid_errors_errorType), ("redraft/utext.bars", Rows.laid_redraft_utext_bars), ("redraft/redraftlaw08.words", Rows.laid_redraft_redraftlaw08_words)] W) : (CellsAt W 1 0 barC ∧ 1 < W.heap.size) ∧ CellsAt W 0 0 wordsC ∧ 0 < W.heap.size := by
 have h' : laidMet Tryz.prog [("redraft/utext.bars", Rows.laid_redraft_utext_bars), ("redraft/redraftlaw08.words", Rows.laid_redraft_redraftlaw08_words)] W ∧ handlesMet Tryz.prog [("errors.errorType", Rows.laid_errors_errorType)] W := h
 obtain ⟨ps,⟨g',t',cs,fuel,p,q,hg',ht',hvar,hd,⟨g2,t2,cs2,fuel2,p2,q2,hg2,ht2,hvar2,hd2,_,_⟩,_⟩,_⟩:=h'.1
 obtain rfl:=Option.some.inj (gBars.symm.trans hg')
 obtain rfl:=Option.some.inj (gBarsT.symm.trans ht')
 obtain rfl:=Option.some.inj (gWords.symm.trans hg2)
 obtain rfl:=Option.some.inj (gWordsT.symm.trans ht2)
 exact ⟨E3 gBars hvar (bars_cells hd) O,E3 gWords hvar2 (words_cells hd2) O⟩
theorem Jbd {W W':World} {Z':Nat→Prop} (h:(NearF W (fun b=>b<W.heap.size)).holds Z' W') (may:MemPlace→Prop):W.keptBut W' may:=by
 refine ⟨h.2.1,h.2.2.2,fun i hi=> ?_⟩
 rw [(h.1 i hi).2]
 cases W.heap[i]? with
 | none=>rfl
 | some o=>cases o<;>first | rfl | exact ⟨rfl,rfl,rfl,fun _ _=>rfl⟩ | exact .inr ⟨rfl,rfl⟩
theorem Jcp {W:World} {As:List Fact} (h: ∀A∈As,A.holds (fun b=>b<W.heap.size) W):St (fun b=>b<W.heap.size) W [] (As++ [NearF W (fun b=>b<W.heap.size)]):=
 ⟨fun _ h=>h,by simp,by simp,fun A hA=>by
  rcases List.mem_append.1 hA with hA | hA
  ·exact h A hA
  ·rw [List.mem_singleton.1 hA];exact ⟨fun b hb=>⟨hb,rfl⟩,rfl,rfl,rfl⟩⟩
theorem post_plain {H:Type} {enc:TypeId×Value→H} {P:Program} {f:Func} {s:ChangeSpec} {apart fresh handsOn:Bool} {W W':World} {args:Array Value} {v:Value} {ds gs:List (DataW H)} {before pa pv:List MemPlace}
  (hW:DataW.Whole enc P f.params.toList s.vars apart W args.toList ds gs before)
  (hres: ∀(b:Nat) (sp:Nat→Bool) (hd:Bool),DataW.TrodAll enc P W' b sp hd f.resultTypes.toList (v.resultList f.resultTypes.size) (s.fn H (ds++gs)).results [])
  (hargs: ∀sp:Nat→Bool,(∀p∈before,sp p.block=true)→DataW.TrodAll enc P W' 0 sp true f.params.toList args.toList (s.fn H (ds++gs)).args pa)
  (hvars: ∀sp:Nat→Bool,(∀p∈before,sp p.block=true)→DataW.TrodVars enc P W' sp s.vars (s.fn H (ds++gs)).vars pv)
  (hps:before=pa++pv) (hk:W.keptBut W' (· ∈before)):s.post enc P f apart fresh handsOn false W args v W':=by
 have hold: ∀p∈before,(fun b=>decide (b<W.heap.size)) p.block=true:=fun p hp=>by simpa using hW.lt p hp
 refine ⟨ds,gs,before,[],pa,pv,hW,hres _ _ _,hargs _ hold,hvars _ hold,World.keptBut_mono (fun p hp=>⟨hp,?_⟩) hk,fun h=>by cases h⟩
 rw [hps,List.mem_append] at hp
 exact Or.inr hp
end Go.Proofs.YtgedhdmpiciikaaGreatDoor
namespace Go.GW
open Go
section
variable {H:Type} {enc:TypeId×Value→H} {P:Program} {w:World} {sp:Nat→Bool} {held:Bool}
theorem add_cell {a:Addr} {k:Nat} {v:Value} (h:w.cell? (a.add k)=some v) (hs:a.spot=none):w.cell? ⟨a.block,a.off+k,none⟩=some v:=by
 obtain ⟨b,o,s⟩:=a
 simp only at hs
 subst hs
 rwa [KT] at h
theorem Jbm (a:Addr) (i j:Nat):(a.add i).add j=a.add (i+j):=by
 unfold Addr.add
 by_cases h1:i=0
 ·subst h1;simp
 ·by_cases h2:j=0
  ·subst h2;simp [h1]
  ·have h3:i+j≠0:=by omega
   simp [h1,h2,h3,Nat.add_assoc]
theorem rd_slice {α:Type} {e:De α} {T E:TypeId} (hu:P.underlying T=some (.slice E)) (hsz:P.cellsOf E=e.sz) (h0:0<e.sz)
  (hel: ∀(m:Nat) (cs:List Value) (x:DataW H×List MemPlace),DataW.trod enc P w 0 sp held m E cs=some x→ ∃u:α,∀Z w',e.rep Z w' u cs)
  {Av:Option Addr} {lv cv n:Nat} {x:DataW H×List MemPlace} (hn:DataW.trod enc P w 0 sp held n T [.slice Av lv cv] =some x): ∃xs:List α,xs.length=lv∧(RdF e Av cv xs).holds (fun b=>b<w.heap.size) w:=by
 rcases DataW.trod_slice hu hn with ⟨h1,_⟩ | ⟨a,len,cap,elems,rest,m,_,h1,_,_,hlc,hcm,hlen,hget,_,_⟩
 ·simp only [List.cons.injEq,and_true] at h1
  obtain ⟨rfl,rfl,rfl⟩:=Value.slice.inj h1
  exact ⟨[],O,RdS.nil _ _ _⟩
 ·simp only [List.cons.injEq,and_true] at h1
  obtain ⟨rfl,rfl,rfl⟩:=Value.slice.inj h1
  rw [hsz] at hget
  have key: ∀i:Fin lv,∃u:α,∃cs:List Value,(∀Z w',e.rep Z w' u cs)∧cs.length=e.sz∧ ∀(k:Nat) (x:Value),cs[k]? =some x→w.cell? (a.add (i.val*e.sz+k))=some x:=by
   intro i
   have h2:=hget i.val i.isLt
   have h3:i.val<elems.length:=by omega
   rw [List.getElem?_eq_getElem h3] at h2
   obtain ⟨cs,h4,h5⟩:=Option.bind_eq_some_iff.1 h2
   obtain ⟨u,hu'⟩:=hel m cs _ h5
   unfold World.cells? at h4
   split at h4
   ·refine ⟨u,cs,hu',?_,fun k x hk=> ?_⟩
    ·have:=mapM_some_length h4;simpa using this
    ·have hlt:k<cs.length:=by
      rcases Nat.lt_or_ge k cs.length with h | h
      ·exact h
      ·rw [List.getElem?_eq_none h] at hk;cases hk
     have hl:=mapM_some_length h4
     rw [List.length_range] at hl
     have:=mapM_some_get h4 k k (by rw [List.getElem?_range (by omega)])
     rw [hk,Jbm] at this
     exact this
   ·cases h4
  by_cases hz:lv=0
  ·subst hz
   exact ⟨[],rfl,Nat.zero_le _,hcm, .inl ⟨rfl,fun h=>by cases h⟩⟩
  ·obtain ⟨f,g,hf1,hf2,hf3⟩: ∃(f:Fin lv→α) (g:Fin lv→List Value),(∀i Z w',e.rep Z w' (f i) (g i))∧(∀i,(g i).length=e.sz)∧ ∀i (k:Nat) (x:Value),(g i)[k]? =some x→w.cell? (a.add (i.val*e.sz+k))=some x:=
    ⟨fun i=>Classical.choose (key i),fun i=>Classical.choose (Classical.choose_spec (key i)),fun i=>(Classical.choose_spec (Classical.choose_spec (key i))).1,fun i=>(Classical.choose_spec (Classical.choose_spec (key i))).2.1,fun i=>(Classical.choose_spec (Classical.choose_spec (key i))).2.2⟩
   have hspot:a.spot=none∧ ∃full T fr,w.heap[a.block]? =some (.cells full T fr):=by
    have i0:0<lv:=by omega
    have h4:=hf2 ⟨0,i0⟩
    have h5: ∃x,(g ⟨0,i0⟩)[0]? =some x:=⟨_,List.getElem?_eq_getElem (by omega)⟩
    obtain ⟨x,hx⟩:=h5
    have h6:=hf3 ⟨0,i0⟩ 0 x hx
    simp only [Nat.zero_mul,Nat.zero_add] at h6
    have h7:a.add 0=a:=by unfold Addr.add;simp
    rw [h7] at h6
    unfold World.cell? at h6
    split at h6
    ·rename_i c T fr heq
     split at h6
     ·cases h6
     ·rename_i hs
      refine ⟨?_,_,_,_,heq⟩
      cases hq:a.spot with
      | none=>rfl
      | some s=>rw [hq] at hs;simp at hs
    ·cases h6
   obtain ⟨hs,full,T',fr,hblk⟩:=hspot
   have hxl:(List.ofFn f).length=lv:=by simp
   refine ⟨List.ofFn f,hxl,by rw [hxl];exact hlc,hcm, .inr ⟨a.block,a.off,List.ofFn g,?_,(Array.getElem?_eq_some_iff.1 hblk).1,?_,⟨full,T',fr,hblk,?_⟩⟩⟩
   ·obtain ⟨b,o,s⟩:=a
    simp only at hs
    subst hs;rfl
   ·have: ∀(n:Nat) (f':Fin n→α) (g':Fin n→List Value),(∀i,e.rep (fun b=>b<w.heap.size) w (f' i) (g' i))→Reps (e.rep (fun b=>b<w.heap.size) w) (List.ofFn f') (List.ofFn g'):=by
     intro n
     induction n with
     | zero=>intro f' g' _;simp;exact .nil
     | succ n ih=>intro f' g' h;rw [List.ofFn_succ,List.ofFn_succ];exact .cons (h 0) (ih _ _ fun i=>h i.succ)
    exact this lv f g fun i=>hf1 i _ _
   ·intro j x hj
    have hls: ∀cs∈List.ofFn g,cs.length=e.sz:=fun cs hcs=>by
     rw [List.mem_ofFn] at hcs
     obtain ⟨i,rfl⟩:=hcs
     exact hf2 i
    have hjl:j<(List.ofFn g).flatten.length:=by
     rcases Nat.lt_or_ge j (List.ofFn g).flatten.length with h | h
     ·exact h
     ·rw [List.getElem?_eq_none h] at hj;cases hj
    rw [YJ hls,List.length_ofFn] at hjl
    have hq:j / e.sz<lv:=by rw [Nat.div_lt_iff_lt_mul h0];exact hjl
    have hr:j % e.sz<e.sz:=Nat.mod_lt _ h0
    have hjj:j / e.sz*e.sz+j % e.sz=j:=by rw [Nat.mul_comm];exact Nat.div_add_mod j e.sz
    have hgl:=hf2 ⟨j / e.sz,hq⟩
    have hy:(g ⟨j / e.sz,hq⟩)[j % e.sz]? =some ((g ⟨j / e.sz,hq⟩)[j % e.sz]'(by omega)):=List.getElem?_eq_getElem _
    have h8:=Ey hls (j / e.sz) (g ⟨j / e.sz,hq⟩) (by rw [List.getElem?_ofFn];simp [hq]) (j % e.sz) _ hy
    rw [hjj,hj] at h8
    have h9:=hf3 ⟨j / e.sz,hq⟩ (j % e.sz) _ hy
    have h10:=add_cell h9 hs
    simp only at h10
    rw [hjj] at h10
    unfold World.cell? at h10
    simp only [hblk] at h10
    rw [Option.some.inj h8]
    simpa using h10
end
end Go.GW
namespace Go.Proofs.YtgedhdmpiciikaaGreatDoor
open Go Go.GW
theorem cells93:Tryz.prog.cellsOf 93=6:=by kernel_rfl
theorem cells24:Tryz.prog.cellsOf 24=2:=by kernel_rfl
theorem cells22:Tryz.prog.cellsOf 22=1:=by kernel_rfl
theorem cells4:Tryz.prog.cellsOf 4=1:=by kernel_rfl
theorem cells3:Tryz.prog.cellsOf 3=1:=by kernel_rfl
section
variable {H:Type} {enc:TypeId×Value→H} {w:World} {base:Nat} {sp:Nat→Bool} {held:Bool}
set_option maxRecDepth 100000 in
theorem act_elem (m:Nat) (cs:List Value) (x:DataW H×List MemPlace) (h:DataW.trod enc Tryz.prog w base sp held m 93 cs=some x): ∃u:GAct,cs=actC u:=by
 obtain ⟨xs,k,rfl,rfl,hl,hlen,hf⟩:=DataW.trod_struct Un93 h
 rw [cells93] at hl
 have hxl:xs.length=6:=hlen
 match cs,hl with
 | [a,b,c,d,e,f],_=>
  have h0:=hf 0 _ rfl
  have h1:=hf 1 _ rfl
  have h2:=hf 2 _ rfl
  have h3:=hf 3 _ rfl
  have h4:=hf 4 _ rfl
  have h5:=hf 5 _ rfl
  rw [List.getElem?_eq_getElem (show 0<xs.length by omega)] at h0
  rw [List.getElem?_eq_getElem (show 1<xs.length by omega)] at h1
  rw [List.getElem?_eq_getElem (show 2<xs.length by omega)] at h2
  rw [List.getElem?_eq_getElem (show 3<xs.length by omega)] at h3
  rw [List.getElem?_eq_getElem (show 4<xs.length by omega)] at h4
  rw [List.getElem?_eq_getElem (show 5<xs.length by omega)] at h5
  simp [cells3,cells9,cells4] at h0 h1 h2 h3 h4 h5
  obtain ⟨n0,e0,_⟩:=DataW.trod_int Un3 h0
  obtain ⟨n1,e1,_⟩:=DataW.trod_int Un3 h1
  obtain ⟨n2,e2,_⟩:=DataW.trod_int Un3 h2
  obtain ⟨n3,e3,_⟩:=DataW.trod_int Un3 h3
  obtain ⟨n4,e4,_⟩:=DataW.trod_string Un9 h4
  obtain ⟨n5,e5,_⟩:=DataW.trod_bool Un4 h5
  simp at e0 e1 e2 e3 e4 e5
  rw [e0,e1,e2,e3,e4,e5]
  exact ⟨⟨n0,n1,n2,n3,n4,n5⟩,O⟩
set_option maxRecDepth 100000 in
theorem room_arg {r:Reach} {b0:Nat} {W0:World} {v:Value} {d:DataW H} {p:List MemPlace} (hval:Value.okWide Tryz.prog W0 r b0 24 v) (h:DataW.Trod enc Tryz.prog w 0 sp held 24 v d p):
  ∃(nd:Int) (A:Option Addr) (c:Nat) (acts:List GAct),v= .agg #[.int .i64 nd, .slice A acts.length c] ∧(RdF actD A c acts).holds (fun b=>b<w.heap.size) w:=by
 obtain ⟨n,hn⟩:=h
 have hv: ∃cs,v= .agg cs:=by
  unfold Value.okWide at hval
  rw [Un24] at hval
  obtain ⟨cs,rfl,_⟩:=hval
  exact ⟨cs,O⟩
 obtain ⟨cs,rfl⟩:=hv
 obtain ⟨y0,y1,n, -,hl,h0,h1⟩:=ChangeShapes.trod_struct2 Un24 hn
 rw [cells24] at hl
 dsimp only at h0 h1
 rw [cells3] at h0
 rw [cells22] at h1
 have hl2:cs.toList.length=2:=hl
 match hcs:cs.toList,hl2 with
 | [a,b],_=>
  have e0:(Value.agg cs).cells.toList= [a,b] :=hcs
  rw [e0] at h0 h1
  obtain ⟨n0,e1,_⟩:=DataW.trod_int Un3 h0
  have e1':a= .int .i64 n0:=by simpa using e1
  have h2:DataW.trod enc Tryz.prog w 0 sp held n 22 [b] =some y1:=h1
  have hb: ∃(A:Option Addr) (l c:Nat),b= .slice A l c:=by
   rcases DataW.trod_slice Un22 h2 with ⟨h3,_⟩ | ⟨a',len,cap,elems,rest,m,_,h3,_⟩
   ·exact ⟨none,0,0,List.singleton_inj.1 h3⟩
   ·exact ⟨some a',len,cap,List.singleton_inj.1 h3⟩
  obtain ⟨A,l,c,rfl⟩:=hb
  obtain ⟨acts,ha,hR⟩:=rd_slice (e:=actD) Un22 cells93 (by decide) (fun m cs x hx=>by obtain ⟨u,rfl⟩:=act_elem m cs x hx;exact ⟨u,fun _ _=>rfl⟩) h2
  subst ha
  refine ⟨n0,A,c,acts,?_,hR⟩
  have:cs= #[.int .i64 n0, .slice A acts.length c] :=by
   apply Array.ext'
   rw [hcs,e1']
  rw [this]
end
theorem Ja4 {W W':World} {Z':Nat→Prop} (h:(NearF W (fun b=>b<W.heap.size)).holds Z' W') {x:MemPlace} (hx:x.block<W.heap.size):W.sameAt W' x:=by
 have hb:=(h.1 x.block hx).2
 cases x with
 | cell b off=>
  have hb':W'.heap[b]? =W.heap[b]? :=hb
  show W'.cell? ⟨b,off,none⟩=W.cell? ⟨b,off,none⟩
  unfold World.cell?
  simp only [hb']
 | map b=>exact hb
theorem laidOk:laidOutB Tryz.prog=true:=by kernel_rfl
def OkR (r:Int):Prop:=(0≤r∧r<55296)∨(57344≤r∧r≤1114111)
theorem u32_wr {r:Int} (h:OkR r):IntKind.u32.wrap r=r:=by
 have e:IntKind.u32.wrap r=r % 4294967296:=rfl
 rw [e];unfold OkR at h;omega
theorem ZC (x:Int):u8w x=x % 256:=rfl
theorem Jbe (r:Int) (k:Nat):r.fdiv (2 ^ k)=r / 2 ^ k:=Int.fdiv_eq_ediv_of_nonneg _ (Int.pow_nonneg (by decide))
theorem lowB (x:Int):bits .or .u8 128 (bits .and .u8 (u8w x) 63)=128+x % 64:=by
 rw [ZC,u8_and63 _ (by omega) (by omega),u8_or128 _ (by omega) (by omega)];omega
theorem encI_num {r:Int} (h:OkR r):(r≤127∧encI r= [r])∨(128≤r∧r≤2047∧encI r= [192+r / 64,128+r % 64])
  ∨(2048≤r∧r≤65535∧encI r= [224+r / 4096,128+r / 64 % 64,128+r % 64])∨(65536≤r∧encI r= [240+r / 262144,128+r / 4096 % 64,128+r / 64 % 64,128+r % 64]):=by
 have hr:=h
 unfold OkR at hr
 unfold encI
 rw [u32_wr h]
 simp only [lowB,Jbe]
 have p6:(2:Int) ^ 6=64:=rfl
 have p12:(2:Int) ^ 12=4096:=rfl
 have p18:(2:Int) ^ 18=262144:=rfl
 simp only [p6,p12,p18,ZC]
 by_cases h1:r≤127
 ·left;rw [if_pos h1];exact ⟨h1,by rw [Int.emod_eq_of_lt (by omega) (by omega)]⟩
 rw [if_neg h1]
 by_cases h2:r≤2047
 ·right;left;rw [if_pos h2,Int.emod_eq_of_lt (by omega) (by omega),u8_or192 _ (by omega) (by omega)];exact ⟨by omega,h2,rfl⟩
 rw [if_neg h2]
 by_cases h3:r≤65535
 ·right;right;left;rw [if_pos (by omega),Int.emod_eq_of_lt (a:=r / 4096) (by omega) (by omega),u8_or224 _ (by omega) (by omega)];exact ⟨by omega,h3,rfl⟩
 ·right;right;right;rw [if_neg (by omega),if_pos (by omega),Int.emod_eq_of_lt (a:=r / 262144) (by omega) (by omega),u8_or240 _ (by omega) (by omega)];exact ⟨by omega,rfl⟩
theorem QC (a b:List UInt8) (k:Nat) (h:k<b.length):((⟨(a++b).toArray⟩:ByteArray).get! (a.length+k)).toNat=b[k].toNat:=by
 have hlt:a.length+k<(a++b).length:=by simp;omega
 have:(⟨(a++b).toArray⟩:ByteArray).get! (a.length+k)=b[k] :=by
  show (a++b).toArray[a.length+k]! =b[k]
  rw [List.getElem!_toArray,getElem!_pos (a++b) (a.length+k) hlt,List.getElem_append_right (by omega)]
  congr 1;omega
 rw [this]
theorem nat8 {x:Int} (h:0≤x∧x<256):(UInt8.ofNat x.toNat).toNat=x.toNat:=by
 rw [UInt8.toNat_ofNat'];omega
theorem dec_enc (a b:List UInt8) {r:Int} (h:OkR r):Utf8.decode ⟨(a++(bytesU (encI r)++b)).toArray⟩ a.length=(r.toNat,(encI r).length):=by
 have hr:=h
 unfold OkR at hr
 have hsz:(⟨(a++(bytesU (encI r)++b)).toArray⟩:ByteArray).size-a.length=(encI r).length+b.length:=by
  show (a++(bytesU (encI r)++b)).toArray.size-a.length=_
  simp [bytesU]
 rw [Lib.decode_at,hsz]
 rcases encI_num h with ⟨h1,e⟩ | ⟨h1,h2,e⟩ | ⟨h1,h2,e⟩ | ⟨h1,e⟩
 all_goals
  rw [e]
  simp only [bytesU,List.map_cons,List.map_nil,List.cons_append,List.nil_append,List.length_cons,List.length_nil]
 ·have g0:=QC a (UInt8.ofNat r.toNat::b) 0 (by simp)
  rw [List.getElem_cons_zero,nat8 (by omega),Nat.add_zero] at g0
  unfold Lib.decodeN
  rw [g0,if_pos (by omega)]
 ·have g0:=QC a (UInt8.ofNat (192+r / 64).toNat::UInt8.ofNat (128+r % 64).toNat::b) 0 (by simp)
  have g1:=QC a (UInt8.ofNat (192+r / 64).toNat::UInt8.ofNat (128+r % 64).toNat::b) 1 (by simp)
  rw [List.getElem_cons_zero,nat8 (by omega),Nat.add_zero] at g0
  rw [List.getElem_cons_succ,List.getElem_cons_zero,nat8 (by omega)] at g1
  unfold Lib.decodeN
  rw [g0,g1,if_neg (by omega),if_pos (by omega),if_pos (by omega)]
  congr 1;omega
 ·have g0:=QC a (UInt8.ofNat (224+r / 4096).toNat::UInt8.ofNat (128+r / 64 % 64).toNat::UInt8.ofNat (128+r % 64).toNat::b) 0 (by simp)
  have g1:=QC a (UInt8.ofNat (224+r / 4096).toNat::UInt8.ofNat (128+r / 64 % 64).toNat::UInt8.ofNat (128+r % 64).toNat::b) 1 (by simp)
  have g2:=QC a (UInt8.ofNat (224+r / 4096).toNat::UInt8.ofNat (128+r / 64 % 64).toNat::UInt8.ofNat (128+r % 64).toNat::b) 2 (by simp)
  rw [List.getElem_cons_zero,nat8 (by omega),Nat.add_zero] at g0
  rw [List.getElem_cons_succ,List.getElem_cons_zero,nat8 (by omega)] at g1
  rw [List.getElem_cons_succ,List.getElem_cons_succ,List.getElem_cons_zero,nat8 (by omega)] at g2
  unfold Lib.decodeN
  rw [g0,g1,g2,if_neg (by omega),if_neg (by omega),if_pos (by omega),if_pos (by omega)]
  congr 1;omega
 ·have g0:=QC a (UInt8.ofNat (240+r / 262144).toNat::UInt8.ofNat (128+r / 4096 % 64).toNat::UInt8.ofNat (128+r / 64 % 64).toNat::UInt8.ofNat (128+r % 64).toNat::b) 0 (by simp)
  have g1:=QC a (UInt8.ofNat (240+r / 262144).toNat::UInt8.ofNat (128+r / 4096 % 64).toNat::UInt8.ofNat (128+r / 64 % 64).toNat::UInt8.ofNat (128+r % 64).toNat::b) 1 (by simp)
  have g2:=QC a (UInt8.ofNat (240+r / 262144).toNat::UInt8.ofNat (128+r / 4096 % 64).toNat::UInt8.ofNat (128+r / 64 % 64).toNat::UInt8.ofNat (128+r % 64).toNat::b) 2 (by simp)
  have g3:=QC a (UInt8.ofNat (240+r / 262144).toNat::UInt8.ofNat (128+r / 4096 % 64).toNat::UInt8.ofNat (128+r / 64 % 64).toNat::UInt8.ofNat (128+r % 64).toNat::b) 3 (by simp)
  rw [List.getElem_cons_zero,nat8 (by omega),Nat.add_zero] at g0
  rw [List.getElem_cons_succ,List.getElem_cons_zero,nat8 (by omega)] at g1
  rw [List.getElem_cons_succ,List.getElem_cons_succ,List.getElem_cons_zero,nat8 (by omega)] at g2
  rw [List.getElem_cons_succ,List.getElem_cons_succ,List.getElem_cons_succ,List.getElem_cons_zero,nat8 (by omega)] at g3
  unfold Lib.decodeN
  rw [g0,g1,g2,g3,if_neg (by omega),if_neg (by omega),if_neg (by omega),if_pos (by omega),if_pos (by omega)]
  congr 1;omega
theorem runesAt_enc: ∀(rs:List Int) (a:List UInt8),(∀r∈rs,OkR r)→runesAt ⟨(a++bytesU (rs.flatMap encI)).toArray⟩ a.length=rs
 | [],a,_=>by
  rw [runesAt,dif_neg]
  show ¬a.length<(a++_).toArray.size
  simp [bytesU]
 | r::rs,a,h=>by
  have hd:=dec_enc a (bytesU (rs.flatMap encI)) (h r List.mem_cons_self)
  have hl:=Qt r
  have ih:=runesAt_enc rs (a++bytesU (encI r)) fun x hx=>h x (List.mem_cons_of_mem _ hx)
  have e:bytesU ((r::rs).flatMap encI)=bytesU (encI r)++bytesU (rs.flatMap encI):=by unfold bytesU;rw [List.flatMap_cons,List.map_append]
  have hlen:(bytesU (encI r)).length=(encI r).length:=by unfold bytesU;rw [List.length_map]
  rw [e,runesAt,dif_pos (by show a.length<(a++_).toArray.size;simp;omega),hd]
  rw [List.append_assoc,List.length_append,hlen] at ih
  simp only
  rw [ih]
  have h0:=h r List.mem_cons_self
  unfold OkR at h0
  congr 1;omega
theorem Hd {rs:List Int} (h: ∀r∈rs,OkR r):J2 (strOf (rs.flatMap encI))=rs:=runesAt_enc rs [] h
theorem Jcf (s:ByteArray) (p:Nat):OkR ((Utf8.decode s p).1:Int):=by
 rw [Lib.decode_at]
 have hb:=(s.get! p).toNat_lt
 generalize (s.get! p).toNat=b0 at *
 generalize (s.get! (p+1)).toNat=b1
 generalize (s.get! (p+2)).toNat=b2
 generalize (s.get! (p+3)).toNat=b3
 unfold Lib.decodeN OkR
 repeat' split
 all_goals omega
theorem Ga (s:ByteArray): ∀(m p:Nat),s.size-p≤m→ ∀r∈runesAt s p,OkR r
 | m,p,hm,r,hr=>by
  rw [runesAt] at hr
  split at hr
  ·rename_i hp
   rcases List.mem_cons.1 hr with rfl | hr
   ·exact Jcf s p
   ·have hd:=decode_pos s p
    match m with
    | 0=>omega
    | m+1=>exact Ga s m _ (by omega) r hr
  ·cases hr
theorem Zi (s:ByteArray): ∀r∈J2 s,OkR r:=Ga s _ 0 (Nat.le_refl _)
theorem Jam {g:Rg} {k:Int} {X:List Ce} (h: ∀c∈X,OkR c.1): ∀c∈K1 g k X,OkR c.1:=by
 intro c hc
 unfold K1 at hc
 rcases List.mem_append.1 hc with hc | hc
 ·exact h c (List.mem_of_mem_take hc)
 ·rcases List.mem_append.1 hc with hc | hc
  ·unfold up at hc
   obtain ⟨y,hy,rfl⟩:=List.mem_map.1 hc
   exact h y (List.mem_of_mem_drop (List.mem_of_mem_take hy))
  ·exact h c (List.mem_of_mem_drop hc)
theorem GD: ∀(rs:List Rg) (k:Int) (X:List Ce),(∀c∈X,OkR c.1)→ ∀c∈Kn rs k X,OkR c.1
 | [],_,X,h=>h
 | g::rs,k,X,h=>GD rs k (K1 g k X) (Jam h)
theorem E8 (e:GOp) {X:List Ce} (h: ∀c∈X,OkR c.1): ∀c∈JT e X,OkR c.1:=by
 unfold JT
 repeat' split
 ·intro c hc
  rcases List.mem_append.1 hc with hc | hc
  ·exact h c (List.mem_of_mem_take hc)
  ·rcases List.mem_append.1 hc with hc | hc
   ·unfold cellsOf at hc
    obtain ⟨y,hy,rfl⟩:=List.mem_map.1 hc
    exact Zi _ y hy
   ·exact h c (List.mem_of_mem_drop hc)
 ·exact GD _ _ _ h
 ·exact GD _ _ _ h
 ·exact h
theorem Made.okR {n:Nat} {H:Hist} {X:List Ce} (h:Made n H X): ∀c∈X,OkR c.1:=by
 induction h with
 | zero=>intro c hc;cases hc
 | step h g ih=>exact E8 _ ih
theorem _root_.Go.GW.Sp.monoF {P:Program} {k:FuncId} {args:List Value} {Lin:List Part} {pre:List Fact} {res res':Value→List Part→List Fact→Prop} (h:Sp P k args Lin pre res) (hr: ∀v Lo fs,res v Lo fs→ ∃fs',res' v Lo fs'∧ ∀A∈fs',A∈fs++pre):Sp P k args Lin pre res':=
 ⟨h.enters,fun Z w Ps As hs=>(h.calls Z w Ps As hs).mono fun e w' ⟨v,he,Z',Lo,fs,h1,h2⟩=>by
  obtain ⟨fs',h3,h4⟩:=hr v Lo fs h1
  exact ⟨v,he,Z',Lo,fs',h3,h2.subFacts fun A hA=>by
   rcases List.mem_append.1 hA with hA | hA
   ·rcases List.mem_append.1 (h4 A hA) with hA | hA
    ·exact List.mem_append_left _ hA
    ·exact List.mem_append_right _ (List.mem_append_left _ hA)
   ·exact List.mem_append_right _ hA⟩⟩
def ActR (M:DM) (D:DS):List Part→List Fact→Prop:=fun Lo fs=> ∃(M2:DM) (D2:DS),Acted D D2∧DV D2∧M2.d=M.d∧DkOk M2 D2∧Lo=KC M2 D2∧fs=KY M2 D2
structure Bd (D:DS):Prop where
 n:D.H.ops.length<700
 m:D.made<700∧(D.made:Int)+1<D.op
 c:5*(D.H.ops.length:Int)+5≤D.ce
theorem DV.nU {D:DS} (h:DV D):(D.u,(D.made:Int)+1)∉D.U:=fun hm=>by have:=h.sid _ (List.mem_append_left _ hm);simp only at this;omega
theorem DV.nR {D:DS} (h:DV D):(D.u,(D.made:Int)+1)∉D.R:=fun hm=>by have:=h.sid _ (List.mem_append_right _ hm);simp only at this;omega
theorem sid_more {D:DS} (h:DV D): ∀x∈D.U++D.R,x.2≤((D.made+1:Nat):Int):=fun x hx=>by have:=h.sid x hx;omega
theorem sid_did {D:DS} (h:DV D): ∀x∈(D.U++ [(D.u,(D.made:Int)+1)])++ [],x.2≤((D.made+1:Nat):Int):=fun x hx=>by
 rw [List.append_nil] at hx
 rcases List.mem_append.1 hx with hx | hx
 ·have:=h.sid x (List.mem_append_left _ hx);omega
 ·have:=List.mem_singleton.1 hx
  subst this
  show (D.made:Int)+1≤_;omega
theorem DV.insD {D:DS} (h:DV D) {k:Nat} {text:ByteArray} (M:MkD D (insO D k text)) (hu1:1≤(utF text).1∧(utF text).1≤5):DV (insD D k text)∧Acted D (insD D k text):=by
 have hw:Jx (insO D k text)=(utF text).1:=by unfold Jx;rw [if_pos (show (insO D k text).kind=1 from rfl)];rfl
 refine ⟨h.step M O O (by rw [hw];omega) O O O O (.inr (by rw [hw];rfl)) (sid_did h),O,⟨O,O,O⟩,O, .inr ⟨_,O,O,M.ops,O⟩⟩
theorem width_hide (D:DS) (rs:List Rg):Jx (hideO D rs)=0:=by unfold Jx;rw [if_neg (show ¬(hideO D rs).kind=1 by show ¬(2:Int)=1;decide)]
theorem width_stat (D:DS) (id:Id2) (on:Bool):Jx (statO D id on)=0:=by unfold Jx;rw [if_neg (show ¬(statO D id on).kind=1 by show ¬(4:Int)=1;decide)]
theorem DV.hideD {D:DS} (h:DV D) {rs:List Rg} (k:Nat) (M:MkD D (hideO D rs)):DV (hideD D rs k)∧Acted D (hideD D rs k):=
 ⟨h.step M rfl rfl (by rw [width_hide];omega) rfl rfl rfl rfl (.inl rfl) (sid_did h),rfl,⟨rfl,rfl,rfl⟩,rfl, .inr ⟨_,rfl,rfl,M.ops,rfl⟩⟩
theorem DV.statD {D:DS} (h:DV D) {id:Id2} {on:Bool} (j:Nat) (M:MkD D (statO D id on)):DV (statD D id on j)∧Acted D (statD D id on j):=
 ⟨h.step M rfl rfl (by rw [width_stat];omega) rfl rfl rfl rfl (.inl rfl) (sid_more h),rfl,⟨rfl,rfl,rfl⟩,rfl, .inr ⟨_,rfl,rfl,M.ops,rfl⟩⟩
theorem Acted.back {D D1 D2:DS} (h:Acted D1 D2) (hu:D1.u=D.u) (hl:D1.cl=D.cl∧D1.ce=D.ce∧D1.op=D.op) (hg:D1.got=D.got) (hH:D1.H=D.H) (hX:D1.X=D.X) (hm:D1.made=D.made):Acted D D2:=by
 obtain ⟨a1,a2,a3,a4⟩:=h
 rw [hu] at a1 a4
 rw [hl.1,hl.2.1,hl.2.2] at a2
 rw [hg] at a3
 rw [hH,hX,hm] at a4
 exact ⟨a1,a2,a3,a4⟩
theorem Jad {M2:DM} {D2:DS} {gs pre:List Fact} : ∀A∈KY M2 D2,A∈(KY M2 D2++gs)++pre:=fun A hA=>List.mem_append_left _ (List.mem_append_left _ hA)
theorem ins_a (M:DM) (D:DS) (ok:DkOk M D) (hv:DV D) (hb:Bd D) (p:Nat) (hp:p≤J5 D.X) (text:ByteArray) (hts:text.size≤1048576) (hu:(utF text).2.2=0) (hu1:1≤(utF text).1∧(utF text).1≤5):Sp Tryz.prog 13 [.pointer (some ⟨M.d,0,none⟩), .int .i64 p, .string text] (KC M D) (barF::KY M D) (fun v Lo fs=> ∃o:GOp,v= .tuple #[opV o none 0, .nilIface] ∧ActR M D Lo fs):=by
 have hpu:=hv.put_ D.u
 have hbm:=hb.m
 have hbn:=hb.n
 have hbc:=hb.c
 have hlm:=ok.lm
 have hmk: ∀k,Pth D.X p k→MkD D (insO D k text):=fun k hk=>(hv.insM (by omega) (by omega) hk hu (by omega)).1
 refine (insert_0 M D ok p hp text hts hu (by omega) (by omega) (by omega) hmk hv.nU hv.nR).mono ?_
 rintro v Lo fs ⟨k,M2,hk,hd,hok,rfl,rfl,rfl⟩
 obtain ⟨h1,h2⟩:=hv.insD (hmk k hk) hu1
 exact ⟨_,O,M2,_,h2,h1,hd,hok,O,O⟩
theorem del_a (M:DM) (D:DS) (ok:DkOk M D) (hv:DV D) (hb:Bd D) (p n:Nat) (hn0:0<n) (hpn:p+n≤J5 D.X):Sp Tryz.prog 17 [.pointer (some ⟨M.d,0,none⟩), .int .i64 p, .int .i64 n] (KC M D) (barF::KY M D) (fun v Lo fs=> ∃(o:GOp) (Ao:Option Addr) (co:Nat),v= .tuple #[opV o Ao co, .nilIface] ∧ActR M D Lo fs):=by
 have hbm:=hb.m
 have hbn:=hb.n
 have hlm:=ok.lm
 have hmk: ∀xs,VisR p n D.X xs→MkD D (hideO D xs)∧p≤J5 (JT (mkE D (hideO D xs)) D.X):=fun xs hx=>by
  obtain ⟨h1,h2⟩:=hv.hideM (by omega) (by omega) hn0 hpn hx
  refine ⟨h1,?_⟩
  rw [←KI,h2,List.length_append,List.length_take,KI];omega
 refine (delete_0 M D ok p n hn0 hpn (by omega) hmk hv.nU hv.nR).monoF ?_
 rintro v Lo fs ⟨xs,k,M2,A9,c9,hV,hB,hd,hok,rfl,rfl,rfl⟩
 obtain ⟨h1,h2⟩:=hv.hideD k (hmk xs hV).1
 exact ⟨_,⟨_,_,_,O,M2,_,h2,h1,hd,hok,O,O⟩,Jad⟩
theorem move_a (M:DM) (D:DS) (ok:DkOk M D) (hv:DV D) (hb:Bd D) (p:Nat) (hp:p≤J5 D.X):Sp Tryz.prog 81 [.pointer (some ⟨M.d,0,none⟩), .int .i64 p] (KC M D) (barF::KY M D) (fun v Lo fs=>v= .nilIface∧ActR M D Lo fs):=by
 refine (move_0 M D ok p hp).monoF ?_
 rintro v Lo fs ⟨k,hB,hok,rfl,rfl,rfl⟩
 exact ⟨_,⟨O,M,gapD D k,⟨O,⟨O,O,O⟩,O, .inl ⟨O,O,O⟩⟩,hv.turned O O O O O (fun x hx=>hx),O,hok,O,O⟩,fun A hA=> .tail _ hA⟩
theorem undo_a (M:DM) (D:DS) (ok:DkOk M D) (hv:DV D) (hb:Bd D):Sp Tryz.prog 39 [.pointer (some ⟨M.d,0,none⟩)] (KC M D) (barF::KY M D) (fun v Lo fs=>ActR M D Lo fs):=by
 have hbm:=hb.m
 have hbn:=hb.n
 have hlm:=ok.lm
 cases hx:(upF (JY D.H true) D.U D.R).1 with
 | none=>
  refine (undo_n M D ok (by omega) hx).mono ?_
  rintro v Lo fs ⟨e,M2,_,hd,hok,rfl,rfl,rfl⟩
  exact ⟨M2,D,Acted.rfl' D,hv,hd,hok,O,O⟩
 | some id=>
  obtain ⟨k,hw,hk,h4,hoff⟩:=stand_true (ZA hx)
  have hv1:DV (undoD D):=hv.turned rfl rfl rfl rfl rfl (fun x hx=>by
   rcases List.mem_append.1 hx with hx | hx
   ·exact List.mem_append.2 (VD (.inl hx))
   ·exact List.mem_append.2 (VD (.inr hx)))
  have htu:TuD (undoD D) id.1 id.2 false k:=hv1.tud (by show D.made<1024;omega) (by show D.H.ops.length<900;omega) hw hk h4 false hoff
  refine (ZB M D ok (by omega) id.1 id.2 k hx htu).mono ?_
  rintro v Lo fs ⟨M2,hd,hok,rfl,rfl,rfl⟩
  obtain ⟨h1,h2⟩:=hv1.statD k htu.mkd
  exact ⟨M2,_,h2.back O ⟨O,O,O⟩ O O O O,h1,hd,hok,O,O⟩
theorem redo_a (M:DM) (D:DS) (ok:DkOk M D) (hv:DV D) (hb:Bd D):Sp Tryz.prog 80 [.pointer (some ⟨M.d,0,none⟩)] (KC M D) (barF::KY M D) (fun v Lo fs=>ActR M D Lo fs):=by
 have hbm:=hb.m
 have hbn:=hb.n
 have hlm:=ok.lm
 cases hx:(upF (JY D.H false) D.R D.U).1 with
 | none=>
  refine (redo_n M D ok (by omega) hx).mono ?_
  rintro v Lo fs ⟨e,M2,_,hd,hok,rfl,rfl,rfl⟩
  exact ⟨M2,D,Acted.rfl' D,hv,hd,hok,O,O⟩
 | some id=>
  obtain ⟨k,hw,hk,h4,hoff⟩:=stand_true (ZA hx)
  have hv1:DV (redoD D):=hv.turned rfl rfl rfl rfl rfl (fun x hx=>by
   rcases List.mem_append.1 hx with hx | hx
   ·exact List.mem_append.2 ((VD (.inr hx)).symm)
   ·exact List.mem_append.2 ((VD (.inl hx)).symm))
  have htu:TuD (redoD D) id.1 id.2 true k:=hv1.tud (by show D.made<1024;omega) (by show D.H.ops.length<900;omega) hw hk h4 true hoff
  refine (Jb7 M D ok (by omega) id.1 id.2 k hx htu).mono ?_
  rintro v Lo fs ⟨M2,hd,hok,rfl,rfl,rfl⟩
  obtain ⟨h1,h2⟩:=hv1.statD k htu.mkd
  exact ⟨M2,_,h2.back O ⟨O,O,O⟩ O O O O,h1,hd,hok,O,O⟩
theorem turn_a (M:DM) (D:DS) (ok:DkOk M D) (hv:DV D) (hb:Bd D) (i0 i1:Int) (on:Bool):Sp Tryz.prog 20 [.pointer (some ⟨M.d,0,none⟩), .agg #[.int .i64 i0, .int .i64 i1], .bool on] (KC M D) (barF::KY M D) (fun v Lo fs=>ActR M D Lo fs):=by
 have hbm:=hb.m
 have hbn:=hb.n
 have hlm:=ok.lm
 by_cases he:effE D.H (i0,i1) on=0
 ·obtain ⟨k,hw,hk,h4,hoff⟩: ∃k,JX D.H.ents i0 i1=some k∧ ∃hk:k<D.H.ents.length,D.H.ents[k].op.kind≠4∧D.H.ents[k].off=on:=by
   cases hw:JX D.H.ents i0 i1 with
   | none=>unfold effE at he;rw [hw] at he;cases he
   | some k=>
    obtain ⟨hk,_,_⟩:=KD hw
    unfold effE at he
    rw [hw] at he
    simp only [List.getElem?_eq_getElem hk] at he
    refine ⟨k,O,hk,?_⟩
    split at he
    ·cases he
    ·rename_i h4
     split at he
     ·rename_i ho;exact ⟨h4,ho⟩
     ·cases he
  have htu:=hv.tud (by omega) (by omega) hw hk h4 on hoff
  refine (turn_d M D ok (by omega) i0 i1 on k k hw hk h4 hoff htu).mono ?_
  rintro v Lo fs ⟨M2,hd,hok,rfl,rfl,rfl⟩
  obtain ⟨h1,h2⟩:=hv.statD k htu.mkd
  exact ⟨M2,_,h2,h1,hd,hok,O,O⟩
 ·refine (turn_e M D ok (by omega) i0 i1 on he).monoF ?_
  rintro v Lo fs ⟨e,_,rfl,rfl,rfl⟩
  exact ⟨_,⟨M,D,Acted.rfl' D,hv,O,ok,O,O⟩,fun A hA=> .tail _ hA⟩
theorem Jah (A B:List Ce) (rs:List Int):Kn [⟨(A.length:Nat),(A.length:Nat)+(rs.length:Nat)⟩] 1 (A++(cellsOf rs 0++B))=A++(cellsOf rs 1++B):=by
 show K1 _ _ _=_
 unfold K1
 have e1:((A.length:Nat):Int).toNat=A.length:=Int.toNat_natCast _
 have e2:(((A.length:Nat):Int)+(rs.length:Nat)-(A.length:Nat)).toNat=rs.length:=by omega
 have e3:(((A.length:Nat):Int)+(rs.length:Nat)).toNat=(A++cellsOf rs 0).length:=by rw [List.length_append,Jr];omega
 simp only [e1,e2,e3]
 rw [List.take_left,List.drop_left,List.take_left' (Jr rs 0)]
 have e5:(A++(cellsOf rs 0++B)).drop (A++cellsOf rs 0).length=B:=by rw [←List.append_assoc,List.drop_left]
 rw [e5]
 have e4:up 1 (cellsOf rs 0)=cellsOf rs 1:=by unfold up cellsOf;rw [List.map_map];rfl
 rw [e4]
theorem H4 (rs:List Int):K3 (cellsOf rs 1)= [] :=by
 unfold K3 cellsOf
 rw [List.filter_map,List.map_map]
 have:(rs.filter ((fun c:Ce=>decide (c.2=0)) ∘ fun c=>(c,1)))= [] :=by
  apply List.filter_eq_nil_iff.2
  intro a _;simp
 rw [this];rfl
structure UndoI (D:DS) (p k:Nat) (D3:DS) (j:Nat):Prop where
 hx:(upF (JY D3.H true) D3.U D3.R).1=some (D.u,(D.made:Int)+1)
 tud:TuD (undoD D3) D.u ((D.made:Int)+1) false j
 vis:K3 (statD (undoD D3) (D.u,(D.made:Int)+1) false j).X=K3 D.X
 crt:J5 ((statD (undoD D3) (D.u,(D.made:Int)+1) false j).X.take (statD (undoD D3) (D.u,(D.made:Int)+1) false j).gap)=p
theorem ins_undo {D:DS} (hv:DV D) (hm:D.made<1000) (hn:D.H.ops.length<890) {p k:Nat} (hk:Pth D.X p k) {text:ByteArray} (hu:(utF text).2.2=0) (hu1:1≤(utF text).1∧(utF text).1≤5): ∃j,UndoI D p k (insD D k text) j:=by
 have g:=hv.ins (by omega) (by omega) hk.le hu (by omega)
 have M:=g.mkd hv.di (by omega)
 have ho:=KG D.H
 have he:=(end_ins hv.di.hv (o:=insO D k text) (by rw [←ho];exact g) rfl).2
 rw [←ho] at he
 have hru:=Y1 hu
 have hw:Jx (insO D k text)=(J2 text).length:=by
  unfold Jx;rw [if_pos (show (insO D k text).kind=1 from rfl)];show (utF text).1=_;omega
 have he2:(insD D k text).H.ents=D.H.ents.map (shiftE (insO D k text).at_ (Jx (insO D k text)))++ [⟨insO D k text,[⟨(insO D k text).at_,(insO D k text).at_+Jx (insO D k text)⟩],false⟩] :=he
 have hv3:=(hv.insD M hu1).1
 have hj:D.H.ents.length<(insD D k text).H.ents.length:=by rw [he2];simp
 have hej:(insD D k text).H.ents[D.H.ents.length] =⟨insO D k text,[⟨(k:Int),(k:Int)+((J2 text).length:Nat)⟩],false⟩:=by
  simp only [he2]
  rw [List.getElem_append_right (by simp)]
  simp only [List.length_map,Nat.sub_self,List.getElem_cons_zero,hw]
  rfl
 have hwh:=Yj hv3.di.hv.ids hj
 have hc:((insD D k text).H.ents[D.H.ents.length]).op.c=D.u:=by rw [hej];rfl
 have hn2:((insD D k text).H.ents[D.H.ents.length]).op.n=(D.made:Int)+1:=by rw [hej];rfl
 rw [hc,hn2] at hwh
 have hk4:((insD D k text).H.ents[D.H.ents.length]).op.kind≠4:=by rw [hej];show (1:Int)≠4;decide
 have hoff:((insD D k text).H.ents[D.H.ents.length]).off=false:=by rw [hej]
 have hst:JY (insD D k text).H true (D.u,(D.made:Int)+1)=true:=by
  rw [QN hwh hj,hoff];simp [hk4]
 have hU:(insD D k text).U=D.U++ [(D.u,(D.made:Int)+1)] :=rfl
 have hpk:pickF (JY (insD D k text).H true) (insD D k text).U=some (D.U.length,(D.u,(D.made:Int)+1)):=by
  rw [hU]
  have:=Gm (ok:=JY (insD D k text).H true) (l:=D.U++ [(D.u,(D.made:Int)+1)]) (k:=D.U.length) (by simp) (by simpa using hst) (fun j hj hlt=>by simp at hj;omega)
  simpa using this
 have hx:(upF (JY (insD D k text).H true) (insD D k text).U (insD D k text).R).1=some (D.u,(D.made:Int)+1):=by unfold upF;rw [hpk]
 have hv1:DV (undoD (insD D k text)):=hv3.turned rfl rfl rfl rfl rfl (fun x hx=>by
  rcases List.mem_append.1 hx with hx | hx
  ·exact List.mem_append.2 (VD (.inl hx))
  ·exact List.mem_append.2 (VD (.inr hx)))
 have hol:(insD D k text).H.ops.length=D.H.ops.length+1:=by
  show (mkH D (insO D k text)).ops.length=_
  rw [M.ops];simp
 have htu:TuD (undoD (insD D k text)) D.u ((D.made:Int)+1) false D.H.ents.length:=hv1.tud (by show D.made+1<1024;omega) (by show (insD D k text).H.ops.length<900;omega) hwh hj hk4 false hoff
 have g4:=hv1.stat (by show D.made+1<1024;omega) (by show (insD D k text).H.ops.length<900;omega) hwh hj hk4 false
 have hsr:=stat_row hv1.di g4 hj hwh hoff
 have hkl:(D.X.take k).length=k:=by rw [List.length_take];have:=hk.le;omega
 have hX3:(insD D k text).X=D.X.take k++(cellsOf (J2 text) 0++D.X.drop k):=ins_row hv.di g
 have hX4:(statD (undoD (insD D k text)) (D.u,(D.made:Int)+1) false D.H.ents.length).X=D.X.take k++(cellsOf (J2 text) 1++D.X.drop k):=by
  show JT _ _=_
  rw [hsr]
  show Kn ((insD D k text).H.ents[D.H.ents.length]).now _ (insD D k text).X=_
  rw [hX3]
  have hs:(if (decide (((undoD (insD D k text)).H.ents[D.H.ents.length]).op.kind=2)==false)=true then (1:Int) else -1)=1:=by
   have:((undoD (insD D k text)).H.ents[D.H.ents.length]).op.kind=1:=by show ((insD D k text).H.ents[D.H.ents.length]).op.kind=1;rw [hej];rfl
   rw [this];rfl
  rw [hs,hej]
  have:=Jah (D.X.take k) (D.X.drop k) (J2 text)
  rw [hkl] at this
  exact this
 have hgap:(statD (undoD (insD D k text)) (D.u,(D.made:Int)+1) false D.H.ents.length).gap=k:=by
  show turnGap _ (entryF (mkH (undoD (insD D k text)) (statO (undoD (insD D k text)) (D.u,(D.made:Int)+1) false)) (D.H.ents.length:Nat)).1 false=k
  rw [Yh htu.hj]
  have ho3:=KG (undoD (insD D k text)).H
  have hee:=(end_stat hv1.di.hv (o:=statO (undoD (insD D k text)) (D.u,(D.made:Int)+1) false) (by rw [←ho3];exact g4) rfl hj hwh hoff).2
  rw [←ho3] at hee
  have hee2:(mkH (undoD (insD D k text)) (statO (undoD (insD D k text)) (D.u,(D.made:Int)+1) false)).ents=(insD D k text).H.ents.set D.H.ents.length (offE (insD D k text).H.ents[D.H.ents.length] true)++ [⟨statO (undoD (insD D k text)) (D.u,(D.made:Int)+1) false,[],false⟩] :=hee
  have hek:(mkH (undoD (insD D k text)) (statO (undoD (insD D k text)) (D.u,(D.made:Int)+1) false)).ents[D.H.ents.length]'htu.hj=offE (insD D k text).H.ents[D.H.ents.length] true:=by
   simp only [hee2]
   rw [List.getElem_append_left (by simpa using hj),List.getElem_set_self]
  rw [hek,hej]
  rfl
 refine ⟨D.H.ents.length,hx,htu,?_,?_⟩
 ·rw [hX4,Yi,Yi (cellsOf _ _),H4,List.nil_append,←Yi,List.take_append_drop]
 ·rw [hgap,hX4]
  conv=>lhs;arg 1;rw [show k=(D.X.take k).length from hkl.symm]
  rw [hkl,List.take_left' hkl,hk.ct]
def abcB:ByteArray:=⟨#[97,98,99]⟩
def xB:ByteArray:=⟨#[88]⟩
theorem ut_abc:utF abcB=(3,0,0):=by
 show utAt ⟨#[97,98,99]⟩ 0 0=_
 rw [Yc (r:=97) (w:=1) (by decide) (by decide) (by decide) (by decide),Yc (r:=98) (w:=1) (by decide) (by decide) (by decide) (by decide),Yc (r:=99) (w:=1) (by decide) (by decide) (by decide) (by decide),utAt_end (by decide)];rfl
theorem ut_x:utF xB=(1,0,0):=by
 show utAt ⟨#[88]⟩ 0 0=_
 rw [Yc (r:=88) (w:=1) (by decide) (by decide) (by decide) (by decide),utAt_end (by decide)];rfl
theorem rn_end {s:ByteArray} {p:Nat} (h: ¬p<s.size):runesAt s p= [] :=by rw [runesAt,dif_neg h]
theorem rn_abc:J2 abcB= [97,98,99] :=by
 show runesAt ⟨#[97,98,99]⟩ 0=_
 rw [XS (r:=97) (w:=1) (by decide) (by decide),XS (r:=98) (w:=1) (by decide) (by decide),XS (r:=99) (w:=1) (by decide) (by decide),rn_end (by decide)];rfl
theorem rn_x:J2 xB= [88] :=by
 show runesAt ⟨#[88]⟩ 0=_
 rw [XS (r:=88) (w:=1) (by decide) (by decide),rn_end (by decide)];rfl
def awX1:List Ce:= [(97,0),(98,0),(99,0)]
def awX2:List Ce:= [(97,0),(98,1),(99,0)]
theorem aw_k0 {k:Nat} (h:Pth [] 0 k):k=0:=Nat.le_zero.1 h.le
theorem aw_k2 {k:Nat} (h:Pth awX2 1 k):k=2:=by
 have h1:k≤3:=h.le
 have h2:=h.ct
 have h3:=h.at_ (by decide)
 match k,h1 with
 | 0,_=>exact absurd h2 (by decide)
 | 1,_=>obtain ⟨r,h3⟩:=h3;exact absurd (show some (1:Int)=some 0 from congrArg (Option.map fun c:Ce=>c.2) h3) (by decide)
 | 2,_=>rfl
 | 3,_=>obtain ⟨r,h3⟩:=h3;exact absurd (show (none:Option Int)=some 0 from congrArg (Option.map fun c:Ce=>c.2) h3) (by decide)
theorem aw_x2 {xs:List Rg} (h:VisR 1 1 awX1 xs):Kn xs 1 awX1=awX2:=by
 have hb:=KS (k:=1) xs 0 awX1 (Int.le_refl _) h.pls.norm h.pls.below
 have hp:Kj xs= [1] :=by rw [h.pl];decide
 have hin: ∀q:Int,inRb q xs=decide (q=1):=fun q=>by
  have:inRb q xs=true↔q=1:=by rw [K4,←mem_places,hp];simp
  by_cases e:q=1
  ·rw [this.2 e];simp [e]
  ·rw [decide_eq_false e]
   cases hh:inRb q xs with
   | false=>rfl
   | true=>exact absurd (this.1 hh) e
 apply List.ext_getElem?
 intro q
 rw [hb.2 q,hin]
 match q with
 | 0=>rfl
 | 1=>rfl
 | 2=>rfl
 | q+3=>rfl
theorem aw_t3:textF (awX2.take 2++(cellsOf [88] 0++awX2.drop 2))=⟨#[97,88,99]⟩:=rfl
theorem text_vis {X Y:List Ce} (h:K3 X=K3 Y):textF X=textF Y:=by unfold textF vbs;rw [h]
theorem aw_t4:textF awX2=⟨#[97,99]⟩:=rfl
theorem tmod_neg (x:Int) (m:Nat) (hm:0<m) (h:x.tmod m<0):x.tmod m+m=x % m:=by
 have h1:=Int.emod_add_mul_ediv x m
 have h2:=Int.tmod_add_mul_tdiv x m
 have h3:=Int.emod_nonneg x (show (m:Int)≠0 by omega)
 have h4:=Int.emod_lt_of_pos x (show (0:Int)<m by omega)
 have h5:=Ej x m hm
 have h6:(m:Int)*(x / m)-m*(x.tdiv m)=x.tmod m-x % m:=by omega
 have h7:(m:Int)*(x / m-x.tdiv m)=x.tmod m-x % m:=by rw [Int.mul_sub];exact h6
 have h8:x / m-x.tdiv m= -1:=by
  rcases Int.lt_trichotomy (x / m-x.tdiv m) (-1) with h | h | h
  ·exfalso
   have:(m:Int)*(x / m-x.tdiv m)≤m*(-2):=Int.mul_le_mul_of_nonneg_left (by omega) (by omega)
   omega
  ·exact h
  ·exfalso
   have:(m:Int)*0≤m*(x / m-x.tdiv m):=Int.mul_le_mul_of_nonneg_left (by omega) (by omega)
   omega
 rw [h8] at h7
 omega
theorem tmod_pos (x:Int) (m:Nat) (hm:0<m) (h:0≤x.tmod m):x.tmod m=x % m:=by
 have h1:=Int.emod_add_mul_ediv x m
 have h2:=Int.tmod_add_mul_tdiv x m
 have h3:=Int.emod_nonneg x (show (m:Int)≠0 by omega)
 have h4:=Int.emod_lt_of_pos x (show (0:Int)<m by omega)
 have h5:=Ej x m hm
 have h6:(m:Int)*(x / m)-m*(x.tdiv m)=x.tmod m-x % m:=by omega
 have h7:(m:Int)*(x / m-x.tdiv m)=x.tmod m-x % m:=by rw [Int.mul_sub];exact h6
 have h8:x / m-x.tdiv m=0:=by
  rcases Int.lt_trichotomy (x / m-x.tdiv m) 0 with h | h | h
  ·exfalso
   have:(m:Int)*(x / m-x.tdiv m)≤m*(-1):=Int.mul_le_mul_of_nonneg_left (by omega) (by omega)
   omega
  ·exact h
  ·exfalso
   have:(m:Int)*1≤m*(x / m-x.tdiv m):=Int.mul_le_mul_of_nonneg_left (by omega) (by omega)
   omega
 rw [h8] at h7
 omega
set_option maxRecDepth 10000 in
theorem brought_m (x:Int) (m:Nat) (hm:0<m∧m≤1099511627776):Sp Tryz.prog 12 [.int .i64 x, .int .i64 m] [] [] (Is (.int .i64 (x % m))):=by
 have htb:=Ej x m hm.1
 refine Sp.of (n:=16) ⟨_,Tryz.func12,O,O,O,O⟩ (Nat.le_of_ble_eq_true O) fun Ps As=>Jc (Ja (Lq (Jd O) (Je (Jf (Jc (Jc (Ja (Lq (Jb O) (Lq (Km O O) (Je (Jf (Jv O (decide_eq_false (by omega)) (Jp (Jf (Jc (Ja (Lq (Jb O) ?_)))))))))))))))))
 refine Lq (Jb O) (Lq (Jcr O O (by omega) O) (Lq (Jd O) (Je (Jf (Jc (Jc (Ja (Lq (Jb O) (Lq (Km O O) (Je (Jf (Jy O (fun h11=> ?_) (fun h11=> ?_)))))))))))))
 ·refine Ja (Lq (Jb O) (Lq (Jb O) (Lq (JU O O (wr64 (by have h:=h11;simp only [decide_eq_true_eq] at h;omega))) (Lq (Jd O) (Je (Jf (Jc (Ja (Lq (Jb O) (Lq (Jd O) (Je (Jf (Jo ?_)))))))))))))
  refine ⟨_,[],[],fun Z w hs=> .tmp O .nil,?_,fun Z w hs=>hs.out (Sr) (fun _ h=>h)⟩
  have h:=h11
  have h3:=Int.emod_nonneg x (show (m:Int)≠0 by omega)
  have h4:=Int.emod_lt_of_pos x (show (0:Int)<m by omega)
  simp only [decide_eq_true_eq] at h
  exact ⟨congrArg (Value.int .i64) (by rw [tmod_neg x m hm.1 h]),O,O⟩
 ·refine Jp (Jf (Jc (Ja (Lq (Jb O) (Lq (Jd O) (Je (Jf (Jo ?_))))))))
  refine ⟨_,[],[],fun Z w hs=> .tmp O .nil,?_,fun Z w hs=>hs.out (Sr) (fun _ h=>h)⟩
  have h:=h11
  have h3:=Int.emod_nonneg x (show (m:Int)≠0 by omega)
  have h4:=Int.emod_lt_of_pos x (show (0:Int)<m by omega)
  simp only [decide_eq_false_iff_not] at h
  exact ⟨congrArg (Value.int .i64) (by rw [tmod_pos x m hm.1 (by omega)]),O,O⟩
theorem K9 (x:Int) (m:Nat) (hm:0<m∧m≤1099511627776):Sp Tryz.prog 12 [.int .i64 x, .int .i64 m] [] [] (fun v Lo fs=> ∃r:Nat,r<m∧(r:Int)=x % m∧v= .int .i64 r∧Lo= [] ∧fs= []):=by
 refine (brought_m x m hm).mono ?_
 rintro v Lo fs ⟨rfl,rfl,rfl⟩
 have h3:=Int.emod_nonneg x (show (m:Int)≠0 by omega)
 have h4:=Int.emod_lt_of_pos x (show (0:Int)<m by omega)
 exact ⟨(x % m).toNat,by omega,by omega,congrArg (Value.int .i64) (by omega),O,O⟩
theorem bd38_0_1_2Xg20 (x0_:Int) (x1_:Int) (x2_:Int) (w:World):(Instr.build 38 #[(0, .int .i64 x0_),(1, .int .i64 x1_),(2, .int .i64 x2_)]).run Tryz.prog w= .ok (.agg #[.int .i64 x0_, .int .i64 x1_, .int .i64 x2_]) w:=by kernel_rfl
set_option maxRecDepth 10000 in
theorem Jcv:Sp Tryz.prog 37 [] [] [] (Is (.agg #[.int .i64 4, .int .i64 4096, .int .i64 1024])):=by
 refine Sp.of (n:=2) ⟨_,Tryz.func37,O,O,O,O⟩ (Nat.le_of_ble_eq_true O) fun Ps As=>Jc (Ja (Jg O (Ju (cs:= [_,_,_]) Ek O (by decide) fun b0=>Je (Jf (Jc (Ja (Lq (JZ (.n3 O O O) (bd38_0_1_2Xg20 _ _ _)) (Jg O (Jq (cs':= [_,_,_]) (vs:= [_,_,_]) Ek O O O O O (Nat.le_of_ble_eq_true O) .z (Je (Jf (Jo ?_))))))))))))
 refine ⟨_,[],[],fun Z w hs=>JV hs Un38 O Ek O Jn O .nil,?_,fun Z w hs=>hs.out (Sd (Sr)) (fun _ h=>h)⟩
 exact ⟨O,O,O⟩
set_option maxRecDepth 10000 in
theorem Jag (o:GOp) (A:Option Addr) (c:Nat) (hl:o.rs.length≤4398046511104):Sp Tryz.prog 79 [opV o A c] [] [RdF rgD A c o.rs] (fun v Lo fs=> ∃A' c',v=opV o A' c'∧Lo= [] ∧fs= [RdF rgD A' c' o.rs]):=by
 refine Sp.of (n:=8) ⟨_,Tryz.func79,O,O,O,O⟩ (Nat.le_of_ble_eq_true O) fun Ps As=>Jc (Ja (Jg O (J9 (cs:= [_,_,_,_,_,_,_,_,_]) O O (by decide) fun b1=>Jg O (Ju (cs:= [_,_,_,_,_,_,_,_,_]) JD O (by decide) fun b2=>Je (Jf (Jc (Ja (Lq (Jh (o':=5) Un52 O Ya O O) (Lq (Jj Un50 O O (Ji (Jn)) O) (VY (Jg O (YD (e:=rgD) (ys:=_) Un50 KZ O (by decide) O O (Row.nil _ _) Mm0 (by omega) (by unfold maxLen;omega) (by decide) (List.Perm.refl _) fun v5 p5 cs5 hr5=>Ec (e:=rgD) (css:=cs5) hr5 .z (by simp) Mm0 fun A5 c5 e5=> ?_))))))))))))
 subst e5
 refine Lq (Jh (o':=5) Un52 O Ya O O) (Jg O (JJ Ya O O O .z5 .z1 (Je (Jf (Jc (Ja (Lq (Jt (vs:= [_,_,_,_,_,_,_,_,_]) Un52 O JD O (Ji (Jn)) O O) (Jg O (Jq (cs':= [_,_,_,_,_,_,_,_,_]) (vs:= [_,_,_,_,_,_,_,_,_]) JD O O O O O (Nat.le_of_ble_eq_true O) .z (Je (Jf (Jo ?_))))))))))))
 refine ⟨_,[],[_],fun Z w hs=>JV hs Un52 O JD O Jn O .nil,?_,fun Z w hs=>hs.out (Sd (Sd (Sr))) (Jl Mm0 Tt2)⟩
 exact ⟨_,_,O,O,O⟩
theorem bd46_0_1Xg21 (x0_:Int) (x1_:Int) (w:World):(Instr.build 46 #[(0, .int .i64 x0_),(1, .int .i64 x1_)]).run Tryz.prog w= .ok (.agg #[.int .i64 x0_, .int .i64 x1_]) w:=by kernel_rfl
set_option maxRecDepth 10000 in
theorem Jbn (M:DM) (D:DS) (ok:DkOk M D) (hv:DV D) (hb:Bd D) (a:GAct) (k n:Nat) (hn:1≤n∧n≤8):Sp Tryz.prog 41 [.pointer (some ⟨M.d,0,none⟩),actV a, .int .i64 k, .int .i64 n] (KC M D) (barF::wordsF::KY M D) (fun v Lo fs=>v= .bool true∧ActR M D Lo fs):=by
 have hvl:=KA M.t.row
 have hwt:=ok.wt
 have htl:=ok.tl
 have hrow:=ok.row
 have hpl:=ok.pl
 have hxl:=ok.xl
 have hvx:=KA D.X
 refine Sp.of (n:=101) ⟨_,Tryz.func41,O,O,O,O⟩ (Nat.le_of_ble_eq_true O) fun Ps As=>Jc (Ja (Jg O (J9 (cs:= [_,_,_,_,_,_]) O O (by decide) fun b5=>Lq (Jd O) (Je (Jf (Jc (Ja (Lq (Jb O) (Lq (JC O) (Lq (Jh (o':=0) Un42 O Yk O O) (Jg O (Kv (Xk M.d M.h M.b _ _ M.B M.t hwt) (.n1 O) (by decide) .z1 .z4 (Jl Mm4 Jw) fun u1_3 Lo fs hres=> ?_))))))))))))
 obtain ⟨rfl,rfl,rfl⟩:=hres
 rw [hrow]
 refine Lq (Jd O) (Je (Jf (Jc (JE (Jc (Ja (Lq (Jb O) (Lq (Km O O) (Lq (Jd O) (Je (Jf (Jy O (fun h19=> ?_) (fun h19=> ?_)))))))))))))
 ·refine Jc (JI _ _ [16] (.c 0 0 (.c 1 0 (.c 2 0 (.c 3 0 (.c 4 0 (.c 6 0 (.c 7 0 (.b (.c 5 2 (.b (.c 8 2 (.c 9 0 (.c 10 0 (.b (.c 11 2 (.c 12 0 (.c 13 0 (.c 14 1 (.c 15 2 (.c 16 3 (.c 17 1 .nil))))))) (.c 15 2 (.c 11 2 (.c 12 0 (.c 13 0 (.c 14 1 (.c 16 3 (.c 17 1 .nil))))))))))) (.c 15 2 (.c 8 2 (.c 9 0 (.c 10 0 (.c 11 2 (.c 12 0 (.c 13 0 (.c 14 1 (.c 16 3 (.c 17 1 .nil)))))))))))) (.c 15 2 (.c 5 2 (.c 8 2 (.c 9 0 (.c 10 0 (.c 11 2 (.c 12 0 (.c 13 0 (.c 14 1 (.c 16 3 (.c 17 1 .nil))))))))))))))))))) mixed (fun _ _ _ _ h=>h) (Sd (Sd (Sk (Sd (Sd (Sd (Sd (Sd (Sd (Sr)))))))))) (fun _ h=>h) (by kernel_rfl) (by decide) fun ws Z0=>Qe O (Jb O) (Qe O (Jh (o':=2) Un93 O ti3 O O) ?_))
  refine Qe O (Jj Un3 O O Jn O) (Qe O (Jb O) (Qe O (JU O O (wr64 (by omega)) (c:=((J5 D.X+1:Nat):Int))) (Qe O (Jh (o':=3) Un93 O ti3 O O) (Qe O (Jj Un3 O O Jn O) (Yd ?_ ?_)))))
  ·refine Jz O O (Jm (K9 a.a (J5 D.X+1) (by omega)) (.n2 O O) (by decide) Jw fun u3_5 Lo fs hres=> ?_)
   obtain ⟨p,hp,_,rfl,rfl,rfl⟩:=hres
   refine ⟨⟨(Sd (Sd (Sk (Sd (Sd (Sd (Sd (Sd (Sd (Sr)))))))))),Mm0⟩,?_⟩
   refine Yd ?_ ?_
   ·refine Jz O O (Jm (K9 a.b 6 (by omega)) (.n2 O O) (by decide) Jw fun u3_8 Lo fs hres=> ?_)
    obtain ⟨w,hw,_,rfl,rfl,rfl⟩:=hres
    refine ⟨⟨(Sd (Sd (Sk (Sd (Sd (Sd (Sd (Sd (Sd (Sr)))))))))),Mm0⟩,?_⟩
    refine Qe O (Yf (o':=0+w) Un43 ti9 O O (by omega) (by omega) (by simp)) (Qe O (Kb (j:=w) (v:= .string (wordA w)) Un9 O O Mm1 O (Ei hw)) (Yd ?_ ?_))
    ·have hwd:=XK hw
     refine Jz O O (J6 (ins_a M D ok hv hb p (by omega) (wordA w) (by have:=hwd.z;omega) hwd.u hwd.n) (.n3 O O O) (by decide) (.n8 .z .z2 .z2 .z2 .z .z1 .z1 .z1) (Jl Mm1 (Jl Mm3 (Jl Mm4 (Jl Mm5 Jw)))) fun u3_11 Lo fs hres=> ?_)
     obtain ⟨_,rfl,M2,D2,hac,hv2,hd2,hok2,rfl,rfl⟩:=hres
     refine ⟨⟨(Sd (Sd (Sd (Sd (Sd (Sd (Sd (Sd (Sk (Sr)))))))))),Mm3⟩,?_⟩
     refine Qe O (Jb O) (Qe O (Jk (vs:= [_,_]) O O) (YZ O (Jk (vs:= [_,_]) O O) (by decide) (Jz O O (Ju (cs:= [_,_,_,_,_,_,_,_,_]) JD O (by decide) fun b10=> ?_))))
     refine ⟨⟨(Sd (Sd (Sd (Sd (Sd (Sd (Sd (Sd (Sd (Sk (Sr))))))))))),Mm3⟩,?_⟩
     refine JN (J8 O O (Jq (cs':= [_,_,_,_,_,_,_,_,_]) (vs:= [_,_,_,_,_,_,_,_,_]) JD O O O O O (Nat.le_of_ble_eq_true O) .z (YH O (Jd O) (by decide) (JM (Jf (Jc (Ja (Lq (Jb O) (Lq (QX Un54 O) (Lq (Jd O) (Je (Jf (Jo (JG (Js ?_)))))))))))))))
     refine ⟨_,[_,_,_,_,_,_,_,_],[_,_,_],fun Z w hs=> .tmp O .nil,?_,fun Z w hs=>hs.out (Sd (Sk (Sk (Sk (Sk (Sk (Sk (Sk (Sk (Sd (Sr))))))))))) (Jl Mm0 (Jl Mm1 (Jl Mm2 Tt4)))⟩
     exact ⟨O,M2,D2,hac,hv2,hd2,hok2,O,O⟩
    ·refine Jz O O (Ju (cs:= [_,_,_,_,_,_,_,_,_]) JD O (by decide) fun b10=> ?_)
     refine ⟨⟨(Sd (Sd (Sd (Sk (Sd (Sd (Sd (Sd (Sd (Sd (Sr))))))))))),Mm0⟩,?_⟩
     have hwd:=XK hw
     refine Jz O O (J6 (ins_a M D ok hv hb p (by omega) (wordA w) (by have:=hwd.z;omega) hwd.u hwd.n) (.n3 O O O) (by decide) (.n8 .z1 .z3 .z3 .z3 .z1 .z2 .z2 .z2) (Jl Mm1 (Jl Mm3 (Jl Mm4 (Jl Mm5 Jw)))) fun u3_11 Lo fs hres=> ?_)
     obtain ⟨_,rfl,M2,D2,hac,hv2,hd2,hok2,rfl,rfl⟩:=hres
     refine ⟨⟨(Sd (Sd (Sd (Sd (Sd (Sd (Sd (Sd (Sd (Sk (Sr))))))))))),Mm3⟩,?_⟩
     refine Qe O (Jb O) (Qe O (Jk (vs:= [_,_]) O O) (YZ O (Jk (vs:= [_,_]) O O) (by decide) (JN (J8 O O (Jq (cs':= [_,_,_,_,_,_,_,_,_]) (vs:= [_,_,_,_,_,_,_,_,_]) JD O O O O O (Nat.le_of_ble_eq_true O) .z8 (YH O (Jd O) (by decide) (JM (Jf (Jc (Ja (Lq (Jb O) (Lq (QX Un54 O) (Lq (Jd O) ?_)))))))))))))
     refine Je (Jf (Jo (JG (Js ?_))))
     refine ⟨_,[_,_,_,_,_,_,_,_],[_,_,_],fun Z w hs=> .tmp O .nil,?_,fun Z w hs=>hs.out (Sk (Sk (Sk (Sk (Sk (Sk (Sk (Sk (Sd (Sd (Sr))))))))))) (Jl Mm0 (Jl Mm1 (Jl Mm2 Tt4)))⟩
     exact ⟨O,M2,D2,hac,hv2,hd2,hok2,O,O⟩
   ·refine Jz O O (Ju (cs:= [_,_,_,_,_,_,_,_,_]) JD O (by decide) fun b10=> ?_)
    refine ⟨⟨(Sd (Sd (Sd (Sk (Sd (Sd (Sd (Sd (Sd (Sd (Sr))))))))))),Mm0⟩,?_⟩
    refine Jz O O (Jm (K9 a.b 6 (by omega)) (.n2 O O) (by decide) Jw fun u3_8 Lo fs hres=> ?_)
    obtain ⟨w,hw,_,rfl,rfl,rfl⟩:=hres
    refine ⟨⟨(Sd (Sd (Sd (Sk (Sd (Sd (Sd (Sd (Sd (Sd (Sr))))))))))),Mm0⟩,?_⟩
    refine Qe O (Yf (o':=0+w) Un43 ti9 O O (by omega) (by omega) (by simp)) (Qe O (Kb (j:=w) (v:= .string (wordA w)) Un9 O O Mm1 O (Ei hw)) ?_)
    have hwd:=XK hw
    refine Jz O O (J6 (ins_a M D ok hv hb p (by omega) (wordA w) (by have:=hwd.z;omega) hwd.u hwd.n) (.n3 O O O) (by decide) (.n8 .z1 .z3 .z3 .z3 .z1 .z2 .z2 .z2) (Jl Mm1 (Jl Mm3 (Jl Mm4 (Jl Mm5 Jw)))) fun u3_11 Lo fs hres=> ?_)
    obtain ⟨_,rfl,M2,D2,hac,hv2,hd2,hok2,rfl,rfl⟩:=hres
    refine ⟨⟨(Sd (Sd (Sd (Sd (Sd (Sd (Sd (Sd (Sd (Sk (Sr))))))))))),Mm3⟩,?_⟩
    refine Qe O (Jb O) (Qe O (Jk (vs:= [_,_]) O O) (YZ O (Jk (vs:= [_,_]) O O) (by decide) (JN (J8 O O (Jq (cs':= [_,_,_,_,_,_,_,_,_]) (vs:= [_,_,_,_,_,_,_,_,_]) JD O O O O O (Nat.le_of_ble_eq_true O) .z8 (YH O (Jd O) (by decide) (JM (Jf (Jc (Ja (Lq (Jb O) (Lq (QX Un54 O) (Lq (Jd O) ?_)))))))))))))
    refine Je (Jf (Jo (JG (Js ?_))))
    refine ⟨_,[_,_,_,_,_,_,_,_],[_,_,_],fun Z w hs=> .tmp O .nil,?_,fun Z w hs=>hs.out (Sk (Sk (Sk (Sk (Sk (Sk (Sk (Sk (Sd (Sd (Sr))))))))))) (Jl Mm0 (Jl Mm1 (Jl Mm2 Tt4)))⟩
    exact ⟨O,M2,D2,hac,hv2,hd2,hok2,O,O⟩
  ·refine Jz O O (Ju (cs:= [_,_,_,_,_,_,_,_,_]) JD O (by decide) fun b10=> ?_)
   refine ⟨⟨(Sd (Sd (Sd (Sk (Sd (Sd (Sd (Sd (Sd (Sd (Sr))))))))))),Mm0⟩,?_⟩
   refine Jz O O (Jm (K9 a.a (J5 D.X+1) (by omega)) (.n2 O O) (by decide) Jw fun u3_5 Lo fs hres=> ?_)
   obtain ⟨p,hp,_,rfl,rfl,rfl⟩:=hres
   refine ⟨⟨(Sd (Sd (Sd (Sk (Sd (Sd (Sd (Sd (Sd (Sd (Sr))))))))))),Mm0⟩,?_⟩
   refine Jz O O (Jm (K9 a.b 6 (by omega)) (.n2 O O) (by decide) Jw fun u3_8 Lo fs hres=> ?_)
   obtain ⟨w,hw,_,rfl,rfl,rfl⟩:=hres
   refine ⟨⟨(Sd (Sd (Sd (Sk (Sd (Sd (Sd (Sd (Sd (Sd (Sr))))))))))),Mm0⟩,?_⟩
   refine Qe O (Yf (o':=0+w) Un43 ti9 O O (by omega) (by omega) (by simp)) (Qe O (Kb (j:=w) (v:= .string (wordA w)) Un9 O O Mm1 O (Ei hw)) ?_)
   have hwd:=XK hw
   refine Jz O O (J6 (ins_a M D ok hv hb p (by omega) (wordA w) (by have:=hwd.z;omega) hwd.u hwd.n) (.n3 O O O) (by decide) (.n8 .z1 .z3 .z3 .z3 .z1 .z2 .z2 .z2) (Jl Mm1 (Jl Mm3 (Jl Mm4 (Jl Mm5 Jw)))) fun u3_11 Lo fs hres=> ?_)
   obtain ⟨_,rfl,M2,D2,hac,hv2,hd2,hok2,rfl,rfl⟩:=hres
   refine ⟨⟨(Sd (Sd (Sd (Sd (Sd (Sd (Sd (Sd (Sd (Sk (Sr))))))))))),Mm3⟩,?_⟩
   refine Qe O (Jb O) (Qe O (Jk (vs:= [_,_]) O O) (YZ O (Jk (vs:= [_,_]) O O) (by decide) (JN (J8 O O (Jq (cs':= [_,_,_,_,_,_,_,_,_]) (vs:= [_,_,_,_,_,_,_,_,_]) JD O O O O O (Nat.le_of_ble_eq_true O) .z8 (YH O (Jd O) (by decide) (JM (Jf (Jc (Ja (Lq (Jb O) (Lq (QX Un54 O) (Lq (Jd O) ?_)))))))))))))
   refine Je (Jf (Jo (JG (Js ?_))))
   refine ⟨_,[_,_,_,_,_,_,_,_],[_,_,_],fun Z w hs=> .tmp O .nil,?_,fun Z w hs=>hs.out (Sk (Sk (Sk (Sk (Sk (Sk (Sk (Sk (Sd (Sd (Sr))))))))))) (Jl Mm0 (Jl Mm1 (Jl Mm2 Tt4)))⟩
   exact ⟨O,M2,D2,hac,hv2,hd2,hok2,O,O⟩
 ·refine Jc (Ja (Lq (Jb O) (Lq (Kh O O) (Lq (Jd O) (Je (Jf (Jy O (fun h39=> ?_) (fun h39=> ?_))))))))
  ·refine Jc (Jc (Ja (Lq (Jb O) (Lq (Kh O O) (Je (Jf (Jy O (fun h43=> ?_) (fun h43=> ?_))))))))
   ·refine Jc (Ja (Lq (Jd O) (Je (Jf (Jo (Js (JG (Js ?_))))))))
    refine ⟨_,[_,_,_,_,_,_,_,_],[_,_,_],fun Z w hs=> .tmp O .nil,?_,fun Z w hs=>((((((((hs.pick .z8).pick .z8).pick .z8).pick .z4).pick .z8).pick .z8).pick .z8).pick .z7).out (Sk (Sk (Sk (Sk (Sk (Sk (Sk (Sk (Sd (Sr)))))))))) (Jl Mm2 (Jl Mm3 (Jl Mm4 (fun _ h=>h))))⟩
    exact ⟨O,M,D,Acted.rfl' D,hv,O,ok,O,O⟩
   ·have hvp:0<J5 D.X:=by simp at h43;omega
    refine Jp (Jf (Jc (Ja (Lq (Jh (o':=2) Un93 O ti3 O O) (Lq (Jj Un3 O O (Ji (Ji (Jn))) O) (Lq (Jb O) (Jg O (Jm (K9 a.a (J5 D.X) (by omega)) (.n2 O O) (by decide) Jw fun u8_3 Lo fs hres=> ?_))))))))
    obtain ⟨p,hp,_,rfl,rfl,rfl⟩:=hres
    refine Lq (Jd O) (Je (Jf (Jc (Ja (Lq (Jb O) (Lq (Jb O) (Lq (Jh (o':=3) Un93 O ti3 O O) (Lq (Jj Un3 O O (Ji (Ji (Jn))) O) (Lq (Jb O) (Lq (Jb O) (Lq (KP O O (by rw [wr64 (by omega)];omega) (c:=((J5 D.X-p:Nat):Int))) (Jg O (Jm (K9 a.b (J5 D.X-p) (by omega)) (.n2 O O) (by decide) Jw fun u9_7 Lo fs hres=> ?_)))))))))))))
    obtain ⟨q,hq,_,rfl,rfl,rfl⟩:=hres
    refine Lq (JU O O (wr64 (by omega)) (c:=((1+q:Nat):Int))) (Jg O (J6 (del_a M D ok hv hb p (1+q) (by omega) (by omega)) (.n3 O O O) (by decide) (.n8 .z .z2 .z2 .z2 .z .z1 .z1 .z1) (Jl Mm0 (Jl Mm2 (Jl Mm3 (Jl Mm4 Jw)))) fun u9_9 Lo fs hres=> ?_))
    obtain ⟨_,_,_,rfl,M2,D2,hac,hv2,hd2,hok2,rfl,rfl⟩:=hres
    refine Lq (Jb O) (Lq (Jk (vs:= [_,_]) O O) (Lq (Jk (vs:= [_,_]) O O) (Jg O (Ju (cs:= [_,_,_,_,_,_,_,_,_]) JD O (by decide) fun b13=>Jg O (Jq (cs':= [_,_,_,_,_,_,_,_,_]) (vs:= [_,_,_,_,_,_,_,_,_]) JD O O O O O (Nat.le_of_ble_eq_true O) .z (Lq (Jd O) (Je (Jf (Jc (Ja (Lq (Jb O) (Lq (QX Un54 O) (Lq (Jd O) ?_)))))))))))))
    refine Je (Jf (Jo (JG (Js ?_))))
    refine ⟨_,[_,_,_,_,_,_,_,_],[_,_,_],fun Z w hs=> .tmp O .nil,?_,fun Z w hs=>hs.out (Sd (Sk (Sk (Sk (Sk (Sk (Sk (Sk (Sk (Sd (Sr))))))))))) (fun _ h=>h)⟩
    exact ⟨O,M2,D2,hac,hv2,hd2,hok2,O,O⟩
  ·refine Jc (Ja (Lq (Jb O) (Lq (Kh O O) (Lq (Jd O) (Je (Jf (Jy O (fun h63=> ?_) (fun h63=> ?_))))))))
   ·refine Ja (Lq (Jb O) (Jg O (J6 (undo_a M D ok hv hb) (.n1 O) (by decide) (.n8 .z .z2 .z2 .z2 .z .z1 .z1 .z1) (Jl Mm0 (Jl Mm2 (Jl Mm3 (Jl Mm4 Jw)))) fun u12_1 Lo fs hres=> ?_)))
    obtain ⟨M2,D2,hac,hv2,hd2,hok2,rfl,rfl⟩:=hres
    refine Je (Ka (Jf (Jc (Ja (Lq (Jd O) (Je (Jf (Jo ?_))))))))
    refine ⟨_,[_,_,_,_,_,_,_,_],[_,_,_],fun Z w hs=> .tmp O .nil,?_,fun Z w hs=>hs.out (Sk (Sk (Sk (Sk (Sk (Sk (Sk (Sk (Sd (Sr)))))))))) (fun _ h=>h)⟩
    exact ⟨O,M2,D2,hac,hv2,hd2,hok2,O,O⟩
   ·refine Jc (Ja (Lq (Jb O) (Lq (Kh O O) (Lq (Jd O) (Je (Jf (Jy O (fun h68=> ?_) (fun h68=> ?_))))))))
    ·refine Ja (Lq (Jb O) (Jg O (J6 (redo_a M D ok hv hb) (.n1 O) (by decide) (.n8 .z .z2 .z2 .z2 .z .z1 .z1 .z1) (Jl Mm0 (Jl Mm2 (Jl Mm3 (Jl Mm4 Jw)))) fun u14_1 Lo fs hres=> ?_)))
     obtain ⟨M2,D2,hac,hv2,hd2,hok2,rfl,rfl⟩:=hres
     refine Je (Ka (Jf (Jc (Ja (Lq (Jd O) (Je (Jf (Jo ?_))))))))
     refine ⟨_,[_,_,_,_,_,_,_,_],[_,_,_],fun Z w hs=> .tmp O .nil,?_,fun Z w hs=>hs.out (Sk (Sk (Sk (Sk (Sk (Sk (Sk (Sk (Sd (Sr)))))))))) (fun _ h=>h)⟩
     exact ⟨O,M2,D2,hac,hv2,hd2,hok2,O,O⟩
    ·refine Jc (Ja (Lq (Jb O) (Lq (Kh O O) (Lq (Jd O) (Je (Jf (Jy O (fun h73=> ?_) (fun h73=> ?_))))))))
     ·refine JI _ _ [] (.c 0 0 (.c 1 0 (.c 2 0 (.c 3 0 (.c 6 0 (.c 7 0 (.c 11 0 (.c 12 0 (.c 4 2 (.c 5 0 (.c 8 2 (.c 9 0 (.c 10 0 (.c 13 2 .nil)))))))))))))) mixed (fun _ _ _ _ h=>h) (Sd (Sd (Sk (Sd (Sd (Sd (Sd (Sd (Sd (Sr)))))))))) (fun _ h=>h) (by kernel_rfl) (by decide) fun ws Z0=>Qe O (Jb O) (Qe O (Jh (o':=3) Un93 O ti3 O O) (Qe O (Jj Un3 O O Jn O) (Qe O (Jb O) (Qe O (Jh (o':=2) Un93 O ti3 O O) (Qe O (Jj Un3 O O Jn O) (Qe O (Jh (o':=5) Un93 O ti4 O O) (Qe O (Jj Un4 O O Jn O) ?_)))))))
      refine Jz O O (Jm (K9 a.b n (by omega)) (.n2 O O) (by decide) Jw fun u16_4 Lo fs hres=> ?_)
      obtain ⟨r1,hr1,_,rfl,rfl,rfl⟩:=hres
      refine ⟨⟨(Sd (Sd (Sk (Sd (Sd (Sd (Sd (Sd (Sd (Sr)))))))))),Mm0⟩,?_⟩
      refine Qe O (JU O O (wr64 (by omega))) (Jz O O (Jm (K9 a.a 8 (by omega)) (.n2 O O) (by decide) Jw fun u16_8 Lo fs hres=> ?_))
      obtain ⟨r2,hr2,_,rfl,rfl,rfl⟩:=hres
      refine ⟨⟨(Sd (Sd (Sk (Sd (Sd (Sd (Sd (Sd (Sd (Sr)))))))))),Mm0⟩,?_⟩
      refine Qe O (JU O O (wr64 (by omega))) (Qe O (JZ (.n2 O O) (bd46_0_1Xg21 _ _)) (Jz O O (J6 (turn_a M D ok hv hb _ _ a.on) (.n3 O O O) (by decide) (.n8 .z .z2 .z2 .z2 .z .z1 .z1 .z1) (Jl Mm1 (Jl Mm3 (Jl Mm4 (Jl Mm5 Jw)))) fun u16_13 Lo fs hres=> ?_)))
      obtain ⟨M2,D2,hac,hv2,hd2,hok2,rfl,rfl⟩:=hres
      refine ⟨⟨(Sd (Sd (Sd (Sd (Sd (Sd (Sd (Sd (Sk (Sr)))))))))),Mm3⟩,?_⟩
      refine JN (JM (Ka (Jf (Jc (Ja (Lq (Jd O) (Je (Jf (Jo ?_)))))))))
      refine ⟨_,[_,_,_,_,_,_,_,_],[_,_,_],fun Z w hs=> .tmp O .nil,?_,fun Z w hs=>hs.out (Sk (Sk (Sk (Sk (Sk (Sk (Sk (Sk (Sd (Sr)))))))))) (Jl Mm0 (Jl Mm1 (Jl Mm2 Tt4)))⟩
      exact ⟨O,M2,D2,hac,hv2,hd2,hok2,O,O⟩
     ·refine Jc (Ja (Lq (Jb O) (Lq (Kh O O) (Lq (Jd O) (Je (Jf (Jy O (fun h90=> ?_) (fun h90=> ?_))))))))
      ·refine Jc (Ja (Lq (Jb O) (Lq (Jh (o':=2) Un93 O ti3 O O) (Lq (Jj Un3 O O (Ji (Ji (Jn))) O) (Lq (Jb O) (Lq (JU O O (wr64 (by omega)) (c:=((J5 D.X+1:Nat):Int))) (Jg O (Jm (K9 a.a (J5 D.X+1) (by omega)) (.n2 O O) (by decide) Jw fun u18_5 Lo fs hres=> ?_))))))))
       obtain ⟨p,hp,_,rfl,rfl,rfl⟩:=hres
       refine Jg O (J6 (move_a M D ok hv hb p (by omega)) (.n2 O O) (by decide) (.n8 .z .z2 .z2 .z2 .z .z1 .z1 .z1) (Jl Mm0 (Jl Mm2 (Jl Mm3 (Jl Mm4 Jw)))) fun u18_6 Lo fs hres=> ?_)
       obtain ⟨rfl,M2,D2,hac,hv2,hd2,hok2,rfl,rfl⟩:=hres
       refine Lq (QX Un54 O) (Lq (Jd O) (Je (Jf (Jo (JG (Js ?_))))))
       refine ⟨_,[_,_,_,_,_,_,_,_],[_,_,_],fun Z w hs=> .tmp O .nil,?_,fun Z w hs=>hs.out (Sk (Sk (Sk (Sk (Sk (Sk (Sk (Sk (Sd (Sr)))))))))) (fun _ h=>h)⟩
       exact ⟨O,M2,D2,hac,hv2,hd2,hok2,O,O⟩
      ·refine Jp (Ka (Jf (Jc (Ja (Lq (Jd O) (Je (Jf (Jo ?_))))))))
       refine ⟨_,[_,_,_,_,_,_,_,_],[_,_,_],fun Z w hs=> .tmp O .nil,?_,fun Z w hs=>((((((((hs.pick .z8).pick .z8).pick .z8).pick .z4).pick .z8).pick .z8).pick .z8).pick .z7).out (Sk (Sk (Sk (Sk (Sk (Sk (Sk (Sk (Sd (Sr)))))))))) (Jl Mm2 (Jl Mm3 (Jl Mm4 (fun _ h=>h))))⟩
       exact ⟨O,M,D,Acted.rfl' D,hv,O,ok,O,O⟩
abbrev Rm:=List (DM×DS)
def Yu (Rs:Rm):List Part:=Rs.flatMap fun r=>KC r.1 r.2
def K7 (Rs:Rm):Part:=(Yu Rs).flatten
def Vq (Rs:Rm):List Fact:=Rs.flatMap fun r=>KY r.1 r.2
def RoomF (Rs:Rm):Fact where
 holds Z w:= ∀A∈Vq Rs,A.holds Z w
 stable hz hh h1 h2 h3 h:=fun A hA=>A.stable hz hh h1 h2 h3 (h A hA)
theorem room_split (Rs:Rm) {i:Nat} (hi:i<Rs.length):Rs=Rs.take i++Rs[i] ::Rs.drop (i+1):=by
 rw [←List.drop_eq_getElem_cons hi,List.take_append_drop]
theorem EM (Rs:Rm) {i:Nat} (hi:i<Rs.length) (x:DM×DS):Rs.set i x=Rs.take i++x::Rs.drop (i+1):=List.set_eq_take_append_cons_drop ▸ (by rw [if_pos hi])
theorem Hf (R1 R2:Rm) (x:DM×DS):Yu (R1++x::R2)=Yu R1++(KC x.1 x.2++Yu R2):=by unfold Yu;rw [List.flatMap_append,List.flatMap_cons]
theorem Qm (R1 R2:Rm) (x:DM×DS):Vq (R1++x::R2)=Vq R1++(KY x.1 x.2++Vq R2):=by unfold Vq;rw [List.flatMap_append,List.flatMap_cons]
theorem room_perm (R1 R2:Rm) (x:DM×DS) (Ps:List Part):(KC x.1 x.2++(Yu R1++(Yu R2++Ps))).flatten.Perm ([K7 (R1++x::R2)] ++Ps).flatten:=by
 unfold K7
 rw [Hf]
 generalize KC x.1 x.2=Q
 have e:([(Yu R1++(Q++Yu R2)).flatten] ++Ps).flatten=(Yu R1).flatten++(Q.flatten++((Yu R2).flatten++Ps.flatten)):=by
  simp only [List.cons_append,List.nil_append,List.flatten_cons,List.flatten_append,List.append_assoc]
 rw [e]
 simp only [List.flatten_append]
 exact List.perm_append_comm_assoc ..
theorem _root_.Go.GW.Sp.room {P:Program} {k:FuncId} {args:List Value} {pre:List Fact} {res:Value→List Part→List Fact→Prop} {Rs:Rm} (i:Nat) (hi:i<Rs.length) (h:Sp P k args (KC Rs[i].1 Rs[i].2) (pre++KY Rs[i].1 Rs[i].2) res) (post:Value→DM→DS→List Fact→Prop)
  (hr: ∀v Lo fs,res v Lo fs→ ∃M2 D2 gs,post v M2 D2 gs∧Lo=KC M2 D2∧(∀A∈KY M2 D2++gs,A∈fs++(pre++KY Rs[i].1 Rs[i].2))):
  Sp P k args [K7 Rs] (pre++ [RoomF Rs]) (fun v Lo fs=> ∃M2 D2 gs,post v M2 D2 gs∧Lo= [K7 (Rs.set i (M2,D2))] ∧fs=RoomF (Rs.set i (M2,D2))::gs):=by
 refine ⟨h.enters,fun Z w Ps As hs=> ?_⟩
 have hsp:=room_split Rs hi
 have hRF:(RoomF Rs).holds Z w:=hs.facts _ (by simp)
 have h1:St Z w (KC Rs[i].1 Rs[i].2++(Yu (Rs.take i)++(Yu (Rs.drop (i+1))++Ps))) ((pre++KY Rs[i].1 Rs[i].2)++(RoomF Rs::As)):=by
  refine ⟨hs.zlt,fun q hq=>hs.own q ?_,?_,fun A hA=> ?_⟩
  ·have:=(room_perm (Rs.take i) (Rs.drop (i+1)) Rs[i] Ps).subset hq
   rw [←hsp] at this;exact this
  ·have hp:=(room_perm (Rs.take i) (Rs.drop (i+1)) Rs[i] Ps).map Prod.fst
   rw [←hsp] at hp
   exact hp.nodup_iff.2 hs.nodup
  ·rcases List.mem_append.1 hA with hA | hA
   ·rcases List.mem_append.1 hA with hA | hA
    ·exact hs.facts A (List.mem_append_left _ (List.mem_append_left _ hA))
    ·refine hRF A ?_
     rw [hsp,Qm]
     exact List.mem_append_right _ (List.mem_append_left _ hA)
   ·rcases List.mem_cons.1 hA with rfl | hA
    ·exact hRF
    ·exact hs.facts A (List.mem_append_right _ hA)
 refine (h.calls Z w _ _ h1).mono ?_
 rintro e w' ⟨v,rfl,Z',Lo,fs,g1,g2⟩
 obtain ⟨M2,D2,gs,p1,rfl,p3⟩:=hr v Lo fs g1
 refine ⟨v,O,Z',_,_,⟨M2,D2,gs,p1,O,O⟩,?_⟩
 have hset:=EM Rs hi (M2,D2)
 have hfacts: ∀A∈KY M2 D2++gs,A.holds Z' w':=fun A hA=>g2.facts A (by
  rcases List.mem_append.1 (p3 A hA) with h | h
  ·exact List.mem_append_left _ h
  ·exact List.mem_append_right _ (List.mem_append_left _ h))
 have hRF2:(RoomF Rs).holds Z' w':=g2.facts _ (List.mem_append_right _ (List.mem_append_right _ (List.mem_cons_self)))
 refine ⟨g2.zlt,fun q hq=>g2.own q ?_,?_,fun A hA=> ?_⟩
 ·rw [hset] at hq
  exact (room_perm (Rs.take i) (Rs.drop (i+1)) (M2,D2) Ps).symm.subset hq
 ·rw [hset]
  exact ((room_perm (Rs.take i) (Rs.drop (i+1)) (M2,D2) Ps).map Prod.fst).nodup_iff.1 g2.nodup
 ·rcases List.mem_append.1 hA with hA | hA
  ·rcases List.mem_cons.1 hA with rfl | hA
   ·intro B hB
    rw [hset,Qm] at hB
    rcases List.mem_append.1 hB with hB | hB
    ·refine hRF2 B ?_
     rw [hsp,Qm];exact List.mem_append_left _ hB
    ·rcases List.mem_append.1 hB with hB | hB
     ·exact hfacts B (List.mem_append_left _ hB)
     ·refine hRF2 B ?_
      rw [hsp,Qm];exact List.mem_append_right _ (List.mem_append_right _ hB)
   ·exact hfacts A (List.mem_append_right _ hA)
  ·rcases List.mem_append.1 hA with hA | hA
   ·rcases List.mem_append.1 hA with hA | hA
    ·exact g2.facts A (List.mem_append_right _ (List.mem_append_left _ (List.mem_append_left _ hA)))
    ·have:=List.mem_singleton.1 hA
     subst this;exact hRF2
   ·exact g2.facts A (List.mem_append_right _ (List.mem_append_right _ (.tail _ hA)))
theorem _root_.Go.GW.WC_openRm {P:Program} {n:Dm} {R:Post} {l:Fr} {Ps:List Part} {As:List Fact} {c:Code} {Rs:Rm} (i:Nat) (hi:i<Rs.length) (hF:RoomF Rs∈As) (h:WC P n c R l (KC Rs[i].1 Rs[i].2++Ps) (KY Rs[i].1 Rs[i].2++As)):WC P n c R l (K7 Rs::Ps) As:=by
 intro Z w a hs ha
 have hsp:=room_split Rs hi
 have hRF:(RoomF Rs).holds Z w:=hs.facts _ hF
 refine h Z w a ⟨hs.zlt,fun q hq=>hs.own q ?_,?_,fun A hA=> ?_⟩ ha
 all_goals
  have hp:=room_perm (Rs.take i) (Rs.drop (i+1)) Rs[i] Ps
  rw [←hsp] at hp
 ·have hsub:(KC Rs[i].1 Rs[i].2++Ps).flatten ⊆ (KC Rs[i].1 Rs[i].2++(Yu (Rs.take i)++(Yu (Rs.drop (i+1))++Ps))).flatten:=by
   intro q hq
   simp only [List.flatten_append,List.mem_append] at hq ⊢
   exact hq.elim .inl (fun h=> .inr (.inr (.inr h)))
  exact hp.subset (hsub hq)
 ·have h1:=(hp.map Prod.fst).nodup_iff.2 hs.nodup
  have hsub:((KC Rs[i].1 Rs[i].2++Ps).flatten).Sublist (KC Rs[i].1 Rs[i].2++(Yu (Rs.take i)++(Yu (Rs.drop (i+1))++Ps))).flatten:=by
   simp only [List.flatten_append]
   exact List.Sublist.append (Sr) ((List.sublist_append_right _ _).trans (List.sublist_append_right _ _))
  exact (hsub.map Prod.fst).nodup h1
 ·rcases List.mem_append.1 hA with hA | hA
  ·refine hRF A ?_
   rw [hsp,Qm]
   exact List.mem_append_right _ (List.mem_append_left _ hA)
  ·exact hs.facts A hA
def ptD:De Nat where
 sz:=1
 rep _ _ x cs:=cs= [.pointer (some ⟨x,0,none⟩)]
 len h:=by subst h;rfl
 one h:=by subst h;rfl
 stable _ _ _ _ _ h:=h
theorem pt_open (u:Nat): ∀Z w cs,ptD.rep Z w u cs→ ∃y:Unit,cs= [.pointer (some ⟨u,0,none⟩)] ∧ ∀B∈([] :List Fact),B.holds Z w:=fun _ _ _ h=>⟨(),h,fun _ h=>by cases h⟩
abbrev adsF (A:Option Addr) (c:Nat) (Rs:Rm):Fact:=RdF ptD A c (Rs.map fun r=>r.1.d)
def pendN (D:DS):Nat:=D.H.ops.length-D.got
structure RmI (k:Nat) (Rs:Rm) (G:List GOp):Prop where
 len:2≤Rs.length∧Rs.length≤4
 ok: ∀r∈Rs,DkOk r.1 r.2
 dv: ∀r∈Rs,DV r.2
 lm: ∀r∈Rs,r.2.cl=4∧r.2.ce=4096∧r.2.op=1024
 us: ∀(i:Nat) r,Rs[i]? =some r→r.2.u=(i:Int)+1
 got: ∀r∈Rs,r.2.H.ops.take r.2.got=G∧r.2.got=G.length
 pd: ∀r∈Rs,∀o∈r.2.H.ops.drop r.2.got,o.c=r.2.u
 cnt:G.length+(Rs.map fun r=>pendN r.2).sum≤k
 md: ∀r∈Rs,r.2.made≤k
theorem sum_mid {Rs:Rm} (f:DM×DS→Nat) {i:Nat} (hi:i<Rs.length):(Rs.map f).sum=((Rs.take i).map f).sum+(f Rs[i] +((Rs.drop (i+1)).map f).sum):=by
 conv=>lhs;rw [room_split Rs hi]
 rw [List.map_append,List.sum_append,List.map_cons,List.sum_cons]
theorem Ja2 {Rs:Rm} (f:DM×DS→Nat) {i:Nat} (hi:i<Rs.length) (x:DM×DS):((Rs.set i x).map f).sum+f Rs[i] =(Rs.map f).sum+f x:=by
 rw [EM Rs hi,List.map_append,List.sum_append,List.map_cons,List.sum_cons,sum_mid f hi]
 omega
theorem RmI.n {k:Nat} {Rs:Rm} {G:List GOp} (h:RmI k Rs G): ∀r∈Rs,r.2.H.ops.length≤k∧r.2.H.ops.length=G.length+pendN r.2:=fun r hr=>by
 obtain ⟨i,hi,rfl⟩:=List.mem_iff_getElem.1 hr
 have h1:=h.cnt
 rw [sum_mid (fun r=>pendN r.2) hi] at h1
 have h2:=(h.got _ hr).2
 have h3:=(h.ok _ hr).rc
 unfold pendN at h1 ⊢
 omega
theorem RmI.bd {k:Nat} {Rs:Rm} {G:List GOp} (h:RmI k Rs G) (hk:k≤600): ∀r∈Rs,Bd r.2:=fun r hr=>by
 have h1:=(h.n r hr).1
 have h2:=h.md r hr
 have h3:=h.lm r hr
 exact ⟨by omega,by omega,by omega⟩
theorem RmI.mono {k k':Nat} {Rs:Rm} {G:List GOp} (h:RmI k Rs G) (hk:k≤k'):RmI k' Rs G:=
 ⟨h.len,h.ok,h.dv,h.lm,h.us,h.got,h.pd,by have:=h.cnt;omega,fun r hr=>by have:=h.md r hr;omega⟩
theorem RmI.act {k:Nat} {Rs:Rm} {G:List GOp} (h:RmI k Rs G) {i:Nat} (hi:i<Rs.length) {M2:DM} {D2:DS} (ha:Acted Rs[i].2 D2) (hv:DV D2) (hok:DkOk M2 D2):RmI (k+1) (Rs.set i (M2,D2)) G:=by
 have hm:=List.getElem_mem hi
 have hmem: ∀ {r},r∈Rs.set i (M2,D2)→r∈Rs∨r=(M2,D2):=fun hr=>List.mem_or_eq_of_mem_set hr
 have hg:=h.got _ hm
 have hrc:=(h.ok _ hm).rc
 have hl:=h.lm _ hm
 have hgot:D2.got=Rs[i].2.got:=ha.got
 have hops:(D2.H.ops=Rs[i].2.H.ops∧D2.made=Rs[i].2.made)∨ ∃o,o.c=Rs[i].2.u∧D2.H.ops=Rs[i].2.H.ops++ [o] ∧D2.made=Rs[i].2.made+1:=by
  rcases ha.cm with ⟨h1,_,h3⟩ | ⟨o,h1,_,h3,h4⟩
  ·exact .inl ⟨by rw [h1],h3⟩
  ·exact .inr ⟨o,h1,h3,h4⟩
 refine ⟨by rw [List.length_set];exact h.len,fun r hr=> ?_,fun r hr=> ?_,fun r hr=> ?_,fun j r hj=> ?_,fun r hr=> ?_,fun r hr=> ?_,?_,fun r hr=> ?_⟩
 ·rcases hmem hr with hr | rfl
  ·exact h.ok r hr
  ·exact hok
 ·rcases hmem hr with hr | rfl
  ·exact h.dv r hr
  ·exact hv
 ·rcases hmem hr with hr | rfl
  ·exact h.lm r hr
  ·have:=ha.lm
   simp only
   rw [this.1,this.2.1,this.2.2];exact hl
 ·rw [List.getElem?_set] at hj
  split at hj
  ·rename_i e
   subst e
   obtain rfl:=Option.some.inj hj
   show D2.u=_
   rw [ha.u];exact h.us i _ (List.getElem?_eq_getElem hi)
  ·exact h.us j r hj
 ·rcases hmem hr with hr | rfl
  ·exact h.got r hr
  ·simp only
   rw [hgot]
   refine ⟨?_,hg.2⟩
   rcases hops with ⟨e,_⟩ | ⟨o,_,e,_⟩
   ·rw [e];exact hg.1
   ·rw [e,List.take_append_of_le_length hrc];exact hg.1
 ·rcases hmem hr with hr | rfl
  ·exact h.pd r hr
  ·simp only
   rw [hgot,ha.u]
   rcases hops with ⟨e,_⟩ | ⟨o,ho,e,_⟩
   ·rw [e];exact h.pd _ hm
   ·rw [e,List.drop_append_of_le_length hrc]
    intro x hx
    rcases List.mem_append.1 hx with hx | hx
    ·exact h.pd _ hm x hx
    ·rw [List.mem_singleton.1 hx];exact ho
 ·have h1:=Ja2 (fun r=>pendN r.2) hi (M2,D2)
  have h2:=h.cnt
  have h3:pendN D2≤pendN Rs[i].2+1:=by
   unfold pendN
   rw [hgot]
   rcases hops with ⟨e,_⟩ | ⟨o,_,e,_⟩
   ·rw [e];omega
   ·rw [e,List.length_append,List.length_singleton];omega
  simp only at h1
  omega
 ·rcases hmem hr with hr | rfl
  ·have:=h.md r hr;omega
  ·have:=h.md _ hm
   simp only
   rcases hops with ⟨_,e⟩ | ⟨_,_,_,e⟩<;>omega
theorem CtxOk.at_: ∀ {w:Int} {l:List GOp} {k:Nat} (hk:k<l.length),CtxOk w l→Right (w+sumO (l.take k)) l[k]
 | w,o::l,0,_,h=>by simpa [sumO] using h.1
 | w,o::l,k+1,hk,h=>by
  have:=CtxOk.at_ (w:=w+Jx o) (l:=l) (k:=k) (by simpa using hk) h.2
  rw [List.take_succ_cons,sumO,List.getElem_cons_succ,←Int.add_assoc];exact this
theorem ids_ops (H:Hist):(H.ents.map fun e=>(e.op.c,e.op.n))=H.ops.map fun o=>(o.c,o.n):=by unfold Hist.ops;rw [List.map_map];rfl
theorem RmI.good {k:Nat} {Rs:Rm} {G:List GOp} (h:RmI k Rs G) (hk:k≤600) {a:Nat} (ha:a<Rs.length) {p:GOp} (hp:Rs[a].2.H.ops[Rs[a].2.got]? =some p) {i:Nat} (hi:i<Rs.length) (hne:i≠a):Good Rs[i].2.H Rs[i].2.got p:=by
 have ma:=List.getElem_mem ha
 have mi:=List.getElem_mem hi
 have va:=(h.dv _ ma).di
 have vi:=(h.dv _ mi).di
 have hga:=h.got _ ma
 have hgi:=h.got _ mi
 have hra:=(h.ok _ ma).rc
 have hri:=(h.ok _ mi).rc
 have hla:Rs[a].2.got<Rs[a].2.H.ops.length:=by
  rcases Nat.lt_or_ge Rs[a].2.got Rs[a].2.H.ops.length with h | h
  ·exact h
  ·rw [List.getElem?_eq_none h] at hp;cases hp
 have hpe:Rs[a].2.H.ops[Rs[a].2.got] =p:=by rw [List.getElem?_eq_getElem hla] at hp;exact Option.some.inj hp
 have hpm:p∈Rs[a].2.H.ops:=hpe ▸ List.getElem_mem hla
 have hpc:p.c=Rs[a].2.u:=h.pd _ ma p (List.mem_iff_getElem?.2 ⟨0,by rw [List.getElem?_drop,Nat.add_zero];exact hp⟩)
 have hua:=h.us a _ (List.getElem?_eq_getElem ha)
 have hui:=h.us i _ (List.getElem?_eq_getElem hi)
 have hni:=(h.n _ mi).1
 have hti:=(h.dv _ mi).total
 refine ⟨by rw [←KG];exact hri,?_,?_,?_,?_,?_⟩
 ·rw [before_ops,hgi.1,←hga.1]
  have:=CtxOk.at_ hla va.hv.ctx
  rw [Int.zero_add,hpe] at this
  exact this
 ·cases hw:JX Rs[i].2.H.ents p.c p.n with
  | none=>rfl
  | some j=>
   exfalso
   obtain ⟨hj,g1,g2⟩:=KD hw
   have hjo:j<Rs[i].2.H.ops.length:=by rw [KG];exact hj
   have hoj:Rs[i].2.H.ops[j] =Rs[i].2.H.ents[j].op:=by simp [Hist.ops]
   rcases Nat.lt_or_ge j Rs[i].2.got with hlt | hge
   ·--it is among the received ones:twice in a's order
    have e1:Rs[a].2.H.ops[j]? =some Rs[i].2.H.ops[j] :=by
     have e2:(Rs[i].2.H.ops.take Rs[i].2.got)[j]? =some Rs[i].2.H.ops[j] :=by rw [List.getElem?_take,if_pos hlt,List.getElem?_eq_getElem hjo]
     rw [hgi.1,←hga.1,List.getElem?_take] at e2
     split at e2
     ·exact e2
     ·cases e2
    have hja:j<Rs[a].2.H.ops.length:=by
     rcases Nat.lt_or_ge j Rs[a].2.H.ops.length with h | h
     ·exact h
     ·rw [List.getElem?_eq_none h] at e1;cases e1
    rw [List.getElem?_eq_getElem hja] at e1
    have e1:=Option.some.inj e1
    have hnd:=va.hv.ids
    rw [ids_ops] at hnd
    have:=List.getElem_inj (h₀:=by rw [List.length_map];exact hja) (h₁:=by rw [List.length_map];exact hla) hnd (i:=j) (j:=Rs[a].2.got)
    simp only [List.getElem_map,Prod.mk.injEq] at this
    have:=this.1 ⟨by rw [e1,hoj,hpe];exact g1,by rw [e1,hoj,hpe];exact g2⟩
    have:=hga.2
    have:=hgi.2
    omega
   ·have hm:Rs[i].2.H.ops[j] ∈Rs[i].2.H.ops.drop Rs[i].2.got:=List.mem_iff_getElem?.2 ⟨j-Rs[i].2.got,by rw [List.getElem?_drop,Nat.add_sub_cancel' hge,List.getElem?_eq_getElem hjo]⟩
    have:=h.pd _ mi _ hm
    rw [hoj,g1,hpc] at this
    omega
 ·obtain ⟨x,hx,hxe⟩:=List.mem_map.1 hpm
  have:=va.hv.idr x hx
  rw [hxe] at this;exact this
 ·intro h4
  have hT:=(va.made.ci (by have:=va.le;omega)).tgt
  rw [show Rs[a].2.H.ops=Rs[a].2.H.ops.take Rs[a].2.got++(p::Rs[a].2.H.ops.drop (Rs[a].2.got+1)) by rw [←hpe,←List.drop_eq_getElem_cons hla,List.take_append_drop],TgtOk.append,List.nil_append] at hT
  obtain ⟨q,p1,p2,p3,p4⟩:=hT.2.1 h4
  rw [hga.1,←hgi.1] at p1
  obtain ⟨j,hj,hq⟩:=List.mem_iff_getElem.1 p1
  rw [List.length_take] at hj
  rw [List.getElem_take] at hq
  have hjl:j<Rs[i].2.H.ents.length:=by rw [←KG];omega
  have hje:Rs[i].2.H.ents[j].op=q:=by rw [←hq];simp [Hist.ops]
  refine ⟨j,?_,by omega,Rs[i].2.H.ents[j],List.getElem?_eq_getElem hjl,by rw [hje];exact p4⟩
  have:=Yj vi.hv.ids hjl
  rw [hje,p2,p3] at this;exact this
 ·have:=(h.dv _ ma).wb p hpm
  omega
theorem take_ops {D:DS} (hdi:DI D.H.ops.length D.H D.X) {o:GOp} (g:Good D.H D.got o):(K0 D o).H.ops=D.H.ops.take D.got++([o] ++(JS o (D.H.ops.drop D.got)).2)∧Sames (D.H.ops.drop D.got) (JS o (D.H.ops.drop D.got)).2:=
 ⟨hdi.ops g,(cross_good hdi.hv g).2.2.2.2⟩
theorem Sames.mem {l m:List GOp} (h:Sames l m): ∀x∈m,∃y∈l,Same y x:=by
 induction h with
 | nil=>intro x hx;cases hx
 | cons h hr ih=>
  intro x hx
  rcases List.mem_cons.1 hx with rfl | hx
  ·exact ⟨_,List.mem_cons_self,h⟩
  ·obtain ⟨y,hy,hs⟩:=ih x hx
   exact ⟨y,List.mem_cons_of_mem _ hy,hs⟩
theorem DV.take {D:DS} (h:DV D) {o:GOp} (g:Good D.H D.got o) (hn:D.H.ops.length<900) (hc:o.c≠D.u) (hw:Jx o≤5) (hrc:D.got≤D.H.ops.length):DV (K0 D o):=by
 have T:=g.tad h.di hn
 obtain ⟨e,hs⟩:=take_ops h.di g
 have hpu:=h.put_ o.c
 have hnl:=T.nl
 have hmem: ∀x∈(K0 D o).H.ops,(∃y∈D.H.ops,Same y x)∨x=o:=fun x hx=>by
  rw [e] at hx
  rcases List.mem_append.1 hx with hx | hx
  ·exact .inl ⟨x,List.mem_of_mem_take hx,Same.refl x⟩
  ·rcases List.mem_append.1 hx with hx | hx
   ·exact .inr (List.mem_singleton.1 hx)
   ·obtain ⟨y,hy,hxy⟩:=hs.mem x hx
    exact .inl ⟨y,List.mem_of_mem_drop hy,hxy⟩
 refine ⟨h.us,fun x hx hxc=> ?_,h.sid,fun x hx=> ?_,fun x hx=> ?_,?_,?_⟩
 ·rcases hmem x hx with ⟨y,hy,hxy⟩ | rfl
  ·rw [hxy.n];exact h.own y hy (by rw [←hxy.c];exact hxc)
  ·exact absurd hxc hc
 ·show 0≤x∧x≤5*((putF D.H D.got o).1.ops.length:Int)
  rw [hnl]
  have hx2:x∈D.put.set o.c.toNat (putA D o.c+Jx o):=hx
  have hw0:=T.w0
  rcases List.mem_or_eq_of_mem_set hx2 with hx | rfl
  ·have:=h.pb x hx;omega
  ·omega
 ·rcases hmem x hx with ⟨y,hy,hxy⟩ | rfl
  ·rw [hxy.width];exact h.wb y hy
  ·exact hw
 ·show DI (putF D.H D.got o).1.ops.length _ _
  rw [hnl];exact T.di
 ·show (D.put.set _ _).length=9
  rw [List.length_set];exact h.pl
theorem DV.conf {D:DS} (h:DV D):DV (confD D):=⟨h.us,h.own,h.sid,h.pb,h.wb,h.di,h.pl⟩
structure SentS (Rs:Rm) (a i:Nat) (p:GOp) (Rs':Rm):Prop where
 len:Rs'.length=Rs.length
 d:(Rs'.map fun r=>r.1.d)=Rs.map fun r=>r.1.d
 ok: ∀r∈Rs',DkOk r.1 r.2
 st: ∀(t:Nat) (h:t<Rs.length) (h':t<Rs'.length),Rs'[t].2=if t=a then confD Rs[t].2 else if t<i then K0 Rs[t].2 p else Rs[t].2
theorem map_set_d {Rs:Rm} {i:Nat} (hi:i<Rs.length) {M2:DM} {D2:DS} (hd:M2.d=Rs[i].1.d):((Rs.set i (M2,D2)).map fun r=>r.1.d)=Rs.map fun r=>r.1.d:=by
 rw [List.map_set]
 have e:(M2,D2).1.d=(Rs.map fun r=>r.1.d)[i]'(by simpa using hi):=by rw [List.getElem_map];exact hd
 rw [e,List.set_getElem_self]
theorem SentS.zero {Rs:Rm} {a:Nat} (ha:a<Rs.length) (hok: ∀r∈Rs,DkOk r.1 r.2) (p:GOp) (hc:DkOk Rs[a].1 (confD Rs[a].2)):SentS Rs a 0 p (Rs.set a (Rs[a].1,confD Rs[a].2)):=by
 refine ⟨List.length_set,map_set_d ha O,fun r hr=> ?_,fun t h h'=> ?_⟩
 ·rcases List.mem_or_eq_of_mem_set hr with hr | rfl
  ·exact hok r hr
  ·exact hc
 ·rw [List.getElem_set]
  by_cases e:a=t
  ·subst e;rw [if_pos rfl,if_pos rfl]
  ·rw [if_neg e,if_neg (fun h=>e h.symm),if_neg (Nat.not_lt_zero _)]
theorem SentS.skip {Rs:Rm} {a:Nat} {p:GOp} {Rs':Rm} (h:SentS Rs a a p Rs'):SentS Rs a (a+1) p Rs':=
 ⟨h.len,h.d,h.ok,fun t h1 h2=>by
  rw [h.st t h1 h2]
  by_cases e:t=a
  ·rw [if_pos e,if_pos e]
  ·rw [if_neg e,if_neg e]
   by_cases e2:t<a
   ·rw [if_pos e2,if_pos (by omega)]
   ·rw [if_neg e2,if_neg (by omega)]⟩
theorem SentS.old {Rs:Rm} {a i:Nat} {p:GOp} {Rs':Rm} (h:SentS Rs a i p Rs') (hne:i≠a) (hi:i<Rs.length) (hi':i<Rs'.length):Rs'[i].2=Rs[i].2:=by
 rw [h.st i hi hi',if_neg hne,if_neg (Nat.lt_irrefl _)]
theorem SentS.take {Rs:Rm} {a i:Nat} {p:GOp} {Rs':Rm} (h:SentS Rs a i p Rs') (hne:i≠a) (hi:i<Rs.length) (hi':i<Rs'.length) {M2:DM} (hd:M2.d=Rs'[i].1.d) (hk:DkOk M2 (K0 Rs'[i].2 p)):SentS Rs a (i+1) p (Rs'.set i (M2,K0 Rs'[i].2 p)):=by
 refine ⟨by rw [List.length_set];exact h.len,by rw [map_set_d hi' hd];exact h.d,fun r hr=> ?_,fun t h1 h2=> ?_⟩
 ·rcases List.mem_or_eq_of_mem_set hr with hr | rfl
  ·exact h.ok r hr
  ·exact hk
 ·rw [List.getElem_set]
  by_cases e:i=t
  ·subst e
   rw [if_pos rfl,if_neg hne,if_pos (by omega)]
   show K0 Rs'[i].2 p=_
   rw [h.old hne hi hi']
  ·rw [if_neg e,h.st t h1 (by rw [h.len];exact h1)]
   by_cases e1:t=a
   ·rw [if_pos e1,if_pos e1]
   ·rw [if_neg e1,if_neg e1]
    by_cases e2:t<i
    ·rw [if_pos e2,if_pos (by omega)]
    ·rw [if_neg e2,if_neg (by omega)]
theorem sum_nth: ∀(f g:DM×DS→Nat) (Rs Rs':Rm) (a:Nat),Rs'.length=Rs.length→a<Rs.length→(∀(t:Nat) (h:t<Rs.length) (h':t<Rs'.length),g Rs'[t] =if t=a then f Rs[t] - 1 else f Rs[t])→(∀(h:a<Rs.length),0<f Rs[a])→(Rs'.map g).sum+1=(Rs.map f).sum
 | f,g,[],[],a,_,ha,_,_=>by simp at ha
 | f,g,x::Rs,y::Rs',0,hl,ha,hs,hp=>by
  have h0:=hs 0 (by simp) (by simp)
  have h1:=hp (by simp)
  simp only [List.getElem_cons_zero,if_true] at h0 h1
  have hr:Rs'.map g=Rs.map f:=by
   apply List.ext_getElem
   ·simpa using hl
   ·intro t q1 q2
    rw [List.getElem_map,List.getElem_map]
    have:=hs (t+1) (by simpa using q2) (by simpa using q1)
    simpa using this
  simp only [List.map_cons,List.sum_cons,hr]
  omega
 | f,g,x::Rs,y::Rs',a+1,hl,ha,hs,hp=>by
  have h0:=hs 0 (by simp) (by simp)
  simp only [List.getElem_cons_zero] at h0
  rw [if_neg (by omega)] at h0
  have ih:=sum_nth f g Rs Rs' a (by simpa using hl) (by simpa using ha) (fun t h h'=>by
   have:=hs (t+1) (by simpa using h) (by simpa using h')
   simpa using this) (fun h=>hp (Nat.succ_lt_succ h))
  simp only [List.map_cons,List.sum_cons]
  omega
theorem SentS.done {k:Nat} {Rs:Rm} {G:List GOp} (h:RmI k Rs G) (hk:k≤600) {a:Nat} (ha:a<Rs.length) {p:GOp} (hp:Rs[a].2.H.ops[Rs[a].2.got]? =some p) {Rs':Rm} (hs:SentS Rs a Rs.length p Rs'):RmI k Rs' (G++ [p]):=by
 have ma:=List.getElem_mem ha
 have hga:=h.got _ ma
 have hla:Rs[a].2.got<Rs[a].2.H.ops.length:=by
  rcases Nat.lt_or_ge Rs[a].2.got Rs[a].2.H.ops.length with h | h
  ·exact h
  ·rw [List.getElem?_eq_none h] at hp;cases hp
 have hpe:Rs[a].2.H.ops[Rs[a].2.got] =p:=by rw [List.getElem?_eq_getElem hla] at hp;exact Option.some.inj hp
 have hpm:p∈Rs[a].2.H.ops:=hpe ▸ List.getElem_mem hla
 have hpc:p.c=Rs[a].2.u:=h.pd _ ma p (List.mem_iff_getElem?.2 ⟨0,by rw [List.getElem?_drop,Nat.add_zero];exact hp⟩)
 have hua:=h.us a _ (List.getElem?_eq_getElem ha)
 have key: ∀r'∈Rs',∃t,∃(h1:t<Rs.length) (h2:t<Rs'.length),r'=Rs'[t] ∧((t=a∧Rs'[t].2=confD Rs[t].2)∨(t≠a∧Rs'[t].2=K0 Rs[t].2 p∧Good Rs[t].2.H Rs[t].2.got p)):=fun r' hr'=>by
  obtain ⟨t,ht,rfl⟩:=List.mem_iff_getElem.1 hr'
  have ht1:t<Rs.length:=by rw [←hs.len];exact ht
  refine ⟨t,ht1,ht,O,?_⟩
  have:=hs.st t ht1 ht
  by_cases e:t=a
  ·exact .inl ⟨e,by rw [this,if_pos e]⟩
  ·exact .inr ⟨e,by rw [this,if_neg e,if_pos ht1],h.good hk ha hp ht1 e⟩
 have hpend: ∀(t:Nat) (h1:t<Rs.length) (h2:t<Rs'.length),pendN Rs'[t].2=if t=a then pendN Rs[t].2-1 else pendN Rs[t].2:=fun t h1 h2=>by
  have mt:=List.getElem_mem h1
  rcases key _ (List.getElem_mem h2) with ⟨t',g1,g2,e,hh⟩
  have:=hs.st t h1 h2
  by_cases e:t=a
  ·rw [if_pos e] at this ⊢
   rw [this]
   unfold pendN confD
   simp only
   omega
  ·rw [if_neg e,if_pos h1] at this
   rw [if_neg e,this]
   have g:=h.good hk ha hp h1 e
   have hl:=(take_ops (h.dv _ mt).di g)
   have hlen:=congrArg List.length hl.1
   have hsl:=hl.2.length
   have hrc:=(h.ok _ mt).rc
   simp only [List.length_append,List.length_take,List.length_cons,List.length_nil,hsl,List.length_drop] at hlen
   unfold pendN
   show (K0 Rs[t].2 p).H.ops.length-(Rs[t].2.got+1)=_
   omega
 refine ⟨by rw [hs.len];exact h.len,hs.ok,fun r hr=> ?_,fun r hr=> ?_,fun i r hi=> ?_,fun r hr=> ?_,fun r hr=> ?_,?_,fun r hr=> ?_⟩
 ·obtain ⟨t,h1,h2,rfl,⟨_,e⟩ | ⟨hne,e,g⟩⟩:=key r hr
  ·rw [e];exact (h.dv _ (List.getElem_mem h1)).conf
  ·have mt:=List.getElem_mem h1
   have hut:=h.us t _ (List.getElem?_eq_getElem h1)
   rw [e]
   exact (h.dv _ mt).take g (by have:=(h.n _ mt).1;omega) (by rw [hpc];omega) ((h.dv _ ma).wb p hpm) (h.ok _ mt).rc
 ·obtain ⟨t,h1,h2,rfl,⟨_,e⟩ | ⟨hne,e,g⟩⟩:=key r hr
  ·rw [e];exact h.lm _ (List.getElem_mem h1)
  ·rw [e];exact h.lm _ (List.getElem_mem h1)
 ·have hil:i<Rs'.length:=by
   rcases Nat.lt_or_ge i Rs'.length with h | h
   ·exact h
   ·rw [List.getElem?_eq_none h] at hi;cases hi
  rw [List.getElem?_eq_getElem hil] at hi
  obtain rfl:=Option.some.inj hi
  have hil1:i<Rs.length:=by rw [←hs.len];exact hil
  have hu:=h.us i _ (List.getElem?_eq_getElem hil1)
  rw [hs.st i hil1 hil]
  by_cases e:i=a
  ·rw [if_pos e];exact hu
  ·rw [if_neg e,if_pos hil1];exact hu
 ·obtain ⟨t,h1,h2,rfl,⟨hta,e⟩ | ⟨hne,e,g⟩⟩:=key r hr
  ·subst hta
   rw [e]
   show Rs[t].2.H.ops.take (Rs[t].2.got+1)=_∧Rs[t].2.got+1=_
   rw [List.take_succ_eq_append_getElem hla,hpe,hga.1,List.length_append,←hga.2]
   exact ⟨O,O⟩
  ·have mt:=List.getElem_mem h1
   have hgt:=h.got _ mt
   have hrc:=(h.ok _ mt).rc
   rw [e]
   show (K0 Rs[t].2 p).H.ops.take (Rs[t].2.got+1)=_∧Rs[t].2.got+1=_
   rw [(take_ops (h.dv _ mt).di g).1,List.length_append,←hgt.2]
   have hlt:(Rs[t].2.H.ops.take Rs[t].2.got).length=Rs[t].2.got:=by rw [List.length_take];omega
   refine ⟨?_,O⟩
   rw [←List.append_assoc,List.take_left' (by rw [List.length_append,hlt];rfl),hgt.1]
 ·obtain ⟨t,h1,h2,rfl,⟨hta,e⟩ | ⟨hne,e,g⟩⟩:=key r hr
  ·rw [e]
   intro o ho
   refine h.pd _ (List.getElem_mem h1) o ?_
   have ho2:o∈Rs[t].2.H.ops.drop (Rs[t].2.got+1):=ho
   rw [←List.drop_drop] at ho2
   exact List.mem_of_mem_drop ho2
  ·have mt:=List.getElem_mem h1
   have hrc:=(h.ok _ mt).rc
   rw [e]
   intro o ho
   have ho2:o∈(K0 Rs[t].2 p).H.ops.drop (Rs[t].2.got+1):=ho
   have hl:=take_ops (h.dv _ mt).di g
   have hlt:(Rs[t].2.H.ops.take Rs[t].2.got).length=Rs[t].2.got:=by rw [List.length_take];omega
   rw [hl.1,←List.append_assoc,List.drop_left' (by rw [List.length_append,hlt];rfl)] at ho2
   obtain ⟨y,hy,hxy⟩:=hl.2.mem o ho2
   rw [hxy.c];exact h.pd _ mt y hy
 ·have h1:=sum_nth (fun r=>pendN r.2) (fun r=>pendN r.2) Rs Rs' a hs.len ha hpend (fun _=>by show 0<Rs[a].2.H.ops.length-Rs[a].2.got;omega)
  have h2:=h.cnt
  rw [List.length_append,List.length_singleton]
  omega
 ·obtain ⟨t,h1,h2,rfl,⟨_,e⟩ | ⟨hne,e,g⟩⟩:=key r hr
  ·rw [e];exact h.md _ (List.getElem_mem h1)
  ·rw [e];exact h.md _ (List.getElem_mem h1)
def SentR (Rs:Rm) (a:Nat) (Rs':Rm):Prop:=(Rs'=Rs∧ ∃h:a<Rs.length,pendN Rs[a].2=0)∨ ∃(h:a<Rs.length) (p:GOp),Rs[a].2.H.ops[Rs[a].2.got]? =some p∧SentS Rs a Rs.length p Rs'
structure TakeOk (D:DS) (p:GOp):Prop where
 cu:p.c≠D.u
 c:1≤p.c∧p.c≤D.cl
 n:p.n≤D.op
 ts:p.text.size≤1048576
 ce:putA D p.c+Jx p≤D.ce
 ta:TaD D p
theorem RmI.takes {k:Nat} {Rs:Rm} {G:List GOp} (h:RmI k Rs G) (hk:k≤600) {a:Nat} (ha:a<Rs.length) {p:GOp} (hp:Rs[a].2.H.ops[Rs[a].2.got]? =some p) {i:Nat} (hi:i<Rs.length) (hne:i≠a):TakeOk Rs[i].2 p:=by
 have ma:=List.getElem_mem ha
 have mi:=List.getElem_mem hi
 have g:=h.good hk ha hp hi hne
 have hua:=h.us a _ (List.getElem?_eq_getElem ha)
 have hui:=h.us i _ (List.getElem?_eq_getElem hi)
 have hpd:p∈Rs[a].2.H.ops.drop Rs[a].2.got:=List.mem_iff_getElem?.2 ⟨0,by rw [List.getElem?_drop,Nat.add_zero];exact hp⟩
 have hpc:=h.pd _ ma p hpd
 have hw:=(h.dv _ ma).wb p (List.mem_of_mem_drop hpd)
 have hlm:=h.lm _ mi
 have hb:=Gf g.idr
 have hn:=(h.n _ mi).1
 have hpu:=(h.dv _ mi).put_ p.c
 have hl:=h.len
 have ht:=g.right.text
 exact ⟨by omega,by omega,by omega,by omega,by omega,g.tad (h.dv _ mi).di (by omega)⟩
theorem pend_head {D:DS} {p:GOp} (h:(D.H.ops.drop D.got)[0]? =some p):D.H.ops[D.got]? =some p∧ ∃hg:D.got<D.H.ents.length,D.H.ents[D.got].op=p:=by
 rw [List.getElem?_drop,Nat.add_zero] at h
 have hl:D.got<D.H.ops.length:=by
  rcases Nat.lt_or_ge D.got D.H.ops.length with h1 | h1
  ·exact h1
  ·rw [List.getElem?_eq_none h1] at h;cases h
 have hl2:D.got<D.H.ents.length:=by rw [←KG];exact hl
 refine ⟨h,hl2,?_⟩
 rw [List.getElem?_eq_getElem hl] at h
 rw [←Option.some.inj h]
 simp [Hist.ops]
theorem _root_.Go.GW.Sp.preSub {P:Program} {k:FuncId} {args:List Value} {Lin:List Part} {pre pre':List Fact} {res:Value→List Part→List Fact→Prop} (h:Sp P k args Lin pre res) (hs: ∀A∈pre,A∈pre'):Sp P k args Lin pre' res:=
 ⟨h.enters,fun Z w Ps As hst=>(h.calls Z w Ps (pre'++As) (hst.subFacts fun A hA=>by
  rcases List.mem_append.1 hA with hA | hA
  ·exact List.mem_append_left _ (hs A hA)
  ·exact hA)).mono fun e w' ⟨v,he,Z',Lo,fs,h1,h2⟩=>⟨v,he,Z',Lo,fs,h1,h2.subFacts fun A hA=>by
   rcases List.mem_append.1 hA with hA | hA
   ·exact List.mem_append_left _ hA
   ·exact List.mem_append_right _ (List.mem_append_right _ hA)⟩⟩
theorem room_self (Rs:Rm) {i:Nat} (hi:i<Rs.length):Rs.set i (Rs[i].1,Rs[i].2)=Rs:=List.set_getElem_self hi
theorem pend_r (Rs:Rm) (a:Nat) (ha:a<Rs.length) (hok:DkOk Rs[a].1 Rs[a].2):Sp Tryz.prog 30 [.pointer (some ⟨Rs[a].1.d,0,none⟩)] [K7 Rs] [barF,RoomF Rs] (fun v Lo fs=> ∃(A':Option Addr) (c':Nat),v= .slice A' (Rs[a].2.H.ops.drop Rs[a].2.got).length c'∧Lo= [K7 Rs] ∧fs= [RdF opD A' c' (Rs[a].2.H.ops.drop Rs[a].2.got)]):=by
 refine ((Hq Rs[a].1 Rs[a].2 hok).room (pre:= [barF]) a ha (fun v M2 D2 gs=>M2=Rs[a].1∧D2=Rs[a].2∧ ∃(A':Option Addr) (c':Nat),v= .slice A' (Rs[a].2.H.ops.drop Rs[a].2.got).length c'∧gs= [RdF opD A' c' (Rs[a].2.H.ops.drop Rs[a].2.got)]) ?_).monoF ?_
 ·rintro v Lo fs ⟨A',c',rfl,rfl,rfl⟩
  refine ⟨_,_,[RdF opD A' c' (Rs[a].2.H.ops.drop Rs[a].2.got)],⟨O,O,A',c',O,O⟩,O,fun A hA=> ?_⟩
  rcases List.mem_append.1 hA with hA | hA
  ·exact List.mem_append_right _ (List.mem_append_right _ hA)
  ·exact List.mem_append_left _ hA
 ·rintro v Lo fs ⟨_,_,_,⟨rfl,rfl,A',c',rfl,rfl⟩,rfl,rfl⟩
  rw [room_self Rs ha]
  exact ⟨_,⟨A',c',O,O,O⟩,fun A hA=>List.mem_append_left _ (.tail _ hA)⟩
theorem conf_r (Rs:Rm) (a:Nat) (ha:a<Rs.length) (hok:DkOk Rs[a].1 Rs[a].2) (i0 i1:Int) (hg:Rs[a].2.got<Rs[a].2.H.ents.length) (hi0:Rs[a].2.H.ents[Rs[a].2.got].op.c=i0) (hi1:Rs[a].2.H.ents[Rs[a].2.got].op.n=i1):Sp Tryz.prog 77 [.pointer (some ⟨Rs[a].1.d,0,none⟩), .agg #[.int .i64 i0, .int .i64 i1]] [K7 Rs] [barF,RoomF Rs] (fun v Lo fs=>DkOk Rs[a].1 (confD Rs[a].2)∧v= .nilIface∧Lo= [K7 (Rs.set a (Rs[a].1,confD Rs[a].2))] ∧fs= [RoomF (Rs.set a (Rs[a].1,confD Rs[a].2))]):=by
 refine ((confirm_0 Rs[a].1 Rs[a].2 hok i0 i1 hg hi0 hi1).room (pre:= [barF]) a ha (fun v M2 D2 gs=>M2=Rs[a].1∧D2=confD Rs[a].2∧DkOk Rs[a].1 (confD Rs[a].2)∧v= .nilIface∧gs= []) ?_).mono ?_
 ·rintro v Lo fs ⟨hk,rfl,rfl,rfl⟩
  exact ⟨_,_,[],⟨O,O,hk,O,O⟩,O,fun A hA=>List.mem_append_right _ (List.mem_append_right _ (by rw [List.append_nil] at hA;exact hA))⟩
 ·rintro v Lo fs ⟨_,_,_,⟨rfl,rfl,hk,rfl,rfl⟩,rfl,rfl⟩
  exact ⟨hk,O,O,O⟩
theorem take_r (Rs:Rm) (a:Nat) (ha:a<Rs.length) (hok:DkOk Rs[a].1 Rs[a].2) (o:GOp) (Ao:Option Addr) (co:Nat) (hcu:o.c≠Rs[a].2.u) (hc:1≤o.c∧o.c≤Rs[a].2.cl) (hn:o.n≤Rs[a].2.op) (hts:o.text.size≤1048576) (hce:putA Rs[a].2 o.c+Jx o≤Rs[a].2.ce) (hta:TaD Rs[a].2 o):Sp Tryz.prog 78 [.pointer (some ⟨Rs[a].1.d,0,none⟩),opV o Ao co] [K7 Rs] [barF,RdF rgD Ao co o.rs,RoomF Rs] (fun v Lo fs=> ∃M2:DM,M2.d=Rs[a].1.d∧DkOk M2 (K0 Rs[a].2 o)∧v= .nilIface∧Lo= [K7 (Rs.set a (M2,K0 Rs[a].2 o))] ∧fs= [RoomF (Rs.set a (M2,K0 Rs[a].2 o))]):=by
 refine (((take_0 Rs[a].1 Rs[a].2 hok o Ao co hcu hc hn hts hce hta).preSub (pre':= [barF,RdF rgD Ao co o.rs] ++KY Rs[a].1 Rs[a].2) (fun A hA=> ?_)).room (pre:= [barF,RdF rgD Ao co o.rs]) a ha (fun v M2 D2 gs=>M2.d=Rs[a].1.d∧D2=K0 Rs[a].2 o∧DkOk M2 (K0 Rs[a].2 o)∧v= .nilIface∧gs= []) ?_).mono ?_
 ·simp only [List.mem_append,List.mem_cons,List.not_mem_nil,or_false] at hA ⊢
  rcases hA with (rfl | rfl | rfl | rfl) | rfl<;>simp
 ·rintro v Lo fs ⟨M2,hd,hk,rfl,rfl,rfl⟩
  exact ⟨M2,_,[],⟨hd,O,hk,O,O⟩,O,fun A hA=>List.mem_append_left _ (by rw [List.append_nil] at hA;exact hA)⟩
 ·rintro v Lo fs ⟨M2,_,_,⟨hd,rfl,hk,rfl,rfl⟩,rfl,rfl⟩
  exact ⟨M2,hd,hk,O,O,O⟩
theorem acted_r (Rs:Rm) (a:Nat) (ha:a<Rs.length) (hok:DkOk Rs[a].1 Rs[a].2) (hv:DV Rs[a].2) (hb:Bd Rs[a].2) (x:GAct) (k n:Nat) (hn:1≤n∧n≤8):Sp Tryz.prog 41 [.pointer (some ⟨Rs[a].1.d,0,none⟩),actV x, .int .i64 k, .int .i64 n] [K7 Rs] [barF,wordsF,RoomF Rs] (fun v Lo fs=> ∃M2 D2,Acted Rs[a].2 D2∧DV D2∧M2.d=Rs[a].1.d∧DkOk M2 D2∧v= .bool true∧Lo= [K7 (Rs.set a (M2,D2))] ∧fs= [RoomF (Rs.set a (M2,D2))]):=by
 refine ((Jbn Rs[a].1 Rs[a].2 hok hv hb x k n hn).room (pre:= [barF,wordsF]) a ha (fun v M2 D2 gs=>Acted Rs[a].2 D2∧DV D2∧M2.d=Rs[a].1.d∧DkOk M2 D2∧v= .bool true∧gs= []) ?_).mono ?_
 ·rintro v Lo fs ⟨rfl,M2,D2,h1,h2,h3,h4,rfl,rfl⟩
  exact ⟨M2,D2,[],⟨h1,h2,h3,h4,O,O⟩,O,fun A hA=>List.mem_append_left _ (by rw [List.append_nil] at hA;exact hA)⟩
 ·rintro v Lo fs ⟨M2,D2,_,⟨h1,h2,h3,h4,rfl,rfl⟩,rfl,rfl⟩
  exact ⟨M2,D2,h1,h2,h3,h4,O,O,O⟩
set_option maxRecDepth 10000 in
theorem Jb3 (k:Nat) (Rs:Rm) (G:List GOp) (hR:RmI k Rs G) (hk:k≤600) (A1:Option Addr) (c1:Nat) (a:Nat) (ha:a<Rs.length):Sp Tryz.prog 40 [.slice A1 Rs.length c1, .int .i64 a] [K7 Rs] [barF,RoomF Rs,adsF A1 c1 Rs] (fun v Lo fs=> ∃Rs2 G2,RmI k Rs2 G2∧SentR Rs a Rs2∧(Rs2.map fun r=>r.1.d)=(Rs.map fun r=>r.1.d)∧v= .bool true∧Lo= [K7 Rs2] ∧fs= [RoomF Rs2]):=by
 have hlen:=hR.len
 have hoka:=hR.ok _ (List.getElem_mem ha)
 refine Sp.of (n:=47) ⟨_,Tryz.func40,O,O,O,O⟩ (Nat.le_of_ble_eq_true O) fun Ps As=>Jc (Ja (Lq (Jd O) (Je (Jf (Jc (Kd (k:=a) Mm2 (by rw [List.getElem?_map,List.getElem?_eq_getElem ha];rfl) (pt_open _) fun b1 q1 y1 e1=> ?_))))))
 cases e1
 refine Ja (Lq (Jb O) (Lq (Jb O) (Lq (J7 Un25 Hc O O (by omega) (by omega)) (Lq (Kb (j:=0) Un29 O O Mm0 O O) (Jg O (JR (pend_r Rs a ha hoka) (.n1 O) (by decide) .z (Jl Mm1 (Jl Mm2 Jw)) fun u1_4 Lo fs hres=> ?_))))))
 obtain ⟨A9,c9,rfl,rfl,rfl⟩:=hres
 refine Lq (Jd O) (Je (Jf (Jc (Jc (Ja (Lq (Jb O) (Lq (J3 Un78 O) (Lq (Kh O O) (Je (Jf (Jy O (fun h14=> ?_) (fun h14=> ?_))))))))))))
 ·refine Jc (Ja (Lq (Jd O) (Je (Jf (Jo (Js ?_))))))
  refine ⟨_,[_],[_],fun Z w hs=> .tmp O .nil,?_,fun Z w hs=>hs.out (Sk (Sr)) (Jl Mm3 Tt2)⟩
  refine ⟨Rs,G,hR, .inl ⟨O,ha,?_⟩,O,O,O,O⟩
  have h:=h14
  simp at h
  unfold pendN;omega
 ·have hpl:0<(Rs[a].2.H.ops.drop Rs[a].2.got).length:=by have h:=h14;simp at h;rw [List.length_drop];omega
  obtain ⟨p,hp0⟩: ∃p,(Rs[a].2.H.ops.drop Rs[a].2.got)[0]? =some p:=⟨_,List.getElem?_eq_getElem hpl⟩
  obtain ⟨hp,hge,hpe⟩:=pend_head hp0
  have hprs:p.rs.length≤4398046511104:=by have h:=(hoka.hr.fit _ (List.getElem_mem hge)).rs;rw [hpe] at h;exact h
  refine Jp (Jf (Jc (Jc (Kd (k:=0) Mm0 hp0 (op_open _) fun b4 q4 y4 e4=> ?_))))
  cases e4
  refine JI _ _ [] (.c 0 0 (.c 1 0 (.c 2 0 (.c 3 0 (.c 4 0 (.c 5 0 (.c 6 0 (.c 7 0 (.c 8 0 (.c 9 2 (.c 10 0 .nil))))))))))) mixed (fun _ _ _ _ h=>h) (Sd (Sr)) (fun _ h=>h) (by kernel_rfl) (by decide) fun ws Z0=>Qe O (Jb O) (Qe O (Jb O) (Qe O (J7 Un25 Hc O O (by omega) (by omega)) (Qe O (Kb (j:=0) Un29 O O Mm3 O O) (Qe O (Jb O) (Qe O (J7 Un78 JD O O (by omega) (by omega)) (Qe O (Jh (o':=_+0) Un52 O KW O O) (Qe O (Jh (o':=_+0) Un49 O JW O O) (Qe O (Kq (k:=0) (vs:= [_,_]) Un46 O JW O Mm0 O O O) ?_))))))))
  refine Jz O O (JR (conf_r Rs a ha hoka p.c p.n hge (by rw [hpe]) (by rw [hpe])) (.n2 O O) (by decide) .z (Jl Mm5 (Jl Mm6 Jw)) fun u4_9 Lo fs hres=> ?_)
  obtain ⟨hck,rfl,rfl,rfl⟩:=hres
  refine ⟨⟨(Sd (Sr)),Mm1⟩,?_⟩
  refine Qe O (KX Un54 O) (JN (JM (Jf (Jv O O (Jp (Jf (Jc (Jc (Ja (Lq (Jd O) (Je (Jf (JE ?_)))))))))))))
  refine Kf (α:=Nat×Rm) (fun (i,Rs2)=>Rs.length-i)
   (fun (i,Rs2)=> [(0, .slice (some ⟨b1,q1,none⟩) Rs.length c1),(1, .int .i64 a),(5, .slice (some ⟨b4,q4,none⟩) (Rs[a].2.H.ops.drop Rs[a].2.got).length c9),(6, .int .i64 i)])
   (fun (i,Rs2)=>(K7 Rs2::Ps))
   (fun (i,Rs2)=>(RoomF Rs2::RdF opD (some ⟨b4,q4,none⟩) c9 (Rs[a].2.H.ops.drop Rs[a].2.got)::barF::RoomF Rs::adsF (some ⟨b1,q1,none⟩) c1 Rs::As))
   (fun (i,Rs2)=>i≤Rs.length∧SentS Rs a i p Rs2)
   (0,Rs.set a (Rs[a].1,confD Rs[a].2)) ?_ (.m4 rfl rfl rfl rfl) (Sk (Sr)) (Jl Mm0 (Jl Mm4 Tt6)) ?_
  ·exact ⟨Nat.zero_le _,SentS.zero ha hR.ok p hck⟩
  ·rintro ⟨i,Rs2⟩ hI
   have hile:i≤Rs.length:=hI.1
   refine Jc (Jc (Ja (Lq (Jb O) (Lq (Jb O) (Lq (J3 Un25 O) (Lq (Km O O) (Je (Jf (Jy O (fun h29=> ?_) (fun h29=> ?_))))))))))
   ·refine Jp (Jf (Jc (JE (Jc ?_))))
    have hi:i<Rs.length:=by have h:=h29;simp only [decide_eq_true_eq] at h;omega
    have hi2:i<Rs2.length:=by rw [hI.2.len];exact hi
    have hS:=hI.2
    refine Kd (k:=i) Mm4 (by rw [←hS.d,List.getElem?_map,List.getElem?_eq_getElem hi2];rfl) (pt_open _) fun b9 q9 y9 e9=> ?_
    cases e9
    refine Kd (k:=0) Mm2 hp0 (op_open _) fun b8 q8 y8 e8=> ?_
    cases e8
    refine JI _ _ [] (.c 0 0 (.c 1 0 (.c 2 0 (.c 3 0 (.c 4 0 (.c 5 0 (.c 6 0 (.c 7 0 (.c 8 0 (.c 9 0 (.c 10 0 (.c 11 2 (.c 12 2 (.c 13 0 (.c 14 0 .nil))))))))))))))) mixed (fun _ _ _ _ h=>h) (Sd (Sr)) (fun _ h=>h) (by kernel_rfl) (by decide) fun ws Z0=>Qe O (Jb O) (Qe O (Jb O) (Qe O (Kz O O) (Qe O (Jb O) (Jat (t:=35) O (fun g35=> ?_) (fun g35=> ?_)))))
    ·refine Ki O O O O g35 (Jb O) (by decide) (Ki O O O O g35 (Jb O) (by decide) (Ki O O O O g35 (J7 Un25 Hc O O (by omega) (by omega)) (by decide) (Ki O O O O g35 (Kb (j:=0) Un29 O O Mm2 O O) (by decide) (Ki O O O O g35 (Jb O) (by decide) (Ki O O O O g35 (J7 Un78 JD O O (by omega) (by omega)) (by decide) (Ki O O O O g35 (Kq (k:=0) (vs:= [_,_,_,_,_,_,_,_,_]) Un52 O JD O Mm0 O O O) (by decide) (YK O O O O O g35 (Jm (Jag p y8.1 y8.2 hprs) (.n1 O) (by decide) (Jl Mm2 Jw) fun u9_11 Lo fs hres=> ?_))))))))
     obtain ⟨A8,c8,rfl,rfl,rfl⟩:=hres
     refine ⟨⟨(Sd (Sr)),Mm1⟩,?_⟩
     have hne:i≠a:=by have h:=g35;simp at h;omega
     have hold:=hS.old hne hi hi2
     have htk:=hR.takes hk ha hp hi hne
     refine YK O O O O O g35 (JR (take_r Rs2 i hi2 (hS.ok _ (List.getElem_mem hi2)) p A8 c8 (by rw [hold];exact htk.cu) (by rw [hold];exact htk.c) (by rw [hold];exact htk.n) htk.ts (by rw [hold];exact htk.ce) (by rw [hold];exact htk.ta)) (.n2 O O) (by decide) .z (Jl Mm7 (Jl Mm0 (Jl Mm5 Jw))) fun u9_12 Lo fs hres=> ?_)
     obtain ⟨M2,hd2,hk2,rfl,rfl,rfl⟩:=hres
     refine ⟨⟨(Sd (Sr)),Mm2⟩,?_⟩
     refine Ki O O O O g35 (KX Un54 O) (by decide) (Qe O (JP O g35 O) (JN (JM (Jf (Jv O O (Jp (Ka (Jf (Ja (Lq (Jb O) (Lq (JU O O (wr64 (by omega)) (c:=((i+1:Nat):Int))) (Lq (Jd O) (Je (Kp ?_))))))))))))))
     refine ⟨(i+1,Rs2.set i (M2,K0 Rs2[i].2 p)),?_,(.m4 O O O O),(Sk (Sr)),(Jl Mm0 Tt7)⟩
     exact ⟨by show Rs.length-(i+1)<Rs.length-i;omega,by show i+1≤Rs.length;omega,hS.take hne hi hi2 hd2 hk2⟩
    ·refine Kr O O O O g35 (by decide) (Kr O O O O g35 (by decide) (Kr O O O O g35 (by decide) (Kr O O O O g35 (by decide) (Kr O O O O g35 (by decide) (Kr O O O O g35 (by decide) (Kr O O O O g35 (by decide) (XX O O O O g35 (by decide) (XX O O O O g35 (by decide) (Kr O O O O g35 (by decide) ?_)))))))))
     refine Qe O (JH O g35 O) (JN (JM (Jf (Jv O O (Jp (Ka (Jf (Ja (Lq (Jb O) (Lq (JU O O (wr64 (by omega)) (c:=((i+1:Nat):Int))) (Lq (Jd O) (Je (Kp ?_)))))))))))))
     refine ⟨(i+1,Rs2),?_,(.m4 O O O O),(Sk (Sr)),Tt4⟩
     have hia:i=a:=by have h:=g35;simp at h;omega
     subst hia
     exact ⟨by show Rs.length-(i+1)<Rs.length-i;omega,by show i+1≤Rs.length;omega,hS.skip⟩
   ·refine Kk (JL (JL (Kc (Jf (Jc (Ja (Lq (Jd O) (Je (Jf (Jo ?_))))))))))
    refine ⟨_,[_],[_],fun Z w hs=> .tmp O .nil,?_,fun Z w hs=>hs.out (Sk (Sr)) (Jl Mm0 Tt2)⟩
    have hie:i=Rs.length:=by have h:=h29;simp only [decide_eq_false_iff_not] at h;omega
    have hS:=hI.2
    rw [hie] at hS
    exact ⟨Rs2,G++ [p],hS.done hR hk ha hp, .inr ⟨ha,p,hp,hS⟩,hS.d,O,O,O⟩
set_option maxRecDepth 10000 in
theorem Jba (Rs:Rm) (G:List GOp) (hR:RmI 0 Rs G) (A1:Option Addr) (c1:Nat) (acts:List GAct) (B1:Option Addr) (cb:Nat):Sp Tryz.prog 9 [.slice A1 Rs.length c1, .slice B1 acts.length cb] [K7 Rs] [barF,wordsF,RoomF Rs,adsF A1 c1 Rs,RdF actD B1 cb acts] (fun v Lo fs=> ∃Rs2 G2,RmI 400 Rs2 G2∧(Rs2.map fun r=>r.1.d)=(Rs.map fun r=>r.1.d)∧v= .bool true∧Lo= [K7 Rs2] ∧fs= [RoomF Rs2]):=by
 have hlen:=hR.len
 refine Sp.of (n:=48) ⟨_,Tryz.func9,O,O,O,O⟩ (Nat.le_of_ble_eq_true O) fun Ps As=>Jc (Ja (Lq (Jd O) (Je (Jf (Jc (Jc (Ja (Lq (Jd O) (Je (Jf (JE ?_)))))))))))
 refine Kf (α:=Nat×Rm×List GOp) (fun (i,Rs2,G2)=>acts.length-i)
  (fun (i,Rs2,G2)=> [(0, .slice A1 Rs.length c1),(1, .slice B1 acts.length cb),(5, .int .i64 i)])
  (fun (i,Rs2,G2)=>(K7 Rs2::Ps))
  (fun (i,Rs2,G2)=>(RoomF Rs2::barF::wordsF::RoomF Rs::adsF A1 c1 Rs::RdF actD B1 cb acts::As))
  (fun (i,Rs2,G2)=>i≤400∧i≤acts.length∧RmI i Rs2 G2∧(Rs2.map fun r=>r.1.d)=(Rs.map fun r=>r.1.d))
  (0,Rs,G) ?_ (.m3 rfl rfl rfl) (Sk (Sr)) (Jl Mm2 (fun _ h=>h)) ?_
 ·exact ⟨Nat.zero_le _,Nat.zero_le _,hR,O⟩
 ·rintro ⟨i,Rs2,G2⟩ ⟨hi0,hi1,hR2,hm2⟩
  have hi0:i≤400:=hi0
  have hi1:i≤acts.length:=hi1
  have hR2:RmI i Rs2 G2:=hR2
  have hm2:(Rs2.map fun r=>r.1.d)=(Rs.map fun r=>r.1.d):=hm2
  have hlen2:Rs2.length=Rs.length:=by have h:=congrArg List.length hm2;simpa using h
  have hads:adsF A1 c1 Rs2=adsF A1 c1 Rs:=by unfold adsF;rw [hm2]
  refine Jc (Jc (Ja (Lq (Jb O) (Lq (Jb O) (Lq (J3 Un22 O) (Lq (Km O O) (Lq (Jb O) (J4 (t:=14) O (fun g14=> ?_) (fun g14=> ?_)))))))))
  ·refine Lg O O O g14 (Jb O) (Lg O O O g14 (Km O O) (Lq (JP O g14 O) (Je (Jf (Jy O (fun h17=> ?_) (fun h17=> ?_))))))
   ·refine Jp (Jf (Jc (JE (Jc ?_))))
    have hia:i<acts.length:=by have h:=g14;simp only [decide_eq_true_eq] at h;omega
    have hi4:i<400:=by have h:=h17;simp only [decide_eq_true_eq] at h;omega
    refine Kd (k:=i) Mm5 (List.getElem?_eq_getElem hia) (act_open _) fun b4 q4 y4 e4=> ?_
    cases e4
    refine Ja (Lq (Jb O) (Lq (Jb O) (Lq (J7 Un22 ZF O O (by omega) (by omega)) (Lq (Kq (k:=0) (vs:= [_,_,_,_,_,_]) Un93 O ZF O Mm0 O O O) (Jg O (Ju (cs:= [_,_,_,_,_,_]) ZF O (by decide) fun b6=>Jg O (Jq (cs':= [_,_,_,_,_,_]) (vs:= [_,_,_,_,_,_]) ZF O O O O O (Nat.le_of_ble_eq_true O) .z (Je (Jf (Jc (Ja (Lq (Jh (o':=1) Un93 O ti3 O O) (Lq (Jj Un3 O O Jn O) ?_)))))))))))))
    refine Jg O (Jm (K9 acts[i].kind 9 (by omega)) (.n2 O O) (by decide) Jw fun u5_2 Lo fs hres=> ?_)
    obtain ⟨kk,hkk,_,rfl,rfl,rfl⟩:=hres
    refine Lq (Jd O) (Je (Jf (Jc (Ja (Lq (Jh (o':=0) Un93 O ti3 O O) (Lq (Jj Un3 O O Jn O) (Lq (Jb O) (Lq (J3 Un25 O) (Jg O (Jm (K9 acts[i].who Rs.length (by omega)) (.n2 O O) (by decide) Jw fun u6_4 Lo fs hres=> ?_))))))))))
    obtain ⟨w,hw,_,rfl,rfl,rfl⟩:=hres
    refine Lq (Jd O) (Je (Jf (Jc (Ja (Lq (Jd O) (Je (Jf (Jc (Jc (Ja (Lq (Jb O) (Lq (Yz O O) (Je (Jf (Jy O (fun h33=> ?_) (fun h33=> ?_))))))))))))))))
    ·refine Ja (Lq (Jb O) (Lq (Jb O) ?_))
     have hs:=Jb3 i Rs2 G2 hR2 (by omega) A1 c1 w (by omega)
     rw [hlen2,hads] at hs
     refine Jg O (JR (hs) (.n2 O O) (by decide) .z1 (Jl Mm2 (Jl Mm1 (Jl Mm5 Jw))) fun u9_2 Lo fs hres=> ?_)
     obtain ⟨Rs3,G3,hR3,hSR,hm3,rfl,rfl,rfl⟩:=hres
     refine Lq (Jd O) (Je (Jf (Jc (Ja (Lq (Jb O) (Lq (KL O) (Je (Jf (Jv O O (Jp (Ka (Jf (Ja (Lq (Jb O) (Lq (JU O O (wr64 (by omega)) (c:=((i+1:Nat):Int))) (Lq (Jd O) (Je (Kp ?_))))))))))))))))))
     refine ⟨(i+1,Rs3,G3),?_,(.m3 O O O),(Sk (Sd (Sr))),(Jl Mm0 Tt3)⟩
     exact ⟨by show acts.length-(i+1)<acts.length-i;omega,by show i+1≤400;omega,by show i+1≤acts.length;omega,hR3.mono (by omega),hm3.trans hm2⟩
    ·have hw2:w<Rs2.length:=by omega
     refine Kd (k:=w) Mm5 (by rw [←hm2,List.getElem?_map,List.getElem?_eq_getElem hw2];rfl) (pt_open _) fun b10 q10 y10 e10=> ?_
     cases e10
     refine JI _ _ [] (.c 0 0 (.c 1 0 (.c 2 0 (.c 3 0 (.c 4 0 (.c 5 0 (.c 6 0 (.c 7 0 (.c 8 2 (.c 9 0 .nil)))))))))) mixed (fun _ _ _ _ h=>h) (Sk (Sd (Sr))) (fun _ h=>h) (by kernel_rfl) (by decide) fun ws Z0=>Qe O (Jb O) (Qe O (Jb O) (Qe O (J7 Un25 Hc O O (by omega) (by omega)) (Qe O (Kb (j:=0) Un29 O O Mm0 O O) (Qe O (Jt (vs:= [_,_,_,_,_,_]) Un93 O ZF O Jn O O) (Qe O (Jb O) (Qe O (Jb O) (Qe O (J3 Un25 O) ?_)))))))
     refine Jz O O (JR (acted_r Rs2 w hw2 (hR2.ok _ (List.getElem_mem hw2)) (hR2.dv _ (List.getElem_mem hw2)) (hR2.bd (by omega) _ (List.getElem_mem hw2)) acts[i] kk Rs.length (by omega)) (.n4 O O O O) (by decide) .z1 (Jl Mm4 (Jl Mm5 (Jl Mm3 Jw))) fun u10_8 Lo fs hres=> ?_)
     obtain ⟨M3,D3,hac,hdv,hd3,hk3,rfl,rfl,rfl⟩:=hres
     refine ⟨⟨(Sd (Sk (Sr))),Mm1⟩,?_⟩
     refine Qe O (Jd O) (JN (JM (Jf (Jc (Ja (Lq (Jb O) (Lq (KL O) (Je (Jf (Jv O O (Jp (Ka (Jf (Ja (Lq (Jb O) (Lq (JU O O (wr64 (by omega)) (c:=((i+1:Nat):Int))) (Lq (Jd O) (Je (Kp ?_)))))))))))))))))))
     refine ⟨(i+1,Rs2.set w (M3,D3),G2),?_,(.m3 O O O),(Sk (Sd (Sr))),(Jl Mm0 Tt5)⟩
     exact ⟨by show acts.length-(i+1)<acts.length-i;omega,by show i+1≤400;omega,by show i+1≤acts.length;omega,hR2.act hw2 hac hdv hk3,(map_set_d hw2 hd3).trans hm2⟩
   ·refine Kk (JL (JL (Kc (Jf (Jc (Ja (Lq (Jd O) (Je (Jf (Jo ?_))))))))))
    refine ⟨_,[_],[_],fun Z w hs=> .tmp O .nil,?_,fun Z w hs=>hs.out (Sk (Sr)) (fun _ h=>h)⟩
    exact ⟨Rs2,G2,hR2.mono hi0,hm2,O,O,O⟩
  ·refine Ln O O O g14 (Ln O O O g14 (Lq (JH O g14 O) (Je (Jf (Jv O O (Kk (JL (JL (Kc (Jf (Jc (Ja (Lq (Jd O) (Je (Jf (Jo ?_))))))))))))))))
   refine ⟨_,[_],[_],fun Z w hs=> .tmp O .nil,?_,fun Z w hs=>hs.out (Sk (Sr)) (fun _ h=>h)⟩
   exact ⟨Rs2,G2,hR2.mono hi0,hm2,O,O,O⟩
structure RmO (Rs:Rm):Prop where
 ok: ∀r∈Rs,DkOk r.1 r.2
 st: ∀(i:Nat) r,Rs[i]? =some r→r.2=zeroD ((i:Int)+1) 4 4096 1024
theorem RmO.nil:RmO [] :=⟨nofun,fun _ _ h=>by simp at h⟩
theorem RmO.add {Rs:Rm} (h:RmO Rs) {M:DM} (hk:DkOk M (zeroD ((Rs.length:Int)+1) 4 4096 1024)):RmO (Rs++ [(M,zeroD ((Rs.length:Int)+1) 4 4096 1024)]):=by
 refine ⟨fun r hr=> ?_,fun i r hi=> ?_⟩
 ·rcases List.mem_append.1 hr with hr | hr
  ·exact h.ok r hr
  ·rw [List.mem_singleton.1 hr];exact hk
 ·rcases Nat.lt_trichotomy i Rs.length with hl | rfl | hl
  ·rw [List.getElem?_append_left hl] at hi;exact h.st i r hi
  ·rw [List.getElem?_append_right (Nat.le_refl _),Nat.sub_self] at hi
   rw [←Option.some.inj hi]
  ·rw [List.getElem?_eq_none (by simp;omega)] at hi;cases hi
theorem DV.zero {u:Int} (hu:1≤u∧u≤8) (cl ce op:Int):DV (zeroD u cl ce op):=
 ⟨hu,nofun,nofun,fun x hx=>(by rw [List.eq_of_mem_replicate hx];exact ⟨Int.le_refl _,Int.natCast_nonneg _⟩),nofun,DI.zero,rfl⟩
theorem RmO.rm {Rs:Rm} (h:RmO Rs) (hl:2≤Rs.length∧Rs.length≤4):RmI 0 Rs [] :=by
 have key: ∀r∈Rs,∃i:Nat,i<4∧r.2=zeroD ((i:Int)+1) 4 4096 1024:=fun r hr=>by
  obtain ⟨i,hi,rfl⟩:=List.mem_iff_getElem.1 hr
  exact ⟨i,by omega,h.st i _ (List.getElem?_eq_getElem hi)⟩
 refine ⟨hl,h.ok,fun r hr=> ?_,fun r hr=> ?_,fun i r hi=> ?_,fun r hr=> ?_,fun r hr=> ?_,?_,fun r hr=> ?_⟩
 ·obtain ⟨i,hi,e⟩:=key r hr;rw [e];exact DV.zero (by omega) _ _ _
 ·obtain ⟨i,hi,e⟩:=key r hr;rw [e];exact ⟨rfl,rfl,rfl⟩
 ·rw [h.st i r hi];rfl
 ·obtain ⟨i,hi,e⟩:=key r hr;rw [e];exact ⟨rfl,rfl⟩
 ·obtain ⟨i,hi,e⟩:=key r hr;rw [e];intro o ho;cases ho
 ·have e:(Rs.map fun r=>pendN r.2)=List.replicate Rs.length 0:=by
   apply List.eq_replicate_iff.2
   refine ⟨by simp,fun x hx=> ?_⟩
   obtain ⟨r,hr,rfl⟩:=List.mem_map.1 hx
   obtain ⟨i,hi,e⟩:=key r hr
   rw [e];rfl
  rw [e];simp
 ·obtain ⟨i,hi,e⟩:=key r hr;rw [e];exact Nat.le_refl 0
theorem _root_.Go.GW.Sp.roomAdd {P:Program} {k:FuncId} {args:List Value} {res:Value→List Part→List Fact→Prop} (Rs:Rm) (h:Sp P k args [] [] res) (post:Value→DM→DS→Prop)
  (hr: ∀v Lo fs,res v Lo fs→ ∃M2 D2,post v M2 D2∧Lo=KC M2 D2∧fs=KY M2 D2):
  Sp P k args [K7 Rs] [RoomF Rs] (fun v Lo fs=> ∃M2 D2,post v M2 D2∧Lo= [K7 (Rs++ [(M2,D2)])] ∧fs= [RoomF (Rs++ [(M2,D2)])]):=by
 refine ⟨h.enters,fun Z w Ps As hs=> ?_⟩
 have h1:St Z w ([] ++(K7 Rs::Ps)) ([] ++(RoomF Rs::As)):=hs
 refine (h.calls Z w _ _ h1).mono ?_
 rintro e w' ⟨v,rfl,Z',Lo,fs,g1,g2⟩
 obtain ⟨M2,D2,p1,rfl,rfl⟩:=hr v Lo fs g1
 refine ⟨v,O,Z',_,_,⟨M2,D2,p1,O,O⟩,?_⟩
 have hp:((KC M2 D2)++(K7 Rs::Ps)).flatten.Perm ([K7 (Rs++ [(M2,D2)])] ++Ps).flatten:=by
  have e:K7 (Rs++ [(M2,D2)])=K7 Rs++(KC M2 D2).flatten:=by
   unfold K7 Yu
   rw [List.flatMap_append,List.flatten_append,List.flatMap_cons,List.flatMap_nil,List.append_nil]
  rw [e]
  generalize KC M2 D2=Q
  simp only [List.flatten_append,List.flatten_cons,List.cons_append,List.nil_append,List.append_assoc]
  exact List.perm_append_comm_assoc ..
 refine ⟨g2.zlt,fun q hq=>g2.own q (hp.symm.subset hq),(hp.map Prod.fst).nodup_iff.1 g2.nodup,fun A hA=> ?_⟩
 have hF:(RoomF Rs).holds Z' w':=g2.facts _ (by simp)
 rcases List.mem_append.1 hA with hA | hA
 ·rw [List.mem_singleton.1 hA]
  intro B hB
  have e:Vq (Rs++ [(M2,D2)])=Vq Rs++KY M2 D2:=by unfold Vq;rw [List.flatMap_append,List.flatMap_cons,List.flatMap_nil,List.append_nil]
  rw [e] at hB
  rcases List.mem_append.1 hB with hB | hB
  ·exact hF B hB
  ·exact g2.facts B (by simp only [List.mem_append];exact .inl hB)
 ·exact g2.facts A (List.mem_append_right _ (by simpa using hA))
def ptRow (Rs:Rm):List Value:=Rs.map fun r=> .pointer (some ⟨r.1.d,0,none⟩)
theorem Zl (Rs:Rm) (x:DM×DS):ptRow (Rs++ [x])=ptRow Rs++ [.pointer (some ⟨x.1.d,0,none⟩)] :=by unfold ptRow;rw [List.map_append];rfl
theorem ptRow_flat: ∀Rs:Rm,(((Rs.map fun (r:DM×DS)=>r.1.d).map fun x=> [(.pointer (some ⟨x,0,none⟩):Value)])).flatten=ptRow Rs
 | [] =>rfl
 | x::Rs=>by
  have h:=ptRow_flat Rs
  rw [List.map_cons,List.map_cons,List.flatten_cons,h];rfl
theorem pt_reps (Z:Nat→Prop) (w:World): ∀xs:List Nat,Reps (ptD.rep Z w) xs (xs.map fun x=> [.pointer (some ⟨x,0,none⟩)])
 | [] => .nil
 | x::xs=> .cons rfl (pt_reps Z w xs)
theorem dnew_r (Rs:Rm) (i:Nat) (hi:i=Rs.length) (h4:Rs.length<4):Sp Tryz.prog 36 [.int .i64 ((i+1:Nat):Int), .agg #[.int .i64 4, .int .i64 4096, .int .i64 1024]] [K7 Rs] [RoomF Rs] (fun v Lo fs=> ∃M2 D2,(v= .tuple #[.pointer (some ⟨M2.d,0,none⟩), .nilIface] ∧DkOk M2 D2∧D2=zeroD ((Rs.length:Int)+1) 4 4096 1024)∧Lo= [K7 (Rs++ [(M2,D2)])] ∧fs= [RoomF (Rs++ [(M2,D2)])]):=by
 subst hi
 have h:=Jac ((Rs.length:Int)+1) 4 4096 1024 (by omega) (by decide) (by decide) (by decide)
 refine Sp.roomAdd Rs h (fun v M2 D2=>v= .tuple #[.pointer (some ⟨M2.d,0,none⟩), .nilIface] ∧DkOk M2 D2∧D2=zeroD ((Rs.length:Int)+1) 4 4096 1024) ?_
 rintro v Lo fs ⟨M,rfl,hk,rfl,rfl⟩
 exact ⟨M,_,⟨O,hk,O⟩,O,O⟩
set_option maxRecDepth 10000 in
theorem Jb9 (n:Int):Sp Tryz.prog 7 [.int .i64 n] [] [] (fun v Lo fs=> ∃(Rs:Rm) (A1:Option Addr) (c1:Nat),RmI 0 Rs [] ∧v= .slice A1 Rs.length c1∧Lo= [K7 Rs] ∧fs= [adsF A1 c1 Rs,RoomF Rs]):=by
 have hn0:=Int.emod_nonneg n (show (3:Int)≠0 by decide)
 have hn1:=Int.emod_lt_of_pos n (show (0:Int)<3 by decide)
 refine Sp.of (n:=32) ⟨_,Tryz.func7,rfl,rfl,rfl,rfl⟩ (Nat.le_of_ble_eq_true rfl) fun Ps As=>Jc (Ja (Lq (Jd rfl) (Je (Jf (Jc (Ja (Lq (Jd rfl) (Je (Jf (Jc (Jc (Ja (Lq (Jd rfl) (Je (Jf (JE (Ke (A:=RoomF []) (fun Z w _ A hA=>by cases hA) (Ky ?_))))))))))))))))))
 refine Ky ?_
 refine Kf (α:=Nat×Rm×Value×Part) (fun (i,Rs,v,p)=>(4-i))
  (fun (i,Rs,v,p)=> [(0, .int .i64 n),(3,v),(4, .int .i64 i)])
  (fun (i,Rs,v,p)=>(p::K7 Rs::Ps))
  (fun (i,Rs,v,p)=>(RoomF Rs::As))
  (fun (i,Rs,v,p)=>i=Rs.length∧(Rs.length:Int)≤2+n % 3∧RmO Rs∧Row 29 1 v Rs.length (ptRow Rs) p)
  (0,[], .slice none 0 0,[]) ?_ (.m3 rfl rfl rfl) (Sk (Sk (Sr))) (fun _ h=>h) ?_
 ·exact ⟨rfl,by show (0:Int)≤2+n % 3;omega,RmO.nil,Row.nil _ _⟩
 ·rintro ⟨i,Rs,v,p⟩ ⟨hil,hi0,hO,hrow⟩
  have hil:i=Rs.length:=hil
  have hi0:(Rs.length:Int)≤2+n % 3:=hi0
  have hO:RmO Rs:=hO
  have hrow:Row 29 1 v Rs.length (ptRow Rs) p:=hrow
  refine Jc (Jc (Ja (Lq (Jb O) (Lq (Jb O) (Jg O (Jm (brought_m n 3 (by decide)) (.n2 O O) (by decide) Jw fun u3_2 Lo fs hres=> ?_))))))
  obtain ⟨rfl,rfl,rfl⟩:=hres
  refine Lq (JU O O (wr64 (by omega)) (c:=2+n % 3)) (Lq (Km O O) (Je (Jf (Jy O (fun h11=> ?_) (fun h11=> ?_)))))
  ·refine Jp (Jf (Jc (JE (Jc (Ja (Lq (Jb O) (Lq (JU O O (wr64 (by omega)) (c:=((i+1:Nat):Int))) (Jg O (Jm (Jcv) .nil (by decide) Jw fun u5_2 Lo fs hres=> ?_)))))))))
   obtain ⟨rfl,rfl,rfl⟩:=hres
   have hlt4:Rs.length<4:=by have h:=h11;simp only [decide_eq_true_eq] at h;omega
   refine Jg O (JR (dnew_r Rs i hil hlt4) (.n2 O O) (by decide) .z1 (Jl Mm0 Jw) fun u5_3 Lo fs hres=> ?_)
   obtain ⟨M2,D2,⟨rfl,hk2,hD2⟩,rfl,rfl⟩:=hres
   refine Lq (Jb O) (Lq (Jk (vs:= [_,_]) O O) (Lq (Jk (vs:= [_,_]) O O) (Lq (Jd O) (Lq (Jd O) (Je (Jf (Jc (Jc (Ja (Lq (Jb O) (Lq (KX Un54 O) (Lq (Jb O) (Lg O O O O (Jb O) ?_)))))))))))))
   refine Lg O O O O (KN Un29 O O (by simp)) (Lq (JH O O O) (Je (Jf (Jv O O (Jp (Jf (Ja (Lq (Jb O) (Lq (Jb O) (Jg O (KF (cs:= [_]) Un25 Hc (by decide) (by decide) O O O O (by decide) fun b29=>Jg O (KH (news:= [_]) Un25 Hc O (by decide) O O hrow Jn O O (by omega) (by unfold maxLen;omega) (by decide) (DelAt.perm .z2) fun v30 p30 hr30=> ?_))))))))))))
   obtain ⟨As30,cs30,es30⟩:=hr30.slice
   subst es30
   refine Lq (Jd O) (Je (Ka (Jf (Ja (Lq (Jb O) (Lq (JU O O (wr64 (by omega)) (c:=((i+1:Nat):Int))) (Lq (Jd O) (Je (Kp ?_)))))))))
   refine ⟨(i+1,Rs++ [(M2,D2)],_,p30),?_,(.m3 O O O),(Sk (Sd (Sk (Sr)))),(Jl Mm0 Tt2)⟩
   subst hD2
   have hlt:(i:Int)<2+n % 3:=by have h:=h11;simp only [decide_eq_true_eq] at h;omega
   exact ⟨by show 4-(i+1)<4-i;omega,by show i+1=_;rw [List.length_append];simp;omega,by show ((Rs++ [_]).length:Int)≤_;rw [List.length_append];simp;omega,hO.add hk2,by show Row _ _ _ (Rs++ [_]).length _ _;rw [Zl,List.length_append];exact hr30⟩
  ·refine Kk (JL (JL (Kc (Jf (Jc ?_)))))
   have hdn:(Rs.length:Int)=2+n % 3:=by have h:=h11;simp only [decide_eq_false_iff_not] at h;omega
   have hrm:=hO.rm (by omega)
   refine Ke (A:=RepsF ptD (Rs.map fun (r:DM×DS)=>r.1.d) ((Rs.map fun (r:DM×DS)=>r.1.d).map fun x=> [.pointer (some ⟨x,0,none⟩)])) (fun Z w _=>pt_reps Z w _) (KJ (e:=ptD) (xs:=(Rs.map fun (r:DM×DS)=>r.1.d)) (css:=((Rs.map fun (r:DM×DS)=>r.1.d).map fun x=> [.pointer (some ⟨x,0,none⟩)])) (by rw [ptRow_flat];exact hrow) .z (by simp) Mm0 fun A9 c9 e9=> ?_)
   cases e9
   refine Ja (Lq (Jb O) (Lq (Jd O) (Je (Jf (Jo ?_)))))
   refine ⟨_,[_],[_,_],fun Z w hs=> .tmp O .nil,?_,fun Z w hs=>hs.out (Sk (Sr)) (Jl Mm0 Tt2)⟩
   exact ⟨Rs,_,_,hrm,(by show Value.slice _ _ _=_;rw [List.length_map]),rfl,rfl⟩
structure BdN (k:Nat) (D:DS):Prop where
 n:D.H.ops.length+k≤700
 m:D.made+k≤700∧(D.made:Int)+k<D.op
 c:5*((D.H.ops.length:Int)+k)≤D.ce
theorem BdN.bd {q:Nat} {D:DS} (h:BdN (q+1) D):Bd D:=by
 have h1:=h.n
 have h2:=h.m
 have h3:=h.c
 exact ⟨by omega,by omega,by omega⟩
theorem Acted.bdn {D D2:DS} (h:Acted D D2) {q:Nat} (hb:BdN (q+1) D):BdN q D2:=by
 obtain ⟨_,⟨_,h2,h3⟩,_,h4⟩:=h
 have b1:=hb.n
 have b2:=hb.m
 have b3:=hb.c
 rcases h4 with ⟨e1,_,e2⟩ | ⟨o,_,_,e1,e2⟩
 ·exact ⟨by rw [e1];omega,by rw [e2,h3];omega,by rw [e1,h2];omega⟩
 ·have e3:D2.H.ops.length=D.H.ops.length+1:=by rw [e1];simp
  exact ⟨by omega,by rw [e2,h3];omega,by rw [e3,h2];omega⟩
structure InsV (D:DS) (p:Nat) (text:ByteArray) (D2:DS):Prop where
 dv:DV D2
 ac:Acted D D2
 vis:K3 D2.X=(K3 D.X).take p++(J2 text++(K3 D.X).drop p)
 crt:J5 (D2.X.take D2.gap)=p+(J2 text).length
structure DelV (D:DS) (p n:Nat) (D2:DS):Prop where
 dv:DV D2
 ac:Acted D D2
 vis:K3 D2.X=(K3 D.X).take p++(K3 D.X).drop (p+n)
 crt:J5 (D2.X.take D2.gap)=p
theorem ins_v (M:DM) (D:DS) (ok:DkOk M D) (hv:DV D) (q:Nat) (hb:BdN (q+1) D) (p:Nat) (hp:p≤J5 D.X) (text:ByteArray) (hts:text.size≤1048576) (hu:(utF text).2.2=0) (hu1:1≤(utF text).1∧(utF text).1≤5):Sp Tryz.prog 13 [.pointer (some ⟨M.d,0,none⟩), .int .i64 p, .string text] (KC M D) (barF::KY M D) (fun v Lo fs=> ∃(k:Nat) (M2:DM) (D2:DS),(D2=insD D k text∧Pth D.X p k∧D2.X=D.X.take k++(cellsOf (J2 text) 0++D.X.drop k))∧InsV D p text D2∧BdN q D2∧M2.d=M.d∧DkOk M2 D2∧v= .tuple #[opV (insO D k text) none 0, .nilIface] ∧Lo=KC M2 D2∧fs=KY M2 D2):=by
 have hbd:=hb.bd
 have hpu:=hv.put_ D.u
 have hbm:=hbd.m
 have hbn:=hbd.n
 have hbc:=hbd.c
 have hlm:=ok.lm
 have hru:=Y1 hu
 have hmk: ∀k,Pth D.X p k→MkD D (insO D k text):=fun k hk=>(hv.insM (by omega) (by omega) hk hu (by omega)).1
 refine (insert_0 M D ok p hp text hts hu (by omega) (by omega) (by omega) hmk hv.nU hv.nR).mono ?_
 rintro v Lo fs ⟨k,M2,hk,hd,hok,rfl,rfl,rfl⟩
 obtain ⟨h1,h2⟩:=hv.insD (hmk k hk) hu1
 obtain ⟨-,h3,h4⟩:=hv.insM (by omega) (by omega) hk hu (by omega)
 exact ⟨k,M2,insD D k text,⟨rfl,hk,ins_row hv.di (hv.ins (by omega) (by omega) hk.le hu (by omega))⟩,⟨h1,h2,h3,by rw [show (J2 text).length=(utF text).1.toNat by omega];exact h4⟩,h2.bdn hb,hd,hok,rfl,rfl,rfl⟩
theorem del_v (M:DM) (D:DS) (ok:DkOk M D) (hv:DV D) (q:Nat) (hb:BdN (q+1) D) (p n:Nat) (hn0:0<n) (hpn:p+n≤J5 D.X):Sp Tryz.prog 17 [.pointer (some ⟨M.d,0,none⟩), .int .i64 p, .int .i64 n] (KC M D) (barF::KY M D) (fun v Lo fs=> ∃(xs:List Rg) (M2:DM) (D2:DS) (A9:Option Addr) (c9:Nat),(VisR p n D.X xs∧D2.X=Kn xs 1 D.X∧D2.u=D.u)∧DelV D p n D2∧BdN q D2∧M2.d=M.d∧DkOk M2 D2∧v= .tuple #[opV (hideO D xs) A9 c9, .nilIface] ∧Lo=KC M2 D2∧fs=KY M2 D2++ [RdF rgD A9 c9 xs]):=by
 have hbd:=hb.bd
 have hbm:=hbd.m
 have hbn:=hbd.n
 have hlm:=ok.lm
 have hmk: ∀xs,VisR p n D.X xs→MkD D (hideO D xs)∧p≤J5 (JT (mkE D (hideO D xs)) D.X):=fun xs hx=>by
  obtain ⟨h1,h2⟩:=hv.hideM (by omega) (by omega) hn0 hpn hx
  refine ⟨h1,?_⟩
  rw [←KI,h2,List.length_append,List.length_take,KI];omega
 refine (delete_0 M D ok p n hn0 hpn (by omega) hmk hv.nU hv.nR).mono ?_
 rintro v Lo fs ⟨xs,k,M2,A9,c9,hV,hB,hd,hok,rfl,rfl,rfl⟩
 obtain ⟨h1,h2⟩:=hv.hideD k (hmk xs hV).1
 obtain ⟨-,h3⟩:=hv.hideM (by omega) (by omega) hn0 hpn hV
 exact ⟨xs,M2,hideD D xs k,A9,c9,⟨hV,hide_row hv.di (hv.hide (by omega) (by omega) hV.pls (hV.ne hn0 hpn)),O⟩,⟨h1,h2,h3,hB.ct⟩,h2.bdn hb,hd,hok,O,O,O⟩
theorem und_v (M:DM) (D:DS) (ok:DkOk M D) (hv:DV D) (q:Nat) (hb:BdN (q+1) D) (p k:Nat) (hk:Pth D.X p k) (text:ByteArray) (hu:(utF text).2.2=0) (hu1:1≤(utF text).1∧(utF text).1≤5) (M3:DM) (D3:DS) (hD3:D3=insD D k text) (ok3:DkOk M3 D3) (hb3:BdN 1 D3):Sp Tryz.prog 39 [.pointer (some ⟨M3.d,0,none⟩)] (KC M3 D3) (barF::KY M3 D3) (fun v Lo fs=> ∃(M2:DM) (D2:DS) (o:GOp),(K3 D2.X=K3 D.X∧J5 (D2.X.take D2.gap)=p)∧M2.d=M3.d∧DkOk M2 D2∧v= .tuple #[opV o none 0, .nilIface] ∧Lo=KC M2 D2∧fs=KY M2 D2):=by
 have hbd:=hb.bd
 have hbm:=hbd.m
 have hbn:=hbd.n
 have hb3m:=hb3.m
 obtain ⟨j,hU⟩:=ins_undo hv (by omega) (by omega) hk hu hu1
 rw [←hD3] at hU
 refine (ZB M3 D3 ok3 (by omega) D.u ((D.made:Int)+1) j hU.hx hU.tud).mono ?_
 rintro v Lo fs ⟨M2,hd,hok,rfl,rfl,rfl⟩
 exact ⟨M2,_,_,⟨hU.vis,hU.crt⟩,hd,hok,O,O,O⟩
theorem str_beq {s t:ByteArray} :(s==t)=true↔s=t:=by
 rw [beq_toListBytes,ByteArray.toList_eq,ByteArray.toList_eq]
 obtain ⟨⟨x⟩⟩:=s
 obtain ⟨⟨y⟩⟩:=t
 simp
theorem QP (s:ByteArray): ∀(m i:Nat) (acc:Array Value),s.size-i≤m→(Conv.runesFrom s m i acc).toList=acc.toList++ints .i32 (runesAt s i)
 | 0,i,acc,h=>by
  rw [Conv.runesFrom,runesAt,dif_neg (by omega)];simp [ints]
 | m+1,i,acc,h=>by
  rw [Conv.runesFrom,runesAt]
  by_cases hi:i<s.size
  ·have hd:=decode_pos s i
   rw [if_pos hi,dif_pos hi]
   simp only
   rw [QP s m _ _ (by omega)]
   simp [ints]
  ·rw [if_neg hi,dif_neg hi];simp [ints]
theorem EJ (s:ByteArray):(J2 s).length≤s.size:=by
 have h1:=size_runesFrom s s.size 0 #[]
 have h2:=congrArg List.length (QP s s.size 0 #[] (by omega))
 simp only [Array.length_toList,List.length_append,List.length_nil,ints,List.length_map] at h2
 simp only [List.size_toArray,List.length_nil] at h1
 unfold J2
 omega
section
variable {P:Program} {n:Dm} {R:Post} {K:Nx} {l:Fr} {Ps Ps':List Part} {As:List Fact} {d:Nat} {ty:TypeId} {pos:String} {aft:Array Edge} {g:Option (Nat×Bool)}
theorem Jau {src dst e:TypeId} {x:Operand} {s:ByteArray} (hs:P.underlying src=some .string) (hd:P.underlying dst=some (.slice e)) (he:P.underlying e=some (.int .i32)) (hx:evs l x=some (.string s)) (hz:s.size≤1073741824) (hdn:d<n.sz)
  (h: ∀(b c:Nat),K ((d, .slice (some ⟨b,0,none⟩) (J2 s).length c)::l) Ps (RdF runeD (some ⟨b,0,none⟩) c (J2 s)::As)):OW P n R l Ps As ⟨some d, .convert src dst x,ty,pos,aft,g⟩ K:=
 KU rfl hdn fun Z w ρ hst hρ=>by
  have hl:=QP s s.size 0 #[] (by omega)
  have hn:(Conv.runesFrom s s.size 0 #[]).size=(J2 s).length:=by
   rw [←Array.length_toList,hl];simp [ints,J2]
  have hle:=EJ s
  have hrun:=run_runes_of_string (P:=P) w src dst e s hs hd he (by rw [hn];omega)
  rw [hn] at hrun
  have hcap:=grownCap_ge w (J2 s).length 0 e
  have hmx:=grownCap_le_maxLen w (J2 s).length 0 e (by unfold maxLen;omega)
  have hcells:(Conv.runesFrom s s.size 0 #[] ++Array.replicate (grownCap w (J2 s).length 0 e-(J2 s).length) (Value.int .i32 0))=(ints .i32 (J2 s)++List.replicate (grownCap w (J2 s).length 0 e-(J2 s).length) (Value.int .i32 0)).toArray:=by
   apply Array.ext'
   rw [Array.toList_append,hl]
   simp [J2]
  rw [hcells] at hrun
  have hal:=(hst.drew (w.drawn+1)).alloc (JB (ints .i32 (J2 s)++List.replicate (grownCap w (J2 s).length 0 e-(J2 s).length) (Value.int .i32 0)) e)
  have hrow:Row e 1 (.slice (some ⟨w.heap.size,0,none⟩) (J2 s).length (grownCap w (J2 s).length 0 e)) (J2 s).length (((J2 s).map fun x=> [Value.int .i32 x]).flatten) [(w.heap.size,JB (ints .i32 (J2 s)++List.replicate (grownCap w (J2 s).length 0 e-(J2 s).length) (Value.int .i32 0)) e)] :=by
   rw [ints_flat]
   exact ⟨by simp [ints], .inr ⟨w.heap.size,_,List.replicate (grownCap w (J2 s).length 0 e-(J2 s).length) (Value.int .i32 0),O,O,by simp [ints];omega,hcap,hmx⟩⟩
  obtain ⟨A,cap,he2,hR⟩:=Row.freeze (e:=runeD) hrow rfl hal (ints_reps .i32 _ Z _)
  cases he2
  refine ⟨_,_,_,_,_,?_,hal.freeze.addFact (A:=RdF runeD (some ⟨w.heap.size,0,none⟩) (grownCap w (J2 s).length 0 e) (J2 s)) hR,h _ _⟩
  simp only [execOp,hρ _ _ hx,Sem.run_bind,hrun,Result.andThen_ok,Sem.run_pure]
  rfl
end
theorem dnew_v:Sp Tryz.prog 36 [.int .i64 1, .agg #[.int .i64 2, .int .i64 100, .int .i64 100]] [] [] (fun v Lo fs=> ∃(M:DM) (D:DS),(D.X= [] ∧D.u=1∧DV D∧BdN 4 D)∧v= .tuple #[.pointer (some ⟨M.d,0,none⟩), .nilIface] ∧DkOk M D∧Lo=KC M D∧fs=KY M D):=by
 refine (Jac 1 2 100 100 (by decide) (by decide) (by decide) (by decide)).mono ?_
 rintro v Lo fs ⟨M,rfl,hok,rfl,rfl⟩
 exact ⟨M,zeroD 1 2 100 100,⟨rfl,rfl,DV.zero (by decide) _ _ _,⟨by show 0+4≤700;omega,⟨by show 0+4≤700;omega,by show ((0:Nat):Int)+(4:Nat)<100;omega⟩,by show 5*(((0:Nat):Int)+(4:Nat))≤100;omega⟩⟩,rfl,hok,rfl,rfl⟩
theorem aw1 {D:DS} (hX:D.X= []) {k:Nat} (hk:Pth D.X 0 k) {X1:List Ce} (h:X1=D.X.take k++(cellsOf (J2 abcB) 0++D.X.drop k)):X1=awX1:=by
 rw [hX] at h hk
 rw [h,aw_k0 hk,rn_abc];rfl
theorem aw3 {X:List Ce} (hX:X=awX2) {k:Nat} (hk:Pth X 1 k) {X3:List Ce} (h:X3=X.take k++(cellsOf (J2 xB) 0++X.drop k)):k=2∧X3=awX2.take 2++(cellsOf [88] 0++awX2.drop 2):=by
 subst hX
 obtain rfl:=aw_k2 hk
 exact ⟨O,by rw [h,rn_x]⟩
theorem bd38_0_1_2Xg28 (x0_:Int) (x1_:Int) (x2_:Int) (w:World):(Instr.build 38 #[(0, .int .i64 x0_),(1, .int .i64 x1_),(2, .int .i64 x2_)]).run Tryz.prog w= .ok (.agg #[.int .i64 x0_, .int .i64 x1_, .int .i64 x2_]) w:=by kernel_rfl
set_option maxRecDepth 10000 in
theorem Jbl:Sp Tryz.prog 8 [] [] [barF] (Is (.bool true)):=by
 refine Sp.of (n:=85) ⟨_,Tryz.func8,O,O,O,O⟩ (Nat.le_of_ble_eq_true O) fun Ps As=>Jc (Ja (Lq (Jd O) (Je (Jf (Jc (Ja (Lq (JZ (.n3 O O O) (bd38_0_1_2Xg28 _ _ _)) (Jg O (Jm (dnew_v) (.n2 O O) (by decide) Jw fun u1_1 Lo fs hres=> ?_)))))))))
 obtain ⟨M0,D0,⟨hX0,hu0,hv0,hb0⟩,rfl,hok0,rfl,rfl⟩:=hres
 refine Lq (Jb O) (Lq (Jk (vs:= [_,_]) O O) (Lq (Jk (vs:= [_,_]) O O) (Lq (Jd O) (Lq (Jd O) (Je (Jf (Jc (Jc (Ja (Lq (Jb O) (Lq (KX Un54 O) (Lq (Jb O) (Lg O O O O (Jb O) ?_)))))))))))))
 refine Lg O O O O (KN Un29 O O (by simp)) (Lq (JH O O O) (Je (Jf (Jv O O (Jp (Jf (Jc (Ja (Lq (Jb O) (Jg O (J6 (ins_v M0 D0 hok0 hv0 3 hb0 0 (Nat.zero_le _) abcB (by decide) (by rw [ut_abc]) (by rw [ut_abc];decide)) (.n3 O O O) (by decide) (.n8 .z .z .z .z .z .z .z .z) (Jl Mm3 (Jl Mm0 (Jl Mm1 (Jl Mm2 Jw)))) fun u4_1 Lo fs hres=> ?_)))))))))))
 obtain ⟨k1,M1,D1,hE1,hI1,hb1,hd1,hok1,rfl,rfl,rfl⟩:=hres
 refine Lq (Jb O) (Lq (Jk (vs:= [_,_]) O O) (Lq (Jk (vs:= [_,_]) O O) (Jg O (Ju (cs:= [_,_,_,_,_,_,_,_,_]) JD O (by decide) fun b3=>Jg O (Jq (cs':= [_,_,_,_,_,_,_,_,_]) (vs:= [_,_,_,_,_,_,_,_,_]) JD O O O O O (Nat.le_of_ble_eq_true O) .z (Lq (Jd O) (Je (Jf (Jc (Ja (Lq (Jb O) ?_)))))))))))
 have hX1:=aw1 hX0 hE1.2.1 hE1.2.2
 rw [←hd1]
 refine Jg O (J6 (del_v M1 D1 hok1 hI1.dv 2 hb1 1 1 (by decide) (by rw [hX1];decide)) (.n3 O O O) (by decide) (.n8 .z1 .z1 .z1 .z1 .z1 .z1 .z1 .z1) (Jl Mm6 (Jl Mm0 (Jl Mm1 (Jl Mm2 Jw)))) fun u5_1 Lo fs hres=> ?_)
 obtain ⟨xs2,M2,D2,A2,c2,hE2,hI2,hb2,hd2,hok2,rfl,rfl,rfl⟩:=hres
 refine Lq (Jb O) (Lq (Jk (vs:= [_,_]) O O) (Lq (Jk (vs:= [_,_]) O O) (Jg O (Ju (cs:= [_,_,_,_,_,_,_,_,_]) JD O (by decide) fun b5=>Jg O (Jq (cs':= [_,_,_,_,_,_,_,_,_]) (vs:= [_,_,_,_,_,_,_,_,_]) JD O O O O O (Nat.le_of_ble_eq_true O) .z (Lq (Jd O) (Je (Jf (Jc (Ja (Lq (Jb O) ?_)))))))))))
 have hX2:D2.X=awX2:=by rw [hE2.2.1,hX1];exact aw_x2 (hX1 ▸ hE2.1)
 rw [←hd2]
 refine Jg O (J6 (ins_v M2 D2 hok2 hI2.dv 1 hb2 1 (by rw [hX2];decide) xB (by decide) (by rw [ut_x]) (by rw [ut_x];decide)) (.n3 O O O) (by decide) (.n8 .z1 .z1 .z1 .z1 .z1 .z1 .z1 .z1) (Jl Mm10 (Jl Mm0 (Jl Mm1 (Jl Mm2 Jw)))) fun u6_1 Lo fs hres=> ?_)
 obtain ⟨k3,M3,D3,hE3,hI3,hb3,hd3,hok3,rfl,rfl,rfl⟩:=hres
 refine Lq (Jb O) (Lq (Jk (vs:= [_,_]) O O) (Lq (Jk (vs:= [_,_]) O O) (Jg O (Ju (cs:= [_,_,_,_,_,_,_,_,_]) JD O (by decide) fun b7=>Jg O (Jq (cs':= [_,_,_,_,_,_,_,_,_]) (vs:= [_,_,_,_,_,_,_,_,_]) JD O O O O O (Nat.le_of_ble_eq_true O) .z (Lq (Jd O) (Je (Jf (Jc (Jc ?_))))))))))
 have hvl:=KA M3.t.row
 have hwt:=hok3.wt
 have htl:=hok3.tl
 have hrow:=hok3.row
 have hpl:=hok3.pl
 obtain ⟨hk3,hX3⟩:=aw3 hX2 hE3.2.1 hE3.2.2
 rw [←hd3]
 refine Ja (Lq (Jb O) (Lq (KX Un54 O) (Lq (Jb O) (Lg O O O O (Jb O) (Lg O O O O (KX Un54 O) (Lq (JH O O O) (Lq (Jb O) (Lg O O O O (Jb O) (Lg O O O O (KX Un54 O) ?_)))))))))
 refine Lq (JH O O O) (Lq (Jb O) (Lg O O O O (Jb O) (Lg O O O O (JC O) (Lg O O O O (Jh (o':=0) Un42 O Yk O O) (Ks O O O O (Kv (QI M3.d M3.h M3.b _ _ M3.B M3.t hwt (by omega)) (.n1 O) (by decide) .z1 .z4 (Jl Mm2 Jw) fun u7_14 Lo fs hres=> ?_))))))
 obtain ⟨rfl,rfl,rfl⟩:=hres
 rw [hrow,hX3,aw_t3]
 refine Lg O O O O (Gg O O) (Lq (JH O O O) (Lq (Jb O) (Lg O O O (by rw [str_beq.2 O];rfl) (Jb O) (Ks O O O (by rw [str_beq.2 O];rfl) (J6 (Hr M3 D3 hok3) (.n1 O) (by decide) (.n8 .z .z2 .z2 .z2 .z .z1 .z1 .z1) Jw fun u7_19 Lo fs hres=> ?_)))))
 obtain ⟨rfl,rfl,rfl⟩:=hres
 rw [show D3.gap=3 by rw [hE3.1];show k3+(utF xB).1.toNat=3;rw [ut_x,hk3];rfl]
 refine Lg O O O (by rw [str_beq.2 O];rfl) (Kz O O) (Lq (JH O (by rw [str_beq.2 O];rfl) O) (Lq (Jb O) (Lg O O O (by decide) (Jb O) (Lg O O O (by decide) (JC O) (Lg O O O (by decide) (Jh (o':=0) Un42 O Yk O O) (Ks O O O (by decide) (Kv (Zj M3.d M3.b _ _ M3.h M3.B M3.t hwt) (.n1 O) (by decide) .z .z3 (Jl Mm2 Jw) fun u7_26 Lo fs hres=> ?_)))))))
 obtain ⟨rfl,rfl,rfl⟩:=hres
 rw [show M3.t.row.length=4 by rw [hrow,hX3];rfl]
 refine Lg O O O (by decide) (Kz O O) (Lq (JH O (by decide) O) (Je (Jf (Jv O O (Jp (Jf (Jc (Ja (Lq (Jb O) (Jg O (J6 (und_v M2 D2 hok2 hI2.dv 1 hb2 1 k3 hE3.2.1 xB (by rw [ut_x]) (by rw [ut_x];decide) M3 D3 hE3.1 hok3 hb3) (.n1 O) (by decide) (.n8 .z .z1 .z1 .z1 .z .z .z .z) (Jl Mm13 (Jl Mm0 (Jl Mm1 (Jl Mm2 Jw)))) fun u9_1 Lo fs hres=> ?_)))))))))))
 obtain ⟨M4,D4,o4,hU4,hd4,hok4,rfl,rfl,rfl⟩:=hres
 refine Lq (Jb O) (Lq (Jk (vs:= [_,_]) O O) (Lq (Jk (vs:= [_,_]) O O) (Jg O (Ju (cs:= [_,_,_,_,_,_,_,_,_]) JD O (by decide) fun b9=>Jg O (Jq (cs':= [_,_,_,_,_,_,_,_,_]) (vs:= [_,_,_,_,_,_,_,_,_]) JD O O O O O (Nat.le_of_ble_eq_true O) .z (Lq (Jd O) (Je (Jf (Jc (Ja (Lq (Jb O) (Lq (QX Un54 O) (Lq (Jb O) ?_)))))))))))))
 refine Lg O O O O (Jb O) (Lg O O O O (JC O) (Lg O O O O (Jh (o':=0) Un42 O Yk O O) ?_))
 rw [←hd4]
 refine Ks O O O O (Kv (QI M4.d M4.h M4.b _ _ M4.B M4.t hok4.wt (by have:=hok4.tl;omega)) (.n1 O) (by decide) .z1 .z4 (Jl Mm2 Jw) fun u10_6 Lo fs hres=> ?_)
 obtain ⟨rfl,rfl,rfl⟩:=hres
 rw [hok4.row,text_vis (hU4.1.trans (congrArg K3 hX2)),aw_t4]
 refine Lg O O O O (Gh O O) (Lq (JP O O O) (Lq (Jb O) (Lg O O O (str_beq.2 O) (Jb O) (Ks O O O (str_beq.2 O) (J6 (Jae M4 D4 hok4) (.n1 O) (by decide) (.n8 .z .z2 .z2 .z2 .z .z1 .z1 .z1) (Jl Mm16 (Jl Mm0 (Jl Mm1 (Jl Mm2 Jw)))) fun u10_11 Lo fs hres=> ?_)))))
 obtain ⟨rfl,rfl,rfl⟩:=hres
 rw [hU4.2]
 refine Lg O O O (str_beq.2 O) (Kh O O) (Lq (JP O (str_beq.2 O) O) (Lq (Jd O) (Je (Jf (Jo ?_)))))
 refine ⟨_,[],[],fun Z w hs=> .tmp O .nil,?_,fun Z w hs=>hs.out (Sd (Sd (Sd (Sd (Sd (Sd (Sd (Sd (Sd (Sd (Sd (Sd (Sr))))))))))))) Tt16⟩
 exact ⟨O,O,O⟩
set_option maxRecDepth 10000 in
theorem Ja5 (s:ByteArray) (hz:s.size≤1073741824):Sp Tryz.prog 10 [.string s] [] [] (fun v Lo fs=> ∃b c:Nat,v= .slice (some ⟨b,0,none⟩) (J2 s).length c∧Lo= [] ∧fs= [RdF runeD (some ⟨b,0,none⟩) c (J2 s)]):=by
 refine Sp.of (n:=5) ⟨_,Tryz.func10,O,O,O,O⟩ (Nat.le_of_ble_eq_true O) fun Ps As=>Jc (Ja (Lq (Jd O) (Je (Jf (Jc (Ja (Lq (Jb O) (Jg O (Jau Un9 Un30 Un21 O hz (by decide) fun b4 c4=>Lq (Jd O) (Je (Jf (Jo ?_))))))))))))
 refine ⟨_,[],[_],fun Z w hs=> .tmp O .nil,?_,fun Z w hs=>hs.out (Sr) (fun _ h=>h)⟩
 exact ⟨b4,c4,O,O,O⟩
section
variable {P:Program} {n:Dm} {R:Post} {l:Fr} {Ps:List Part} {As:List Fact} {dd:Option Tmp} {ty:TypeId} {pos:String} {aft:Array Edge} {g:Option (Nat×Bool)}
theorem Ja6 {t t2 E:TypeId} {x:Operand} {a:Addr} {m c:Nat} (hu:P.underlying t=some (.slice E)) (hx:evs l x=some (.slice (some a) m c)):QR P l Ps As ⟨dd, .binOp .eql t x (.const (.slice none 0 0)) t2,ty,pos,aft,g⟩ (.bool false):=fun Z w ρ hs hρ=>by
 have hy:ρ (.const (.slice none 0 0))= .slice none 0 0:=hρ _ _ rfl
 have h0:binOp .eql t (.slice (some a) m c) (.slice none 0 0)=(do pure (.bool (←Op.equalIn (9999+1) t (.slice (some a) m c) (.slice none 0 0)))):=rfl
 have h1:eqGuard .eql t x (.const (.slice none 0 0)) (.slice (some a) m c) (.slice none 0 0)=pure ():=by unfold eqGuard;rfl
 have h2:(Op.equalIn (9999+1) t (.slice (some a) m c) (.slice none 0 0)).run P w= .ok false w:=by
  unfold Op.equalIn
  simp only [Sem.run_bind,run_underlying hu,Result.andThen_ok]
  rfl
 simp only [execOp,hρ _ _ hx,hy,h1,h0,Sem.run_bind,h2,Result.andThen_ok,Sem.run_pure]
theorem Zs {c:Code} {M:DM} {D:DS} {Rs:Rm} (hF:RoomF ((M,D)::Rs)∈As) (h:WC P n c R l (dkB M D::hdP M.h M.A D.H.ops.length M.cap M.m D.H.total::mpP M.m M.L::mkP M.L::rpP M.b M.B::stP M.s M.vu M.vr::M.pu::M.pr::Ps) (RdF opD M.A M.cap D.H.ops::AllF M.L nowF::TrF M.B M.t::As)):WC P n c R l (K7 ((M,D)::Rs)::Ps) As:=
 WC_openRm 0 (by simp) hF h
end
theorem RmI.hd {k:Nat} {Rs:Rm} {G:List GOp} (h:RmI k Rs G): ∃M D T,Rs=(M,D)::T:=by
 match Rs,h.len with
 | [],h=>simp at h
 | (M,D)::T,_=>exact ⟨M,D,T,rfl⟩
theorem RmI.bdn {k:Nat} {Rs:Rm} {G:List GOp} (h:RmI k Rs G) (hk:k≤600) {r:DM×DS} (hr:r∈Rs) (q:Nat) (hq:q≤50):BdN q r.2:=by
 have h1:=(h.n r hr).1
 have h2:=h.md r hr
 have h3:=h.lm r hr
 exact ⟨by omega,by omega,by omega⟩
def ctrR (r:Rn):List Int:=List.replicate (J2 r.1).length r.2
def ctrF (l:List Rn):List Int:=l.flatMap ctrR
def RC (s:RS) (X:List Ce):Prop:= ∃L:List Int,s.bs=L.flatMap encI∧(∀r∈L,OkR r)∧ctrF s.rs++List.replicate L.length s.hid=X.map (·.2)
theorem RC.flush {s:RS} {X:List Ce} (h:RC s X):ctrF (flushF s).rs=X.map (·.2)∧RC (flushF s) X:=by
 obtain ⟨L,h1,h2,h3⟩:=h
 unfold flushF
 by_cases hb:s.bs= []
 ·rw [if_pos hb]
  have hL:L= [] :=by
   cases L with
   | nil=>rfl
   | cons r L=>
    exfalso
    have:=(Qt r).1
    have h:=congrArg List.length (h1.symm.trans hb)
    rw [List.flatMap_cons,List.length_append] at h
    simp only [List.length_nil] at h;omega
  subst hL
  simp only [List.length_nil,List.replicate_zero,List.append_nil] at h3
  exact ⟨h3,[],h1,h2,by simpa using h3⟩
 ·rw [if_neg hb]
  have e:ctrF (s.rs++ [(strOf s.bs,s.hid)])=X.map (·.2):=by
   rw [←h3]
   unfold ctrF
   rw [List.flatMap_append,List.flatMap_singleton,h1]
   unfold ctrR
   rw [Hd h2]
  exact ⟨e,[],rfl,(fun r hr=>by cases hr),by simpa using e⟩
theorem RC.turn {s:RS} {X:List Ce} (h:RC s X) (hid:Int):RC (turnR s hid) X:=by
 unfold turnR
 split
 ·exact h
 ·exact ⟨[],flush_bs s,(fun r hr=>by cases hr),by simpa using h.flush.1⟩
theorem RC.cell {s:RS} {X:List Ce} (h:RC s X) {c:Ce} (hc:OkR c.1):RC (cellF s c) (X++ [c]):=by
 obtain ⟨L,h1,h2,h3⟩:=h.turn c.2
 have e:(cellF s c).hid=c.2:=VV s [c.1] c.2
 refine ⟨L++ [c.1],?_,?_,?_⟩
 ·show (turnR s c.2).bs++ [c.1].flatMap encI=_
  rw [h1,List.flatMap_append]
 ·intro r hr
  rcases List.mem_append.1 hr with hr | hr
  ·exact h2 r hr
  ·rw [List.mem_singleton.1 hr];exact hc
 ·rw [e]
  rw [turnR_hid] at h3
  show ctrF (turnR s c.2).rs++_=_
  rw [List.map_append,←h3,List.length_append,List.length_singleton,List.replicate_succ',List.append_assoc]
  rfl
theorem RC.row: ∀(X Y:List Ce) (s:RS),RC s Y→(∀c∈X,OkR c.1)→RC (X.foldl cellF s) (Y++X)
 | [],Y,s,h,_=>by rw [List.append_nil];exact h
 | c::X,Y,s,h,hX=>by
  have:=RC.row X (Y++ [c]) (cellF s c) (h.cell (hX c List.mem_cons_self)) (fun x hx=>hX x (List.mem_cons_of_mem _ hx))
  rw [List.append_assoc] at this;exact this
theorem ctr_runs {X:List Ce} (h: ∀c∈X,OkR c.1):ctrF (runsF X)=X.map (·.2):=by
 have h0:RC ⟨[],0,[]⟩ [] :=⟨[],rfl,(fun r hr=>by cases hr),rfl⟩
 exact (RC.row X [] _ h0 h).flush.1
def lttF (l:List Rn):ByteArray:=l.foldl (fun s r=>s++r.1) ⟨#[]⟩
theorem let_succ {l:List Rn} {i:Nat} (hi:i<l.length):lttF (l.take (i+1))=lttF (l.take i)++l[i].1:=by
 unfold lttF
 rw [List.take_succ_eq_append_getElem hi,List.foldl_append];rfl
theorem Jcj {s t:ByteArray} (h:s.data.toList=t.data.toList):s=t:=by
 obtain ⟨⟨x⟩⟩:=s
 obtain ⟨⟨y⟩⟩:=t
 simp only at h
 rw [h]
theorem let_bytes: ∀(l:List Rn) (s:ByteArray),(l.foldl (fun s r=>s++r.1) s).data.toList=s.data.toList++l.flatMap fun r=>r.1.data.toList
 | [],s=>by simp
 | r::l,s=>by
  rw [List.foldl_cons,let_bytes l]
  simp [ByteArray.data_append]
theorem let_size: ∀(l:List Rn),(lttF l).size=(l.flatMap fun r=>r.1.data.toList).length:=fun l=>by
 have h:=congrArg List.length (let_bytes l ⟨#[]⟩)
 simp only [List.nil_append] at h
 rw [←h]
 show (lttF l).size=(lttF l).data.toList.length
 rw [Array.length_toList];rfl
theorem of_fst (l:List Rn):(l.flatMap ofRun).map (·.1)=l.flatMap fun r=>r.1.data.toList:=by
 rw [List.map_flatMap]
 congr 1;funext r
 unfold ofRun
 rw [List.map_map]
 exact List.map_id' _
theorem by_fst (X:List Ce):(byR X).map (·.1)=(X.map (·.1)).flatMap fun r=>bytesU (encI r):=by
 unfold byR
 rw [List.map_flatMap,List.flatMap_map]
 congr 1;funext c
 unfold byC
 rw [List.map_map]
 exact List.map_id' _
theorem let_runs {X Y:List Ce} (h:X.map (·.1)=Y.map (·.1)):lttF (runsF X)=lttF (runsF Y):=by
 refine Jcj ?_
 unfold lttF
 rw [let_bytes,let_bytes,←of_fst,←of_fst,runs_by,runs_by,by_fst,by_fst,h]
theorem Ew (X:List Ce):(lttF (runsF X)).size≤4*X.length:=by
 rw [let_size,←of_fst,runs_by,by_fst,List.length_flatMap]
 induction X with
 | nil=>simp
 | cons c X ih=>
  have:=(Qt c.1).2
  simp only [List.map_cons,List.sum_cons,List.length_cons]
  have e:(bytesU (encI c.1)).length=(encI c.1).length:=by unfold bytesU;rw [List.length_map]
  omega
theorem ctr_succ {l:List Rn} {i:Nat} (hi:i<l.length):ctrF (l.take (i+1))=ctrF (l.take i)++ctrR l[i] :=by
 unfold ctrF
 rw [List.take_succ_eq_append_getElem hi,List.flatMap_append,List.flatMap_singleton]
theorem Jcg (l:List Rn) (i:Nat):(ctrF (l.take i)).length≤(ctrF l).length:=by
 have:ctrF l=ctrF (l.take i)++ctrF (l.drop i):=by unfold ctrF;rw [←List.flatMap_append,List.take_append_drop]
 rw [this,List.length_append];omega
theorem Jca (l:List Rn) (i:Nat):(lttF (l.take i)).size≤(lttF l).size:=by
 rw [let_size,let_size]
 have:l.flatMap (fun r=>r.1.data.toList)=(l.take i).flatMap (fun r=>r.1.data.toList)++(l.drop i).flatMap (fun r=>r.1.data.toList):=by rw [←List.flatMap_append,List.take_append_drop]
 rw [this,List.length_append];omega
theorem XU: ∀ {b:Int} {xs:List Rg},NormB b xs→ ∀ {r:Rg},r∈xs→b≤r.lo∧r.lo<r.hi
 | _,[],_,r,hr=>by cases hr
 | b,x::xs,h,r,hr=>by
  rcases List.mem_cons.1 hr with rfl | hr
  ·exact ⟨h.1,h.2.1⟩
  ·have h1:=XU h.2.2 hr
   have h2:=h.1
   have h3:=h.2.1
   omega
theorem Jaj (lo:Int) (k:Int) (Y:List Ce):K1 ⟨lo,lo⟩ k Y=Y:=by
 unfold K1
 simp [up]
theorem Jai {lo q:Nat} {k:Int} {Y:List Ce} (h1:lo≤q) (h2:q<Y.length):K1 ⟨(lo:Nat),((q+1:Nat):Int)⟩ k Y=(K1 ⟨(lo:Nat),(q:Nat)⟩ k Y).set q (Y[q].1,Y[q].2+k)∧(K1 ⟨(lo:Nat),(q:Nat)⟩ k Y).length=Y.length∧ ∀h:q<(K1 ⟨(lo:Nat),(q:Nat)⟩ k Y).length,(K1 ⟨(lo:Nat),(q:Nat)⟩ k Y)[q] =Y[q] :=by
 have e0:(((q:Nat):Int)-((lo:Nat):Int)).toNat=q-lo:=by omega
 have e1:((((q+1:Nat):Int))-((lo:Nat):Int)).toNat=q-lo+1:=by omega
 have hlt:q-lo<(Y.drop lo).length:=by rw [List.length_drop];omega
 have hg:(Y.drop lo)[q-lo] =Y[q] :=by rw [List.getElem_drop];congr 1;omega
 have hd:Y.drop q=Y[q] ::Y.drop (q+1):=List.drop_eq_getElem_cons h2
 have l1:(Y.take lo).length=lo:=by rw [List.length_take];omega
 have l2:(up k ((Y.drop lo).take (q-lo))).length=q-lo:=by rw [Y2,List.length_take,List.length_drop];omega
 have eq:K1 ⟨(lo:Nat),(q:Nat)⟩ k Y=Y.take lo++(up k ((Y.drop lo).take (q-lo))++(Y[q] ::Y.drop (q+1))):=by
  unfold K1
  simp only [Int.toNat_natCast]
  rw [e0,hd]
 refine ⟨?_,?_,?_⟩
 ·rw [eq]
  unfold K1
  simp only [Int.toNat_natCast]
  rw [e1,List.take_succ_eq_append_getElem hlt,hg,Xg,List.append_assoc]
  rw [List.set_append_right _ _ (by omega),List.set_append_right _ _ (by omega),l1,l2,Nat.sub_self,List.set_cons_zero]
  rfl
 ·rw [eq]
  simp only [List.length_append,l1,l2,List.length_cons,List.length_drop];omega
 ·intro h
  simp only [eq]
  rw [List.getElem_append_right (by omega),List.getElem_append_right (by omega)]
  simp only [l1,l2,Nat.sub_self,List.getElem_cons_zero]
theorem Jan {g:Rg} {k:Int} {Y:List Ce} {B:Int} (hk: -1≤k∧k≤1) (h: ∀c∈Y, -B≤c.2∧c.2≤B): ∀c∈K1 g k Y, -(B+1)≤c.2∧c.2≤B+1:=by
 intro c hc
 unfold K1 at hc
 rcases List.mem_append.1 hc with hc | hc
 ·have:=h c (List.mem_of_mem_take hc);omega
 ·rcases List.mem_append.1 hc with hc | hc
  ·unfold up at hc
   obtain ⟨y,hy,rfl⟩:=List.mem_map.1 hc
   have:=h y (List.mem_of_mem_drop (List.mem_of_mem_take hy))
   show -(B+1)≤y.2+k∧y.2+k≤B+1
   omega
  ·have:=h c (List.mem_of_mem_drop hc);omega
theorem ZP {xs:List Int} {jk:List Value} {q o:Nat} (ho:o=q) (h:q<xs.length) {v:Int} :(ints .i64 xs++jk).set o (.int .i64 v)=ints .i64 (xs.set q v)++jk:=by
 subst ho
 have hl:(ints .i64 xs).length=xs.length:=by unfold ints;rw [List.length_map]
 rw [List.set_append_left _ _ (by omega)]
 unfold ints;rw [List.map_set]
theorem EN {xs:List Int} {jk:List Value} {q o:Nat} (ho:o=q) (h:q<xs.length):(ints .i64 xs++jk)[o]? =some (.int .i64 xs[q]):=by
 subst ho
 have hl:(ints .i64 xs).length=xs.length:=by unfold ints;rw [List.length_map]
 rw [List.getElem?_append_left (by omega)]
 unfold ints
 rw [List.getElem?_map,List.getElem?_eq_getElem h];rfl
structure ShI (X:List Ce) (rs:List Rg) (k:Int) (i:Nat):Prop where
 le:i≤rs.length
 len:(Kn (rs.take i) k X).length=X.length
 bd: ∀c∈Kn (rs.take i) k X, -(1000000+(i:Int))≤c.2∧c.2≤1000000+(i:Int)
theorem ShI.zero {X:List Ce} {rs:List Rg} {k:Int} (h: ∀c∈X, -1000000≤c.2∧c.2≤1000000):ShI X rs k 0:=⟨Nat.zero_le _,rfl,fun c hc=>by
 have:Kn (rs.take 0) k X=X:=by rw [List.take_zero];rfl
 rw [this] at hc
 have:=h c hc;omega⟩
theorem ShI.next {X:List Ce} {rs:List Rg} {k:Int} {i:Nat} (h:ShI X rs k i) (hk: -1≤k∧k≤1) (hp:Pls X.length rs) (hi:i<rs.length):ShI X rs k (i+1):=by
 have hm:=hp.below _ (List.getElem_mem hi)
 have hl:=h.len
 have hn:=XU hp.norm (List.getElem_mem hi)
 refine ⟨hi,?_,fun c hc=> ?_⟩
 ·rw [Vd hi,Xb hn.1 hn.2 (by rw [hl];exact hm)];exact hl
 ·rw [Vd hi] at hc
  have:=Jan hk h.bd c hc
  omega
set_option maxRecDepth 10000 in
theorem Gw (A:Option Addr) (c:Nat) (l:List Rn) (hl:l.length≤100000) (hb:(ctrF l).length≤100000) (hz: ∀r∈l,r.1.size≤1073741824):Sp Tryz.prog 25 [.slice A l.length c] [] [RdF runD A c l] (fun v Lo fs=> ∃(A':Option Addr) (c':Nat),v= .slice A' (ctrF l).length c'∧Lo= [] ∧fs= [RdF (De.int .i64) A' c' (ctrF l)]):=by
 refine Sp.of (n:=34) ⟨_,Tryz.func25,O,O,O,O⟩ (Nat.le_of_ble_eq_true O) fun Ps As=>Jc (Ja (Lq (Jd O) (Je (Jf (Jc (Ja (Lq (Jd O) (Je (Jf (Jc (Jc (Ja (Lq (Jd O) (Je (Jf (JE (Ky ?_)))))))))))))))))
 refine Kf (α:=Nat×Value×Part) (fun (i,w,p)=>l.length-i)
  (fun (i,w,p)=> [(0, .slice A l.length c),(3,w),(4, .int .i64 i)])
  (fun (i,w,p)=>(p::Ps))
  (fun (i,w,p)=>(RdF runD A c l::As))
  (fun (i,w,p)=>i≤l.length∧Row 3 1 w (ctrF (l.take i)).length (ints .i64 (ctrF (l.take i))) p)
  (0, .slice none 0 0,[]) ?_ (.m3 rfl rfl rfl) (Sk (Sr)) (fun _ h=>h) ?_
 ·exact ⟨Nat.zero_le _,Row.nil _ _⟩
 ·rintro ⟨i,w,pa⟩ hI
  have hle:i≤l.length:=hI.1
  refine Jc (Jc (Ja (Lq (Jb O) (Lq (Jb O) (Lq (J3 Un67 O) (Lq (Km O O) (Je (Jf (Jy O (fun h10=> ?_) (fun h10=> ?_))))))))))
  ·refine Jp (Jf (Jc (JE (Jc ?_))))
   have hi:i<l.length:=by have h:=h10;simp only [decide_eq_true_eq] at h;omega
   refine Kd (k:=i) Mm0 (List.getElem?_eq_getElem hi) (Vn _) fun b5 q5 y5 e5=> ?_
   cases e5
   have hcs:=Jcg l (i+1)
   rw [ctr_succ hi,List.length_append] at hcs
   unfold ctrR at hcs
   rw [List.length_replicate] at hcs
   have hzi:=hz _ (List.getElem_mem hi)
   refine Ja (Lq (Jb O) (Lq (Jb O) (Lq (J7 Un67 V2 O O (by omega) (by omega)) (Lq (Jh (o':=_+0) Un121 O ti9 O O) (Lq (Kb (j:=0) Un9 O O Mm0 O O) (Jg O (Jm (Ja5 l[i].1 hzi) (.n1 O) (by decide) Jw fun u5_5 Lo fs hres=> ?_)))))))
   obtain ⟨br,cr,rfl,rfl,rfl⟩:=hres
   refine Lq (J3 Un30 O) (Lq (Jd O) (Je (Jf (Jc (Ja (Lq (Jd O) (Je (Jf (JE ?_)))))))))
   refine Kf (α:=Nat×Value×Part) (fun (k,w2,p2)=>(J2 l[i].1).length-k)
    (fun (k,w2,p2)=> [(0, .slice (some ⟨b5,q5,none⟩) l.length c),(3,w2),(4, .int .i64 i),(5, .int .i64 (J2 l[i].1).length),(6, .int .i64 k)])
    (fun (k,w2,p2)=>(p2::Ps))
    (fun (k,w2,p2)=>(RdF runD (some ⟨b5,q5,none⟩) c l::As))
    (fun (k,w2,p2)=>k≤(J2 l[i].1).length∧Row 3 1 w2 (ctrF (l.take i)++List.replicate k l[i].2).length (ints .i64 (ctrF (l.take i)++List.replicate k l[i].2)) p2)
    (0,w,pa) ?_ (.m5 rfl rfl rfl rfl rfl) (Sk (Sr)) Tt2 ?_
   ·refine ⟨Nat.zero_le _,?_⟩
    show Row 3 1 w (ctrF (l.take i)++List.replicate 0 l[i].2).length (ints .i64 (ctrF (l.take i)++List.replicate 0 l[i].2)) pa
    rw [List.replicate_zero,List.append_nil]
    exact hI.2
   ·rintro ⟨k,w2,pb⟩ hK
    have hkle:k≤(J2 l[i].1).length:=hK.1
    refine Jc (Jc (Ja (Lq (Jb O) (Lq (Jb O) (Lq (Km O O) (Je (Jf (Jy O (fun h22=> ?_) (fun h22=> ?_)))))))))
    ·refine Jp (Jf (Jc (JE (Kd (k:=i) Mm0 (List.getElem?_eq_getElem hi) (Vn _) fun b9 q9 y9 e9=> ?_))))
     cases e9
     refine Ja (Lq (Jb O) (Lq (Jb O) (Lq (Jb O) (Lq (J7 Un67 V2 O O (by omega) (by omega)) (Lq (Jh (o':=_+1) Un121 O ti3 O O) (Lq (Kb (j:=1) Un3 O O Mm0 O O) (Jg O (KF (cs:= [_]) Un71 ti3 (by decide) (by decide) O O O O (by decide) fun b31=>Jg O (KH (news:= [_]) Un71 ti3 O (by decide) O O hK.2 Jn O O (by simp only [List.length_append,List.length_replicate];omega) (by unfold maxLen;simp only [List.length_append,List.length_replicate];omega) (by decide) (DelAt.perm .z1) fun v32 p32 hr32=>Lq (Jd O) ?_)))))))))
     refine Je (Ka (Jf (Ja (Lq (Jb O) (Lq (JU O O (wr64 (by omega)) (c:=((k+1:Nat):Int))) (Lq (Jd O) (Je (Kp ?_))))))))
     refine ⟨(k+1,v32,p32),?_,(.m5 O O O O O),(Sk (Sd (Sr))),Tt1⟩
     have hk:k<(J2 l[i].1).length:=by have h:=h22;simp only [decide_eq_true_eq] at h;omega
     refine ⟨by show _-(k+1)<_-k;omega,by show k+1≤_;omega,?_⟩
     show Row 3 1 v32 (ctrF (l.take i)++List.replicate (k+1) l[i].2).length (ints .i64 (ctrF (l.take i)++List.replicate (k+1) l[i].2)) p32
     rw [List.replicate_succ',←List.append_assoc,List.length_append,List.length_singleton,KM]
     exact hr32
    ·refine Kk (JL (JL (Kc (Ka (Jf (Ja (Lq (Jb O) (Lq (JU O O (wr64 (by omega)) (c:=((i+1:Nat):Int))) (Lq (Jd O) (Je (Kp ?_)))))))))))
     refine ⟨(i+1,w2,pb),?_,(.m3 O O O),(Sk (Sr)),(fun _ h=>h)⟩
     have hke:k=(J2 l[i].1).length:=by have h:=h22;simp only [decide_eq_false_iff_not] at h;have:=hK.1;omega
     refine ⟨by show l.length-(i+1)<l.length-i;omega,by show i+1≤l.length;omega,?_⟩
     show Row 3 1 w2 (ctrF (l.take (i+1))).length (ints .i64 (ctrF (l.take (i+1)))) pb
     rw [ctr_succ hi]
     have h2:=hK.2
     rw [hke] at h2
     exact h2
  ·refine Kk (JL (JL (Kc (Jf (Jc ?_)))))
   have hie:i=l.length:=by have h:=h10;simp only [decide_eq_false_iff_not] at h;omega
   have hrow:=hI.2
   rw [hie,List.take_length] at hrow
   refine Ke (A:=RepsF (De.int .i64) (ctrF l) ((ctrF l).map fun x=> [Value.int .i64 x])) (fun Z w _=>ints_reps .i64 _ Z w) (KJ (e:=(De.int .i64)) (xs:=(ctrF l)) (css:=((ctrF l).map fun x=> [Value.int .i64 x])) (by rw [ints_flat];exact hrow) .z O Mm0 fun A9 c9 e9=> ?_)
   cases e9
   refine Ja (Lq (Jb O) (Lq (Jd O) (Je (Jf (Jo ?_)))))
   refine ⟨_,[],[_],fun Z w hs=> .tmp O .nil,?_,fun Z w hs=>hs.out (Sr) (Jl Mm0 Tt2)⟩
   exact ⟨_,_,O,O,O⟩
set_option maxRecDepth 10000 in
theorem GX (A:Option Addr) (c:Nat) (l:List Rn) (hl:l.length≤100000) (hb:(lttF l).size≤1073741824):Sp Tryz.prog 23 [.slice A l.length c] [] [RdF runD A c l] (Is (.string (lttF l))):=by
 refine Sp.of (n:=19) ⟨_,Tryz.func23,O,O,O,O⟩ (Nat.le_of_ble_eq_true O) fun Ps As=>Jc (Ja (Lq (Jd O) (Je (Jf (Jc (Ja (Lq (Jd O) (Je (Jf (Jc (Jc (Ja (Lq (Jd O) (Je (Jf (JE ?_))))))))))))))))
 refine Kf (α:=Nat) (fun i=>l.length-i)
  (fun i=> [(0, .slice A l.length c),(3, .string (lttF (l.take i))),(4, .int .i64 i)])
  (fun i=>Ps)
  (fun i=>(RdF runD A c l::As))
  (fun i=>i≤l.length)
  0 ?_ (.m3 rfl rfl rfl) (Sr) (fun _ h=>h) ?_
 ·exact Nat.zero_le _
 ·rintro i hI
  refine Jc (Jc (Ja (Lq (Jb O) (Lq (Jb O) (Lq (J3 Un67 O) (Lq (Km O O) (Je (Jf (Jy O (fun h8=> ?_) (fun h8=> ?_))))))))))
  ·refine Jp (Jf (Jc (JE ?_)))
   have hi:i<l.length:=by have h:=h8;simp only [decide_eq_true_eq] at h;omega
   refine Kd (k:=i) Mm0 (List.getElem?_eq_getElem hi) (Vn _) fun b5 q5 y5 e5=> ?_
   cases e5
   have hls:=Jca l (i+1)
   rw [let_succ hi,ByteArray.size_append] at hls
   refine Ja (Lq (Jb O) (Lq (Jb O) (Lq (Jb O) (Lq (J7 Un67 V2 O O (by omega) (by omega)) (Lq (Jh (o':=_+0) Un121 O ti9 O O) (Lq (Kb (j:=0) Un9 O O Mm0 O O) (Lq (Jcs O O (by omega)) (Lq (Jd O) (Je (Ka (Jf ?_)))))))))))
   rw [←let_succ hi]
   refine Ja (Lq (Jb O) (Lq (JU O O (wr64 (by omega)) (c:=((i+1:Nat):Int))) (Lq (Jd O) (Je (Kp ?_)))))
   refine ⟨i+1,?_,(.m3 O O O),(Sr),Tt1⟩
   exact ⟨by omega,by omega⟩
  ·refine Kk (JL (JL (Kc (Jf (Jc (Ja (Lq (Jb O) (Lq (Jd O) (Je (Jf (Jo ?_)))))))))))
   refine ⟨_,[],[],fun Z w hs=> .tmp O .nil,?_,fun Z w hs=>hs.out (Sr) (fun _ h=>h)⟩
   have hie:i=l.length:=by have h:=h8;simp only [decide_eq_false_iff_not] at h;omega
   exact ⟨by rw [hie,List.take_length];rfl,O,O⟩
set_option maxRecDepth 10000 in
theorem Zg (Aa Bb Cc:Option Addr) (ca cb cc:Nat) (X:List Ce) (rs:List Rg) (k:Int) (hk: -1≤k∧k≤1) (hx:0<X.length) (hxl:X.length≤100000) (hp:Pls X.length rs) (hbX: ∀c∈X, -1000000≤c.2∧c.2≤1000000):Sp Tryz.prog 24 [.slice Aa (X.map (fun c:Ce=>c.2)).length ca, .slice Bb ((Kn rs k X).map (fun c:Ce=>c.2)).length cb, .slice Cc rs.length cc, .int .i64 k] [] [RdF (De.int .i64) Aa ca (X.map (fun c:Ce=>c.2)),RdF (De.int .i64) Bb cb ((Kn rs k X).map (fun c:Ce=>c.2)),RdF rgD Cc cc rs] (Is (.bool true)):=by
 have hpl:=hp.len (by omega)
 have hbln:=GC (k:=k) hp
 have hl1:(X.map (fun c:Ce=>c.2)).length=X.length:=List.length_map _
 have hl2:((Kn rs k X).map (fun c:Ce=>c.2)).length=X.length:=by rw [List.length_map];exact hbln
 refine Sp.of (n:=72) ⟨_,Tryz.func24,O,O,O,O⟩ (Nat.le_of_ble_eq_true O) fun Ps As=>Jc (Ja (Lq (Jd O) (Je (Jf (Jc (Jc (Ja (Lq (Jb O) (Lq (J3 Un71 O) (Lq (Jb O) (Lq (J3 Un71 O) (Lq (Kz O O) (Je (Jf ?_))))))))))))))
 refine Jv O (by rw [hl1,hl2];simp) (Jp (Jf (Jc (Ja (Lq (Jb O) (VY (Jg O (YD (e:=(De.int .i64)) (ys:=_) Un71 ti3 O (by decide) O O (Row.nil _ _) Mm0 (by omega) (by unfold maxLen;omega) (by decide) (List.Perm.refl _) fun v19 p19 cs19 hr19=>Lq (Jd O) (Je (Jf (Jc (Jc (HZ Mm0 fun hcs=> ?_)))))))))))))
 rw [hcs] at hr19
 simp only [Nat.zero_add,List.nil_append] at hr19
 obtain ⟨-,b9,cap9,jk9,rfl,rfl,hl9,hle9,hm9⟩:=hr19.toS (by rw [List.length_map];omega)
 refine Ja (Lq (Jd O) (Je (Jf (JE ?_))))
 refine Kf (α:=Nat) (fun i=>rs.length-i)
  (fun i=> [(0, .slice Aa (X.map (fun c:Ce=>c.2)).length ca),(1, .slice Bb ((Kn rs k X).map (fun c:Ce=>c.2)).length cb),(2, .slice Cc rs.length cc),(3, .int .i64 k),(9, .slice (some ⟨b9,0,none⟩) (X.map (fun c:Ce=>c.2)).length cap9),(10, .int .i64 i)])
  (fun i=>([(b9,JB (ints .i64 ((Kn (rs.take i) k X).map (fun c:Ce=>c.2))++jk9) 3)] ::Ps))
  (fun i=>(RdF (De.int .i64) Aa ca (X.map (fun c:Ce=>c.2))::RdF (De.int .i64) Bb cb ((Kn rs k X).map (fun c:Ce=>c.2))::RdF rgD Cc cc rs::As))
  (fun i=>ShI X rs k i)
  0 ?_ (.m6 rfl rfl rfl rfl rfl rfl) (Sk (Sr)) Tt1 ?_
 ·exact ShI.zero hbX
 ·rintro i hI
  have hI:ShI X rs k i:=hI
  have hile:=hI.le
  have hyl:=hI.len
  refine Jc (Jc (Ja (Lq (Jb O) (Lq (Jb O) (Lq (J3 Un50 O) (Lq (Km O O) (Je (Jf (Jy O (fun h23=> ?_) (fun h23=> ?_))))))))))
  ·refine Jp (Jf (Jc (JE (Jc ?_))))
   have hi:i<rs.length:=by have h:=h23;simp only [decide_eq_true_eq] at h;omega
   have hbl:=hp.below _ (List.getElem_mem hi)
   have hnm:=XU hp.norm (List.getElem_mem hi)
   obtain ⟨ln,hn,hrg⟩: ∃ln hn:Nat,rs[i] =⟨ln,hn⟩:=⟨rs[i].lo.toNat,rs[i].hi.toNat,by rw [show ((rs[i].lo.toNat:Nat):Int)=rs[i].lo by omega,show ((rs[i].hi.toNat:Nat):Int)=rs[i].hi by omega]⟩
   rw [hrg] at hbl hnm
   dsimp only at hbl hnm
   refine Kd (k:=i) Mm2 (by rw [List.getElem?_eq_getElem hi,hrg]) (rg_open _) fun b7 q7 y7 e7=> ?_
   cases e7
   refine Ja (Lq (Jb O) (Lq (Jb O) (Lq (J7 Un50 KZ O O (by omega) (by omega)) (Lq (Jh (o':=_+0) Un74 O ti3 O O) (Lq (Kb (j:=0) Un3 O O Mm0 O O) (Lq (Jd O) (Je (Jf (JE ?_)))))))))
   rw [←Jaj (ln:Int) k (Kn (rs.take i) k X)]
   refine Kf (α:=Nat) (fun q=>hn-q)
    (fun q=> [(0, .slice Aa (X.map (fun c:Ce=>c.2)).length ca),(1, .slice Bb ((Kn rs k X).map (fun c:Ce=>c.2)).length cb),(2, .slice (some ⟨b7,q7,none⟩) rs.length cc),(3, .int .i64 k),(9, .slice (some ⟨b9,0,none⟩) (X.map (fun c:Ce=>c.2)).length cap9),(10, .int .i64 i),(11, .int .i64 q)])
    (fun q=>([(b9,JB (ints .i64 ((K1 ⟨(ln:Nat),(q:Nat)⟩ k (Kn (rs.take i) k X)).map (fun c:Ce=>c.2))++jk9) 3)] ::Ps))
    (fun q=>(RdF (De.int .i64) Aa ca (X.map (fun c:Ce=>c.2))::RdF (De.int .i64) Bb cb ((Kn rs k X).map (fun c:Ce=>c.2))::RdF rgD (some ⟨b7,q7,none⟩) cc rs::As))
    (fun q=>ln≤q∧q≤hn)
    ln ?_ (.m7 rfl rfl rfl rfl rfl rfl rfl) (Sk (Sr)) Tt1 ?_
   ·exact ⟨Nat.le_refl _,by omega⟩
   ·rintro q hQ
    have hQ:ln≤q∧q≤hn:=hQ
    refine Jc (Jc (Kd (k:=i) Mm2 (by rw [List.getElem?_eq_getElem hi,hrg]) (rg_open _) fun b8 q8 y8 e8=> ?_))
    cases e8
    refine Ja (Lq (Jb O) (Lq (Jb O) (Lq (Jb O) (Lq (J7 Un50 KZ O O (by omega) (by omega)) (Lq (Jh (o':=_+1) Un74 O ti3 O O) (Lq (Kb (j:=1) Un3 O O Mm0 O O) (Lq (Km O O) (Je (Jf (Jy O (fun h37=> ?_) (fun h37=> ?_)))))))))))
    ·refine Jp (Jf (Jc (JE (Jc (Jc ?_)))))
     have hq:q<hn:=by have h:=h37;simp only [decide_eq_true_eq] at h;omega
     obtain ⟨e1,e2,e3⟩:=Jai (k:=k) (Y:=(Kn (rs.take i) k X)) hQ.1 (by omega)
     have hyb:=hI.bd _ (List.getElem_mem (show q<(Kn (rs.take i) k X).length by omega))
     have hzl:q<((K1 ⟨(ln:Nat),(q:Nat)⟩ k (Kn (rs.take i) k X)).map (fun c:Ce=>c.2)).length:=by rw [List.length_map];omega
     have hze:((K1 ⟨(ln:Nat),(q:Nat)⟩ k (Kn (rs.take i) k X)).map (fun c:Ce=>c.2))[q] =(Kn (rs.take i) k X)[q].2:=by rw [List.getElem_map,e3]
     refine Ja (Lq (Jb O) (Lq (Km O O) (Lq (Jb O) (Lg O O O (decide_eq_false (by omega)) (Jb O) (Lg O O O (decide_eq_false (by omega)) (Jb O) (Lg O O O (decide_eq_false (by omega)) (J3 Un71 O) (Lg O O O (decide_eq_false (by omega)) (Yz O O) (Lq (JH O (decide_eq_false (by omega)) O) (Je (Jf ?_))))))))))
     refine Jv O (decide_eq_false (by omega)) (Jp (Jf (Ja (Lq (Jb O) (Lq (Jb O) (Lq (Jb O) (Lq (Jb O) (Lq (Yb Un71 ti3 O O (by omega) (by first | omega | (rw [List.length_map];omega))) (Lq (Jj (v:= .int .i64 (Kn (rs.take i) k X)[q].2) Un3 O O Jn (by rw [EN (q:=q) (by rw [Int.toNat_natCast,Nat.mul_one]) hzl,hze])) (Lq (Jb O) (Lq (JU O O (wr64 (by omega)) (c:=(Kn (rs.take i) k X)[q].2+k)) ?_)))))))))))
     refine Lq (Yb Un71 ti3 rfl rfl (by omega) (by first | omega | (rw [List.length_map];omega))) (Jg rfl (K2 ti3 rfl rfl rfl (by rw [List.length_append,show (ints .i64 ((K1 ⟨(ln:Nat),(q:Nat)⟩ k (Kn (rs.take i) k X)).map (fun c:Ce=>c.2))).length=_ from List.length_map _];simp only [Int.toNat_natCast,Nat.mul_one];omega) .z ?_))
     rw [ZP (q:=q) (by rw [Int.toNat_natCast,Nat.mul_one]) hzl,show ((K1 ⟨(ln:Nat),(q:Nat)⟩ k (Kn (rs.take i) k X)).map (fun c:Ce=>c.2)).set q ((Kn (rs.take i) k X)[q].2+k)=(K1 ⟨(ln:Nat),((q+1:Nat):Int)⟩ k (Kn (rs.take i) k X)).map (fun c:Ce=>c.2) by rw [e1,List.map_set]]
     refine Je (Ka (Jf (Ja (Lq (Jb O) (Lq (JU O O (wr64 (by omega)) (c:=((q+1:Nat):Int))) (Lq (Jd O) (Je (Kp ?_))))))))
     refine ⟨q+1,?_,(.m7 O O O O O O O),(Sk (Sr)),Tt1⟩
     exact ⟨by omega,by omega,by omega⟩
    ·refine Kk (JL (JL (Kc (Ka (Jf ?_)))))
     have hqe:q=hn:=by have h:=h37;simp only [decide_eq_false_iff_not] at h;have:=hQ.2;omega
     rw [show (K1 ⟨(ln:Nat),(q:Nat)⟩ k (Kn (rs.take i) k X))=Kn (rs.take (i+1)) k X by rw [Vd hi,hrg,hqe]]
     refine Ja (Lq (Jb O) (Lq (JU O O (wr64 (by omega)) (c:=((i+1:Nat):Int))) (Lq (Jd O) (Je (Kp ?_)))))
     refine ⟨i+1,?_,(.m6 O O O O O O),(Sk (Sr)),Tt1⟩
     exact ⟨by omega,hI.next hk hp hi⟩
  ·refine Kk (JL (JL (Kc (Jf (Jc (Jc ?_))))))
   have hie:i=rs.length:=by have h:=h23;simp only [decide_eq_false_iff_not] at h;have:=hI.le;omega
   have hlen:=hI.len
   rw [hie,List.take_length] at hlen ⊢
   refine Ja (Lq (Jd O) (Je (Jf (JE ?_))))
   refine Kf (α:=Nat) (fun j=>X.length-j)
    (fun j=> [(1, .slice Bb ((Kn rs k X).map (fun c:Ce=>c.2)).length cb),(9, .slice (some ⟨b9,0,none⟩) (X.map (fun c:Ce=>c.2)).length cap9),(12, .int .i64 j)])
    (fun j=>([(b9,JB (ints .i64 ((Kn rs k X).map (fun c:Ce=>c.2))++jk9) 3)] ::Ps))
    (fun j=>(RdF (De.int .i64) Aa ca (X.map (fun c:Ce=>c.2))::RdF (De.int .i64) Bb cb ((Kn rs k X).map (fun c:Ce=>c.2))::RdF rgD Cc cc rs::As))
    (fun j=>j≤X.length)
    0 ?_ (.m3 rfl rfl rfl) (Sk (Sr)) (fun _ h=>h) ?_
   ·exact Nat.zero_le _
   ·rintro j hJ
    have hJ:j≤X.length:=hJ
    refine Jc (Jc (Ja (Lq (Jb O) (Lq (Jb O) (Lq (J3 Un71 O) (Lq (Km O O) (Je (Jf (Jy O (fun h60=> ?_) (fun h60=> ?_))))))))))
    ·refine Jp (Jf (Jc (JE (Jc ?_))))
     have hj:j<X.length:=by have h:=h60;simp only [decide_eq_true_eq,List.length_map] at h;omega
     have hjl:j<((Kn rs k X).map (fun c:Ce=>c.2)).length:=by rw [List.length_map];omega
     refine Kd (k:=j) Mm1 (List.getElem?_eq_getElem hjl) (int_open _ _) fun b16 q16 y16 e16=> ?_
     cases e16
     refine JI _ _ [] (.c 0 0 (.c 1 0 (.c 2 0 (.c 3 0 (.c 4 0 (.c 5 0 (.c 6 0 (.c 7 0 (.c 8 0 .nil))))))))) mixed (fun _ _ _ _ h=>h) (Sk (Sr)) (fun _ h=>h) (by kernel_rfl) (by decide) fun ws Z0=>Qe O (Jb O) (Qe O (Jb O) (Qe O (Yb Un71 ti3 O O (by omega) (by first | omega | (rw [List.length_map];omega))) (Qe O (Jj (v:= .int .i64 ((Kn rs k X).map (fun c:Ce=>c.2))[j]) Un3 O O Jn (by rw [EN (q:=j) (by rw [Int.toNat_natCast,Nat.mul_one]) hjl])) (Qe O (Jb O) (Qe O (Jb O) (Qe O (J7 Un71 ti3 O O (by omega) (by omega)) (Qe O (Kb (j:=0) Un3 O O Mm0 O O) (Qe O (Kz O O) ?_))))))))
     refine JN (JM (Jf (Jv O (by simp) (Jp (Ka (Jf (Ja (Lq (Jb O) (Lq (JU O O (wr64 (by omega)) (c:=((j+1:Nat):Int))) (Lq (Jd O) (Je (Kp ?_))))))))))))
     refine ⟨j+1,?_,(.m3 O O O),(Sk (Sr)),Tt2⟩
     exact ⟨by omega,by omega⟩
    ·refine Kk (JL (JL (Kc (Jf (Jc (Ja (Lq (Jd O) (Je (Jf (Jo ?_))))))))))
     refine ⟨_,[],[],fun Z w hs=> .tmp O .nil,?_,fun Z w hs=>hs.out (Sd (Sr)) (fun _ h=>h)⟩
     exact ⟨O,O,O⟩
def fltD:De (ByteArray×Int×Int) where
 sz:=3
 rep _ _ x cs:=cs= [.string x.1, .int .i64 x.2.1, .iface 98 (.int .i64 x.2.2)]
 len h:=by subst h;rfl
 one h:=by subst h;rfl
 stable _ _ _ _ _ h:=h
theorem flt_open (u:ByteArray×Int×Int): ∀Z w cs,fltD.rep Z w u cs→ ∃y:Unit,cs= [.string u.1, .int .i64 u.2.1, .iface 98 (.int .i64 u.2.2)] ∧ ∀B∈([] :List Fact),B.holds Z w:=fun _ _ _ h=>⟨(),h,fun _ h=>by cases h⟩
theorem bd118_0_1_2Xg37 (x0_:ByteArray) (x1_:Int) (x2_t:TypeId) (x2_v:Value) (w:World):(Instr.build 118 #[(0, .string x0_),(1, .int .i64 x1_),(2, .iface x2_t x2_v)]).run Tryz.prog w= .ok (.agg #[.string x0_, .int .i64 x1_, .iface x2_t x2_v]) w:=by kernel_rfl
set_option maxRecDepth 10000 in
theorem fault_x (s:ByteArray) (at_ e:Int) (he:e≠0):Sp Tryz.prog 60 [.string s, .int .i64 at_, .int .i64 e] [] [] (fun v Lo fs=> ∃p:Nat,v= .iface 116 (.pointer (some ⟨p,0,none⟩))∧Lo= [] ∧fs= [RdF fltD (some ⟨p,0,none⟩) 1 [(s,at_,e)]]):=by
 refine Sp.of (n:=16) ⟨_,Tryz.func60,O,O,O,O⟩ (Nat.le_of_ble_eq_true O) fun Ps As=>Jc (Ja (Lq (Jd O) (Je (Jf (Jc (Jc (Ja (Lq (Jb O) (Lq (Kh O O) (Je (Jf (Jv O (by simpa using he) (Jp (Jf (Jc (Ja (Lq (Jb O) ?_)))))))))))))))))
 refine Lq (Jb O) (Lq (Jb O) (Lq (Gi (by rw [Un98];rfl) O) (Lq (JZ (.n3 O O O) (bd118_0_1_2Xg37 _ _ _ _)) (Jg O (J9 (cs:= [_,_,_]) O O (by decide) fun b14=>Lq (Gi (by rw [Un116];rfl) O) (Lq (Jd O) (Je (Jf (Jo ?_)))))))))
 refine ⟨_,[],[_],fun Z w hs=> .tmp O .nil,?_,fun Z w hs=>(hs.freeze1 (e:=fltD) (u:=(s,at_,e)) .z O).imp fun Z2 h2=>(h2.subParts (Sr)).subFacts (fun _ h=>h)⟩
 exact ⟨b14,O,O,O⟩
set_option maxRecDepth 10000 in
theorem give_x (s:ByteArray) (at_ e:Int) (he:e≠0):SpP Tryz.prog 47 [.string s, .int .i64 at_, .int .i64 e] [] [] (fun v Lo fs=> ∃p:Nat,v= .iface 116 (.pointer (some ⟨p,0,none⟩))∧Lo= [] ∧fs= [RdF fltD (some ⟨p,0,none⟩) 1 [(s,at_,e)]]):=by
 refine SpP.of (n:=12) ⟨_,Tryz.func47,O,O,O,O⟩ (Nat.le_of_ble_eq_true O) fun Ps As=>Jc (Ja (Lq (Jb O) (Lq (Kz O O) (Je (Jf (J1 O (by simpa using he) (Ja (Lq (Jb O) (Lq (Jb O) (Lq (Jb O) ?_))))))))))
 refine Jg O (Jm (fault_x s at_ e he) (.n3 O O O) (by decide) Jw fun u1_3 Lo fs hres=> ?_)
 obtain ⟨p,rfl,rfl,rfl⟩:=hres
 refine Jg O (Ha O ?_)
 refine ⟨_,[],[_],O,?_,fun Z w hs=>hs.out (Sr) (fun _ h=>h)⟩
 exact ⟨p,O,O,O⟩
set_option maxRecDepth 10000 in
theorem turn_x (M:DM) (D:DS) (ok:DkOk M D) (hmd:(D.made:Int)<D.op) (i0 i1:Int) (on:Bool) (he:effE D.H (i0,i1) on≠0):Sp Tryz.prog 20 [.pointer (some ⟨M.d,0,none⟩), .agg #[.int .i64 i0, .int .i64 i1], .bool on] (KC M D) (barF::KY M D) (fun v Lo fs=> ∃p:Nat,v= .tuple #[opV zeroOp none 0, .iface 116 (.pointer (some ⟨p,0,none⟩))] ∧Lo=KC M D∧fs= [RdF fltD (some ⟨p,0,none⟩) 1 [(⟨#[84,117,114,110]⟩,0,effE D.H (i0,i1) on)]]):=by
 have hvl:=KA M.t.row
 have hwt:=ok.wt
 have htl:=ok.tl
 have hrow:=ok.row
 have hpl:=ok.pl
 have hr:=ok.hr
 have hdi:=ok.di
 have hus:=ok.us
 have hlm:=ok.lm
 have hmd2:=ok.md
 have hsl:=ok.sl
 have hxl:=ok.xl
 have hpu:0≤putA D D.u∧putA D D.u≤4096:=by
  unfold putA
  rw [List.getD_eq_getElem?_getD,List.getElem?_eq_getElem (by omega)]
  exact ok.p0 _ (List.getElem_mem _)
 refine Sp.ofD (n:=30) ⟨_,Tryz.func20,O,O,O,O⟩ (Nat.le_of_ble_eq_true O) fun Ps As=>Ja (Jg O (J9 (cs:= [_,_]) O O (by decide) fun b4=>Jg O (Ju (cs:= [_,_,_,_,_,_,_,_,_]) JD O (by decide) fun b6=>Jg O (Ju (cs:= [_]) Yw O (by decide) fun b7=>Je ?_))))
 refine ⟨O,_,_,_,_,_,catch_Turn b6 b7,DefReg.mk (.n2 O O) (by decide),?_⟩
 refine Jc (Ja (JQ (Jb O) (dl O) (Jg O (JR (room_0 M.d M.h M.b _ _ _ _ _ _ _ _ _ _ 0 hmd) (.n3 O O O) (by first | exact dl O | decide) .z3 Jw fun u2_1 Lo fs hres=> ?_))))
 obtain ⟨rfl,rfl,rfl⟩:=hres
 refine Je (Jf (Jc (YL (JI _ _ [12] (.c 0 0 (.c 1 0 (.c 2 0 (.c 3 0 (.c 4 0 (.c 5 0 (.c 6 0 (.b (.c 7 2 (.c 8 0 (.c 9 0 (.c 10 1 (.c 11 2 (.c 12 3 (.c 13 1 .nil))))))) (.c 11 2 (.c 7 2 (.c 8 0 (.c 9 0 (.c 10 1 (.c 12 3 (.c 13 1 .nil))))))))))))))) mixed (fun _ _ _ _ h=>h) (Sk (Sk (Sk (Sk (Sd (Sd (Sd (Sk (Sk (Sk (Sk (Sr)))))))))))) (fun _ h=>h) (by kernel_rfl) (by first | exact dl O | decide) fun ws Z0=>JO O (Jb O) (dl O) (JO O (JC O) (dl O) (JO O (Jh (o':=0) Un42 O Yk O O) (dl O) (JO O (Jh (o':=0) Un36 O VM O O) (dl O) ?_)))))))
 refine JO O (Jj Un33 O O Jn O) (dl O) (JO O (Jt (vs:= [_,_]) Un46 O JW O (Ji (Ji (Ji (Jn)))) O O) (dl O) (JO O (Jb O) (dl O) (Yd ?_ ?_)))
 ·refine Jz O O (KB (effect_x M.h M.m M.cap M.A D.H M.L hr i0 i1 on he) (.n3 O O O) (by first | exact dl O | decide) .z4 .z4 .z4 (Jl Mm2 (Jl Mm3 Jw)) fun u3_7 Lo fs hres=> ?_)
  obtain ⟨rfl,rfl,rfl⟩:=hres
  refine ⟨⟨(Sd (Sd (Sd (Sk (Sk (Sk (Sk (Sk (Sk (Sk (Sk (Sr)))))))))))),Mm0⟩,?_⟩
  refine JO O (Jb O) (dl O) (JO O (Jk (vs:= [_,_]) O O) (dl O) (YZ O (Jk (vs:= [_,_]) O O) (dl O) (Jz O O (Ju (cs:= [_,_,_,_,_,_,_,_,_]) JD O (by first | exact dl O | decide) fun b8=> ?_))))
  refine ⟨⟨(Sd (Sd (Sd (Sd (Sk (Sk (Sk (Sk (Sk (Sk (Sk (Sk (Sr))))))))))))),Mm0⟩,?_⟩
  refine JN (J8 O O (Jq (cs':= [_,_,_,_,_,_,_,_,_]) (vs:= [_,_,_,_,_,_,_,_,_]) JD O O O O O (Nat.le_of_ble_eq_true O) .z (YH O (Jd O) (dl O) (JM (Jf (Jc (Ja (JQ (Jb O) (dl O) (Jg O (YS (give_x _ _ _ he) (.n3 O O O) Jw fun u4_1 Lo fs hres=> ?_))))))))))
  obtain ⟨p,rfl,rfl,rfl⟩:=hres
  refine Xs ?_
  refine ⟨_,_,_,_,[_,_,_,_,_,_,_,_],[_],O,⟨p,O⟩,⟨_,_,_,_,_,_,_,_,_,_,O⟩,fun Z w hs=>((hs.pick .z5).pick .z6),fun Z w hs=>JV hs Un52 O JD O Jn O (KR hs Un54 O O (Ji Jn) O .nil),?_,fun Z w hs=>((((((((hs.pick .z11).pick .z11).pick .z11).pick .z11).pick .z9).pick .z9).pick .z9).pick .z10).out (Sk (Sk (Sk (Sk (Sk (Sk (Sk (Sk (Sd (Sd (Sd (Sd (Sr))))))))))))) (Jl Mm0 Tt2)⟩
  exact ⟨p,O,O,O⟩
 ·refine Jz O O (Ju (cs:= [_,_,_,_,_,_,_,_,_]) JD O (by first | exact dl O | decide) fun b8=> ?_)
  refine ⟨⟨(Sd (Sk (Sk (Sk (Sk (Sd (Sd (Sd (Sk (Sk (Sk (Sk (Sr))))))))))))),Mm0⟩,?_⟩
  refine Jz O O (KB (effect_x M.h M.m M.cap M.A D.H M.L hr i0 i1 on he) (.n3 O O O) (by first | exact dl O | decide) .z5 .z5 .z5 (Jl Mm2 (Jl Mm3 Jw)) fun u3_7 Lo fs hres=> ?_)
  obtain ⟨rfl,rfl,rfl⟩:=hres
  refine ⟨⟨(Sd (Sd (Sd (Sd (Sk (Sk (Sk (Sk (Sk (Sk (Sk (Sk (Sr))))))))))))),Mm0⟩,?_⟩
  refine JO O (Jb O) (dl O) (JO O (Jk (vs:= [_,_]) O O) (dl O) (YZ O (Jk (vs:= [_,_]) O O) (dl O) (JN (J8 O O (Jq (cs':= [_,_,_,_,_,_,_,_,_]) (vs:= [_,_,_,_,_,_,_,_,_]) JD O O O O O (Nat.le_of_ble_eq_true O) .z3 (YH O (Jd O) (dl O) (JM (Jf (Jc (Ja (JQ (Jb O) (dl O) (Jg O (YS (give_x _ _ _ he) (.n3 O O O) Jw fun u4_1 Lo fs hres=> ?_)))))))))))))
  obtain ⟨p,rfl,rfl,rfl⟩:=hres
  refine Xs ?_
  refine ⟨_,_,_,_,[_,_,_,_,_,_,_,_],[_],O,⟨p,O⟩,⟨_,_,_,_,_,_,_,_,_,_,O⟩,fun Z w hs=>((hs.pick .z5).pick .z6),fun Z w hs=>JV hs Un52 O JD O Jn O (KR hs Un54 O O (Ji Jn) O .nil),?_,fun Z w hs=>((((((((hs.pick .z11).pick .z11).pick .z11).pick .z11).pick .z8).pick .z8).pick .z8).pick .z10).out (Sk (Sk (Sk (Sk (Sk (Sk (Sk (Sk (Sd (Sd (Sd (Sd (Sr))))))))))))) (Jl Mm0 Tt2)⟩
  exact ⟨p,O,O,O⟩
set_option maxRecDepth 10000 in
theorem inner_t (e:Int):Sp Tryz.prog 64 [.iface 98 (.int .i64 e), .int .i64 e] [] [] (Is (.bool true)):=by
 refine Sp.of (n:=13) ⟨_,Tryz.func64,O,O,O,O⟩ (Nat.le_of_ble_eq_true O) fun Ps As=>Jc (Ja (Lq (Jd O) (Je (Jf (Jc (Jc (Ja (Lq (Jb O) (Je (Jf (JE (Jc (Ja (Lq (ZV (by rw [Un98];rfl) O) (Lq (Jk (vs:= [_,_]) O O) (Lq (Jk (vs:= [_,_]) O O) (Je (Jf (J1 O O (Jc (Ja ?_)))))))))))))))))))))
 refine Lq (Jd O) (Je (Jf (Jc (Ja (Lq (Jb O) (Lq (Jb O) (Lq (Kh O O) (Lq (Jd O) (Je (Jf (Jo (JG (Js ?_)))))))))))))
 refine ⟨_,[],[],fun Z w hs=> .tmp O .nil,?_,fun Z w hs=>hs.out (Sr) (fun _ h=>h)⟩
 exact ⟨congrArg Value.bool (by simp),O,O⟩
set_option maxRecDepth 10000 in
theorem told_t (p:Nat) (s:ByteArray) (at_ e:Int) (he:e≠0):Sp Tryz.prog 21 [.iface 116 (.pointer (some ⟨p,0,none⟩)), .string s, .int .i64 at_, .int .i64 e] [] [RdF fltD (some ⟨p,0,none⟩) 1 [(s,at_,e)]] (Is (.bool true)):=by
 refine Sp.of (n:=44) ⟨_,Tryz.func21,O,O,O,O⟩ (Nat.le_of_ble_eq_true O) fun Ps As=>Jc (Ja (Lq (Jd O) (Je (Jf (Jc (Jc (Ja (Lq (Jb O) (Lq (Kh O O) (Je (Jf (Jv O (by simpa using he) (Jp (Jf (Jc (Jc (Ja (Lq (Jb O) ?_))))))))))))))))))
 refine Je (Jf (JE (Jc (Kd (k:=0) Mm0 O (flt_open _) fun b1 q1 y1 e1=> ?_))))
 cases e1
 refine Ja (Lq (ZV (by rw [Un116];rfl) O) (Lq (Jk (vs:= [_,_]) O O) (Lq (Jk (vs:= [_,_]) O O) (Je (Jf (J1 O O (Jc (Ja (Lq (Jd O) (Je (Jf (Jc (Ja (Lq (Jb O) (Lq (QW Un116 O O (by simp)) (Lq (Jb O) ?_))))))))))))))))
 refine Lg O O O O (Jb O) (Lg O O O O (JC O) (Lg O O O O (Jh (o':=_+0) Un118 O ti9 O O) (Lg O O O O (Kb (j:=0) Un9 O O Mm0 O O) (Lg O O O O (Jb O) (Lg O O O O (Gh O O) (Lq (JP O O O) (Lq (Jb O) (Lg O O O (str_beq.2 O) (Jb O) (Lg O O O (str_beq.2 O) (JC O) ?_)))))))))
 refine Lg O O O (str_beq.2 O) (Jh (o':=_+1) Un118 O ti3 O O) (Lg O O O (str_beq.2 O) (Kb (j:=1) Un3 O O Mm0 O O) (Lg O O O (str_beq.2 O) (Jb O) (Lg O O O (str_beq.2 O) (Kh O O) (Lq (JP O (str_beq.2 O) O) (Lq (Jb O) (Lg O O O (by simp) (Jb O) (Lg O O O (by simp) (JC O) (Lg O O O (by simp) (Jh (o':=_+2) Un118 O Yw O O) (Lg O O O (by simp) (Kb (j:=2) Un54 O O Mm0 O O) ?_)))))))))
 refine Lg O O O (by simp) (Jb O) (Ks O O O (by simp) (Jm (inner_t e) (.n2 O O) (by decide) Jw fun u6_24 Lo fs hres=> ?_))
 obtain ⟨rfl,rfl,rfl⟩:=hres
 refine Lq (JP O (by simp) O) (Lq (Jd O) (Je (Jf (Jo (JG (Js ?_))))))
 refine ⟨_,[],[],fun Z w hs=> .tmp O .nil,?_,fun Z w hs=>hs.out (Sr) Tt1⟩
 exact ⟨O,O,O⟩
theorem SentS.pend {k:Nat} {Rs:Rm} {G:List GOp} (h:RmI k Rs G) (hk:k≤600) {a:Nat} (ha:a<Rs.length) {p:GOp} (hp:Rs[a].2.H.ops[Rs[a].2.got]? =some p) {Rs':Rm} (hs:SentS Rs a Rs.length p Rs') (t:Nat) (h1:t<Rs.length) (h2:t<Rs'.length):pendN Rs'[t].2=if t=a then pendN Rs[t].2-1 else pendN Rs[t].2:=by
 have mt:=List.getElem_mem h1
 have:=hs.st t h1 h2
 by_cases e:t=a
 ·rw [if_pos e] at this ⊢
  rw [this]
  unfold pendN confD
  simp only
  omega
 ·rw [if_neg e,if_pos h1] at this
  rw [if_neg e,this]
  have g:=h.good hk ha hp h1 e
  have hl:=(take_ops (h.dv _ mt).di g)
  have hlen:=congrArg List.length hl.1
  have hsl:=hl.2.length
  have hrc:=(h.ok _ mt).rc
  simp only [List.length_append,List.length_take,List.length_cons,List.length_nil,hsl,List.length_drop] at hlen
  unfold pendN
  show (K0 Rs[t].2 p).H.ops.length-(Rs[t].2.got+1)=_
  omega
structure Setl (i n:Nat) (Rs:Rm):Prop where
 be: ∀(t:Nat) (h:t<Rs.length),t<i→pendN Rs[t].2=0
 at_: ∀h:i<Rs.length,pendN Rs[i].2=n
theorem Setl.sent {k:Nat} {Rs:Rm} {G:List GOp} (h:RmI k Rs G) (hk:k≤600) {i n:Nat} (hs:Setl i (n+1) Rs) {Rs2:Rm} (hl:Rs2.length=Rs.length) (hr:SentR Rs i Rs2):Setl i n Rs2:=by
 rcases hr with ⟨rfl,ha,h0⟩ | ⟨ha,p,hp,hS⟩
 ·have:=hs.at_ ha;omega
 ·refine ⟨fun t ht hti=> ?_,fun hi=> ?_⟩
  ·rw [hS.pend h hk ha hp t (by omega) ht,if_neg (by omega)]
   exact hs.be t (by omega) hti
  ·rw [hS.pend h hk ha hp i ha hi,if_pos rfl,hs.at_ ha];rfl
theorem Setl.next {i:Nat} {Rs:Rm} (hs:Setl i 0 Rs) (n:Nat) (hn: ∀h:i+1<Rs.length,pendN Rs[i+1].2=n):Setl (i+1) n Rs:=
 ⟨fun t ht hti=>by
  rcases Nat.lt_or_ge t i with h | h
  ·exact hs.be t ht h
  ·obtain rfl:t=i:=by omega
   exact hs.at_ ht,hn⟩
theorem RmI.same {k:Nat} {Rs:Rm} {G:List GOp} (h:RmI k Rs G) (hk:k≤600) (h0: ∀(t:Nat) (h:t<Rs.length),pendN Rs[t].2=0) (i:Nat) (hi:i<Rs.length):Rs[i].2.H.ops=G∧Rs[i].2.got=G.length∧ ∀hz:0<Rs.length,Rs[i].2.H=(Rs[0]'hz).2.H∧Rs[i].2.X=(Rs[0]'hz).2.X:=by
 have key: ∀(j:Nat) (hj:j<Rs.length),Rs[j].2.H.ops=G∧Rs[j].2.got=G.length:=fun j hj=>by
  have hg:=h.got _ (List.getElem_mem hj)
  have hp:=h0 j hj
  have hrc:=(h.ok _ (List.getElem_mem hj)).rc
  unfold pendN at hp
  rw [List.take_of_length_le (by omega)] at hg
  exact hg
 refine ⟨(key i hi).1,(key i hi).2,fun hz=> ?_⟩
 have hi2:=(h.n _ (List.getElem_mem hi)).1
 have hz2:=(h.n _ (List.getElem_mem hz)).1
 exact Made.one (h.dv _ (List.getElem_mem hi)).di.made (h.dv _ (List.getElem_mem hz)).di.made (by omega) (by omega) ((key i hi).1.trans (key 0 hz).1.symm)
end Go.Proofs.YtgedhdmpiciikaaGreatDoor
