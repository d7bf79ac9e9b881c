/- Part of the proof that this claim's law answers true, whatever its arguments. Condition: the laid variables hold what their initialisers lay (the card ties that to the program's text). -/
import Derived.Laws.BitsLemmas
import Derived.Lib.DecodeN
import Derived.Laws.Cover4
import Derived.Laws.IdiomStrings
import Derived.Test.YthkkklphanidjaaGreatDoorProg
import Derived.WalkKit
import Derived.LaidEql
import Derived.Stop.Asserts
import Derived.RowKitTokens
import Derived.Test.YthkkklphanidjaaGreatDoorQF
set_option maxRecDepth 10000
set_option linter.unusedVariables false
set_option linter.unusedSimpArgs false
open Go.Proofs.Tryz renaming underlying1→Un1,underlying3→Un3,underlying4→Un4,underlying9→Un9,underlying20→Un20,underlying21→Un21,underlying23→Un23,underlying24→Un24,underlying26→Un26,underlying27→Un27,underlying29→Un29,underlying34→Un34,underlying35→Un35,underlying37→Un37,underlying38→Un38,underlying40→Un40,underlying42→Un42,underlying43→Un43,underlying44→Un44,underlying45→Un45,underlying47→Un47,underlying54→Un54,underlying55→Un55,underlying56→Un56,underlying58→Un58,underlying61→Un61,underlying63→Un63,underlying65→Un65,underlying86→Un86,underlying92→Un92,underlying114→Un114,underlying117→Un117,underlying121→Un121,underlying123→Un123,underlying125→Un125,underlying126→Un126,underlying128→Un128,underlying132→Un132,underlying134→Un134,underlying138→Un138,underlying143→Un143,underlying144→Un144,underlying149→Un149,underlying152→Un152,underlying153→Un153,underlying155→Un155,underlying161→Un161,underlying165→Un165,underlying169→Un169,underlying185→Un185,underlying186→Un186,underlying188→Un188,underlying194→Un194,underlying199→Un199,underlying233→Un233
namespace Go.Proofs.YthkkklphanidjaaGreatDoor
open Go Go.GW
theorem KO (H:Hist):H.ops.length=H.ents.length:=by unfold Hist.ops;rw [List.length_map]
theorem drop_ops (H:Hist):H.ops.drop H.ents.length= [] :=List.drop_of_length_le (by rw [KO];exact Nat.le_refl _)
theorem HX (xs:List GOp):zipE xs [] = [] :=by cases xs<;>rfl
theorem newEnts_end {H:Hist} {o:GOp} {nw:List Rg} {es:List Ent} {later:List GOp} (h:es.length=H.ents.length):newEnts H.ents.length o nw es later=es++ [⟨o,nw,false⟩] :=by
 unfold newEnts
 rw [List.take_of_length_le (by omega),List.drop_of_length_le (by omega),HX]
theorem end_ins {H:Hist} (hv:HV H) {o:GOp} (g:Good H H.ents.length o) (hk:o.kind=1):(putF H H.ents.length o).2.1= { effF o with at_:=o.at_,text:=o.text } ∧(putF H H.ents.length o).1.ents=H.ents.map (shiftE o.at_ (JC o))++ [⟨o,[⟨o.at_,o.at_+JC o⟩],false⟩] :=by
 obtain ⟨es,nw,eff,p⟩:=put_good hv g
 have h1:=p.ins hk
 rw [drop_ops] at h1
 have hp:=p.put
 rw [hp]
 refine ⟨h1.2.2,?_⟩
 show newEnts _ _ _ _ _=_
 rw [newEnts_end (p.len g),h1.1,h1.2.1]
 rfl
theorem end_hide {H:Hist} (hv:HV H) {o:GOp} (g:Good H H.ents.length o) (hk:o.kind=2):(putF H H.ents.length o).2.1= { effF o with rs:=o.rs } ∧(putF H H.ents.length o).1.ents=H.ents++ [⟨o,o.rs,false⟩] :=by
 obtain ⟨es,nw,eff,p⟩:=put_good hv g
 have h1:=p.hide hk
 rw [drop_ops] at h1
 have hp:=p.put
 rw [hp]
 refine ⟨h1.2.2,?_⟩
 show newEnts _ _ _ _ _=_
 rw [newEnts_end (p.len g),h1.1,h1.2.1]
 rfl
theorem end_stat {H:Hist} (hv:HV H) {o:GOp} (g:Good H H.ents.length o) (hk:o.kind=4) {k:Nat} (hkl:k<H.ents.length) (hw:J5 H.ents o.tc o.tn=some k) (hoff:H.ents[k].off=o.on):
  (putF H H.ents.length o).2.1=turnF H.ents[k] o.on∧(putF H H.ents.length o).1.ents=H.ents.set k (offE H.ents[k] (!o.on))++ [⟨o,[],false⟩] :=by
 obtain ⟨es,nw,eff,p⟩:=put_good hv g
 have h1:=p.status hk
 have htd:turnedF H H.ents.length o=(H.ents.set k (offE H.ents[k] (!o.on)),turnF H.ents[k] o.on):=by
  unfold turnedF
  rw [List.drop_of_length_le (Nat.le_refl _),hw]
  have e:(H.ents[k].off= !o.on)=False:=by rw [hoff];cases o.on<;>simp
  simp only [Qh,List.any_nil,Bool.false_eq_true,if_false,List.getElem?_eq_getElem hkl,e]
 rw [htd] at h1
 have hp:=p.put
 rw [hp]
 refine ⟨h1.2.2,?_⟩
 show newEnts _ _ _ _ _=_
 rw [newEnts_end (p.len g),h1.1,h1.2.1]
theorem put_total {H:Hist} (hv:HV H) {i:Nat} {o:GOp} (g:Good H i o):(putF H i o).1.total=H.total+JC o:=by
 obtain ⟨es,nw,eff,p⟩:=put_good hv g
 rw [p.put]
theorem Good.mkd {D:DS} {o:GOp} (hdi:DI D.H.ops.length D.H D.X) (g:Good D.H D.H.ops.length o) (hn:D.H.ops.length<8192):MkD D o:=by
 obtain ⟨H2,eff,T⟩:=hdi.take hn g
 have e1:mkH D o=H2:=by unfold mkH;rw [T.put]
 have e2:mkE D o=eff:=by unfold mkE;rw [T.put]
 have hd:=T.next hn
 have h0:=hdi.row
 have h1:=hd.row
 have h2:=put_total hdi.hv g
 have e3:(putF D.H (D.H.ops.length:Nat) o).1=H2:=e1
 rw [e3] at h2
 have hw:=g.right.width
 have ho:=hdi.ops g
 rw [e3,List.take_length,List.drop_length,HO] at ho
 exact ⟨by rw [e1,e2];exact T,by rw [e1,ho];rfl,by rw [e2];omega,by rw [e1,e2];exact hd⟩
theorem Good.tad {D:DS} {o:GOp} (hdi:DI D.H.ops.length D.H D.X) (g:Good D.H D.got o) (hn:D.H.ops.length<8192):TaD D o:=by
 obtain ⟨H2,eff,T⟩:=hdi.take hn g
 have e1:(putF D.H D.got o).1=H2:=by rw [T.put]
 have e2:(putF D.H D.got o).2.1=eff:=by rw [T.put]
 have hd:=T.next hn
 have h0:=hdi.row
 have h1:=hd.row
 have h2:=put_total hdi.hv g
 rw [e1] at h2
 have hw:=g.right.width
 refine ⟨by rw [e1,e2];exact T,by rw [e1,KO,T.len],by rw [e2];omega,fun hk=> ?_,⟨hw.1,hw.2.1⟩,by rw [e1,e2];exact hd⟩
 obtain ⟨es,nw,eff',p⟩:=put_good hdi.hv g
 have hp:=p.put
 rw [hp] at hk ⊢
 show JC eff'=JC o
 have hk':eff'.kind=1:=hk
 rcases g.right.kind with h | h | h
 ·rw [(p.ins h).2.2]
  unfold JC effF
  simp only [h]
 ·rw [(p.hide h).2.2] at hk'
  exfalso
  have:o.kind=1:=hk'
  omega
 ·rw [(p.status h).2.2] at hk'
  exfalso
  rcases turned_cases D.H D.got o with e | ⟨k,e,_,_,_,_,h5⟩
  ·rw [e] at hk';exact absurd (show (0:Int)=1 from hk') (by decide)
  ·rw [h5] at hk'
   rcases ZP e o.on with h | h
   ·rw [show (turnF e o.on).kind=1 from hk'] at h;exact absurd h (by decide)
   ·rw [show (turnF e o.on).kind=1 from hk'] at h;exact absurd h (by decide)
structure DV (D:DS):Prop where
 us:1≤D.u∧D.u≤8
 own: ∀o∈D.H.ops,o.c=D.u→o.n≤D.made
 sid: ∀x∈D.U++D.R,x.2≤D.made
 pb: ∀x∈D.put,0≤x∧x≤5*D.H.ops.length
 wb: ∀o∈D.H.ops,JC o≤5
 di:DI D.H.ops.length D.H D.X
 pl:D.put.length=9
theorem Hf: ∀ {l:List GOp},(∀o∈l,JC o≤5)→sumO l≤5*l.length
 | [],_=>by simp [sumO]
 | o::l,h=>by
  have h1:=h o List.mem_cons_self
  have h2:=Hf fun x hx=>h x (List.mem_cons_of_mem _ hx)
  simp only [sumO,List.length_cons];omega
theorem DV.total {D:DS} (h:DV D):D.H.total≤5*D.H.ops.length:=by rw [h.di.hv.tot];exact Hf h.wb
theorem before_all (H:Hist) (hv:HV H):K2 H H.ops.length=H.total:=by
 rw [before_ops,List.take_length,hv.tot]
theorem DV.fresh {D:DS} (h:DV D):J5 D.H.ents D.u ((D.made:Int)+1)=none:=by
 cases hw:J5 D.H.ents D.u ((D.made:Int)+1) with
 | none=>rfl
 | some j=>
  obtain ⟨hj,h1,h2⟩:=KJ hw
  have:=h.own D.H.ents[j].op (List.mem_map.2 ⟨_,List.getElem_mem hj,rfl⟩) h1
  omega
theorem DV.idr {D:DS} (h:DV D) (hm:D.made<1024):rightF D.u ((D.made:Int)+1)=true:=by
 have:=h.us
 unfold rightF;simp;omega
theorem DV.ins {D:DS} (h:DV D) (hm:D.made<1024) (hn:D.H.ops.length<8192) {k:Nat} (hk:k≤D.X.length) {text:ByteArray} (hu:(utF text).2.2=0) (hu1:1≤(utF text).1∧(utF text).1≤256):Good D.H D.H.ops.length (insO D k text):=by
 have ht:=h.total
 have hr:=h.di.row
 have h0:=h.di.tot0
 refine ⟨by rw [KO];exact Nat.le_refl _,⟨?_, .inl rfl⟩,h.fresh,h.idr hm,fun e=>(by cases e),?_⟩
 ·rw [before_all _ h.di.hv]
  exact (check_ins rfl (by omega)).2 ⟨good_head (by show 1≤(1:Int)∧(1:Int)≤4;omega) (h.idr hm) (by simp [extraF,insO,zeroOp]),Yr.2 ⟨hu,hu1,⟨by show 0≤(k:Int);omega,by show (k:Int)≤_;omega⟩,by show D.H.total+(utF text).1≤_;omega⟩⟩
 ·have:JC (insO D k text)=(utF text).1:=by unfold JC;rw [if_pos (show (insO D k text).kind=1 from rfl)];rfl
  rw [this];omega
theorem DV.hide {D:DS} (h:DV D) (hm:D.made<1024) (hn:D.H.ops.length<8192) {rs:List Rg} (hp:Pls D.X.length rs) (hne:rs≠ []):Good D.H D.H.ops.length (hideO D rs):=by
 have ht:=h.total
 have hr:=h.di.row
 have h0:=h.di.tot0
 rw [hr] at hp
 refine ⟨by rw [KO];exact Nat.le_refl _,⟨?_, .inr (.inl rfl)⟩,h.fresh,h.idr hm,fun e=>(by cases e),?_⟩
 ·rw [before_all _ h.di.hv]
  exact (check_cov (.inl rfl) (by omega)).2 ⟨good_head (by show 1≤(2:Int)∧(2:Int)≤4;omega) (h.idr hm) (by simp [extraF,hideO,zeroOp,emptyB]),(Yz (by omega)).2 ⟨hne,hp⟩⟩
 ·have:JC (hideO D rs)=0:=by unfold JC;rw [if_neg (show ¬(hideO D rs).kind=1 by show ¬(2:Int)=1;decide)]
  rw [this];omega
theorem DV.stat {D:DS} (h:DV D) (hm:D.made<1024) (hn:D.H.ops.length<8192) {i0 i1:Int} {k:Nat} (hw:J5 D.H.ents i0 i1=some k) (hk:k<D.H.ents.length) (hk4:D.H.ents[k].op.kind≠4) (on:Bool):Good D.H D.H.ops.length (statO D (i0,i1) on):=by
 have ht:=h.total
 have hr:=h.di.row
 have h0:=h.di.tot0
 have hne: ¬(D.H.ents[k].op.c=D.u∧D.H.ents[k].op.n=(D.made:Int)+1):=K4 h.fresh _ (List.getElem_mem hk)
 obtain ⟨_,g1,g2⟩:=KJ hw
 refine ⟨by rw [KO];exact Nat.le_refl _,⟨?_, .inr (.inr O)⟩,h.fresh,h.idr hm,fun _=>⟨k,hw,by rw [KO];exact hk,_,List.getElem?_eq_getElem hk,hk4⟩,?_⟩
 ·rw [before_all _ h.di.hv]
  have hid:=h.di.hv.idr _ (List.getElem_mem hk)
  rw [g1,g2] at hid
  exact (check_st rfl (by omega)).2 ⟨good_head (by show 1≤(4:Int)∧(4:Int)≤4;omega) (h.idr hm) (by simp [extraF,statO,zeroOp,emptyB]),hid,fun e=>hne ⟨g1.trans e.1,g2.trans e.2⟩⟩
 ·have:JC (statO D (i0,i1) on)=0:=by unfold JC;rw [if_neg (show ¬(statO D (i0,i1) on).kind=1 by show ¬(4:Int)=1;decide)]
  rw [this];omega
theorem X6: ∀ {b:Int} {xs:List Rg},NormB b xs→ ∀r∈xs,b≤r.lo∧r.lo<r.hi
 | _,[],_,r,hr=>by cases hr
 | b,x::xs,h,r,hr=>by
  rcases List.mem_cons.1 hr with rfl | hr
  ·exact ⟨h.1,h.2.1⟩
  ·have h1:=X6 h.2.2 r hr
   have h2:=h.1
   have h3:=h.2.1
   omega
theorem DV.tud {D:DS} (h:DV D) (hm:D.made<1024) (hn:D.H.ops.length<8192) {i0 i1:Int} {k:Nat} (hw:J5 D.H.ents i0 i1=some k) (hk:k<D.H.ents.length) (hk4:D.H.ents[k].op.kind≠4) (on:Bool) (hoff:D.H.ents[k].off=on):TuD D i0 i1 on k:=by
 have g:=h.stat hm hn hw hk hk4 on
 have M:=g.mkd h.di hn
 have ho:=KO D.H
 have he:=(end_stat h.di.hv (o:=statO D (i0,i1) on) (by rw [←ho];exact g) rfl hk hw hoff).2
 rw [←ho] at he
 have he2:(mkH D (statO D (i0,i1) on)).ents=D.H.ents.set k (offE D.H.ents[k] (!on))++ [⟨statO D (i0,i1) on,[],false⟩] :=he
 have hj:k<(mkH D (statO D (i0,i1) on)).ents.length:=by rw [he2];simp;omega
 have hek:(mkH D (statO D (i0,i1) on)).ents[k] =offE D.H.ents[k] (!on):=by
  simp only [he2]
  rw [List.getElem_append_left (by simpa using hk),List.getElem_set_self]
 have hrs:(entE ((mkH D (statO D (i0,i1) on)).ents[k])).rs=D.H.ents[k].now:=by
  rw [hek];unfold entE offE;rw [if_neg hk4]
 have hpl:=h.di.hv.pls _ (List.getElem_mem hk)
 have h0:=h.di.tot0
 have hlen:=hpl.len h0.1
 have hml:=M.len
 have hr:=h.di.row
 obtain ⟨_,g1,g2⟩:=KJ hw
 refine ⟨M,hj,?_,?_,?_,?_⟩
 ·have:=VQ M.di.hv.ids hj
  rw [hek,show (offE D.H.ents[k] (!on)).op.c=i0 from g1,show (offE D.H.ents[k] (!on)).op.n=i1 from g2] at this
  exact this
 ·rw [hrs];exact fun e=>hk4 ((h.di.hv.edit _ (List.getElem_mem hk)).2 e)
 ·rw [hrs];omega
 ·rw [hrs]
  intro r hr2
  have:=X6 hpl.norm r hr2
  have:=hpl.below r hr2
  omega
structure Acted (D D2:DS):Prop where
 u:D2.u=D.u
 lm:D2.cl=D.cl∧D2.ce=D.ce∧D2.op=D.op
 got:D2.got=D.got
 cm:(D2.H=D.H∧D2.X=D.X∧D2.made=D.made)∨ ∃o,o.c=D.u∧o.n=(D.made:Int)+1∧D2.H.ops=D.H.ops++ [o] ∧D2.made=D.made+1
theorem Qy {l:List Int} {b:Int} (h: ∀x∈l,0≤x∧x≤b) (hb:0≤b) (c:Nat):0≤l.getD c 0∧l.getD c 0≤b:=by
 rw [List.getD_eq_getElem?_getD]
 cases hc:l[c]? with
 | none=>exact ⟨Int.le_refl _,hb⟩
 | some x=>exact h x (List.mem_of_getElem? hc)
theorem DV.put_ {D:DS} (h:DV D) (c:Int):0≤putA D c∧putA D c≤5*D.H.ops.length:=Qy h.pb (by omega) c.toNat
theorem DV.step {D D2:DS} (h:DV D) {o:GOp} (M:MkD D o) (hc:o.c=D.u) (hn:o.n=(D.made:Int)+1) (hw:0≤JC o∧JC o≤5) (hu:D2.u=D.u) (hH:D2.H=mkH D o) (hX:D2.X=J6 (mkE D o) D.X) (hm:D2.made=D.made+1) (hp:D2.put=D.put∨D2.put=D.put.set D.u.toNat (putA D D.u+JC o)) (hs: ∀x∈D2.U++D2.R,x.2≤D2.made):DV D2:=by
 have hl:D2.H.ops.length=D.H.ops.length+1:=by rw [hH,M.ops];simp
 have hpu:=h.put_ D.u
 refine ⟨hu ▸ h.us,fun x hx hxc=> ?_,hs,fun x hx=> ?_,fun x hx=> ?_,?_,?_⟩
 ·rw [hH,M.ops] at hx
  rw [hm]
  rcases List.mem_append.1 hx with hx | hx
  ·have:=h.own x hx (hxc.trans hu);omega
  ·have:=List.mem_singleton.1 hx;subst this;omega
 ·rw [hl]
  rcases hp with hp | hp
  ·rw [hp] at hx
   have:=h.pb x hx;omega
  ·rw [hp] at hx
   rcases List.mem_or_eq_of_mem_set hx with hx | rfl
   ·have:=h.pb x hx;omega
   ·omega
 ·rw [hH,M.ops] at hx
  rcases List.mem_append.1 hx with hx | hx
  ·exact h.wb x hx
  ·have:=List.mem_singleton.1 hx;subst this;exact hw.2
 ·rw [hl,hH,hX];exact M.di
 ·rcases hp with hp | hp
  ·rw [hp];exact h.pl
  ·rw [hp,List.length_set];exact h.pl
theorem DV.turned {D D2:DS} (h:DV D) (hu:D2.u=D.u) (hH:D2.H=D.H) (hX:D2.X=D.X) (hm:D2.made=D.made) (hp:D2.put=D.put) (hs: ∀x∈D2.U++D2.R,x∈D.U++D.R):DV D2:=
 ⟨hu ▸ h.us,by rw [hH,hu,hm];exact h.own,fun x hx=>by rw [hm];exact h.sid x (hs x hx),by rw [hp,hH];exact h.pb,by rw [hH];exact h.wb,by rw [hH,hX];exact h.di,by rw [hp];exact h.pl⟩
theorem XA {ok:Id2→Bool} {U R:List Id2} {x:Id2} (hx:x∈(upF ok U R).2.1∨x∈(upF ok U R).2.2):x∈U∨x∈R:=by
 unfold upF at hx
 cases hp:pickF ok U with
 | none=>rw [hp] at hx;exact hx
 | some kx=>
  obtain ⟨h1,h2⟩:=Y8 (ok:=ok) (l:=U) (k:=kx.1) (x:=kx.2) hp
  rw [hp] at hx
  rcases hx with hx | hx
  ·exact .inl (List.mem_of_mem_eraseIdx hx)
  ·rcases List.mem_append.1 hx with hx | hx
   ·exact .inr hx
   ·have:=List.mem_singleton.1 hx
    subst this
    exact .inl (List.mem_of_getElem? h1)
theorem H0 {ok:Id2→Bool} {U R:List Id2} {x:Id2} (hx:(upF ok U R).1=some x):ok x=true:=by
 unfold upF at hx
 cases hp:pickF ok U with
 | none=>rw [hp] at hx;cases hx
 | some kx=>
  rw [hp] at hx
  have h2:=Y8 (ok:=ok) (l:=U) (k:=kx.1) (x:=kx.2) hp
  obtain rfl:kx.2=x:=Option.some.inj hx
  exact h2.2
theorem stand_true {H:Hist} {on:Bool} {id:Id2} (h:J0 H on id=true): ∃k,J5 H.ents id.1 id.2=some k∧ ∃hk:k<H.ents.length,H.ents[k].op.kind≠4∧H.ents[k].off= !on:=by
 cases hw:J5 H.ents id.1 id.2 with
 | none=>rw [XR hw] at h;cases h
 | some k=>
  obtain ⟨hk,_,_⟩:=KJ hw
  rw [QP hw hk] at h
  simp only [Bool.and_eq_true,decide_eq_true_eq] at h
  refine ⟨k,O,hk,h.1,?_⟩
  have:=h.2
  cases ho:H.ents[k].off<;>cases on<;>simp_all
theorem ins_row {D:DS} (hdi:DI D.H.ops.length D.H D.X) {k:Nat} {text:ByteArray} (g:Good D.H D.H.ops.length (insO D k text)):J6 (mkE D (insO D k text)) D.X=D.X.take k++(cellsOf (KH text) 0++D.X.drop k):=by
 have ho:=KO D.H
 have he:=(end_ins hdi.hv (o:=insO D k text) (by rw [←ho];exact g) rfl).1
 rw [←ho] at he
 have he2:mkE D (insO D k text)= { effF (insO D k text) with at_:=(insO D k text).at_,text:=(insO D k text).text } :=he
 rw [he2]
 unfold J6
 rw [if_pos (show (effF (insO D k text)).kind=1 from rfl)]
 show D.X.take ((k:Int).toNat)++(cellsOf (KH text) 0++D.X.drop ((k:Int).toNat))=_
 rw [Int.toNat_natCast]
theorem hide_row {D:DS} (hdi:DI D.H.ops.length D.H D.X) {rs:List Rg} (g:Good D.H D.H.ops.length (hideO D rs)):J6 (mkE D (hideO D rs)) D.X=K6 rs 1 D.X:=by
 have ho:=KO D.H
 have he:=(end_hide hdi.hv (o:=hideO D rs) (by rw [←ho];exact g) rfl).1
 rw [←ho] at he
 have he2:mkE D (hideO D rs)= { effF (hideO D rs) with rs:=(hideO D rs).rs } :=he
 rw [he2]
 unfold J6
 rw [if_neg (show ¬(effF (hideO D rs)).kind=1 by show ¬(2:Int)=1;decide),if_pos (show (effF (hideO D rs)).kind=2 from rfl)]
 rfl
theorem stat_row {D:DS} (hdi:DI D.H.ops.length D.H D.X) {i0 i1:Int} {on:Bool} (g:Good D.H D.H.ops.length (statO D (i0,i1) on)) {k:Nat} (hk:k<D.H.ents.length) (hw:J5 D.H.ents i0 i1=some k) (hoff:D.H.ents[k].off=on):J6 (mkE D (statO D (i0,i1) on)) D.X=K6 D.H.ents[k].now (if (decide (D.H.ents[k].op.kind=2)==on)=true then 1 else -1) D.X:=by
 have ho:=KO D.H
 have he:=(end_stat hdi.hv (o:=statO D (i0,i1) on) (by rw [←ho];exact g) rfl hk hw hoff).1
 rw [←ho] at he
 have he2:mkE D (statO D (i0,i1) on)=turnF D.H.ents[k] on:=he
 rw [he2,turn_apply]
theorem HZ {X:List Ce} {p k:Nat} (h:Pth X p k) (rs:List Int):K3 (X.take k++(cellsOf rs 0++X.drop k))=(K3 X).take p++(rs++(K3 X).drop p):=by
 have e:K3 X=K3 (X.take k)++K3 (X.drop k):=by rw [←Yk,List.take_append_drop]
 have hl:(K3 (X.take k)).length=p:=by rw [KM,h.ct]
 rw [Yk,Yk,QN,e,List.take_left' hl,List.drop_left' hl]
theorem HY {X:List Ce} {p k:Nat} (h:Pth X p k) (rs:List Int):J8 ((X.take k++(cellsOf rs 0++X.drop k)).take (k+rs.length))=p+rs.length:=by
 have hl:(X.take k).length=k:=by rw [List.length_take];have:=h.le;omega
 conv=>lhs;rw [show k+rs.length=(X.take k).length+(cellsOf rs 0).length by rw [hl,Ju]]
 rw [List.take_length_add_append,List.take_left,Km,h.ct,Yc]
theorem mem_visPf: ∀(X:List Ce) (a q:Int),q∈visPf a X↔a≤q∧ ∃r,X[(q-a).toNat]? =some (r,0)
 | [],a,q=>by simp [visPf]
 | c::X,a,q=>by
  have ih:=mem_visPf X (a+1) q
  have key:(q=a∧c.2=0)∨q∈visPf (a+1) X↔a≤q∧ ∃r,(c::X)[(q-a).toNat]? =some (r,0):=by
   rw [ih]
   rcases Int.lt_trichotomy q a with h | h | h
   ·constructor
    ·rintro (⟨h1,_⟩ | ⟨h1,_⟩)<;>omega
    ·rintro ⟨h1,_⟩;omega
   ·subst h
    rw [Int.sub_self]
    constructor
    ·rintro (⟨_,h1⟩ | ⟨h1,_⟩)
     ·exact ⟨Int.le_refl _,c.1,by show some c=some (c.1,0);rw [←h1]⟩
     ·omega
    ·rintro ⟨_,r,h1⟩
     have:=Option.some.inj h1
     exact .inl ⟨O,by rw [this]⟩
   ·have e:(q-a).toNat=(q-(a+1)).toNat +1:=by omega
    rw [e,List.getElem?_cons_succ]
    constructor
    ·rintro (⟨h1,_⟩ | ⟨_,h2⟩)
     ·omega
     ·exact ⟨by omega,h2⟩
    ·rintro ⟨_,h2⟩;exact .inr ⟨by omega,h2⟩
  rw [←key]
  simp only [visPf]
  split
  ·rename_i h;rw [List.mem_cons];simp [h]
  ·rename_i h;simp [h]
theorem mem_visP {X:List Ce} {q:Int} :q∈visP X↔0≤q∧ ∃r,X[q.toNat]? =some (r,0):=by
 have:=mem_visPf X 0 q
 rwa [Int.sub_zero] at this
theorem visPf_sorted: ∀(X:List Ce) (a:Int),(visPf a X).Pairwise (· < ·)
 | [],a=>List.Pairwise.nil
 | c::X,a=>by
  have ih:=visPf_sorted X (a+1)
  simp only [visPf]
  split
  ·refine List.Pairwise.cons (fun q hq=> ?_) ih
   have:=((mem_visPf X (a+1) q).1 hq).1
   omega
  ·exact ih
def runeA (X:List Ce) (q:Int):Int:=((X[q.toNat]?).map (·.1)).getD 0
theorem XM: ∀(X Y:List Ce) (a:Nat),Y.drop a=X→K3 X=(visPf a X).map (runeA Y)
 | [],Y,a,_=>rfl
 | c::X,Y,a,h=>by
  have hc:Y[a]? =some c:=by
   have:=congrArg (fun l=>l[0]?) h
   simpa using this
  have hd:Y.drop (a+1)=X:=by
   have:=congrArg (fun l=>l.drop 1) h
   simpa [List.drop_drop] using this
  have ih:=XM X Y (a+1) hd
  have e:((a:Int)+1)=((a+1:Nat):Int):=by omega
  unfold K3 at ih ⊢
  simp only [visPf,e]
  by_cases h0:c.2=0
  ·rw [List.filter_cons_of_pos (by simpa using h0),if_pos h0,List.map_cons,List.map_cons,ih]
   congr 1
   unfold runeA
   rw [Int.toNat_natCast,hc];rfl
  ·rw [List.filter_cons_of_neg (by simpa using h0),if_neg h0,ih]
theorem Gx (X:List Ce):K3 X=(visP X).map (runeA X):=XM X X 0 rfl
theorem runeA_bump {X:List Ce} {xs:List Rg} {k:Int} (h:Pls X.length xs) (q:Int):runeA (K6 xs k X) q=runeA X q:=by
 have h1:=(YH (k:=k) xs 0 X (Int.le_refl _) h.norm h.below).2 q.toNat
 unfold runeA
 rw [h1]
 cases X[q.toNat]? with
 | none=>rfl
 | some c=>simp only [Option.map_some,Option.getD_some];split<;>rfl
theorem visP_hide {X:List Ce} {p n:Nat} {xs:List Rg} (h:VisR p n X xs) (h0: ∀c∈X,0≤c.2):visP (K6 xs 1 X)=(visP X).take p++(visP X).drop (p+n):=by
 have hb:=YH (k:=1) xs 0 X (Int.le_refl _) h.pls.norm h.pls.below
 have hs:=visPf_sorted X 0
 have hsp:visP X=(visP X).take p++(((visP X).drop p).take n++(visP X).drop (p+n)):=by
  conv=>lhs;rw [←List.take_append_drop p (visP X),←List.take_append_drop n ((visP X).drop p),List.drop_drop]
 have hs2:((visP X).take p++(((visP X).drop p).take n++(visP X).drop (p+n))).Pairwise (· < ·):=by rw [←hsp];exact hs
 obtain ⟨s1,s2,s3⟩:=List.pairwise_append.1 hs2
 obtain ⟨s4,s5,s6⟩:=List.pairwise_append.1 s2
 refine VR (visPf_sorted _ 0) (List.pairwise_append.2 ⟨s1,s5,fun x hx y hy=>s3 x hx y (List.mem_append_right _ hy)⟩) fun q=> ?_
 have hq:q∈visP X↔q∈(visP X).take p∨q∈KA xs∨q∈(visP X).drop (p+n):=by
  rw [h.pl]
  conv=>lhs;rw [hsp]
  simp only [List.mem_append]
 have hno:q∈KA xs→ ¬(q∈(visP X).take p∨q∈(visP X).drop (p+n)):=by
  rw [h.pl]
  rintro h1 (h2 | h2)
  ·have:=s3 q h2 q (List.mem_append_left _ h1);omega
  ·have:=s6 q h1 q h2;omega
 have hin:q∈visP (K6 xs 1 X)↔q∈visP X∧q∉KA xs:=by
  rw [mem_visP,mem_visP,hb.2 q.toNat,mem_places]
  constructor
  ·rintro ⟨g0,r,g1⟩
   have e:((q.toNat:Nat):Int)=q:=by omega
   rw [e] at g1
   cases hx:X[q.toNat]? with
   | none=>rw [hx] at g1;cases g1
   | some c=>
    rw [hx] at g1
    simp only [Option.map_some,Option.some.injEq] at g1
    have hc:=h0 c (List.mem_of_getElem? hx)
    by_cases hr:inRb q xs=true
    ·rw [if_pos hr] at g1
     have:=congrArg (·.2) g1
     simp only at this;omega
    ·rw [if_neg hr] at g1
     exact ⟨⟨g0,r,by rw [g1]⟩,fun hm=>hr (YB.2 hm)⟩
  ·rintro ⟨⟨g0,r,g1⟩,g2⟩
   have e:((q.toNat:Nat):Int)=q:=by omega
   rw [e]
   refine ⟨g0,r,?_⟩
   rw [g1,Option.map_some,if_neg (fun hr=>g2 (YB.1 hr))]
 show q∈visP (K6 xs 1 X)↔_
 rw [hin,hq,List.mem_append]
 constructor
 ·rintro ⟨h1 | h1 | h1,h2⟩
  ·exact .inl h1
  ·exact absurd h1 h2
  ·exact .inr h1
 ·intro h1
  refine ⟨h1.elim .inl (fun h=> .inr (.inr h)),fun h2=>hno h2 h1⟩
theorem Gy {X:List Ce} {p n:Nat} {xs:List Rg} (h:VisR p n X xs) (h0: ∀c∈X,0≤c.2):K3 (K6 xs 1 X)=(K3 X).take p++(K3 X).drop (p+n):=by
 rw [Gx (K6 xs 1 X),visP_hide h h0,Gx X,List.map_append,List.map_take,List.map_drop]
 have e: ∀l:List Int,l.map (runeA (K6 xs 1 X))=l.map (runeA X):=fun l=>List.map_congr_left fun q _=>runeA_bump h.pls q
 rw [e]
theorem Rule.nn {H:Hist} {X:List Ce} (h:Rule H X): ∀c∈X,0≤c.2:=fun c hc=>by
 obtain ⟨q,hq⟩:=List.mem_iff_getElem?.1 hc
 rw [h.cnt q c hq];omega
theorem VisR.ne {p n:Nat} {X:List Ce} {xs:List Rg} (h:VisR p n X xs) (hn:0<n) (hv:p+n≤J8 X):xs≠ [] :=fun e=>by
 have:=h.left
 rw [e] at this
 simp only [KA,List.flatMap_nil,List.length_nil] at this
 omega
theorem DV.hideM {D:DS} (h:DV D) (hm:D.made<1024) (hn:D.H.ops.length<8192) {p n:Nat} (hn0:0<n) (hv:p+n≤J8 D.X) {xs:List Rg} (hV:VisR p n D.X xs):MkD D (hideO D xs)∧K3 (J6 (mkE D (hideO D xs)) D.X)=(K3 D.X).take p++(K3 D.X).drop (p+n):=by
 have g:=h.hide hm hn hV.pls (hV.ne hn0 hv)
 refine ⟨g.mkd h.di hn,?_⟩
 rw [hide_row h.di g,Gy hV h.di.rule.nn]
theorem DV.insM {D:DS} (h:DV D) (hm:D.made<1024) (hn:D.H.ops.length<8192) {p k:Nat} (hk:Pth D.X p k) {text:ByteArray} (hu:(utF text).2.2=0) (hu1:1≤(utF text).1∧(utF text).1≤256):MkD D (insO D k text)∧K3 (J6 (mkE D (insO D k text)) D.X)=(K3 D.X).take p++(KH text++(K3 D.X).drop p)∧J8 ((J6 (mkE D (insO D k text)) D.X).take (k+(utF text).1.toNat))=p+(utF text).1.toNat:=by
 have g:=h.ins hm hn hk.le hu hu1
 refine ⟨g.mkd h.di hn,?_,?_⟩
 ·rw [ins_row h.di g,HZ hk]
 ·have:=Y5 hu
  rw [ins_row h.di g,show (utF text).1.toNat=(KH text).length by omega,HY hk]
theorem Ex: ∀(N:Nat) (l:List Nat),l.Nodup→(∀x∈l,x<N)→l.length≤N
 | 0,l,_,h=>by
  cases l with
  | nil=>exact Nat.le_refl _
  | cons x l=>exact absurd (h x List.mem_cons_self) (Nat.not_lt_zero _)
 | N+1,l,hl,h=>by
  have ih:=Ex N (l.erase N) (hl.erase N) (fun x hx=>by
   have h1:=h x (List.mem_of_mem_erase hx)
   have h2:=(hl.mem_erase_iff.1 hx).1
   omega)
  by_cases hm:N∈l
  ·rw [List.length_erase_of_mem hm] at ih;omega
  ·rw [List.erase_of_not_mem hm] at ih;omega
theorem ids_lt {l:List (Int×Int)} (hl:l.Nodup) (hr: ∀x∈l,1≤x.1∧x.1≤8∧1≤x.2∧x.2≤1024) {y:Int×Int} (hy:1≤y.1∧y.1≤8∧1≤y.2∧y.2≤1024) (hn:y∉l):l.length<8192:=by
 have f: ∀a∈y::l,∀b∈y::l,((a.1-1)*1024+(a.2-1)).toNat=((b.1-1)*1024+(b.2-1)).toNat→a=b:=by
  have hall: ∀a∈y::l,1≤a.1∧a.1≤8∧1≤a.2∧a.2≤1024:=fun a ha=>by
   rcases List.mem_cons.1 ha with rfl | ha
   ·exact hy
   ·exact hr a ha
  intro a ha b hb e
  have h1:=hall a ha
  have h2:=hall b hb
  refine Prod.ext ?_ ?_<;>omega
 have hnd:((y::l).map fun a=>((a.1-1)*1024+(a.2-1)).toNat).Nodup:=by
  have h0:(y::l).Nodup:=List.nodup_cons.2 ⟨hn,hl⟩
  refine List.pairwise_map.2 (List.Pairwise.imp_of_mem (fun {a b} ha hb hab e=>hab (f a ha b hb e)) h0)
 have:=Ex 8192 _ hnd (fun x hx=>by
  obtain ⟨a,ha,rfl⟩:=List.mem_map.1 hx
  rcases List.mem_cons.1 ha with rfl | ha
  ·omega
  ·have:=hr a ha;omega)
 rw [List.length_map,List.length_cons] at this
 omega
theorem H9: ∀ {l:List Int} {b:Int},(∀x∈l,x≤b)→l.sum≤b*l.length
 | [],b,_=>by simp
 | x::l,b,h=>by
  have h1:=h x List.mem_cons_self
  have h2:=H9 fun y hy=>h y (List.mem_cons_of_mem _ hy)
  rw [List.sum_cons,List.length_cons]
  have:b*((l.length+1:Nat):Int)=b*(l.length:Int)+b:=by rw [Int.natCast_add,Int.mul_add,show ((1:Nat):Int)=1 from rfl,Int.mul_one]
  omega
theorem sum_set_: ∀ {l:List Int} {k:Nat} (h:k<l.length) (v:Int),(l.set k v).sum=l.sum+(v-l.getD k 0)
 | x::l,0,_,v=>by simp only [List.set_cons_zero,List.sum_cons,List.getD_cons_zero];omega
 | x::l,k+1,h,v=>by
  have:=sum_set_ (l:=l) (k:=k) (by simpa using h) v
  simp only [List.set_cons_succ,List.sum_cons,List.getD_cons_succ,this];omega
structure DG (D:DS):Prop where
 us:1≤D.u∧D.u≤8
 own: ∀o∈D.H.ops,o.c=D.u→o.n≤D.made
 sid: ∀x∈D.U++D.R,x.2≤D.made
 pg:D.H.total≤D.put.sum
 p0: ∀x∈D.put,0≤x∧x≤4096
 di:DI D.H.ops.length D.H D.X
 pl:D.put.length=9
theorem DG.tot {D:DS} (h:DG D):D.H.total≤36864:=by
 have h1:=H9 (b:=4096) fun x hx=>(h.p0 x hx).2
 have h2:=h.pg
 rw [h.pl] at h1
 omega
theorem Zh {H:Hist} (hv:HV H): ∀x∈H.ents.map (fun e=>(e.op.c,e.op.n)),1≤x.1∧x.1≤8∧1≤x.2∧x.2≤1024:=fun x hx=>by
 obtain ⟨e,he,rfl⟩:=List.mem_map.1 hx
 exact Et (hv.idr e he)
theorem whereId_free {es:List Ent} {c n:Int} (h:J5 es c n=none):(c,n)∉es.map fun e=>(e.op.c,e.op.n):=fun hm=>by
 obtain ⟨e,he,h1⟩:=List.mem_map.1 hm
 simp only [Prod.mk.injEq] at h1
 exact K4 h _ he h1
theorem lt_of_free {H:Hist} (hv:HV H) {c n:Int} (hr:rightF c n=true) (hw:J5 H.ents c n=none):H.ops.length<8192:=by
 have:=ids_lt hv.ids (Zh hv) (y:=(c,n)) (Et hr) (whereId_free hw)
 rw [List.length_map] at this
 rw [KO];exact this
theorem DG.fresh {D:DS} (h:DG D):J5 D.H.ents D.u ((D.made:Int)+1)=none:=by
 cases hw:J5 D.H.ents D.u ((D.made:Int)+1) with
 | none=>rfl
 | some j=>
  obtain ⟨hj,h1,h2⟩:=KJ hw
  have:=h.own D.H.ents[j].op (List.mem_map.2 ⟨_,List.getElem_mem hj,rfl⟩) h1
  omega
theorem DG.idr {D:DS} (h:DG D) (hm:D.made<1024):rightF D.u ((D.made:Int)+1)=true:=by
 have:=h.us
 unfold rightF;simp;omega
theorem DG.lt {D:DS} (h:DG D) (hm:D.made<1024):D.H.ops.length<8192:=lt_of_free h.di.hv (h.idr hm) h.fresh
theorem DG.ins {D:DS} (h:DG D) (hm:D.made<1024) {k:Nat} (hk:k≤D.X.length) {text:ByteArray} (hu:(utF text).2.2=0) (hu1:1≤(utF text).1∧(utF text).1≤256):Good D.H D.H.ops.length (insO D k text):=by
 have ht:=h.tot
 have hr:=h.di.row
 have h0:=h.di.tot0
 refine ⟨by rw [KO];exact Nat.le_refl _,⟨?_, .inl rfl⟩,h.fresh,h.idr hm,fun e=>(by cases e),?_⟩
 ·rw [before_all _ h.di.hv]
  exact (check_ins rfl (by omega)).2 ⟨good_head (by show 1≤(1:Int)∧(1:Int)≤4;omega) (h.idr hm) (by simp [extraF,insO,zeroOp]),Yr.2 ⟨hu,hu1,⟨by show 0≤(k:Int);omega,by show (k:Int)≤_;omega⟩,by show D.H.total+(utF text).1≤_;omega⟩⟩
 ·have:JC (insO D k text)=(utF text).1:=by unfold JC;rw [if_pos (show (insO D k text).kind=1 from rfl)];rfl
  rw [this];omega
theorem DG.hide {D:DS} (h:DG D) (hm:D.made<1024) {rs:List Rg} (hp:Pls D.X.length rs) (hne:rs≠ []):Good D.H D.H.ops.length (hideO D rs):=by
 have ht:=h.tot
 have hr:=h.di.row
 have h0:=h.di.tot0
 rw [hr] at hp
 refine ⟨by rw [KO];exact Nat.le_refl _,⟨?_, .inr (.inl rfl)⟩,h.fresh,h.idr hm,fun e=>(by cases e),?_⟩
 ·rw [before_all _ h.di.hv]
  exact (check_cov (.inl rfl) (by omega)).2 ⟨good_head (by show 1≤(2:Int)∧(2:Int)≤4;omega) (h.idr hm) (by simp [extraF,hideO,zeroOp,emptyB]),(Yz (by omega)).2 ⟨hne,hp⟩⟩
 ·have:JC (hideO D rs)=0:=by unfold JC;rw [if_neg (show ¬(hideO D rs).kind=1 by show ¬(2:Int)=1;decide)]
  rw [this];omega
theorem DG.stat {D:DS} (h:DG D) (hm:D.made<1024) {i0 i1:Int} {k:Nat} (hw:J5 D.H.ents i0 i1=some k) (hk:k<D.H.ents.length) (hk4:D.H.ents[k].op.kind≠4) (on:Bool):Good D.H D.H.ops.length (statO D (i0,i1) on):=by
 have ht:=h.tot
 have hr:=h.di.row
 have h0:=h.di.tot0
 have hne: ¬(D.H.ents[k].op.c=D.u∧D.H.ents[k].op.n=(D.made:Int)+1):=K4 h.fresh _ (List.getElem_mem hk)
 obtain ⟨_,g1,g2⟩:=KJ hw
 refine ⟨by rw [KO];exact Nat.le_refl _,⟨?_, .inr (.inr O)⟩,h.fresh,h.idr hm,fun _=>⟨k,hw,by rw [KO];exact hk,_,List.getElem?_eq_getElem hk,hk4⟩,?_⟩
 ·rw [before_all _ h.di.hv]
  have hid:=h.di.hv.idr _ (List.getElem_mem hk)
  rw [g1,g2] at hid
  exact (check_st rfl (by omega)).2 ⟨good_head (by show 1≤(4:Int)∧(4:Int)≤4;omega) (h.idr hm) (by simp [extraF,statO,zeroOp,emptyB]),hid,fun e=>hne ⟨g1.trans e.1,g2.trans e.2⟩⟩
 ·have:JC (statO D (i0,i1) on)=0:=by unfold JC;rw [if_neg (show ¬(statO D (i0,i1) on).kind=1 by show ¬(4:Int)=1;decide)]
  rw [this];omega
theorem DG.tud {D:DS} (h:DG D) (hm:D.made<1024) {i0 i1:Int} {k:Nat} (hw:J5 D.H.ents i0 i1=some k) (hk:k<D.H.ents.length) (hk4:D.H.ents[k].op.kind≠4) (on:Bool) (hoff:D.H.ents[k].off=on):TuD D i0 i1 on k:=by
 have g:=h.stat hm hw hk hk4 on
 have M:=g.mkd h.di (h.lt hm)
 have ho:=KO D.H
 have he:=(end_stat h.di.hv (o:=statO D (i0,i1) on) (by rw [←ho];exact g) rfl hk hw hoff).2
 rw [←ho] at he
 have he2:(mkH D (statO D (i0,i1) on)).ents=D.H.ents.set k (offE D.H.ents[k] (!on))++ [⟨statO D (i0,i1) on,[],false⟩] :=he
 have hj:k<(mkH D (statO D (i0,i1) on)).ents.length:=by rw [he2];simp;omega
 have hek:(mkH D (statO D (i0,i1) on)).ents[k] =offE D.H.ents[k] (!on):=by
  simp only [he2]
  rw [List.getElem_append_left (by simpa using hk),List.getElem_set_self]
 have hrs:(entE ((mkH D (statO D (i0,i1) on)).ents[k])).rs=D.H.ents[k].now:=by
  rw [hek];unfold entE offE;rw [if_neg hk4]
 have hpl:=h.di.hv.pls _ (List.getElem_mem hk)
 have h0:=h.di.tot0
 have hlen:=hpl.len h0.1
 have hml:=M.len
 have hr:=h.di.row
 obtain ⟨_,g1,g2⟩:=KJ hw
 refine ⟨M,hj,?_,?_,?_,?_⟩
 ·have:=VQ M.di.hv.ids hj
  rw [hek,show (offE D.H.ents[k] (!on)).op.c=i0 from g1,show (offE D.H.ents[k] (!on)).op.n=i1 from g2] at this
  exact this
 ·rw [hrs];exact fun e=>hk4 ((h.di.hv.edit _ (List.getElem_mem hk)).2 e)
 ·rw [hrs];omega
 ·rw [hrs]
  intro r hr2
  have:=X6 hpl.norm r hr2
  have:=hpl.below r hr2
  omega
theorem DG.nU {D:DS} (h:DG D):(D.u,(D.made:Int)+1)∉D.U:=fun hm=>by have:=h.sid _ (List.mem_append_left _ hm);omega
theorem DG.nR {D:DS} (h:DG D):(D.u,(D.made:Int)+1)∉D.R:=fun hm=>by have:=h.sid _ (List.mem_append_right _ hm);omega
structure StepG (D D2:DS):Prop where
 dg:DG D2
 u:D2.u=D.u
 lm:D2.cl=D.cl∧D2.ce=D.ce∧D2.op=D.op
 got:D2.got=D.got
 made:D2.made=D.made+1
 ops: ∃o,o.c=D.u∧o.n=(D.made:Int)+1∧D2.H.ops=D.H.ops++ [o]
theorem DG.step {D D2:DS} (h:DG D) {o:GOp} (g:Good D.H D.H.ops.length o) (M:MkD D o) (hc:o.c=D.u) (hn:o.n=(D.made:Int)+1) (hu:D2.u=D.u) (hl:D2.cl=D.cl∧D2.ce=D.ce∧D2.op=D.op) (hg:D2.got=D.got) (hH:D2.H=mkH D o) (hX:D2.X=J6 (mkE D o) D.X) (hm:D2.made=D.made+1) (hp:(D2.put=D.put∧JC o=0)∨(D2.put=D.put.set D.u.toNat (putA D D.u+JC o)∧putA D D.u+JC o≤4096)) (hs: ∀x∈D2.U++D2.R,x.2≤D2.made):StepG D D2:=by
 have hol:D2.H.ops.length=D.H.ops.length+1:=by rw [hH,M.ops];simp
 have hto:D2.H.total=D.H.total+JC o:=by
  rw [hH]
  exact put_total h.di.hv g
 have hus:=h.us
 have hpl:=h.pl
 have hw:=g.right.width
 refine ⟨⟨hu ▸ h.us,fun x hx hxc=> ?_,hs,?_,fun x hx=> ?_,by rw [hol,hH,hX];exact M.di,?_⟩,hu,hl,hg,hm,o,hc,hn,by rw [hH];exact M.ops⟩
 ·rw [hH,M.ops] at hx
  rw [hm]
  rcases List.mem_append.1 hx with hx | hx
  ·have:=h.own x hx (hxc.trans hu);omega
  ·have:=List.mem_singleton.1 hx;subst this;omega
 ·rw [hto]
  have:=h.pg
  rcases hp with ⟨e,e0⟩ | ⟨e,_⟩
  ·rw [e,e0];omega
  ·rw [e,sum_set_ (by omega)]
   unfold putA
   omega
 ·rcases hp with ⟨e,_⟩ | ⟨e,e1⟩
  ·rw [e] at hx;exact h.p0 x hx
  ·rw [e] at hx
   rcases List.mem_or_eq_of_mem_set hx with hx | rfl
   ·exact h.p0 x hx
   ·have:=(Qy (b:=4096) h.p0 (by decide) D.u.toNat).1
    unfold putA at e1 ⊢
    omega
 ·rcases hp with ⟨e,_⟩ | ⟨e,_⟩
  ·rw [e];exact h.pl
  ·rw [e,List.length_set];exact h.pl
theorem DG.turned {D D2:DS} (h:DG D) (hu:D2.u=D.u) (hH:D2.H=D.H) (hX:D2.X=D.X) (hm:D2.made=D.made) (hp:D2.put=D.put) (hs: ∀x∈D2.U++D2.R,x∈D.U++D.R):DG D2:=
 ⟨hu ▸ h.us,by rw [hH,hu,hm];exact h.own,fun x hx=>by rw [hm];exact h.sid x (hs x hx),by rw [hH,hp];exact h.pg,by rw [hp];exact h.p0,by rw [hH,hX];exact h.di,by rw [hp];exact h.pl⟩
theorem DG.zero {u:Int} (hu:1≤u∧u≤8) (cl ce op:Int):DG (zeroD u cl ce op):=
 ⟨hu,nofun,nofun,by show (0:Int)≤(List.replicate 9 (0:Int)).sum;decide,fun x hx=>(by rw [List.eq_of_mem_replicate hx];decide),DI.zero,rfl⟩
theorem Z7 {H:Hist} (hv:HV H) {i:Nat} {o:GOp} (h:fitsF H i o=0) (ht:H.total+JC o≤60000):Good H i o:=by
 have hx:=h
 unfold fitsF at h
 split at h
 ·cases h
 rename_i h1
 split at h
 ·rename_i h2;exact absurd h h2
 rename_i h2
 split at h
 ·cases h
 rename_i h3
 split at h
 ·cases h
 rename_i h4
 split at h
 ·cases h
 rename_i h5
 have hi:i≤H.ents.length:=by omega
 have hck:checkF o (K2 H i)=0:=by
  have:checkF o (K2 H (i:Int).toNat)=0:=by simpa using h2
  rwa [Int.toNat_natCast] at this
 have hh:headF o:=by
  have hck2:=hck
  unfold checkF at hck2
  split at hck2
  ·cases hck2
  split at hck2
  ·cases hck2
  split at hck2
  ·cases hck2
  split at hck2
  ·cases hck2
  rename_i a b c d
  exact ⟨b,c,d⟩
 have hr:rightF o.c o.n=true:=by
  cases hq:rightF o.c o.n with
  | true=>rfl
  | false=>
   exfalso
   refine hh.2.1 ⟨?_,hq⟩
   by_cases hc:o.c=0
   ·exact .inr fun hn=>h4 ⟨hc,hn⟩
   ·exact .inl hc
 refine ⟨hi,⟨hck,by have:=hh.1;omega⟩,?_,hr,fun hk=> ?_,ht⟩
 ·cases hw:J5 H.ents o.c o.n with
  | none=>rfl
  | some k=>rw [hw] at h5;simp at h5
 ·rw [if_pos hk] at h
  unfold fitsT at h
  cases hw:J5 H.ents o.tc o.tn with
  | none=>rw [hw] at h;cases h
  | some k=>
   obtain ⟨hk1,_,_⟩:=KJ hw
   rw [hw] at h
   simp only [List.getElem?_eq_getElem hk1] at h
   split at h
   ·cases h
   ·rename_i hki
    split at h
    ·cases h
    ·rename_i hk4
     exact ⟨k,O,by omega,_,List.getElem?_eq_getElem hk1,hk4⟩
theorem _root_.Go.GW.Sp.monoF {P:Program} {k:FuncId} {args:List Value} {Lin:List Part} {pre:List Fact} {res res':Value→List Part→List Fact→Prop} (h:Sp P k args Lin pre res) (hr: ∀v Lo fs,res v Lo fs→ ∃fs',res' v Lo fs'∧ ∀A∈fs',A∈fs++pre):Sp P k args Lin pre res':=
 ⟨h.enters,fun Z w Ps As hs=>(h.calls Z w Ps As hs).mono fun e w' ⟨v,he,Z',Lo,fs,h1,h2⟩=>by
  obtain ⟨fs',h3,h4⟩:=hr v Lo fs h1
  exact ⟨v,he,Z',Lo,fs',h3,h2.subFacts fun A hA=>by
   rcases List.mem_append.1 hA with hA | hA
   ·rcases List.mem_append.1 (h4 A hA) with hA | hA
    ·exact List.mem_append_left _ hA
    ·exact List.mem_append_right _ (List.mem_append_left _ hA)
   ·exact List.mem_append_right _ hA⟩⟩
structure Bd (D:DS):Prop where
 n:D.H.ops.length<700
 m:D.made<700∧(D.made:Int)+1<D.op
 c:5*(D.H.ops.length:Int)+5≤D.ce
theorem DV.nU {D:DS} (h:DV D):(D.u,(D.made:Int)+1)∉D.U:=fun hm=>by have:=h.sid _ (List.mem_append_left _ hm);simp only at this;omega
theorem DV.nR {D:DS} (h:DV D):(D.u,(D.made:Int)+1)∉D.R:=fun hm=>by have:=h.sid _ (List.mem_append_right _ hm);simp only at this;omega
theorem sid_more {D:DS} (h:DV D): ∀x∈D.U++D.R,x.2≤((D.made+1:Nat):Int):=fun x hx=>by have:=h.sid x hx;omega
theorem sid_did {D:DS} (h:DV D): ∀x∈(D.U++ [(D.u,(D.made:Int)+1)])++ [],x.2≤((D.made+1:Nat):Int):=fun x hx=>by
 rw [List.append_nil] at hx
 rcases List.mem_append.1 hx with hx | hx
 ·have:=h.sid x (List.mem_append_left _ hx);omega
 ·have:=List.mem_singleton.1 hx
  subst this
  show (D.made:Int)+1≤_;omega
theorem DV.insD {D:DS} (h:DV D) {k:Nat} {text:ByteArray} (M:MkD D (insO D k text)) (hu1:1≤(utF text).1∧(utF text).1≤5):DV (insD D k text)∧Acted D (insD D k text):=by
 have hw:JC (insO D k text)=(utF text).1:=by unfold JC;rw [if_pos (show (insO D k text).kind=1 from rfl)];rfl
 refine ⟨h.step M O O (by rw [hw];omega) O O O O (.inr (by rw [hw];rfl)) (sid_did h),O,⟨O,O,O⟩,O, .inr ⟨_,O,O,M.ops,O⟩⟩
theorem width_hide (D:DS) (rs:List Rg):JC (hideO D rs)=0:=by unfold JC;rw [if_neg (show ¬(hideO D rs).kind=1 by show ¬(2:Int)=1;decide)]
theorem DV.hideD {D:DS} (h:DV D) {rs:List Rg} (k:Nat) (M:MkD D (hideO D rs)):DV (hideD D rs k)∧Acted D (hideD D rs k):=
 ⟨h.step M rfl rfl (by rw [width_hide];omega) rfl rfl rfl rfl (.inl rfl) (sid_did h),rfl,⟨rfl,rfl,rfl⟩,rfl, .inr ⟨_,rfl,rfl,M.ops,rfl⟩⟩
theorem Xy {s:ByteArray} {p k:Nat} {r w:Nat} (hp:p<s.size) (hd:Utf8.decode s p=(r,w)) (hb:begF s p r=true) (hl:letF r=true):utAt s p k=utAt s (p+w) (k+1):=by
 rw [utAt_next hp (by rw [hd];simp [hb]) (by rw [hd];simp [hl]),hd]
theorem XG {s:ByteArray} {p:Nat} {r w:Nat} (hp:p<s.size) (hd:Utf8.decode s p=(r,w)):runesAt s p=(r:Int)::runesAt s (p+w):=by
 rw [runesAt,dif_pos hp,hd]
theorem Zy (o:GOp) (A:Option Addr) (c:Nat) (hl:o.rs.length≤8796093022208):Sp Tryz.prog 31 [opV o A c] [] [RdF rgD A c o.rs] (fun v Lo fs=> ∃A' c',v=opV o A' c'∧Lo= [] ∧fs= [RdF rgD A' c' o.rs]):=by
 refine Sp.of (n:=8) ⟨_,Tryz.func31,O,O,O,O⟩ (Nat.le_of_ble_eq_true O) fun Ps As=>Jc (Ja (Jg O (J1 (cs:= [_,_,_,_,_,_,_,_,_]) O O (by decide) fun b1=>Jg O (Jv (cs:= [_,_,_,_,_,_,_,_,_]) JF O (by decide) fun b2=>Je (Jf (Jc (Ja (Lq (Jh (o':=5) Un40 O Yd O O) (Lq (Jj Un38 O O (Ji (Jm)) O) (Gp (Jg O (YE (e:=rgD) (ys:=_) Un38 KB O (by decide) O O (Row.nil _ _) Mm0 (by omega) (by unfold maxLen;omega) (by decide) (List.Perm.refl _) fun v5 p5 cs5 hr5=>GO (e:=rgD) (css:=cs5) hr5 .z (by simp) Mm0 fun A5 c5 e5=> ?_))))))))))))
 subst e5
 refine Lq (Jh (o':=5) Un40 O Yd O O) (Jg O (JN Yd O O O .z5 .z1 (Je (Jf (Jc (Ja (Lq (Jw (vs:= [_,_,_,_,_,_,_,_,_]) Un40 O JF O (Ji (Jm)) O O) (Jg O (Jq (cs':= [_,_,_,_,_,_,_,_,_]) (vs:= [_,_,_,_,_,_,_,_,_]) JF O O O O O (Nat.le_of_ble_eq_true O) .z (Je (Jf (Jn ?_))))))))))))
 refine ⟨_,[],[_],fun Z w hs=>JS hs Un40 O JF O Jm O .nil,?_,fun Z w hs=>hs.out (Sd2 (Sr)) (Jl Mm0 Tt2)⟩
 exact ⟨_,_,O,O,O⟩
abbrev Rm:=List (DM×DS)
def Y6 (Rs:Rm):List Part:=Rs.flatMap fun r=>Kv r.1 r.2
def Hi (Rs:Rm):Part:=(Y6 Rs).flatten
def XX (Rs:Rm):List Fact:=Rs.flatMap fun r=>KT r.1 r.2
def RoomF (Rs:Rm):Fact where
 holds Z w:= ∀A∈XX Rs,A.holds Z w
 stable hz hh h1 h2 h3 h:=fun A hA=>A.stable hz hh h1 h2 h3 (h A hA)
theorem room_split (Rs:Rm) {i:Nat} (hi:i<Rs.length):Rs=Rs.take i++Rs[i] ::Rs.drop (i+1):=by
 rw [←List.drop_eq_getElem_cons hi,List.take_append_drop]
theorem Zg (Rs:Rm) {i:Nat} (hi:i<Rs.length) (x:DM×DS):Rs.set i x=Rs.take i++x::Rs.drop (i+1):=List.set_eq_take_append_cons_drop ▸ (by rw [if_pos hi])
theorem EP (R1 R2:Rm) (x:DM×DS):Y6 (R1++x::R2)=Y6 R1++(Kv x.1 x.2++Y6 R2):=by unfold Y6;rw [List.flatMap_append,List.flatMap_cons]
theorem QU (R1 R2:Rm) (x:DM×DS):XX (R1++x::R2)=XX R1++(KT x.1 x.2++XX R2):=by unfold XX;rw [List.flatMap_append,List.flatMap_cons]
theorem room_perm (R1 R2:Rm) (x:DM×DS) (Ps:List Part):(Kv x.1 x.2++(Y6 R1++(Y6 R2++Ps))).flatten.Perm ([Hi (R1++x::R2)] ++Ps).flatten:=by
 unfold Hi
 rw [EP]
 generalize Kv x.1 x.2=Q
 have e:([(Y6 R1++(Q++Y6 R2)).flatten] ++Ps).flatten=(Y6 R1).flatten++(Q.flatten++((Y6 R2).flatten++Ps.flatten)):=by
  simp only [List.cons_append,List.nil_append,List.flatten_cons,List.flatten_append,List.append_assoc]
 rw [e]
 simp only [List.flatten_append]
 exact List.perm_append_comm_assoc ..
theorem _root_.Go.GW.Sp.room {P:Program} {k:FuncId} {args:List Value} {pre:List Fact} {res:Value→List Part→List Fact→Prop} {Rs:Rm} (i:Nat) (hi:i<Rs.length) (h:Sp P k args (Kv Rs[i].1 Rs[i].2) (pre++KT Rs[i].1 Rs[i].2) res) (post:Value→DM→DS→List Fact→Prop)
  (hr: ∀v Lo fs,res v Lo fs→ ∃M2 D2 gs,post v M2 D2 gs∧Lo=Kv M2 D2∧(∀A∈KT M2 D2++gs,A∈fs++(pre++KT Rs[i].1 Rs[i].2))):
  Sp P k args [Hi Rs] (pre++ [RoomF Rs]) (fun v Lo fs=> ∃M2 D2 gs,post v M2 D2 gs∧Lo= [Hi (Rs.set i (M2,D2))] ∧fs=RoomF (Rs.set i (M2,D2))::gs):=by
 refine ⟨h.enters,fun Z w Ps As hs=> ?_⟩
 have hsp:=room_split Rs hi
 have hRF:(RoomF Rs).holds Z w:=hs.facts _ (by simp)
 have h1:St Z w (Kv Rs[i].1 Rs[i].2++(Y6 (Rs.take i)++(Y6 (Rs.drop (i+1))++Ps))) ((pre++KT Rs[i].1 Rs[i].2)++(RoomF Rs::As)):=by
  refine ⟨hs.zlt,fun q hq=>hs.own q ?_,?_,fun A hA=> ?_⟩
  ·have:=(room_perm (Rs.take i) (Rs.drop (i+1)) Rs[i] Ps).subset hq
   rw [←hsp] at this;exact this
  ·have hp:=(room_perm (Rs.take i) (Rs.drop (i+1)) Rs[i] Ps).map Prod.fst
   rw [←hsp] at hp
   exact hp.nodup_iff.2 hs.nodup
  ·rcases List.mem_append.1 hA with hA | hA
   ·rcases List.mem_append.1 hA with hA | hA
    ·exact hs.facts A (List.mem_append_left _ (List.mem_append_left _ hA))
    ·refine hRF A ?_
     rw [hsp,QU]
     exact List.mem_append_right _ (List.mem_append_left _ hA)
   ·rcases List.mem_cons.1 hA with rfl | hA
    ·exact hRF
    ·exact hs.facts A (List.mem_append_right _ hA)
 refine (h.calls Z w _ _ h1).mono ?_
 rintro e w' ⟨v,rfl,Z',Lo,fs,g1,g2⟩
 obtain ⟨M2,D2,gs,p1,rfl,p3⟩:=hr v Lo fs g1
 refine ⟨v,O,Z',_,_,⟨M2,D2,gs,p1,O,O⟩,?_⟩
 have hset:=Zg Rs hi (M2,D2)
 have hfacts: ∀A∈KT M2 D2++gs,A.holds Z' w':=fun A hA=>g2.facts A (by
  rcases List.mem_append.1 (p3 A hA) with h | h
  ·exact List.mem_append_left _ h
  ·exact List.mem_append_right _ (List.mem_append_left _ h))
 have hRF2:(RoomF Rs).holds Z' w':=g2.facts _ (List.mem_append_right _ (List.mem_append_right _ (List.mem_cons_self)))
 refine ⟨g2.zlt,fun q hq=>g2.own q ?_,?_,fun A hA=> ?_⟩
 ·rw [hset] at hq
  exact (room_perm (Rs.take i) (Rs.drop (i+1)) (M2,D2) Ps).symm.subset hq
 ·rw [hset]
  exact ((room_perm (Rs.take i) (Rs.drop (i+1)) (M2,D2) Ps).map Prod.fst).nodup_iff.1 g2.nodup
 ·rcases List.mem_append.1 hA with hA | hA
  ·rcases List.mem_cons.1 hA with rfl | hA
   ·intro B hB
    rw [hset,QU] at hB
    rcases List.mem_append.1 hB with hB | hB
    ·refine hRF2 B ?_
     rw [hsp,QU];exact List.mem_append_left _ hB
    ·rcases List.mem_append.1 hB with hB | hB
     ·exact hfacts B (List.mem_append_left _ hB)
     ·refine hRF2 B ?_
      rw [hsp,QU];exact List.mem_append_right _ (List.mem_append_right _ hB)
   ·exact hfacts A (List.mem_append_right _ hA)
  ·rcases List.mem_append.1 hA with hA | hA
   ·rcases List.mem_append.1 hA with hA | hA
    ·exact g2.facts A (List.mem_append_right _ (List.mem_append_left _ (List.mem_append_left _ hA)))
    ·have:=List.mem_singleton.1 hA
     subst this;exact hRF2
   ·exact g2.facts A (List.mem_append_right _ (List.mem_append_right _ (.tail _ hA)))
theorem take_ops {D:DS} (hdi:DI D.H.ops.length D.H D.X) {o:GOp} (g:Good D.H D.got o):(YR D o).H.ops=D.H.ops.take D.got++([o] ++(Kd o (D.H.ops.drop D.got)).2)∧Sames (D.H.ops.drop D.got) (Kd o (D.H.ops.drop D.got)).2:=
 ⟨hdi.ops g,(cross_good hdi.hv g).2.2.2.2⟩
theorem Sames.mem {l m:List GOp} (h:Sames l m): ∀x∈m,∃y∈l,Same y x:=by
 induction h with
 | nil=>intro x hx;cases hx
 | cons h hr ih=>
  intro x hx
  rcases List.mem_cons.1 hx with rfl | hx
  ·exact ⟨_,List.mem_cons_self,h⟩
  ·obtain ⟨y,hy,hs⟩:=ih x hx
   exact ⟨y,List.mem_cons_of_mem _ hy,hs⟩
theorem str_beq {s t:ByteArray} :(s==t)=true↔s=t:=by
 rw [beq_toListBytes,ByteArray.toList_eq,ByteArray.toList_eq]
 obtain ⟨⟨x⟩⟩:=s
 obtain ⟨⟨y⟩⟩:=t
 simp
section
variable {P:Program} {n:Dm} {R:Post} {K:Nx} {l:Fr} {Ps Ps':List Part} {As:List Fact} {d:Nat} {ty:TypeId} {pos:String} {aft:Array Edge} {g:Option (Nat×Bool)}
end
def fltD:De (ByteArray×Int×Int) where
 sz:=3
 rep _ _ x cs:=cs= [.string x.1, .int .i64 x.2.1, .iface 54 (.int .i64 x.2.2)]
 len h:=by subst h;rfl
 one h:=by subst h;rfl
 stable _ _ _ _ _ h:=h
theorem bd118_0_1_2Xg37 (x0_:ByteArray) (x1_:Int) (x2_t:TypeId) (x2_v:Value) (w:World):(Instr.build 88 #[(0, .string x0_),(1, .int .i64 x1_),(2, .iface x2_t x2_v)]).run Tryz.prog w= .ok (.agg #[.string x0_, .int .i64 x1_, .iface x2_t x2_v]) w:=by kernel_rfl
theorem fault_x (s:ByteArray) (at_ e:Int) (he:e≠0):Sp Tryz.prog 10 [.string s, .int .i64 at_, .int .i64 e] [] [] (fun v Lo fs=> ∃p:Nat,v= .iface 86 (.pointer (some ⟨p,0,none⟩))∧Lo= [] ∧fs= [RdF fltD (some ⟨p,0,none⟩) 1 [(s,at_,e)]]):=by
 refine Sp.of (n:=16) ⟨_,Tryz.func10,O,O,O,O⟩ (Nat.le_of_ble_eq_true O) fun Ps As=>Jc (Ja (Lq (Jd O) (Je (Jf (Jc (Jc (Ja (Lq (Jb O) (Lq (Ka O O) (Je (Jf (Jz O (by simpa using he) (Jp (Jf (Jc (Ja (Lq (Jb O) ?_)))))))))))))))))
 refine Lq (Jb O) (Lq (Jb O) (Lq (QH (by rw [Un54];rfl) O) (Lq (JV (.n3 O O O) (bd118_0_1_2Xg37 _ _ _ _)) (Jg O (J1 (cs:= [_,_,_]) O O (by decide) fun b14=>Lq (QH (by rw [Un86];rfl) O) (Lq (Jd O) (Je (Jf (Jn ?_)))))))))
 refine ⟨_,[],[_],fun Z w hs=> .tmp O .nil,?_,fun Z w hs=>(hs.freeze1 (e:=fltD) (u:=(s,at_,e)) .z O).imp fun Z2 h2=>(h2.subParts (Sr)).subFacts (fun _ h=>h)⟩
 exact ⟨b14,O,O,O⟩
theorem give_x (s:ByteArray) (at_ e:Int) (he:e≠0):SpP Tryz.prog 42 [.string s, .int .i64 at_, .int .i64 e] [] [] (fun v Lo fs=> ∃p:Nat,v= .iface 86 (.pointer (some ⟨p,0,none⟩))∧Lo= [] ∧fs= [RdF fltD (some ⟨p,0,none⟩) 1 [(s,at_,e)]]):=by
 refine SpP.of (n:=12) ⟨_,Tryz.func42,O,O,O,O⟩ (Nat.le_of_ble_eq_true O) fun Ps As=>Jc (Ja (Lq (Jb O) (Lq (Kp O O) (Je (Jf (JQ O (by simpa using he) (Ja (Lq (Jb O) (Lq (Jb O) (Lq (Jb O) ?_))))))))))
 refine Jg O (Jo (fault_x s at_ e he) (.n3 O O O) (by decide) Jx fun _ _ _ q9=>?_)
 obtain ⟨p,rfl,rfl,rfl⟩:=q9
 refine Jg O (V7 O ?_)
 refine ⟨_,[],[_],O,?_,fun Z w hs=>hs.out (Sr) (fun _ h=>h)⟩
 exact ⟨p,O,O,O⟩
theorem turn_x (M:DM) (D:DS) (ok:DkOk M D) (hmd:(D.made:Int)<D.op) (i0 i1:Int) (on:Bool) (he:effE D.H (i0,i1) on≠0):Sp Tryz.prog 29 [.pointer (some ⟨M.d,0,none⟩), .agg #[.int .i64 i0, .int .i64 i1], .bool on] (Kv M D) (barF::KT M D) (fun v Lo fs=> ∃p:Nat,v= .tuple #[opV zeroOp none 0, .iface 86 (.pointer (some ⟨p,0,none⟩))] ∧Lo=Kv M D∧fs= [RdF fltD (some ⟨p,0,none⟩) 1 [(⟨#[84,117,114,110]⟩,0,effE D.H (i0,i1) on)]]):=by
 have hvl:=Kn M.t.row
 have hwt:=ok.wt
 have htl:=ok.tl
 have hrow:=ok.row
 have hpl:=ok.pl
 have hr:=ok.hr
 have hdi:=ok.di
 have hus:=ok.us
 have hlm:=ok.lm
 have hmd2:=ok.md
 have hsl:=ok.sl
 have hxl:=ok.xl
 have hpu:0≤putA D D.u∧putA D D.u≤4096:=by
  unfold putA
  rw [List.getD_eq_getElem?_getD,List.getElem?_eq_getElem (by omega)]
  exact ok.p0 _ (List.getElem_mem _)
 refine Sp.ofD (n:=30) ⟨_,Tryz.func29,O,O,O,O⟩ (Nat.le_of_ble_eq_true O) fun Ps As=>Ja (Jg O (J1 (cs:= [_,_]) O O (by decide) fun b4=>Jg O (Jv (cs:= [_,_,_,_,_,_,_,_,_]) JF O (by decide) fun b6=>Jg O (Jv (cs:= [_]) Ye O (by decide) fun b7=>Je ?_))))
 refine ⟨O,_,_,_,_,_,catch_Turn b6 b7,DefReg.mk (.n2 O O) (by decide),?_⟩
 refine Jc (Ja (JG (Jb O) (dl O) (Jg O (JX (room_0 M.d M.h M.b _ _ _ _ _ _ _ _ _ _ 0 hmd) (.n3 O O O) (by first | exact dl O | decide) .z3 Jx fun _ _ _ q9=>?_))))
 obtain ⟨rfl,rfl,rfl⟩:=q9
 refine Je (Jf (Jc (K7 (JI _ _ [12] (.c 0 0 (.c 1 0 (.c 2 0 (.c 3 0 (.c 4 0 (.c 5 0 (.c 6 0 (.b (.c 7 2 (.c 8 0 (.c 9 0 (.c 10 1 (.c 11 2 (.c 12 3 (.c 13 1 .nil))))))) (.c 11 2 (.c 7 2 (.c 8 0 (.c 9 0 (.c 10 1 (.c 12 3 (.c 13 1 .nil))))))))))))))) mixed (fun _ _ _ _ h=>h) (Sk4 (Sd3 (Sk4 (Sr)))) (fun _ h=>h) (by kernel_rfl) (by first | exact dl O | decide) fun ws Z0=>JE O (Jb O) (dl O) (JE O (JB O) (dl O) (JE O (Jh (o':=0) Un65 O Ym O O) (dl O) (JE O (Jh (o':=0) Un58 O Vm O O) (dl O) ?_)))))))
 refine JE O (Jj Un55 O O Jm O) (dl O) (JE O (Jw (vs:= [_,_]) Un34 O JY O (Ji (Ji (Ji (Jm)))) O O) (dl O) (JE O (Jb O) (dl O) (KN ?_ ?_)))
 ·refine Js O O (Ky (effect_x M.h M.m M.cap M.A D.H M.L hr i0 i1 on he) (.n3 O O O) (by first | exact dl O | decide) .z4 .z4 .z4 (Jl Mm2 (Jl Mm3 Jx)) fun _ _ _ q9=>?_)
  obtain ⟨rfl,rfl,rfl⟩:=q9
  refine ⟨⟨(Sd3 (Sk8 (Sr))),Mm0⟩,?_⟩
  refine JE O (Jb O) (dl O) (JE O (Jk (vs:= [_,_]) O O) (dl O) (YW O (Jk (vs:= [_,_]) O O) (dl O) (Js O O (Jv (cs:= [_,_,_,_,_,_,_,_,_]) JF O (by first | exact dl O | decide) fun b8=> ?_))))
  refine ⟨⟨(Sd4 (Sk8 (Sr))),Mm0⟩,?_⟩
  refine JJ (J2 O O (Jq (cs':= [_,_,_,_,_,_,_,_,_]) (vs:= [_,_,_,_,_,_,_,_,_]) JF O O O O O (Nat.le_of_ble_eq_true O) .z (YM O (Jd O) (dl O) (JK (Jf (Jc (Ja (JG (Jb O) (dl O) (Jg O (KD (give_x _ _ _ he) (.n3 O O O) Jx fun _ _ _ q9=>?_))))))))))
  obtain ⟨p,rfl,rfl,rfl⟩:=q9
  refine K9 ?_
  refine ⟨_,_,_,_,[_,_,_,_,_,_,_,_],[_],O,⟨p,O⟩,⟨_,_,_,_,_,_,_,_,_,_,O⟩,fun Z w hs=>((hs.pick .z5).pick .z6),fun Z w hs=>JS hs Un40 O JF O Jm O (Kj hs Un29 O O (Ji Jm) O .nil),?_,fun Z w hs=>((((((((hs.pick .z11).pick .z11).pick .z11).pick .z11).pick .z9).pick .z9).pick .z9).pick .z10).out (Sk8 (Sd4 (Sr))) (Jl Mm0 Tt2)⟩
  exact ⟨p,O,O,O⟩
 ·refine Js O O (Jv (cs:= [_,_,_,_,_,_,_,_,_]) JF O (by first | exact dl O | decide) fun b8=> ?_)
  refine ⟨⟨(Sd (Sk4 (Sd3 (Sk4 (Sr))))),Mm0⟩,?_⟩
  refine Js O O (Ky (effect_x M.h M.m M.cap M.A D.H M.L hr i0 i1 on he) (.n3 O O O) (by first | exact dl O | decide) .z5 .z5 .z5 (Jl Mm2 (Jl Mm3 Jx)) fun _ _ _ q9=>?_)
  obtain ⟨rfl,rfl,rfl⟩:=q9
  refine ⟨⟨(Sd4 (Sk8 (Sr))),Mm0⟩,?_⟩
  refine JE O (Jb O) (dl O) (JE O (Jk (vs:= [_,_]) O O) (dl O) (YW O (Jk (vs:= [_,_]) O O) (dl O) (JJ (J2 O O (Jq (cs':= [_,_,_,_,_,_,_,_,_]) (vs:= [_,_,_,_,_,_,_,_,_]) JF O O O O O (Nat.le_of_ble_eq_true O) .z3 (YM O (Jd O) (dl O) (JK (Jf (Jc (Ja (JG (Jb O) (dl O) (Jg O (KD (give_x _ _ _ he) (.n3 O O O) Jx fun _ _ _ q9=>?_)))))))))))))
  obtain ⟨p,rfl,rfl,rfl⟩:=q9
  refine K9 ?_
  refine ⟨_,_,_,_,[_,_,_,_,_,_,_,_],[_],O,⟨p,O⟩,⟨_,_,_,_,_,_,_,_,_,_,O⟩,fun Z w hs=>((hs.pick .z5).pick .z6),fun Z w hs=>JS hs Un40 O JF O Jm O (Kj hs Un29 O O (Ji Jm) O .nil),?_,fun Z w hs=>((((((((hs.pick .z11).pick .z11).pick .z11).pick .z11).pick .z8).pick .z8).pick .z8).pick .z10).out (Sk8 (Sd4 (Sr))) (Jl Mm0 Tt2)⟩
  exact ⟨p,O,O,O⟩
theorem place_x (d h b:Nat) (u cl ce op rec made:Int) (put:List Int) (gap:Int) (s:Nat) (B:Option Addr) (t:Tr) (wt:Wf t) (nm:ByteArray) (p:Int) (hp: ¬(0≤p∧p≤J8 t.row)):SpP Tryz.prog 40 [.pointer (some ⟨d,0,none⟩), .string nm, .int .i64 p] [dkP d h b u cl ce op rec made put gap s,rpP b B] [TrF B t] (fun v Lo fs=> ∃fp:Nat,v= .iface 86 (.pointer (some ⟨fp,0,none⟩))∧Lo= [dkP d h b u cl ce op rec made put gap s,rpP b B] ∧fs= [RdF fltD (some ⟨fp,0,none⟩) 1 [(nm,p,12)]]):=by
 refine SpP.of (n:=16) ⟨_,Tryz.func40,O,O,O,O⟩ (Nat.le_of_ble_eq_true O) fun Ps As=>Jc (Ja (Lq (Jb O) (Lq (Jb O) (Lq (JB O) (Lq (Jh (o':=0) Un65 O Ym O O) (Jg O (J4 (K1 d h b _ _ B t wt) (.n1 O) (by decide) .z .z (Jl Mm0 Jx) fun _ _ _ q9=>?_)))))))
 obtain ⟨rfl,rfl,rfl⟩:=q9
 refine Jg O (Jo (KG p 0 (J8 t.row)) (.n3 O O O) (by decide) Jx fun _ _ _ q9=>?_)
 obtain ⟨rfl,rfl,rfl⟩:=q9
 refine Lq (KC O) (Je (Jf (JQ O (by rw [decide_eq_false hp];rfl) (Ja (Lq (Jb O) (Lq (Jb O) (Jg O (KD (give_x nm p 12 (by decide)) (.n3 O O O) Jx fun _ _ _ q9=>?_))))))))
 obtain ⟨fp,rfl,rfl,rfl⟩:=q9
 refine ⟨_,[_,_],[_],O,?_,fun Z w hs=>hs.out (Sk2 (Sr)) (fun _ h=>h)⟩
 exact ⟨fp,O,O,O⟩
theorem room_x (d h b:Nat) (u cl ce op rec made:Int) (put:List Int) (gap:Int) (s:Nat) (nm:ByteArray) (p:Int) (hm: ¬made<op):SpP Tryz.prog 43 [.pointer (some ⟨d,0,none⟩), .string nm, .int .i64 p] [dkP d h b u cl ce op rec made put gap s] [] (fun v Lo fs=> ∃fp:Nat,v= .iface 86 (.pointer (some ⟨fp,0,none⟩))∧Lo= [dkP d h b u cl ce op rec made put gap s] ∧fs= [RdF fltD (some ⟨fp,0,none⟩) 1 [(nm,p,80)]]):=by
 refine SpP.of (n:=19) ⟨_,Tryz.func43,O,O,O,O⟩ (Nat.le_of_ble_eq_true O) fun Ps As=>Jc (K7 (JI _ _ [] (.c 0 0 (.c 1 0 (.c 2 0 (.c 3 0 (.c 4 0 (.c 5 0 (.c 6 0 (.c 7 0 (.c 8 0 (.c 9 0 .nil)))))))))) mixed (fun _ _ _ _ h=>h) (Sk (Sr)) (fun _ h=>h) (by kernel_rfl) (by decide) fun ws Z0=>Qe O (Jb O) (Qe O (JB O) (Qe O (Jh (o':=7) Un65 O ti3 O O) (Qe O (Jj Un3 O O Jm O) (Qe O (Jb O) (Qe O (JB O) ?_)))))))
 refine Qe O (Jh (o':=3) Un65 O QO O O) (Qe O (Jh (o':=5) Un23 O ti3 O O) (Qe O (Jj Un3 O O Jm O) (Qe O (Yl O O) (JJ (JK (Jf (JQ O (by simp;omega) (Ja (Lq (Jb O) (Lq (Jb O) ?_))))))))))
 refine Jg O (KD (give_x nm p 80 (by decide)) (.n3 O O O) Jx fun _ _ _ q9=>?_)
 obtain ⟨fp,rfl,rfl,rfl⟩:=q9
 refine ⟨_,[_],[_],O,?_,fun Z w hs=>hs.out (Sk (Sr)) (Jl Mm0 Tt2)⟩
 exact ⟨fp,O,O,O⟩
def insE (D:DS) (p:Int) (text:ByteArray):Int:=
 if ¬(0≤p∧p≤J8 D.X) then 12 else if (utF text).2.2≠0 then (utF text).2.2 else if (utF text).1=0 then 15 else if 256<(utF text).1 then 14 else if ¬((D.made:Int)<D.op) then 80 else if D.ce<putA D D.u+(utF text).1 then 81 else 0
def delE (D:DS) (p n:Int):Int:=
 if ¬(0≤p∧p≤J8 D.X) then 12 else if ¬(0≤n∧n≤J8 D.X-p) then 12 else if n=0 then 15 else if ¬((D.made:Int)<D.op) then 80 else 0
theorem insert_x (M:DM) (D:DS) (ok:DkOk M D) (p:Int) (text:ByteArray) (hts:text.size≤4611686018427387904) (hut:(utF text).1≤4611686018427387904) (hE:insE D p text≠0):Sp Tryz.prog 13 [.pointer (some ⟨M.d,0,none⟩), .int .i64 p, .string text] (Kv M D) (barF::KT M D) (fun v Lo fs=> ∃fp:Nat,v= .tuple #[opV zeroOp none 0, .iface 86 (.pointer (some ⟨fp,0,none⟩))] ∧Lo=Kv M D∧fs= [RdF fltD (some ⟨fp,0,none⟩) 1 [(⟨#[73,110,115,101,114,116]⟩,p,insE D p text)]]):=by
 have hvl:=Kn M.t.row
 have hwt:=ok.wt
 have htl:=ok.tl
 have hrow:=ok.row
 have hpl:=ok.pl
 have hr:=ok.hr
 have hdi:=ok.di
 have hus:=ok.us
 have hlm:=ok.lm
 have hmd2:=ok.md
 have hsl:=ok.sl
 have hxl:=ok.xl
 have hpu:0≤putA D D.u∧putA D D.u≤4096:=by
  unfold putA
  rw [List.getD_eq_getElem?_getD,List.getElem?_eq_getElem (by omega)]
  exact ok.p0 _ (List.getElem_mem _)
 have hu0:0≤(utF text).1:=(utAt_n text.size 0 0 (by omega) (Nat.zero_le _)).1
 refine Sp.ofD (n:=105) ⟨_,Tryz.func13,O,O,O,O⟩ (Nat.le_of_ble_eq_true O) fun Ps As=>Ja (Jg O (Jv (cs:= [_,_,_,_,_,_,_,_,_]) JF O (by decide) fun b6=>Jg O (Jv (cs:= [_]) Ye O (by decide) fun b7=>Je ?_)))
 refine ⟨O,_,_,_,_,_,catch_Insert b6 b7,DefReg.mk (.n2 O O) (by decide),?_⟩
 refine Jc ?_
 by_cases hp:0≤p∧p≤J8 D.X
 ·refine Ja (JG (Jb O) (dl O) (JG (Jb O) (dl O) (Jg O (J4 (place_0 M.d M.h M.b _ _ _ _ _ _ _ _ _ M.B M.t hwt _ p (by rw [hrow];exact hp)) (.n3 O O O) (by first | exact dl O | decide) .z2 .z5 (Jl Mm3 Jx) fun _ _ _ q9=>?_))))
  obtain ⟨rfl,rfl,rfl⟩:=q9
  refine Je (Jf (Jc (Ja (JG (Jb O) (dl O) (Jg O (Jo (QF text hts) (.n1 O) (by first | exact dl O | decide) (Jl Mm0 Jx) fun _ _ _ q9=>?_))))))
  obtain ⟨rfl,rfl,rfl⟩:=q9
  refine JG (Jb O) (dl O) (JG (Jk (vs:= [_,_,_]) O O) (dl O) (JG (Jk (vs:= [_,_,_]) O O) (dl O) (JG (Jk (vs:= [_,_,_]) O O) (dl O) (JG (Jd O) (dl O) (JG (Jd O) (dl O) (JG (Jd O) (dl O) (Je (Jf (Jc ?_)))))))))
  by_cases he:(utF text).2.2=0
  ·rw [he]
   refine Ja (JG (Jb O) (dl O) (JG (Jb O) (dl O) (Jg O (Jo (give_0 _ _) (.n3 O O O) (by first | exact dl O | decide) Jx fun _ _ _ q9=>?_))))
   obtain ⟨rfl,rfl,rfl⟩:=q9
   refine Je (Jf (Jc (JO (Jc (Ja (JG (Jb O) (dl O) (JG (Ka O O) (dl O) (JG (Jd O) (dl O) (Je (Jf (Jy O (fun h25=> ?_) (fun h25=> ?_))))))))))))
   ·have hcode:insE D p text=15:=by unfold insE;rw [if_neg (fun h=>h hp),if_neg (fun h=>h he),if_pos (by simpa using h25)]
    refine Ja (JG (Jb O) (dl O) (Jg O (KD (give_x ⟨#[73,110,115,101,114,116]⟩ p 15 (by first | exact dl O | decide)) (.n3 O O O) Jx fun _ _ _ q9=>?_)))
    obtain ⟨fp,rfl,rfl,rfl⟩:=q9
    refine ZE (K9 ?_)
    refine ⟨_,_,_,_,[_,_,_,_,_,_,_,_],[_],O,⟨fp,O⟩,⟨_,_,_,_,_,_,_,_,_,_,O⟩,fun Z w hs=>((hs.pick .z2).pick .z3),fun Z w hs=>JS hs Un40 O JF O Jm O (Kj hs Un29 O O (Ji Jm) O .nil),?_,fun Z w hs=>((((((((hs.pick .z9).pick .z9).pick .z9).pick .z6).pick .z9).pick .z9).pick .z9).pick .z9).out (Sk8 (Sd2 (Sr))) (fun _ h=>h)⟩
    exact ⟨fp,O,O,by rw [hcode]⟩
   ·refine Jc (Ja (JG (Jb O) (dl O) (JG (Ke O O) (dl O) (JG (Jd O) (dl O) (Je (Jf (Jy O (fun h30=> ?_) (fun h30=> ?_))))))))
    ·have hcode:insE D p text=14:=by unfold insE;rw [if_neg (fun h=>h hp),if_neg (fun h=>h he),if_neg (by simpa using h25),if_pos (by simpa using h30)]
     refine Ja (JG (Jb O) (dl O) (Jg O (KD (give_x ⟨#[73,110,115,101,114,116]⟩ p 14 (by first | exact dl O | decide)) (.n3 O O O) Jx fun _ _ _ q9=>?_)))
     obtain ⟨fp,rfl,rfl,rfl⟩:=q9
     refine ZE (K9 ?_)
     refine ⟨_,_,_,_,[_,_,_,_,_,_,_,_],[_],O,⟨fp,O⟩,⟨_,_,_,_,_,_,_,_,_,_,O⟩,fun Z w hs=>((hs.pick .z2).pick .z3),fun Z w hs=>JS hs Un40 O JF O Jm O (Kj hs Un29 O O (Ji Jm) O .nil),?_,fun Z w hs=>((((((((hs.pick .z9).pick .z9).pick .z9).pick .z6).pick .z9).pick .z9).pick .z9).pick .z9).out (Sk8 (Sd2 (Sr))) (fun _ h=>h)⟩
     exact ⟨fp,O,O,by rw [hcode]⟩
    ·refine Jp (J9 (Jf (Jc ?_)))
     by_cases hmd:(D.made:Int)<D.op
     ·refine Ja (JG (Jb O) (dl O) (JG (Jb O) (dl O) (Jg O (JX (room_0 M.d M.h M.b _ _ _ _ _ _ _ _ _ _ p hmd) (.n3 O O O) (by first | exact dl O | decide) .z Jx fun _ _ _ q9=>?_))))
      obtain ⟨rfl,rfl,rfl⟩:=q9
      refine Je (Jf (Jc (Jc ?_)))
      have hcl:D.ce<putA D D.u+(utF text).1:=by
       apply Classical.byContradiction
       intro hn
       apply hE
       unfold insE
       rw [if_neg (fun h=>h hp),if_neg (fun h=>h he),if_neg (by simpa using h25),if_neg (by simpa using h30),if_neg (fun h=>h hmd),if_neg hn]
      have hcode:insE D p text=81:=by unfold insE;rw [if_neg (fun h=>h hp),if_neg (fun h=>h he),if_neg (by simpa using h25),if_neg (by simpa using h30),if_neg (fun h=>h hmd),if_pos hcl]
      refine K7 (JI _ _ [] (.c 0 0 (.c 1 0 (.c 2 0 (.c 3 0 (.c 4 0 (.c 5 0 (.c 6 0 (.c 7 0 (.c 8 0 (.c 9 0 (.c 10 0 (.c 11 0 (.c 12 0 (.c 13 0 (.c 14 0 (.c 15 0 (.c 16 0 .nil))))))))))))))))) mixed (fun _ _ _ _ h=>h) (Sk10 (Sr)) (fun _ h=>h) (by kernel_rfl) (by first | exact dl O | decide) fun ws Z0=>JE O (Jb O) (dl O) (JE O (Jb O) (dl O) (JE O (JB O) (dl O) (JE O (Jh (o':=2) Un65 O ti3 O O) (dl O) (JE O (Jj Un3 O O Jm O) (dl O) (JE O (JB O) (dl O) ?_))))))
      refine JE O (Jh (o':=8) Un65 O XP O O) (dl O) (JE O (KL (o':=8+D.u.toNat) Un63 ti3 O O (by omega) (by omega) (by omega)) (dl O) (JE O (Jj (v:= .int .i64 (D.put.getD D.u.toNat 0)) Un3 O O Jm (dkput hpl (by omega))) (dl O) (JE O (Jb O) (dl O) (JE O (JZ O O (wr64 (by have:=hpu;unfold putA at this;omega))) (dl O) (JE O (Jb O) (dl O) (JE O (JB O) (dl O) (JE O (Jh (o':=3) Un65 O QO O O) (dl O) (JE O (Jh (o':=4) Un23 O ti3 O O) (dl O) (JE O (Jj Un3 O O Jm O) (dl O) ?_)))))))))
      refine JE O (Ke O O) (dl O) (JJ (JK (Jf (JQ O (by simp;exact hcl) (Ja (JG (Jb O) (dl O) (Jg O (KD (give_x ⟨#[73,110,115,101,114,116]⟩ p 81 (by first | exact dl O | decide)) (.n3 O O O) Jx fun _ _ _ q9=>?_))))))))
      obtain ⟨fp,rfl,rfl,rfl⟩:=q9
      refine K9 ?_
      refine ⟨_,_,_,_,[_,_,_,_,_,_,_,_],[_],O,⟨fp,O⟩,⟨_,_,_,_,_,_,_,_,_,_,O⟩,fun Z w hs=>((hs.pick .z2).pick .z3),fun Z w hs=>JS hs Un40 O JF O Jm O (Kj hs Un29 O O (Ji Jm) O .nil),?_,fun Z w hs=>((((((((hs.pick .z9).pick .z9).pick .z9).pick .z6).pick .z9).pick .z9).pick .z9).pick .z9).out (Sk8 (Sd2 (Sr))) (Jl Mm0 Tt2)⟩
      exact ⟨fp,O,O,by rw [hcode]⟩
     ·have hcode:insE D p text=80:=by unfold insE;rw [if_neg (fun h=>h hp),if_neg (fun h=>h he),if_neg (by simpa using h25),if_neg (by simpa using h30),if_pos hmd]
      refine Ja (JG (Jb O) (dl O) (JG (Jb O) (dl O) (Jg O (QM (room_x M.d M.h M.b _ _ _ _ _ _ _ _ _ ⟨#[73,110,115,101,114,116]⟩ p (by omega)) (.n3 O O O) .z Jx fun _ _ _ q9=>?_))))
      obtain ⟨fp,rfl,rfl,rfl⟩:=q9
      refine K9 ?_
      refine ⟨_,_,_,_,[_,_,_,_,_,_,_,_],[_],O,⟨fp,O⟩,⟨_,_,_,_,_,_,_,_,_,_,O⟩,fun Z w hs=>((hs.pick .z2).pick .z3),fun Z w hs=>JS hs Un40 O JF O Jm O (Kj hs Un29 O O (Ji Jm) O .nil),?_,fun Z w hs=>((((((((hs.pick .z9).pick .z9).pick .z9).pick .z6).pick .z9).pick .z9).pick .z9).pick .z9).out (Sk8 (Sd2 (Sr))) (fun _ h=>h)⟩
      exact ⟨fp,O,O,by rw [hcode]⟩
  ·have hcode:insE D p text=(utF text).2.2:=by unfold insE;rw [if_neg (fun h=>h hp),if_pos he]
   refine Ja (JG (Jb O) (dl O) (JG (Jb O) (dl O) (Jg O (KD (give_x ⟨#[73,110,115,101,114,116]⟩ p (utF text).2.2 he) (.n3 O O O) Jx fun _ _ _ q9=>?_))))
   obtain ⟨fp,rfl,rfl,rfl⟩:=q9
   refine K9 ?_
   refine ⟨_,_,_,_,[_,_,_,_,_,_,_,_],[_],O,⟨fp,O⟩,⟨_,_,_,_,_,_,_,_,_,_,O⟩,fun Z w hs=>((hs.pick .z2).pick .z3),fun Z w hs=>JS hs Un40 O JF O Jm O (Kj hs Un29 O O (Ji Jm) O .nil),?_,fun Z w hs=>((((((((hs.pick .z9).pick .z9).pick .z9).pick .z6).pick .z9).pick .z9).pick .z9).pick .z9).out (Sk8 (Sd2 (Sr))) (fun _ h=>h)⟩
   exact ⟨fp,O,O,by rw [hcode]⟩
 ·have hcode:insE D p text=12:=by unfold insE;rw [if_pos hp]
  refine Ja (JG (Jb O) (dl O) (JG (Jb O) (dl O) (Jg O (Xh (place_x M.d M.h M.b _ _ _ _ _ _ _ _ _ M.B M.t hwt ⟨#[73,110,115,101,114,116]⟩ p (by rw [hrow];exact hp)) (.n3 O O O) .z2 .z5 (Jl Mm3 Jx) fun _ _ _ q9=>?_))))
  obtain ⟨fp,rfl,rfl,rfl⟩:=q9
  refine K9 ?_
  refine ⟨_,_,_,_,[_,_,_,_,_,_,_,_],[_],O,⟨fp,O⟩,⟨_,_,_,_,_,_,_,_,_,_,O⟩,fun Z w hs=>((hs.pick .z2).pick .z3),fun Z w hs=>JS hs Un40 O JF O Jm O (Kj hs Un29 O O (Ji Jm) O .nil),?_,fun Z w hs=>((((((((hs.pick .z9).pick .z9).pick .z9).pick .z6).pick .z9).pick .z9).pick .z9).pick .z9).out (Sk8 (Sd2 (Sr))) (fun _ h=>h)⟩
  exact ⟨fp,O,O,by rw [hcode]⟩
theorem delete_x (M:DM) (D:DS) (ok:DkOk M D) (p n:Int) (hE:delE D p n≠0):Sp Tryz.prog 14 [.pointer (some ⟨M.d,0,none⟩), .int .i64 p, .int .i64 n] (Kv M D) (barF::KT M D) (fun v Lo fs=> ∃fp:Nat,v= .tuple #[opV zeroOp none 0, .iface 86 (.pointer (some ⟨fp,0,none⟩))] ∧Lo=Kv M D∧fs= [RdF fltD (some ⟨fp,0,none⟩) 1 [(⟨#[68,101,108,101,116,101]⟩,p,delE D p n)]]):=by
 have hvl:=Kn M.t.row
 have hwt:=ok.wt
 have htl:=ok.tl
 have hrow:=ok.row
 have hpl:=ok.pl
 have hr:=ok.hr
 have hdi:=ok.di
 have hus:=ok.us
 have hlm:=ok.lm
 have hmd2:=ok.md
 have hsl:=ok.sl
 have hxl:=ok.xl
 have hpu:0≤putA D D.u∧putA D D.u≤4096:=by
  unfold putA
  rw [List.getD_eq_getElem?_getD,List.getElem?_eq_getElem (by omega)]
  exact ok.p0 _ (List.getElem_mem _)
 have hvx:=Kn D.X
 refine Sp.ofD (n:=68) ⟨_,Tryz.func14,O,O,O,O⟩ (Nat.le_of_ble_eq_true O) fun Ps As=>Ja (Jg O (Jv (cs:= [_,_,_,_,_,_,_,_,_]) JF O (by decide) fun b6=>Jg O (Jv (cs:= [_]) Ye O (by decide) fun b7=>Je ?_)))
 refine ⟨O,_,_,_,_,_,catch_Delete b6 b7,DefReg.mk (.n2 O O) (by decide),?_⟩
 refine Jc ?_
 by_cases hp:0≤p∧p≤J8 D.X
 ·refine Ja (JG (Jb O) (dl O) (JG (Jb O) (dl O) (Jg O (J4 (place_0 M.d M.h M.b _ _ _ _ _ _ _ _ _ M.B M.t hwt _ p (by rw [hrow];exact hp)) (.n3 O O O) (by first | exact dl O | decide) .z2 .z5 (Jl Mm3 Jx) fun _ _ _ q9=>?_))))
  obtain ⟨rfl,rfl,rfl⟩:=q9
  refine Je (Jf (Jc (Jc ?_)))
  by_cases hn:0≤n∧n≤J8 D.X-p
  ·refine Ja (JG (Jb O) (dl O) (JG (Jb O) (dl O) (JG (JB O) (dl O) (JG (Jh (o':=0) Un65 O Ym O O) (dl O) (Jg O (J4 (K1 M.d M.h M.b _ _ M.B M.t hwt) (.n1 O) (by first | exact dl O | decide) .z .z (Jl Mm3 Jx) fun _ _ _ q9=>?_))))))
   obtain ⟨rfl,rfl,rfl⟩:=q9
   refine JG (Jb O) (dl O) (JG (KS O O (wr64 (by omega))) (dl O) (Jg O (Jo (KG _ _ _) (.n3 O O O) (by first | exact dl O | decide) Jx fun _ _ _ q9=>?_)))
   obtain ⟨rfl,rfl,rfl⟩:=q9
   refine JG (KC O) (dl O) (Je (Jf (Jz O (by rw [hrow,decide_eq_true hn];rfl) (Jp (Jf (Jc (Jc (Ja (JG (Jb O) (dl O) (JG (Ka O O) (dl O) (Je (Jf (Jy O (fun h26=> ?_) (fun h26=> ?_))))))))))))))
   ·have hcode:delE D p n=15:=by unfold delE;rw [if_neg (fun h=>h hp),if_neg (fun h=>h hn),if_pos (by simpa using h26)]
    refine Ja (JG (Jb O) (dl O) (Jg O (KD (give_x ⟨#[68,101,108,101,116,101]⟩ p 15 (by first | exact dl O | decide)) (.n3 O O O) Jx fun _ _ _ q9=>?_)))
    obtain ⟨fp,rfl,rfl,rfl⟩:=q9
    refine K9 ?_
    refine ⟨_,_,_,_,[_,_,_,_,_,_,_,_],[_],O,⟨fp,O⟩,⟨_,_,_,_,_,_,_,_,_,_,O⟩,fun Z w hs=>((hs.pick .z2).pick .z3),fun Z w hs=>JS hs Un40 O JF O Jm O (Kj hs Un29 O O (Ji Jm) O .nil),?_,fun Z w hs=>((((((((hs.pick .z9).pick .z9).pick .z9).pick .z6).pick .z9).pick .z9).pick .z9).pick .z9).out (Sk8 (Sd2 (Sr))) (fun _ h=>h)⟩
    exact ⟨fp,O,O,by rw [hcode]⟩
   ·refine Jp (Jf (Jc ?_))
    by_cases hmd:(D.made:Int)<D.op
    ·exact absurd (by unfold delE;rw [if_neg (fun h=>h hp),if_neg (fun h=>h hn),if_neg (by simpa using h26),if_neg (fun h=>h hmd)]) hE
    ·have hcode:delE D p n=80:=by unfold delE;rw [if_neg (fun h=>h hp),if_neg (fun h=>h hn),if_neg (by simpa using h26),if_pos hmd]
     refine Ja (JG (Jb O) (dl O) (JG (Jb O) (dl O) (Jg O (QM (room_x M.d M.h M.b _ _ _ _ _ _ _ _ _ ⟨#[68,101,108,101,116,101]⟩ p (by omega)) (.n3 O O O) .z Jx fun _ _ _ q9=>?_))))
     obtain ⟨fp,rfl,rfl,rfl⟩:=q9
     refine K9 ?_
     refine ⟨_,_,_,_,[_,_,_,_,_,_,_,_],[_],O,⟨fp,O⟩,⟨_,_,_,_,_,_,_,_,_,_,O⟩,fun Z w hs=>((hs.pick .z2).pick .z3),fun Z w hs=>JS hs Un40 O JF O Jm O (Kj hs Un29 O O (Ji Jm) O .nil),?_,fun Z w hs=>((((((((hs.pick .z9).pick .z9).pick .z9).pick .z6).pick .z9).pick .z9).pick .z9).pick .z9).out (Sk8 (Sd2 (Sr))) (fun _ h=>h)⟩
     exact ⟨fp,O,O,by rw [hcode]⟩
  ·have hcode:delE D p n=12:=by unfold delE;rw [if_neg (fun h=>h hp),if_pos hn]
   refine Ja (JG (Jb O) (dl O) (JG (Jb O) (dl O) (JG (JB O) (dl O) (JG (Jh (o':=0) Un65 O Ym O O) (dl O) (Jg O (J4 (K1 M.d M.h M.b _ _ M.B M.t hwt) (.n1 O) (by first | exact dl O | decide) .z .z (Jl Mm3 Jx) fun _ _ _ q9=>?_))))))
   obtain ⟨rfl,rfl,rfl⟩:=q9
   refine JG (Jb O) (dl O) (JG (KS O O (wr64 (by omega))) (dl O) (Jg O (Jo (KG _ _ _) (.n3 O O O) (by first | exact dl O | decide) Jx fun _ _ _ q9=>?_)))
   obtain ⟨rfl,rfl,rfl⟩:=q9
   refine JG (KC O) (dl O) (Je (Jf (JQ O (by rw [hrow,decide_eq_false hn];rfl) (Ja (JG (Jb O) (dl O) (Jg O (KD (give_x ⟨#[68,101,108,101,116,101]⟩ p 12 (by first | exact dl O | decide)) (.n3 O O O) Jx fun _ _ _ q9=>?_)))))))
   obtain ⟨fp,rfl,rfl,rfl⟩:=q9
   refine K9 ?_
   refine ⟨_,_,_,_,[_,_,_,_,_,_,_,_],[_],O,⟨fp,O⟩,⟨_,_,_,_,_,_,_,_,_,_,O⟩,fun Z w hs=>((hs.pick .z2).pick .z3),fun Z w hs=>JS hs Un40 O JF O Jm O (Kj hs Un29 O O (Ji Jm) O .nil),?_,fun Z w hs=>((((((((hs.pick .z9).pick .z9).pick .z9).pick .z6).pick .z9).pick .z9).pick .z9).pick .z9).out (Sk8 (Sd2 (Sr))) (fun _ h=>h)⟩
   exact ⟨fp,O,O,by rw [hcode]⟩
 ·have hcode:delE D p n=12:=by unfold delE;rw [if_pos hp]
  refine Ja (JG (Jb O) (dl O) (JG (Jb O) (dl O) (Jg O (Xh (place_x M.d M.h M.b _ _ _ _ _ _ _ _ _ M.B M.t hwt ⟨#[68,101,108,101,116,101]⟩ p (by rw [hrow];exact hp)) (.n3 O O O) .z2 .z5 (Jl Mm3 Jx) fun _ _ _ q9=>?_))))
  obtain ⟨fp,rfl,rfl,rfl⟩:=q9
  refine K9 ?_
  refine ⟨_,_,_,_,[_,_,_,_,_,_,_,_],[_],O,⟨fp,O⟩,⟨_,_,_,_,_,_,_,_,_,_,O⟩,fun Z w hs=>((hs.pick .z2).pick .z3),fun Z w hs=>JS hs Un40 O JF O Jm O (Kj hs Un29 O O (Ji Jm) O .nil),?_,fun Z w hs=>((((((((hs.pick .z9).pick .z9).pick .z9).pick .z6).pick .z9).pick .z9).pick .z9).pick .z9).out (Sk8 (Sd2 (Sr))) (fun _ h=>h)⟩
  exact ⟨fp,O,O,by rw [hcode]⟩
theorem move_x (M:DM) (D:DS) (ok:DkOk M D) (p:Int) (hp: ¬(0≤p∧p≤J8 D.X)):Sp Tryz.prog 27 [.pointer (some ⟨M.d,0,none⟩), .int .i64 p] (Kv M D) (barF::KT M D) (fun v Lo fs=> ∃fp:Nat,v= .iface 86 (.pointer (some ⟨fp,0,none⟩))∧Lo=Kv M D∧fs= [RdF fltD (some ⟨fp,0,none⟩) 1 [(⟨#[77,111,118,101]⟩,p,12)]]):=by
 have hvl:=Kn M.t.row
 have hwt:=ok.wt
 have htl:=ok.tl
 have hrow:=ok.row
 have hpl:=ok.pl
 have hcode:=True.intro
 refine Sp.ofD (n:=15) ⟨_,Tryz.func27,O,O,O,O⟩ (Nat.le_of_ble_eq_true O) fun Ps As=>Ja (Jg O (Jv (cs:= [_]) Ye O (by decide) fun b4=>Je ?_))
 refine ⟨O,_,_,_,_,_,catch_Move b4,DefReg.mk (.n1 O) (by decide),?_⟩
 refine Jc (Ja (JG (Jb O) (dl O) (JG (Jb O) (dl O) (Jg O (Xh (place_x M.d M.h M.b _ _ _ _ _ _ _ _ _ M.B M.t hwt ⟨#[77,111,118,101]⟩ p (by rw [hrow];exact hp)) (.n3 O O O) .z1 .z4 (Jl Mm3 Jx) fun _ _ _ q9=>?_)))))
 obtain ⟨fp,rfl,rfl,rfl⟩:=q9
 refine K9 ?_
 refine ⟨_,_,_,_,[_,_,_,_,_,_,_,_],[_],O,⟨fp,O⟩,⟨_,O⟩,fun Z w hs=>(hs.pick .z2),fun Z w hs=>Kj hs Un29 O O Jm O .nil,?_,fun Z w hs=>((((((((hs.pick .z8).pick .z8).pick .z8).pick .z5).pick .z8).pick .z8).pick .z8).pick .z8).out (Sk8 (Sd (Sr))) (fun _ h=>h)⟩
 exact ⟨fp,O,O,O⟩
theorem undo_o (M:DM) (D:DS) (ok:DkOk M D) (hm: ¬((D.made:Int)<D.op)):Sp Tryz.prog 18 [.pointer (some ⟨M.d,0,none⟩)] (Kv M D) (barF::KT M D) (fun v Lo fs=> ∃fp:Nat,v= .tuple #[opV zeroOp none 0, .iface 86 (.pointer (some ⟨fp,0,none⟩))] ∧Lo=Kv M D∧fs= [RdF fltD (some ⟨fp,0,none⟩) 1 [(⟨#[85,110,100,111]⟩,0,80)]]):=by
 have hvl:=Kn M.t.row
 have hwt:=ok.wt
 have htl:=ok.tl
 have hrow:=ok.row
 have hpl:=ok.pl
 refine Sp.ofD (n:=27) ⟨_,Tryz.func18,O,O,O,O⟩ (Nat.le_of_ble_eq_true O) fun Ps As=>Ja (Jg O (Jv (cs:= [_,_,_,_,_,_,_,_,_]) JF O (by decide) fun b2=>Jg O (Jv (cs:= [_]) Ye O (by decide) fun b3=>Je ?_)))
 refine ⟨O,_,_,_,_,_,catch_Undo b2 b3,DefReg.mk (.n2 O O) (by decide),?_⟩
 refine Jc (Ja (JG (Jb O) (dl O) (Jg O (QM (room_x M.d M.h M.b _ _ _ _ _ _ _ _ _ ⟨#[85,110,100,111]⟩ 0 (by omega)) (.n3 O O O) .z2 Jx fun _ _ _ q9=>?_))))
 obtain ⟨fp,rfl,rfl,rfl⟩:=q9
 refine K9 ?_
 refine ⟨_,_,_,_,[_,_,_,_,_,_,_,_],[_],O,⟨fp,O⟩,⟨_,_,_,_,_,_,_,_,_,_,O⟩,fun Z w hs=>((hs.pick .z1).pick .z2),fun Z w hs=>JS hs Un40 O JF O Jm O (Kj hs Un29 O O (Ji Jm) O .nil),?_,fun Z w hs=>hs.out (Sd2 (Sk8 (Sr))) (fun _ h=>h)⟩
 exact ⟨fp,O,O,O⟩
theorem redo_o (M:DM) (D:DS) (ok:DkOk M D) (hm: ¬((D.made:Int)<D.op)):Sp Tryz.prog 28 [.pointer (some ⟨M.d,0,none⟩)] (Kv M D) (barF::KT M D) (fun v Lo fs=> ∃fp:Nat,v= .tuple #[opV zeroOp none 0, .iface 86 (.pointer (some ⟨fp,0,none⟩))] ∧Lo=Kv M D∧fs= [RdF fltD (some ⟨fp,0,none⟩) 1 [(⟨#[82,101,100,111]⟩,0,80)]]):=by
 have hvl:=Kn M.t.row
 have hwt:=ok.wt
 have htl:=ok.tl
 have hrow:=ok.row
 have hpl:=ok.pl
 refine Sp.ofD (n:=27) ⟨_,Tryz.func28,O,O,O,O⟩ (Nat.le_of_ble_eq_true O) fun Ps As=>Ja (Jg O (Jv (cs:= [_,_,_,_,_,_,_,_,_]) JF O (by decide) fun b2=>Jg O (Jv (cs:= [_]) Ye O (by decide) fun b3=>Je ?_)))
 refine ⟨O,_,_,_,_,_,catch_Redo b2 b3,DefReg.mk (.n2 O O) (by decide),?_⟩
 refine Jc (Ja (JG (Jb O) (dl O) (Jg O (QM (room_x M.d M.h M.b _ _ _ _ _ _ _ _ _ ⟨#[82,101,100,111]⟩ 0 (by omega)) (.n3 O O O) .z2 Jx fun _ _ _ q9=>?_))))
 obtain ⟨fp,rfl,rfl,rfl⟩:=q9
 refine K9 ?_
 refine ⟨_,_,_,_,[_,_,_,_,_,_,_,_],[_],O,⟨fp,O⟩,⟨_,_,_,_,_,_,_,_,_,_,O⟩,fun Z w hs=>((hs.pick .z1).pick .z2),fun Z w hs=>JS hs Un40 O JF O Jm O (Kj hs Un29 O O (Ji Jm) O .nil),?_,fun Z w hs=>hs.out (Sd2 (Sk8 (Sr))) (fun _ h=>h)⟩
 exact ⟨fp,O,O,O⟩
theorem turn_o (M:DM) (D:DS) (ok:DkOk M D) (i0 i1:Int) (on:Bool) (hm: ¬((D.made:Int)<D.op)):Sp Tryz.prog 29 [.pointer (some ⟨M.d,0,none⟩), .agg #[.int .i64 i0, .int .i64 i1], .bool on] (Kv M D) (barF::KT M D) (fun v Lo fs=> ∃fp:Nat,v= .tuple #[opV zeroOp none 0, .iface 86 (.pointer (some ⟨fp,0,none⟩))] ∧Lo=Kv M D∧fs= [RdF fltD (some ⟨fp,0,none⟩) 1 [(⟨#[84,117,114,110]⟩,0,80)]]):=by
 have hvl:=Kn M.t.row
 have hwt:=ok.wt
 have htl:=ok.tl
 have hrow:=ok.row
 have hpl:=ok.pl
 refine Sp.ofD (n:=30) ⟨_,Tryz.func29,O,O,O,O⟩ (Nat.le_of_ble_eq_true O) fun Ps As=>Ja (Jg O (J1 (cs:= [_,_]) O O (by decide) fun b4=>Jg O (Jv (cs:= [_,_,_,_,_,_,_,_,_]) JF O (by decide) fun b6=>Jg O (Jv (cs:= [_]) Ye O (by decide) fun b7=>Je ?_))))
 refine ⟨O,_,_,_,_,_,catch_Turn b6 b7,DefReg.mk (.n2 O O) (by decide),?_⟩
 refine Jc (Ja (JG (Jb O) (dl O) (Jg O (QM (room_x M.d M.h M.b _ _ _ _ _ _ _ _ _ ⟨#[84,117,114,110]⟩ 0 (by omega)) (.n3 O O O) .z3 Jx fun _ _ _ q9=>?_))))
 obtain ⟨fp,rfl,rfl,rfl⟩:=q9
 refine K9 ?_
 refine ⟨_,_,_,_,[_,_,_,_,_,_,_,_],[_],O,⟨fp,O⟩,⟨_,_,_,_,_,_,_,_,_,_,O⟩,fun Z w hs=>((hs.pick .z1).pick .z2),fun Z w hs=>JS hs Un40 O JF O Jm O (Kj hs Un29 O O (Ji Jm) O .nil),?_,fun Z w hs=>hs.out (Sd2 (Sk (Sd (Sk7 (Sr))))) (fun _ h=>h)⟩
 exact ⟨fp,O,O,O⟩
theorem confirm_e (M:DM) (D:DS) (ok:DkOk M D) (i0 i1:Int) (hg:D.got=D.H.ops.length):Sp Tryz.prog 32 [.pointer (some ⟨M.d,0,none⟩), .agg #[.int .i64 i0, .int .i64 i1]] (Kv M D) (barF::KT M D) (fun v Lo fs=> ∃fp:Nat,v= .iface 86 (.pointer (some ⟨fp,0,none⟩))∧Lo=Kv M D∧fs= [RdF fltD (some ⟨fp,0,none⟩) 1 [(⟨#[67,111,110,102,105,114,109]⟩,0,15)]]):=by
 have hvl:=Kn M.t.row
 have hwt:=ok.wt
 have htl:=ok.tl
 have hrow:=ok.row
 have hpl:=ok.pl
 refine Sp.ofD (n:=43) ⟨_,Tryz.func32,O,O,O,O⟩ (Nat.le_of_ble_eq_true O) fun Ps As=>Ja (Jg O (J1 (cs:= [_,_]) O O (by decide) fun b3=>Jg O (Jv (cs:= [_]) Ye O (by decide) fun b4=>Je ?_)))
 refine ⟨O,_,_,_,_,_,catch_Confirm b4,DefReg.mk (.n1 O) (by decide),?_⟩
 refine Jc (Jc (Jt .z3 (Jt .z3 (K7 (JI _ _ [] (.c 0 0 (.c 1 0 (.c 2 0 (.c 3 0 (.c 4 0 (.c 5 0 (.c 6 0 (.c 7 2 (.c 8 0 .nil))))))))) mixed (fun _ _ _ _ h=>h) (Sk (Sd (Sk8 (Sr)))) (fun _ h=>h) (by kernel_rfl) (by first | exact dl O | decide) fun ws Z0=>JE O (Jb O) (dl O) (JE O (JB O) (dl O) (JE O (Jh (o':=6) Un65 O ti3 O O) (dl O) (JE O (Jj Un3 O O Jm O) (dl O) (JE O (Jb O) (dl O) ?_)))))))))
 refine JE O (JB O) (dl O) (JE O (Jh (o':=0) Un65 O Ym O O) (dl O) (Js O O (J4 (YF M.d M.h M.m M.b D.H.ops.length M.cap _ _ M.A D.H.total) (.n1 O) (by first | exact dl O | decide) .z .z Jx fun _ _ _ q9=>?_)))
 obtain ⟨rfl,rfl,rfl⟩:=q9
 refine ⟨⟨(Sk (Sd (Sk8 (Sr)))),Mm0⟩,?_⟩
 refine JE O (Ka O O) (dl O) (JJ (JK (Jf (JQ O (by simp [hg]) (Ja (Jg O (KD (give_x ⟨#[67,111,110,102,105,114,109]⟩ 0 15 (by first | exact dl O | decide)) (.n3 O O O) Jx fun _ _ _ q9=>?_)))))))
 obtain ⟨fp,rfl,rfl,rfl⟩:=q9
 refine K9 ?_
 refine ⟨_,_,_,_,[_,_,_,_,_,_,_,_],[_],O,⟨fp,O⟩,⟨_,O⟩,fun Z w hs=>(hs.pick .z2),fun Z w hs=>Kj hs Un29 O O Jm O .nil,?_,fun Z w hs=>hs.out (Sd (Sk2 (Sd (Sk6 (Sr))))) (Jl Mm0 Tt2)⟩
 exact ⟨fp,O,O,O⟩
theorem confirm_u (M:DM) (D:DS) (ok:DkOk M D) (i0 i1:Int) (hg:D.got<D.H.ents.length) (hne: ¬(D.H.ents[D.got].op.c=i0∧D.H.ents[D.got].op.n=i1)):Sp Tryz.prog 32 [.pointer (some ⟨M.d,0,none⟩), .agg #[.int .i64 i0, .int .i64 i1]] (Kv M D) (barF::KT M D) (fun v Lo fs=> ∃fp:Nat,v= .iface 86 (.pointer (some ⟨fp,0,none⟩))∧Lo=Kv M D∧fs= [RdF fltD (some ⟨fp,0,none⟩) 1 [(⟨#[67,111,110,102,105,114,109]⟩,0,60)]]):=by
 have hvl:=Kn M.t.row
 have hwt:=ok.wt
 have htl:=ok.tl
 have hrow:=ok.row
 have hpl:=ok.pl
 have hr:=ok.hr
 have hn:=ok.n
 have hdi:=ok.di
 have hle:=hdi.le
 have hen:(entE D.H.ents[D.got]).c=D.H.ents[D.got].op.c∧(entE D.H.ents[D.got]).n=D.H.ents[D.got].op.n:=by
  unfold entE
  split<;>exact ⟨rfl,rfl⟩
 refine Sp.ofD (n:=43) ⟨_,Tryz.func32,O,O,O,O⟩ (Nat.le_of_ble_eq_true O) fun Ps As=>Ja (Jg O (J1 (cs:= [_,_]) O O (by decide) fun b3=>Jg O (Jv (cs:= [_]) Ye O (by decide) fun b4=>Je ?_)))
 refine ⟨O,_,_,_,_,_,catch_Confirm b4,DefReg.mk (.n1 O) (by decide),?_⟩
 refine Jc (Jc (Jt .z3 (Jt .z3 (K7 (JI _ _ [] (.c 0 0 (.c 1 0 (.c 2 0 (.c 3 0 (.c 4 0 (.c 5 0 (.c 6 0 (.c 7 2 (.c 8 0 .nil))))))))) mixed (fun _ _ _ _ h=>h) (Sk (Sd (Sk8 (Sr)))) (fun _ h=>h) (by kernel_rfl) (by first | exact dl O | decide) fun ws Z0=>JE O (Jb O) (dl O) (JE O (JB O) (dl O) (JE O (Jh (o':=6) Un65 O ti3 O O) (dl O) (JE O (Jj Un3 O O Jm O) (dl O) (JE O (Jb O) (dl O) ?_)))))))))
 refine JE O (JB O) (dl O) (JE O (Jh (o':=0) Un65 O Ym O O) (dl O) (Js O O (J4 (YF M.d M.h M.m M.b D.H.ops.length M.cap _ _ M.A D.H.total) (.n1 O) (by first | exact dl O | decide) .z .z Jx fun _ _ _ q9=>?_)))
 obtain ⟨rfl,rfl,rfl⟩:=q9
 refine ⟨⟨(Sk (Sd (Sk8 (Sr)))),Mm0⟩,?_⟩
 refine JE O (Ka O O) (dl O) (JJ (JK (Jf (Jz O (by simp;omega) (Jp (Jf (Jc (K7 (JI _ _ [14] (.c 0 0 (.c 1 0 (.c 2 0 (.c 3 0 (.c 4 0 (.c 5 0 (.c 6 0 (.c 7 0 (.c 8 0 (.b (.c 9 2 (.c 10 0 (.c 11 0 (.c 12 1 (.c 13 2 (.c 14 3 (.c 15 1 .nil))))))) (.c 13 2 (.c 9 2 (.c 10 0 (.c 11 0 (.c 12 1 (.c 14 3 (.c 15 1 .nil))))))))))))))))) mixed (fun _ _ _ _ h=>h) (Sk (Sd (Sk2 (Sd2 (Sk4 (Sr)))))) (fun _ h=>h) (by kernel_rfl) (by first | exact dl O | decide) fun ws Z0=>JE O (Jb O) (dl O) (JE O (JB O) (dl O) ?_))))))))))
 refine JE O (Jh (o':=0) Un65 O Ym O O) (dl O) (JE O (Jh (o':=0) Un58 O Vm O O) (dl O) (JE O (Jj Un55 O O Jm O) (dl O) (JE O (Jb O) (dl O) (JE O (JB O) (dl O) (JE O (Jh (o':=6) Un65 O ti3 O O) (dl O) (JE O (Jj Un3 O O Jm O) (dl O) (KN ?_ ?_)))))))
 ·refine Js O O (Ky (VG M.h M.m M.cap M.A D.H M.L hr D.got) (.n2 O O) (by first | exact dl O | decide) .z1 .z3 .z3 (Jl Mm3 (Jl Mm4 Jx)) fun _ _ _ q9=>?_)
  obtain ⟨A9,c9,rfl,rfl,rfl⟩:=q9
  rw [Yj hg]
  refine ⟨⟨(Sd3 (Sk7 (Sr))),Mm1⟩,?_⟩
  refine JE O (Jb O) (dl O) (JE O (Jk (vs:= [_,_]) O O) (dl O) (YW O (Jk (vs:= [_,_]) O O) (dl O) (Js O O (Jv (cs:= [_,_,_,_,_,_,_]) YI O (by first | exact dl O | decide) fun b5=> ?_))))
  refine ⟨⟨(Sd4 (Sk7 (Sr))),Mm1⟩,?_⟩
  refine JJ (J2 O O (Jq (cs':= [_,_,_,_,_,_,_]) (vs:= [_,_,_,_,_,_,_]) YI O O O O O (Nat.le_of_ble_eq_true O) .z (YM O (Jd O) (dl O) (JK (Jf (Jc (Jc (Ja (JG (Jh (o':=0) Un117 O JY O O) (dl O) (JG (Jw (vs:= [_,_]) Un34 O JY O Jm O O) (dl O) (JG (Jw (vs:= [_,_]) Un34 O JY O (Ji (Ji (Ji (Ji (Ji (Ji (Jm))))))) O O) (dl O) (JG (Ya O O (eq34 _ _ _ _)) (dl O) (Je (Jf (JQ O (by rw [hen.1,hen.2];simp;exact Decidable.not_and_iff_or_not.1 hne) ?_)))))))))))))))
  refine Ja (Jg O (KD (give_x ⟨#[67,111,110,102,105,114,109]⟩ 0 60 (by first | exact dl O | decide)) (.n3 O O O) Jx fun _ _ _ q9=>?_))
  obtain ⟨fp,rfl,rfl,rfl⟩:=q9
  refine K9 ?_
  refine ⟨_,_,_,_,[_,_,_,_,_,_,_,_],[_],O,⟨fp,O⟩,⟨_,O⟩,fun Z w hs=>(hs.pick .z5),fun Z w hs=>Kj hs Un29 O O Jm O .nil,?_,fun Z w hs=>((((((((hs.pick .z10).pick .z10).pick .z10).pick .z10).pick .z8).pick .z8).pick .z8).pick .z9).out (Sk8 (Sd3 (Sr))) (Jl Mm0 Tt4)⟩
  exact ⟨fp,O,O,O⟩
 ·refine Js O O (Jv (cs:= [_,_,_,_,_,_,_]) YI O (by first | exact dl O | decide) fun b5=> ?_)
  refine ⟨⟨(Sd (Sk (Sd (Sk2 (Sd2 (Sk4 (Sr))))))),Mm0⟩,?_⟩
  refine Js O O (Ky (VG M.h M.m M.cap M.A D.H M.L hr D.got) (.n2 O O) (by first | exact dl O | decide) .z2 .z4 .z4 (Jl Mm3 (Jl Mm4 Jx)) fun _ _ _ q9=>?_)
  obtain ⟨A9,c9,rfl,rfl,rfl⟩:=q9
  rw [Yj hg]
  refine ⟨⟨(Sd4 (Sk7 (Sr))),Mm1⟩,?_⟩
  refine JE O (Jb O) (dl O) (JE O (Jk (vs:= [_,_]) O O) (dl O) (YW O (Jk (vs:= [_,_]) O O) (dl O) (JJ (J2 O O (Jq (cs':= [_,_,_,_,_,_,_]) (vs:= [_,_,_,_,_,_,_]) YI O O O O O (Nat.le_of_ble_eq_true O) .z3 (YM O (Jd O) (dl O) (JK (Jf (Jc (Jc (Ja (JG (Jh (o':=0) Un117 O JY O O) (dl O) (JG (Jw (vs:= [_,_]) Un34 O JY O (Ji (Ji (Ji (Jm)))) O O) (dl O) (JG (Jw (vs:= [_,_]) Un34 O JY O (Ji (Ji (Ji (Ji (Ji (Ji (Jm))))))) O O) (dl O) ?_))))))))))))))
  refine JG (Ya O O (eq34 _ _ _ _)) (dl O) (Je (Jf (JQ O (by rw [hen.1,hen.2];simp;exact Decidable.not_and_iff_or_not.1 hne) (Ja (Jg O (KD (give_x ⟨#[67,111,110,102,105,114,109]⟩ 0 60 (by first | exact dl O | decide)) (.n3 O O O) Jx fun _ _ _ q9=>?_))))))
  obtain ⟨fp,rfl,rfl,rfl⟩:=q9
  refine K9 ?_
  refine ⟨_,_,_,_,[_,_,_,_,_,_,_,_],[_],O,⟨fp,O⟩,⟨_,O⟩,fun Z w hs=>(hs.pick .z5),fun Z w hs=>Kj hs Un29 O O Jm O .nil,?_,fun Z w hs=>((((((((hs.pick .z10).pick .z10).pick .z10).pick .z10).pick .z7).pick .z7).pick .z7).pick .z9).out (Sk8 (Sd3 (Sr))) (Jl Mm0 Tt4)⟩
  exact ⟨fp,O,O,O⟩
theorem fits_w (h m cap:Nat) (A:Option Addr) (H:Hist) (L:List MR) (hr:HR H L) (i:Int) (o:GOp) (Ao:Option Addr) (co:Nat) (hot:o.text.size≤2305843009213693952) (hor:o.rs.length≤8796093022208):Sp Tryz.prog 115 [.pointer (some ⟨h,0,none⟩), .int .i64 i,opV o Ao co] [hdP h A H.ops.length cap m H.total,mpP m L,mkP L] [barF,RdF opD A cap H.ops,RdF rgD Ao co o.rs] (HIs (.int .i64 (fitsF H i o)) [hdP h A H.ops.length cap m H.total,mpP m L,mkP L]):=by
 have hol:=KY H
 have hlen:=hr.len
 refine Sp.of (n:=91) ⟨_,Tryz.func115,O,O,O,O⟩ (Nat.le_of_ble_eq_true O) fun Ps As=>Jc (Ja (Jg O (J1 (cs:= [_,_,_,_,_,_,_,_,_]) O O (by decide) fun b5=>Lq (Jd O) (Je (Jf (Jc (Jc (Ja (Lq (Jb O) (Lq (Ku O O) (Lq (Jb O) (JU (t:=11) O (fun g11=> ?_) (fun g11=> ?_)))))))))))))
 ·refine Ln O O O g11 (Ln O O O g11 (Ln O O O g11 (Ln O O O g11 (Ln O O O g11 (Ln O O O g11 (Ln O O O g11 (Lq (JH O g11 O) (Je (Jf (JL [(19,_),(6,_),(5,_),(0,_),(1,_)] (.m5 O O O O O) ?_))))))))))
  refine JQ O O (Jc (Ja (Lq (Jd O) (Je (Jf (Jn (Jr ?_)))))))
  refine ⟨_,[_,_,_],[],fun Z w hs=> .tmp O .nil,?_,fun Z w hs=>hs.out (Sd (Sk3 (Sr))) (fun _ h=>h)⟩
  try simp only [Bp,Bq] at *
  refine ⟨congrArg (Value.int .i64) ?_,O,O⟩
  unfold fitsF fitsT fitsRest
  first | (simp_all;done) | (simp_all;omega) | (repeat' split;all_goals first | rfl | omega | (simp_all;done) | (simp_all;omega))
 ·refine Lg O O O g11 (Jb O) (Lg O O O g11 (Jb O) (Lg O O O g11 (JB O) (Lg O O O g11 (Jh (o':=0) Un125 O YV O O) (Lg O O O g11 (Jj Un44 O O (Ji (Jm)) O) (Lg O O O g11 (J7 Un44 O) (Lg O O O g11 (Ke O O) (Lq (JA O g11 O) (Je (Jf (JL [(19,_),(6,_),(5,_),(0,_),(1,_)] (.m5 O O O O O) ?_))))))))))
  refine Jy O (fun h19=> ?_) (fun h19=> ?_)
  ·refine Jc (Ja (Lq (Jd O) (Je (Jf (Jn (Jr ?_))))))
   refine ⟨_,[_,_,_],[],fun Z w hs=> .tmp O .nil,?_,fun Z w hs=>hs.out (Sd (Sk3 (Sr))) (fun _ h=>h)⟩
   try simp only [Bp,Bq] at *
   refine ⟨congrArg (Value.int .i64) ?_,O,O⟩
   unfold fitsF fitsT fitsRest
   first | (simp_all;done) | (simp_all;omega) | (repeat' split;all_goals first | rfl | omega | (simp_all;done) | (simp_all;omega))
  ·refine Jp (Jf (Jc (Jc ?_)))
   try simp only [Bp,Bq] at *
   obtain ⟨i,rfl⟩: ∃k:Nat,i=(k:Int):=⟨i.toNat,by omega⟩
   refine JI _ _ [] (.c 0 0 (.c 1 0 (.c 2 0 (.c 3 2 (.c 4 2 (.c 5 0 .nil)))))) mixed (fun _ _ _ _ h=>h) (Sk (Sd (Sk2 (Sr)))) (fun _ h=>h) (by kernel_rfl) (by decide) fun ws Z0=>Qe O (Jw (vs:= [_,_,_,_,_,_,_,_,_]) Un40 O JF O Jm O O) (Qe O (Jb O) (Qe O (Jb O) (Js O O (JX (EJ h m cap A H L hr i (by omega)) (.n2 O O) (by decide) .z1 (Jl Mm1 (Jl Mm2 Jx)) fun _ _ _ q9=>?_))))
   obtain ⟨rfl,rfl,rfl⟩:=q9
   refine ⟨⟨(Sd (Sk3 (Sr))),Mm0⟩,?_⟩
   refine Js O O (Jo (Y9 o Ao co (K2 H i) (by have:=hot;omega) hor) (.n2 O O) (by decide) (Jl Mm1 (Jl Mm3 Jx)) fun _ _ _ q9=>?_)
   obtain ⟨rfl,rfl,rfl⟩:=q9
   refine ⟨⟨(Sd (Sk3 (Sr))),Mm0⟩,?_⟩
   refine Qe O (Jd O) (JJ (JK (Jf (Jc (Ja (Lq (Jb O) (Lq (Kp O O) (Je (Jf (Jy O (fun h26=> ?_) (fun h26=> ?_)))))))))))
   ·refine Jc (Ja (Lq (Jb O) (Lq (Jd O) (Je (Jf (JL [(6,_),(5,_),(0,_),(1,_)] (.m4 O O O O) (Jn (Jr ?_))))))))
    refine ⟨_,[_,_,_],[],fun Z w hs=> .tmp O .nil,?_,fun Z w hs=>hs.out (Sk (Sd (Sk2 (Sr)))) Tt1⟩
    try simp only [Bp,Bq] at *
    refine ⟨congrArg (Value.int .i64) ?_,O,O⟩
    unfold fitsF fitsT fitsRest
    first | (simp_all;done) | (simp_all;omega) | (repeat' split;all_goals first | rfl | omega | (simp_all;done) | (simp_all;omega))
   ·refine Jp (Jf (Jc (JO (Jc (Ja (Lq (Jh (o':=0) Un40 O KI O O) (Lq (Jh (o':=2) Un37 O Yu O O) (Lq (Jj Un35 O O (Ji (Jm)) O) (Lq (Ka O O) (Lq (Jd O) (Je (Jf (JL [(28,_),(6,_),(5,_),(0,_),(1,_)] (.m5 O O O O O) (Jy O (fun h28=> ?_) (fun h28=> ?_)))))))))))))))
    ·refine Jc (Ja (Lq (Jd O) (Je (Jf (Jn (JM (Jr ?_)))))))
     refine ⟨_,[_,_,_],[],fun Z w hs=> .tmp O .nil,?_,fun Z w hs=>hs.out (Sk (Sd (Sk2 (Sr)))) Tt1⟩
     try simp only [Bp,Bq] at *
     refine ⟨congrArg (Value.int .i64) ?_,O,O⟩
     unfold fitsF fitsT fitsRest
     first | (simp_all;done) | (simp_all;omega) | (repeat' split;all_goals first | rfl | omega | (simp_all;done) | (simp_all;omega))
    ·refine Jc (Ja (Lq (Jh (o':=0) Un40 O KI O O) (Lq (Jh (o':=0) Un37 O JY O O) (Lq (Jw (vs:= [_,_]) Un34 O JY O (Ji (Jm)) O O) (Lq (JV .nil (bd25Xw13)) (Lq (Qd O O (eq34 _ _ _ _)) (Lq (Jd O) (Je (Jf (Jy O (fun h33=> ?_) (fun h33=> ?_)))))))))))
     ·refine Jc (Ja (Lq (Jd O) (Je (Jf (Jn (JM (Jr ?_)))))))
      refine ⟨_,[_,_,_],[],fun Z w hs=> .tmp O .nil,?_,fun Z w hs=>hs.out (Sk (Sd (Sk2 (Sr)))) Tt1⟩
      try simp only [Bp,Bq] at *
      refine ⟨congrArg (Value.int .i64) ?_,O,O⟩
      unfold fitsF fitsT fitsRest
      first | (simp_all;done) | (simp_all;omega) | (repeat' split;all_goals first | rfl | omega | (simp_all;done) | (simp_all;omega))
     ·refine Jc ?_
      cases hwd:J5 H.ents o.c o.n with
      | none=>
       have hgd:=hr.look0 hwd
       refine JI _ _ [] (.c 0 0 (.c 1 0 (.c 2 0 (.c 3 0 (.c 4 0 (.c 5 0 (.c 6 0 (.c 7 0 (.c 8 0 (.c 9 0 .nil)))))))))) mixed (fun _ _ _ _ h=>h) (Sk4 (Sr)) (fun _ h=>h) (by kernel_rfl) (by decide) fun ws Z0=>Qe O (Jb O) (Qe O (JB O) (Qe O (Jh (o':=1) Un125 O YY O O) (Qe O (Jj Un123 O O Jm O) (Qe O (Jh (o':=0) Un40 O KI O O) (Qe O (Jh (o':=0) Un37 O JY O O) (Qe O (Jw (vs:= [_,_]) Un34 O JY O (Ji (Jm)) O O) (Qe O (VD keyT hgd Un123 Y3 O O (Ji (Ji (Jm)))) (Qe O (QA Un161 O O (by simp)) ?_))))))))
       refine Qe O (Jd O) (JJ (JK (Jf (JL [(39,_),(6,_),(5,_),(0,_),(1,_)] (.m5 O O O O O) (Jz O O (Jp (J9 (Jf (Jc (Jc (Ja (Lq (Jh (o':=0) Un40 O KI O O) (Lq (Jh (o':=2) Un37 O Yu O O) (Lq (Jj Un35 O O (Ji (Jm)) O) (Lq (Ka O O) (Je (Jf ?_)))))))))))))))))
       refine Jy O (fun h52=> ?_) (fun h52=> ?_)
       ·refine Jc ?_
        cases hwt:J5 H.ents o.tc o.tn with
        | none=>
         have hgt:=hr.look0 hwt
         refine JI _ _ [] (.c 0 0 (.c 1 0 (.c 2 0 (.c 3 0 (.c 4 0 (.c 5 0 (.c 6 0 (.c 7 0 .nil)))))))) mixed (fun _ _ _ _ h=>h) (Sk4 (Sr)) (fun _ h=>h) (by kernel_rfl) (by decide) fun ws Z0=>Qe O (Jb O) (Qe O (JB O) (Qe O (Jh (o':=1) Un125 O YY O O) (Qe O (Jj Un123 O O Jm O) (Qe O (Jh (o':=6) Un40 O JY O O) (Qe O (Jw (vs:= [_,_]) Un34 O JY O (Ji (Jm)) O O) (Qe O (VD keyT hgt Un123 Y3 O O (Ji (Ji (Jm)))) (Qe O (Jd O) (JJ (JK ?_)))))))))
         refine Jf (JL [(8,_),(6,_),(5,_),(0,_),(1,_)] (.m5 O O O O O) (Jc (Jc (Ja (Lq (Jb O) (Lq (KK Un161 O O (by simp)) (Lq (Jb O) (Ln O O O O (Ln O O O O (Ln O O O O (Ln O O O O ?_)))))))))))
         refine Ln O O O O (Ln O O O O (Lq (JH O O O) (Je (Jf (JL [(69,_),(8,_),(6,_),(5,_),(0,_)] (.m5 O O O O O) (JQ O O (Jc (Ja (Lq (Jd O) (Je (Jf (Jn (Jr (Jr ?_))))))))))))))
         refine ⟨_,[_,_,_],[],fun Z w hs=> .tmp O .nil,?_,fun Z w hs=>hs.out (Sk (Sd (Sk2 (Sr)))) Tt3⟩
         try simp only [Bp,Bq] at *
         refine ⟨congrArg (Value.int .i64) ?_,O,O⟩
         unfold fitsF fitsT fitsRest
         first | (simp_all;done) | (simp_all;omega) | (repeat' split;all_goals first | rfl | omega | (simp_all;done) | (simp_all;omega))
        | some kt=>
         obtain ⟨hkt,jt,xt,hct,hnt,hjt,hmt,hgt⟩:=hr.look1 hwt
         obtain ⟨xmt,xbt,xAt,xct⟩:=xt
         obtain rfl:xmt=markAt kt H.ents[kt] :=hmt
         refine JI _ _ [] (.c 0 0 (.c 1 0 (.c 2 0 (.c 3 0 (.c 4 0 (.c 5 0 (.c 6 0 (.c 7 0 .nil)))))))) mixed (fun _ _ _ _ h=>h) (Sk4 (Sr)) (fun _ h=>h) (by kernel_rfl) (by decide) fun ws Z0=>Qe O (Jb O) (Qe O (JB O) (Qe O (Jh (o':=1) Un125 O YY O O) (Qe O (Jj Un123 O O Jm O) (Qe O (Jh (o':=6) Un40 O JY O O) (Qe O (Jw (vs:= [_,_]) Un34 O JY O (Ji (Jm)) O O) (Qe O (YN keyT hgt Un123 Y3 O O (Ji (Ji (Jm)))) (Qe O (Jd O) (JJ (JK ?_)))))))))
         refine Jf (JL [(8,_),(6,_),(5,_),(0,_),(1,_)] (.m5 O O O O O) (Jc (Jc (Ja (Lq (Jb O) (Lq (KK Un161 O O (by simp)) (Lq (Jb O) (Lg O O O O (Jb O) (Lg O O O O (JB O) (Lg O O O O (Jh (o':=0) Un165 O ti3 O O) (Lg O O O O (Jj (v:= .int .i64 (kt:Int)) Un3 O O (Ji (Ji (Ji (ownI (Yq hjt))))) O) ?_)))))))))))
         refine Lg O O O O (Jb O) (Lg O O O O (Yl O O) (Lq (JA O O O) (Je (Jf (JL [(69,_),(8,_),(6,_),(5,_),(0,_)] (.m5 O O O O O) (Jy O (fun h69=> ?_) (fun h69=> ?_)))))))
         ·refine Jc (Ja (Lq (Jd O) (Je (Jf (Jn (Jr (Jr ?_)))))))
          refine ⟨_,[_,_,_],[],fun Z w hs=> .tmp O .nil,?_,fun Z w hs=>hs.out (Sk (Sd (Sk2 (Sr)))) Tt3⟩
          try simp only [Bp,Bq] at *
          refine ⟨congrArg (Value.int .i64) ?_,O,O⟩
          unfold fitsF fitsT fitsRest
          first | (simp_all;done) | (simp_all;omega) | (repeat' split;all_goals first | rfl | omega | (simp_all;done) | (simp_all;omega))
         ·refine Jp (Jf (Jc ?_))
          have hko:kt<H.ops.length:=by omega
          refine Kh (k:=kt) Mm4 (List.getElem?_eq_getElem hko) (op_open _) fun bo qo yo eo=> ?_
          cases eo
          have hop:=QB hkt
          refine JI _ _ [] (.c 0 0 (.c 1 0 (.c 2 0 (.c 3 0 (.c 4 0 (.c 5 0 (.c 6 0 (.c 7 0 (.c 8 0 (.c 9 0 (.c 10 0 (.c 11 0 (.c 12 0 .nil))))))))))))) mixed (fun _ _ _ _ h=>h) (Sk4 (Sr)) (fun _ h=>h) (by kernel_rfl) (by decide) fun ws Z0=>Qe O (Jb O) (Qe O (JB O) (Qe O (Jh (o':=0) Un125 O YV O O) (Qe O (Jj Un44 O O Jm O) (Qe O (Jb O) (Qe O (JB O) (Qe O (Jh (o':=0) Un165 O ti3 O O) (Qe O (Jj (v:= .int .i64 (kt:Int)) Un3 O O (Ji (Ji (Ji (ownI (Yq hjt))))) O) (Qe O (Kc Un44 JF O O (by omega) (by omega)) ?_))))))))
          refine Qe O (Jh (o':=_+0) Un40 O KI O O) (Qe O (Jh (o':=_+2) Un37 O Yu O O) (Qe O (Ks (j:=2) Un35 O O Mm0 O O) (Qe O (Ka O O) (JJ (JK (Jf (JL [(82,_),(6,_),(5,_),(0,_)] (.m4 O O O O) (Jy O (fun h82=> ?_) (fun h82=> ?_)))))))))
          ·refine Jc (Ja (Lq (Jd O) (Je (Jf (Jn (Jr ?_))))))
           refine ⟨_,[_,_,_],[],fun Z w hs=> .tmp O .nil,?_,fun Z w hs=>hs.out (Sk (Sd (Sk2 (Sr)))) Tt6⟩
           try simp only [Bp,Bq] at *
           refine ⟨congrArg (Value.int .i64) ?_,O,O⟩
           unfold fitsF fitsT fitsRest
           first | (simp_all;done) | (simp_all;omega) | (repeat' split;all_goals first | rfl | omega | (simp_all;done) | (simp_all;omega))
          ·refine Jp (Jf (Jc (Jc (JI _ _ [] (.c 0 0 (.c 1 0 (.c 2 0 (.c 3 0 (.c 4 0 (.c 5 2 (.c 6 0 (.c 7 0 .nil)))))))) mixed (fun _ _ _ _ h=>h) (Sk4 (Sr)) (fun _ h=>h) (by kernel_rfl) (by decide) fun ws Z0=>Qe O (Jb O) (Qe O (JB O) (Qe O (Jh (o':=2) Un125 O ti3 O O) (Qe O (Jj Un3 O O Jm O) (Qe O (Jw (vs:= [_,_,_,_,_,_,_,_,_]) Un40 O JF O (Ji (Jm)) O O) (Js O O (Jo (Yh o Ao co (by have:=hot;omega)) (.n1 O) (by decide) (Jl Mm7 Jx) fun _ _ _ q9=>?_))))))))))
           obtain ⟨rfl,rfl,rfl⟩:=q9
           refine ⟨⟨(Sk4 (Sr)),Mm0⟩,?_⟩
           refine Qe O (JZ O O (wr64 (by have:=hr.tot;have:=KF o;have:=hot;omega))) (Qe O (Ke O O) (JJ (JK (Jf (Jy O (fun h90=> ?_) (fun h90=> ?_))))))
           ·refine Jc (Ja (Lq (Jd O) (Je (Jf (Jn (Jr ?_))))))
            refine ⟨_,[_,_,_],[],fun Z w hs=> .tmp O .nil,?_,fun Z w hs=>hs.out (Sk (Sd (Sk2 (Sr)))) Tt7⟩
            try simp only [Bp,Bq] at *
            refine ⟨congrArg (Value.int .i64) ?_,O,O⟩
            unfold fitsF fitsT fitsRest
            first | (simp_all;done) | (simp_all;omega) | (repeat' split;all_goals first | rfl | omega | (simp_all;done) | (simp_all;omega))
           ·refine Jp (Jf (Jc (Ja (Lq (Jd O) (Je (Jf (Jn ?_)))))))
            refine ⟨_,[_,_,_],[],fun Z w hs=> .tmp O .nil,?_,fun Z w hs=>hs.out (Sk (Sd (Sk2 (Sr)))) Tt7⟩
            try simp only [Bp,Bq] at *
            refine ⟨congrArg (Value.int .i64) ?_,O,O⟩
            unfold fitsF fitsT fitsRest
            first | (simp_all;done) | (simp_all;omega) | (repeat' split;all_goals first | rfl | omega | (simp_all;done) | (simp_all;omega))
       ·refine Jp (Jf (Jc (Jc (JI _ _ [] (.c 0 0 (.c 1 0 (.c 2 0 (.c 3 0 (.c 4 0 (.c 5 2 (.c 6 0 (.c 7 0 .nil)))))))) mixed (fun _ _ _ _ h=>h) (Sk4 (Sr)) (fun _ h=>h) (by kernel_rfl) (by decide) fun ws Z0=>Qe O (Jb O) (Qe O (JB O) (Qe O (Jh (o':=2) Un125 O ti3 O O) (Qe O (Jj Un3 O O Jm O) (Qe O (Jw (vs:= [_,_,_,_,_,_,_,_,_]) Un40 O JF O (Ji (Jm)) O O) (Js O O (Jo (Yh o Ao co (by have:=hot;omega)) (.n1 O) (by decide) (Jl Mm3 Jx) fun _ _ _ q9=>?_))))))))))
        obtain ⟨rfl,rfl,rfl⟩:=q9
        refine ⟨⟨(Sk4 (Sr)),Mm0⟩,?_⟩
        refine Qe O (JZ O O (wr64 (by have:=hr.tot;have:=KF o;have:=hot;omega))) (Qe O (Ke O O) (JJ (JK (Jf (JL [(90,_),(6,_)] (.m2 O O) (Jy O (fun h90=> ?_) (fun h90=> ?_)))))))
        ·refine Jc (Ja (Lq (Jd O) (Je (Jf (Jn (Jr ?_))))))
         refine ⟨_,[_,_,_],[],fun Z w hs=> .tmp O .nil,?_,fun Z w hs=>hs.out (Sk (Sd (Sk2 (Sr)))) Tt3⟩
         try simp only [Bp,Bq] at *
         refine ⟨congrArg (Value.int .i64) ?_,O,O⟩
         unfold fitsF fitsT fitsRest
         first | (simp_all;done) | (simp_all;omega) | (repeat' split;all_goals first | rfl | omega | (simp_all;done) | (simp_all;omega))
        ·refine Jp (Jf (Jc (Ja (Lq (Jd O) (Je (Jf (Jn ?_)))))))
         refine ⟨_,[_,_,_],[],fun Z w hs=> .tmp O .nil,?_,fun Z w hs=>hs.out (Sk (Sd (Sk2 (Sr)))) Tt3⟩
         try simp only [Bp,Bq] at *
         refine ⟨congrArg (Value.int .i64) ?_,O,O⟩
         unfold fitsF fitsT fitsRest
         first | (simp_all;done) | (simp_all;omega) | (repeat' split;all_goals first | rfl | omega | (simp_all;done) | (simp_all;omega))
      | some kd=>
       obtain ⟨hkd,jd,xd,hcd,hnd,hjd,hmd,hgd⟩:=hr.look1 hwd
       obtain ⟨xmd,xbd,xAd,xcd⟩:=xd
       obtain rfl:xmd=markAt kd H.ents[kd] :=hmd
       refine JI _ _ [] (.c 0 0 (.c 1 0 (.c 2 0 (.c 3 0 (.c 4 0 (.c 5 0 (.c 6 0 (.c 7 0 (.c 8 0 (.c 9 0 .nil)))))))))) mixed (fun _ _ _ _ h=>h) (Sk4 (Sr)) (fun _ h=>h) (by kernel_rfl) (by decide) fun ws Z0=>Qe O (Jb O) (Qe O (JB O) (Qe O (Jh (o':=1) Un125 O YY O O) (Qe O (Jj Un123 O O Jm O) (Qe O (Jh (o':=0) Un40 O KI O O) (Qe O (Jh (o':=0) Un37 O JY O O) (Qe O (Jw (vs:= [_,_]) Un34 O JY O (Ji (Jm)) O O) (Qe O (YN keyT hgd Un123 Y3 O O (Ji (Ji (Jm)))) (Qe O (QA Un161 O O (by simp)) ?_))))))))
       refine Qe O (Jd O) (JJ (JK (Jf (JL [(39,_),(6,_),(5,_),(0,_),(1,_)] (.m5 O O O O O) (JQ O O (Jc (Ja (Lq (Jd O) (Je (Jf (Jn (JM (Jr ?_)))))))))))))
       refine ⟨_,[_,_,_],[],fun Z w hs=> .tmp O .nil,?_,fun Z w hs=>hs.out (Sk (Sd (Sk2 (Sr)))) Tt2⟩
       try simp only [Bp,Bq] at *
       refine ⟨congrArg (Value.int .i64) ?_,O,O⟩
       unfold fitsF fitsT fitsRest
       first | (simp_all;done) | (simp_all;omega) | (repeat' split;all_goals first | rfl | omega | (simp_all;done) | (simp_all;omega))
theorem bd52Xh2 (w:World):(Instr.build 40 #[]).run Tryz.prog w= .ok (.agg #[.int .i64 0, .int .i64 0, .int .i64 0, .int .i64 0, .string ⟨#[]⟩, .slice none 0 0, .int .i64 0, .int .i64 0, .bool false]) w:=by kernel_rfl
theorem put_f (h m cap:Nat) (A:Option Addr) (H:Hist) (L:List MR) (hr:HR H L) (i:Int) (o:GOp) (Ao:Option Addr) (co:Nat) (hot:o.text.size≤2305843009213693952) (hor:o.rs.length≤8796093022208) (hE:fitsF H i o≠0):Sp Tryz.prog 97 [.pointer (some ⟨h,0,none⟩), .int .i64 i,opV o Ao co] [hdP h A H.ops.length cap m H.total,mpP m L,mkP L] [barF,RdF opD A cap H.ops,RdF rgD Ao co o.rs] (fun v Lo fs=>v= .tuple #[opV zeroOp none 0, .int .i64 (fitsF H i o)] ∧Lo= [hdP h A H.ops.length cap m H.total,mpP m L,mkP L] ∧fs= []):=by
 have hol:=KY H
 have hlen:=hr.len
 refine Sp.of (n:=196) ⟨_,Tryz.func97,O,O,O,O⟩ (Nat.le_of_ble_eq_true O) fun Ps As=>Jc (Ja (Jg O (J1 (cs:= [_,_,_,_,_,_,_,_,_]) O O (by decide) fun b5=>Jg O (Jv (cs:= [_,_,_,_,_,_,_,_,_]) JF O (by decide) fun b6=>Lq (Jd O) (Je (Jf (Jc (Jc (Ja (Lq (Jb O) (Lq (Jb O) (Lq (Jw (vs:= [_,_,_,_,_,_,_,_,_]) Un40 O JF O (Ji (Jm)) O O) (Jg O (Ky (fits_w h m cap A H L hr i o Ao co hot hor) (.n3 O O O) (by decide) .z2 .z2 .z2 (Jl Mm0 (Jl Mm1 (Jl Mm2 Jx))) fun _ _ _ q9=>?_))))))))))))))
 obtain ⟨rfl,rfl,rfl⟩:=q9
 refine Lq (Jd O) (Je (Jf (Jc (Ja (Lq (Jb O) (Lq (Kp O O) (Je (Jf (JQ O (by simpa using hE) (Jc (Ja (Lq (JV .nil (bd52Xh2)) (Lq (Jb O) (Jg O (Jq (cs':= [_,_,_,_,_,_,_,_,_]) (vs:= [_,_,_,_,_,_,_,_,_]) JF O O O O O (Nat.le_of_ble_eq_true O) .z3 ?_)))))))))))))))
 refine Lq (Jd O) (Je (Jf (Jn (Jr ?_))))
 refine ⟨_,[_,_,_],[],fun Z w hs=>JS hs Un40 O JF O (Ji (Ji (Ji (Jm)))) O (.tmp O .nil),?_,fun Z w hs=>hs.out (Sk3 (Sd2 (Sr))) (fun _ h=>h)⟩
 exact ⟨O,O,O⟩
def rputE (H:Hist) (i:Int) (o:GOp):Int:=if 8192≤H.ops.length then 80 else fitsF H i o
theorem rput_x (d h m b:Nat) (cs:List Value) (T:TypeId) (H:Hist) (L:List MR) (A:Option Addr) (cap:Nat) (B:Option Addr) (t:Tr) (i:Int) (o:GOp) (Ao:Option Addr) (co:Nat) (hr:HR H L) (hot:o.text.size≤2305843009213693952) (hor:o.rs.length≤8796093022208) (hE:rputE H i o≠0):Sp Tryz.prog 68 [.pointer (some ⟨d,0,none⟩), .int .i64 i,opV o Ao co] [[(d,JD (.pointer (some ⟨h,0,none⟩):: .pointer (some ⟨b,0,none⟩)::cs) T)],hdP h A H.ops.length cap m H.total,mpP m L,mkP L,rpP b B] [barF,RdF opD A cap H.ops,AllF L nowF,TrF B t,RdF rgD Ao co o.rs] (fun v Lo fs=> ∃fp:Nat,v= .tuple #[opV zeroOp none 0, .iface 86 (.pointer (some ⟨fp,0,none⟩))] ∧Lo= [[(d,JD (.pointer (some ⟨h,0,none⟩):: .pointer (some ⟨b,0,none⟩)::cs) T)],hdP h A H.ops.length cap m H.total,mpP m L,mkP L,rpP b B] ∧fs= [RdF fltD (some ⟨fp,0,none⟩) 1 [(⟨#[80,117,116]⟩,i,rputE H i o)]]):=by
 have hol:=KY H
 have hlen:=hr.len
 refine Sp.of (n:=46) ⟨_,Tryz.func68,O,O,O,O⟩ (Nat.le_of_ble_eq_true O) fun Ps As=>Jc (Ja (Jg O (J1 (cs:= [_,_,_,_,_,_,_,_,_]) O O (by decide) fun b5=>Jg O (Jv (cs:= [_,_,_,_,_,_,_,_,_]) JF O (by decide) fun b6=>Lq (Jd O) (Je (Jf (Jc (Jc (Ja (Lq (Jb O) (Lq (JB O) (Lq (Jh (o':=0) Un58 O Vm O O) (Lq (Jj Un55 O O (Ji (Ji (Jm))) O) ?_)))))))))))))
 refine Jg O (JX (Eb h m H.ops.length cap A H.total) (.n1 O) (by decide) .z3 Jx fun _ _ _ q9=>?_)
 obtain ⟨rfl,rfl,rfl⟩:=q9
 refine Lq (Yl O O) (Je (Jf (Jy O (fun h15=> ?_) (fun h15=> ?_))))
 ·have hcode:rputE H i o=80:=by unfold rputE;rw [if_pos (by have h:=h15;simp only [decide_eq_true_eq] at h;omega)]
  refine Jc (Ja (Lq (JV .nil (bd52Xh2)) (Lq (Jb O) (Jg O (Jo (fault_x ⟨#[80,117,116]⟩ i 80 (by decide)) (.n3 O O O) (by decide) Jx fun _ _ _ q9=>?_)))))
  obtain ⟨fp,rfl,rfl,rfl⟩:=q9
  refine Jg O (Jq (cs':= [_,_,_,_,_,_,_,_,_]) (vs:= [_,_,_,_,_,_,_,_,_]) JF O O O O O (Nat.le_of_ble_eq_true O) .z1 (Lq (Jd O) (Je (Jf (Jn (Jr ?_))))))
  refine ⟨_,[_,_,_,_,_],[_],fun Z w hs=>JS hs Un40 O JF O (Ji (Jm)) O (.tmp O .nil),?_,fun Z w hs=>(((((hs.pick .z6).pick .z6).pick .z6).pick .z3).pick .z6).out (Sk5 (Sd2 (Sr))) (fun _ h=>h)⟩
  exact ⟨fp,O,O,by rw [hcode]⟩
 ·have hcode:rputE H i o=fitsF H i o:=by unfold rputE;rw [if_neg (by have h:=h15;simp only [decide_eq_false_iff_not] at h;omega)]
  have hfe:fitsF H i o≠0:=by rw [←hcode];exact hE
  refine Jp (Jf (Jc (JI _ _ [11] (.c 0 0 (.c 1 0 (.c 2 0 (.c 3 0 (.c 4 0 (.c 5 0 (.b (.c 6 2 (.c 7 0 (.c 8 0 (.c 9 1 (.c 10 2 (.c 11 3 (.c 12 1 .nil))))))) (.c 10 2 (.c 6 2 (.c 7 0 (.c 8 0 (.c 9 1 (.c 11 3 (.c 12 1 .nil)))))))))))))) mixed (fun _ _ _ _ h=>h) (Sd (Sk3 (Sd2 (Sk (Sr))))) (fun _ h=>h) (by kernel_rfl) (by decide) fun ws Z0=>Qe O (Jb O) (Qe O (JB O) (Qe O (Jh (o':=0) Un58 O Vm O O) (Qe O (Jj Un55 O O (Ji (Ji (Jm))) O) (Qe O (Jb O) (Qe O (Jw (vs:= [_,_,_,_,_,_,_,_,_]) Un40 O JF O (Ji (Jm)) O O) (KN ?_ ?_)))))))))
  ·refine Js O O (Ky (put_f h m cap A H L hr i o Ao co hot hor hfe) (.n3 O O O) (by decide) .z .z3 .z3 (Jl Mm1 (Jl Mm2 (Jl Mm5 Jx))) fun _ _ _ q9=>?_)
   obtain ⟨rfl,rfl,rfl⟩:=q9
   refine ⟨⟨(Sd3 (Sk4 (Sr))),Mm0⟩,?_⟩
   refine Qe O (Jb O) (Qe O (Jk (vs:= [_,_]) O O) (YW O (Jk (vs:= [_,_]) O O) (by decide) (Js O O (Jv (cs:= [_,_,_,_,_,_,_,_,_]) JF O (by decide) fun b8=> ?_))))
   refine ⟨⟨(Sd4 (Sk4 (Sr))),Mm0⟩,?_⟩
   refine JJ (J2 O O (Jq (cs':= [_,_,_,_,_,_,_,_,_]) (vs:= [_,_,_,_,_,_,_,_,_]) JF O O O O O (Nat.le_of_ble_eq_true O) .z (YM O (Jd O) (by decide) (JK (Jf (Jc (Jc (Ja (Lq (Jb O) (Lq (Kp O O) (Je (Jf (JQ O (by simpa using hfe) (Jc (Ja (Lq (JV .nil (bd52Xh2)) ?_))))))))))))))))
   refine Lq (Jb O) (Lq (Jb O) (Jg O (Jo (fault_x ⟨#[80,117,116]⟩ i (fitsF H i o) hfe) (.n3 O O O) (by decide) Jx fun _ _ _ q9=>?_)))
   obtain ⟨fp,rfl,rfl,rfl⟩:=q9
   refine Jg O (Jq (cs':= [_,_,_,_,_,_,_,_,_]) (vs:= [_,_,_,_,_,_,_,_,_]) JF O O O O O (Nat.le_of_ble_eq_true O) .z4 (Lq (Jd O) (Je (Jf (Jn (Jr ?_))))))
   refine ⟨_,[_,_,_,_,_],[_],fun Z w hs=>JS hs Un40 O JF O (Ji (Ji (Ji (Ji (Jm))))) O (.tmp O .nil),?_,fun Z w hs=>(((((hs.pick .z7).pick .z4).pick .z4).pick .z4).pick .z7).out (Sk5 (Sd3 (Sr))) (Jl Mm0 Tt2)⟩
   exact ⟨fp,O,O,by rw [hcode]⟩
  ·refine Js O O (Jv (cs:= [_,_,_,_,_,_,_,_,_]) JF O (by decide) fun b8=> ?_)
   refine ⟨⟨(Sd2 (Sk3 (Sd2 (Sk (Sr))))),Mm0⟩,?_⟩
   refine Js O O (Ky (put_f h m cap A H L hr i o Ao co hot hor hfe) (.n3 O O O) (by decide) .z1 .z4 .z4 (Jl Mm1 (Jl Mm2 (Jl Mm5 Jx))) fun _ _ _ q9=>?_)
   obtain ⟨rfl,rfl,rfl⟩:=q9
   refine ⟨⟨(Sd4 (Sk4 (Sr))),Mm0⟩,?_⟩
   refine Qe O (Jb O) (Qe O (Jk (vs:= [_,_]) O O) (YW O (Jk (vs:= [_,_]) O O) (by decide) (JJ (J2 O O (Jq (cs':= [_,_,_,_,_,_,_,_,_]) (vs:= [_,_,_,_,_,_,_,_,_]) JF O O O O O (Nat.le_of_ble_eq_true O) .z3 (YM O (Jd O) (by decide) (JK (Jf (Jc (Jc (Ja (Lq (Jb O) (Lq (Kp O O) (Je (Jf ?_)))))))))))))))
   refine JQ O (by simpa using hfe) (Jc (Ja (Lq (JV .nil (bd52Xh2)) (Lq (Jb O) (Lq (Jb O) (Jg O (Jo (fault_x ⟨#[80,117,116]⟩ i (fitsF H i o) hfe) (.n3 O O O) (by decide) Jx fun _ _ _ q9=>?_)))))))
   obtain ⟨fp,rfl,rfl,rfl⟩:=q9
   refine Jg O (Jq (cs':= [_,_,_,_,_,_,_,_,_]) (vs:= [_,_,_,_,_,_,_,_,_]) JF O O O O O (Nat.le_of_ble_eq_true O) .z4 (Lq (Jd O) (Je (Jf (Jn (Jr ?_))))))
   refine ⟨_,[_,_,_,_,_],[_],fun Z w hs=>JS hs Un40 O JF O (Ji (Ji (Ji (Ji (Jm))))) O (.tmp O .nil),?_,fun Z w hs=>(((((hs.pick .z7).pick .z3).pick .z3).pick .z3).pick .z7).out (Sk5 (Sd3 (Sr))) (Jl Mm0 Tt2)⟩
   exact ⟨fp,O,O,by rw [hcode]⟩
open Go.RowKit Go.Extern.Stop Go.Stop Go.Extern
theorem Tas_valueOf27 (t:Addr) (w:World):(ReflectliteValue.unpack (.iface 114 (.pointer (some t)))).run Tryz.prog w
  = .ok (.agg #[.pointer (some ⟨2,114,none⟩), .pointer (some ⟨w.heap.size,0,none⟩), .int .u64 150]) (w.alloc (.cells #[.pointer (some t)] 114)):=by kernel_rfl
theorem Tas_type27 (a : Addr) (w : World) : (ReflectliteValue.methodAny (ReflectliteValue.valueError "reflectlite.Value.Type" 0) (fun t _ _ _ => ReflectliteType.toType t) #[.agg #[.pointer (some ⟨2, 114, none⟩), .pointer (some a), .int .u64 150]]).run Tryz.prog w
  = .ok (.iface 207 (.agg #[.pointer (some ⟨2,114,none⟩)])) w:=by kernel_rfl
theorem Tas_methodKind (h : Value) (w : World) : (Go.method 376 207 (.agg #[h]) "Kind").run Tryz.prog w = .ok (172, h) w := by kernel_rfl
theorem Tas_kind27 (w:World):((ReflectliteType.abiMethod fun t=>(fun a:Nat=>Value.int IntKind.u8 (a:Int))<$>Rtype.kind t) #[.pointer (some ⟨2,114,none⟩)]).run Tryz.prog w= .ok (.int .u8 22) w:=by kernel_rfl
theorem Tas_kind25 (w:World):((ReflectliteType.abiMethod fun t=>(fun a:Nat=>Value.int IntKind.u8 (a:Int))<$>Rtype.kind t) #[.pointer (some ⟨2,86,none⟩)]).run Tryz.prog w= .ok (.int .u8 22) w:=by kernel_rfl
theorem rlm (z:Sem Value) (f:TypeId→Addr→Nat→Nat→Sem Value) (v:Value):
  ReflectliteValue.method z f #[v] =(do match ←ReflectliteValue.parts v with | none=>z | some (t,a,fl)=>f t a fl (fl % 32)):=rfl
theorem Tas_parts27 (a:Addr) (w:World):(ReflectliteValue.parts (.agg #[.pointer (some ⟨2,114,none⟩), .pointer (some a), .int .u64 150])).run Tryz.prog w= .ok (some (114,a,150)) w:=by kernel_rfl
theorem Tas_isNil27 (a p:Addr) (W:World) (ha:W.cell? a=some (.pointer (some p))):
  (ReflectliteValue.method (ReflectliteValue.valueError "reflectlite.Value.IsNil" 0) ReflectliteValue.isNil #[.agg #[.pointer (some ⟨2, 114, none⟩), .pointer (some a), .int .u64 150]]).run Tryz.prog W = .ok (.bool false) W := by
 rw [rlm]
 simp only [Sem.run_bind,Tas_parts27,Result.andThen]
 simp [ReflectliteValue.isNil,loadVar,isAgg,underlying,Un114,ha,Result.andThen]
theorem Tas_methodElem (h : Value) (w : World) : (Go.method 376 207 (.agg #[h]) "Elem").run Tryz.prog w = .ok (185, .agg #[h]) w := by kernel_rfl
theorem Tas_methodImplements (h : Value) (w : World) : (Go.method 376 207 (.agg #[h]) "Implements").run Tryz.prog w = .ok (186, .agg #[h]) w := by kernel_rfl
theorem Tas_methodAssignableTo (h : Value) (w : World) : (Go.method 376 207 (.agg #[h]) "AssignableTo").run Tryz.prog w = .ok (183, .agg #[h]) w := by kernel_rfl
theorem Tas_elem27 (w:World):(ReflectliteType.method ReflectliteType.elem #[.agg #[.pointer (some ⟨2,114,none⟩)]]).run Tryz.prog w= .ok (.iface 207 (.agg #[.pointer (some ⟨2,86,none⟩)])) w:=by kernel_rfl
theorem Tas_implements25 (w : World) : (ReflectliteType.relation "Implements" ReflectliteType.implements_ #[.agg #[.pointer (some ⟨2, 86, none⟩)], .iface 207 (.agg #[.pointer (some ⟨2, 29, none⟩)])]).run Tryz.prog w = .ok (.bool true) w := by kernel_rfl
theorem Tas_typeOf25 (v:Value) (w:World):(ReflectliteType.typeOf #[.iface 86 v]).run Tryz.prog w= .ok (.iface 207 (.agg #[.pointer (some ⟨2,86,none⟩)])) w:=by kernel_rfl
theorem Tas_assignable25 (w : World) : (ReflectliteType.relation "AssignableTo" ReflectliteType.assignableTo #[.agg #[.pointer (some ⟨2, 86, none⟩)], .iface 207 (.agg #[.pointer (some ⟨2, 86, none⟩)])]).run Tryz.prog w = .ok (.bool true) w := by kernel_rfl
theorem Tas_valueOf25 (e:Addr) (w:World):(ReflectliteValue.unpack (.iface 86 (.pointer (some e)))).run Tryz.prog w
  = .ok (.agg #[.pointer (some ⟨2,86,none⟩), .pointer (some ⟨w.heap.size,0,none⟩), .int .u64 150]) (w.alloc (.cells #[.pointer (some e)] 86)):=by kernel_rfl
theorem Tas_elemOf27 (w:World):(Rtype.elem? 114).run Tryz.prog w= .ok (some 86) w:=by kernel_rfl
theorem Tas_mk25 (p:Addr) (w:World):(ReflectliteValue.mk 86 p ReflectliteValue.flagAddr).run Tryz.prog w= .ok (.agg #[.pointer (some ⟨2,86,none⟩), .pointer (some p), .int .u64 406]) w:=by kernel_rfl
theorem Tas_elemV27 (a p:Addr) (W:World) (ha:W.cell? a=some (.pointer (some p))):
  (ReflectliteValue.method (ReflectliteValue.valueError "reflectlite.Value.Elem" 0) ReflectliteValue.elem #[.agg #[.pointer (some ⟨2, 114, none⟩), .pointer (some a), .int .u64 150]]).run Tryz.prog W
   = .ok (.agg #[.pointer (some ⟨2,86,none⟩), .pointer (some p), .int .u64 406]) W:=by
 rw [rlm]
 simp only [Sem.run_bind,Tas_parts27,Result.andThen]
 simp [ReflectliteValue.elem,loadVar,isAgg,underlying,Un114,ha,Result.andThen,Tas_elemOf27,Tas_mk25]
theorem rls (v x:Value):ReflectliteValue.set #[v,x] =(do
  let (some (dst,a,fl),some (src,b,_)):=(←ReflectliteValue.parts v,←ReflectliteValue.parts x)
   | unsupported (.noEntry "extern/(internal/reflectlite.Value).Set.zeroValue")
  if fl / ReflectliteValue.flagAddr % 2 == 0 then unsupported (.noEntry "extern/(internal/reflectlite.Value).Set.unaddressable")
  let val ←loadVar src b
  if ←Rtype.directlyAssignable dst src then storeVar dst a val
  else if ←Rtype.implements dst src then
   if (←Rtype.kind src)==20 then
    match val with
    | .nilIface => unsupported (.noEntry "extern/reflectlite: a nil value of one interface type handed on as a value of another")
    | _=>storeVar dst a val
   else storeVar dst a (.iface src val)
  else panicString ("reflectlite.Set: value of type " ++ (← Rtype.spelt src) ++ " is not assignable to type " ++ (← Rtype.spelt dst))
  pure (.tuple #[])):=rfl
theorem Tas_parts25a (a:Addr) (w:World):(ReflectliteValue.parts (.agg #[.pointer (some ⟨2,86,none⟩), .pointer (some a), .int .u64 406])).run Tryz.prog w= .ok (some (86,a,406)) w:=by kernel_rfl
theorem Tas_parts25 (a:Addr) (w:World):(ReflectliteValue.parts (.agg #[.pointer (some ⟨2,86,none⟩), .pointer (some a), .int .u64 150])).run Tryz.prog w= .ok (some (86,a,150)) w:=by kernel_rfl
theorem Tas_direct25 (w:World):(Rtype.directlyAssignable 86 86).run Tryz.prog w= .ok true w:=by kernel_rfl
theorem Tas_set25 (ta b e:Addr) (old:Value) (W:World) (hb:W.cell? b=some (.pointer (some e))) (ht:W.cell? ta=some old) (hf:W.frozen? ta=false):
  (ReflectliteValue.set #[.agg #[.pointer (some ⟨2,86,none⟩), .pointer (some ta), .int .u64 406], .agg #[.pointer (some ⟨2,86,none⟩), .pointer (some b), .int .u64 150]]).run Tryz.prog W
   = .ok (.tuple #[]) (W.setCell ta (.pointer (some e))):=by
 rw [rls]
 simp only [Sem.run_bind,Tas_parts25a,Tas_parts25,Result.andThen]
 simp [ReflectliteValue.flagAddr,loadVar,isAgg,underlying,Un86,hb,Result.andThen,Tas_direct25,storeVar,Value.cells,storeCells,Addr.add]
 rw [run_store Tryz.prog W ta _ _ (by rfl)]
 simp [ht,hf]
set_option maxHeartbeats 4000000 in
theorem as_hit (e t:Addr) (old:Value) (w:World) (hg:w.cell? ⟨0,0,none⟩=some (.iface 207 (.agg #[.pointer (some ⟨2,29,none⟩)]))) (ht0:w.cell? t=some old) (hf0:w.frozen? t=false):
  Calls Tryz.prog 69 #[.iface 86 (.pointer (some e)), .iface 114 (.pointer (some t))] w fun ev w'=>ev= .returned (.bool true)∧w'=((((w.alloc (.cells #[.pointer (some t)] 114)).alloc (.cells #[.pointer (some ⟨2,114,none⟩), .pointer (some ⟨w.heap.size,0,none⟩), .int .u64 150] 172)).alloc (.cells #[.pointer (some ⟨2,114,none⟩), .pointer (some ⟨w.heap.size,0,none⟩), .int .u64 150] 172)).alloc (.cells #[.pointer (some e)] 86)).setCell t (.pointer (some e)):=by
 have h6:= @run_callFunc_extern Tryz.prog 99 _ (fun args=>ReflectliteValue.unpack (args.getD 0 (.tuple #[]))) Tryz.func99 (by kernel_rfl) (by kernel_rfl) (by kernel_rfl) (by kernel_rfl)
 have h7 := @run_callFunc_extern Tryz.prog 100 _ (ReflectliteValue.methodAny (ReflectliteValue.valueError "reflectlite.Value.Type" 0) (fun t _ _ _ => ReflectliteType.toType t)) Tryz.func100 (by kernel_rfl) (by kernel_rfl) (by kernel_rfl) (by kernel_rfl)
 have h8 := @run_callFunc_extern Tryz.prog 101 _ (ReflectliteValue.method (ReflectliteValue.valueError "reflectlite.Value.IsNil" 0) ReflectliteValue.isNil) Tryz.func101 (by kernel_rfl) (by kernel_rfl) (by kernel_rfl) (by kernel_rfl)
 have h27:= @run_callFunc_extern Tryz.prog 172 _ (ReflectliteType.abiMethod fun t=>do pure (.int .u8 (←Rtype.kind t))) Tryz.func172 (by kernel_rfl) (by kernel_rfl) (by kernel_rfl) (by kernel_rfl)
 have h37:= @run_callFunc_extern Tryz.prog 185 _ (ReflectliteType.method ReflectliteType.elem) Tryz.func185 (by kernel_rfl) (by kernel_rfl) (by kernel_rfl) (by kernel_rfl)
 have h38 := @run_callFunc_extern Tryz.prog 186 _ (ReflectliteType.relation "Implements" ReflectliteType.implements_) Tryz.func186 (by kernel_rfl) (by kernel_rfl) (by kernel_rfl) (by kernel_rfl)
 have h10:= @run_callFunc_extern Tryz.prog 122 _ ReflectliteType.typeOf Tryz.func122 (by kernel_rfl) (by kernel_rfl) (by kernel_rfl) (by kernel_rfl)
 have h35 := @run_callFunc_extern Tryz.prog 183 _ (ReflectliteType.relation "AssignableTo" ReflectliteType.assignableTo) Tryz.func183 (by kernel_rfl) (by kernel_rfl) (by kernel_rfl) (by kernel_rfl)
 have h11 := @run_callFunc_extern Tryz.prog 123 _ (ReflectliteValue.method (ReflectliteValue.valueError "reflectlite.Value.Elem" 0) ReflectliteValue.elem) Tryz.func123 (by kernel_rfl) (by kernel_rfl) (by kernel_rfl) (by kernel_rfl)
 have h12:= @run_callFunc_extern Tryz.prog 124 _ ReflectliteValue.set Tryz.func124 (by kernel_rfl) (by kernel_rfl) (by kernel_rfl) (by kernel_rfl)
 have tO:=Tas_typeOf25
 have mA:=Tas_methodAssignableTo
 have a25:=Tas_assignable25
 have v25:=Tas_valueOf25
 have f6:=Tas_valueOf27
 have f7:=Tas_type27
 have mK:=Tas_methodKind
 have mE:=Tas_methodElem
 have mI:=Tas_methodImplements
 have k27:=Tas_kind27
 have k25:=Tas_kind25
 have e27:=Tas_elem27
 have i25:=Tas_implements25
 have n8:=Tas_isNil27 ⟨w.heap.size,0,none⟩ t ((w.alloc (.cells #[.pointer (some t)] 114)).alloc (.cells #[.pointer (some ⟨2,114,none⟩), .pointer (some ⟨w.heap.size,0,none⟩), .int .u64 150] 172)) (by simp)
 have hlt:0<w.heap.size:=by
  rcases Nat.lt_or_ge 0 w.heap.size with h | h
  ·exact h
  ·simp [World.cell?,Array.getElem?_eq_none h] at hg
 have hg2:((w.alloc (.cells #[.pointer (some t)] 114)).alloc (.cells #[.pointer (some ⟨2,114,none⟩), .pointer (some ⟨w.heap.size,0,none⟩), .int .u64 150] 172)).cell? ⟨0,0,none⟩=some (.iface 207 (.agg #[.pointer (some ⟨2,29,none⟩)])):=by
  rw [World.cell?_alloc_lt _ _ ⟨0,0,none⟩ (by simp<;>omega),World.cell?_alloc_lt _ _ ⟨0,0,none⟩ hlt];exact hg
 have htl:t.block<w.heap.size:=by
  rcases Nat.lt_or_ge t.block w.heap.size with h | h
  ·exact h
  ·simp [World.cell?,Array.getElem?_eq_none h] at ht0
 have el:=Tas_elemV27 ⟨w.heap.size,0,none⟩ t (((w.alloc (.cells #[.pointer (some t)] 114)).alloc (.cells #[.pointer (some ⟨2,114,none⟩), .pointer (some ⟨w.heap.size,0,none⟩), .int .u64 150] 172)).alloc (.cells #[.pointer (some ⟨2,114,none⟩), .pointer (some ⟨w.heap.size,0,none⟩), .int .u64 150] 172)) (by rw [World.cell?_alloc_lt _ _ ⟨w.heap.size,0,none⟩ (by simp;omega)];simp)
 have st:=Tas_set25 t ⟨w.heap.size+1+1+1,0,none⟩ e old ((((w.alloc (.cells #[.pointer (some t)] 114)).alloc (.cells #[.pointer (some ⟨2,114,none⟩), .pointer (some ⟨w.heap.size,0,none⟩), .int .u64 150] 172)).alloc (.cells #[.pointer (some ⟨2,114,none⟩), .pointer (some ⟨w.heap.size,0,none⟩), .int .u64 150] 172)).alloc (.cells #[.pointer (some e)] 86))
  (by rw [World.cell?_alloc_at _ _ _ _ (by simp)];rfl)
  (by rw [World.cell?_alloc_lt _ _ t (by simp;omega),World.cell?_alloc_lt _ _ t (by simp;omega),World.cell?_alloc_lt _ _ t (by simp;omega),World.cell?_alloc_lt _ _ t htl];exact ht0)
  (by rw [World.frozen?_alloc_old _ _ t (by simp;omega),World.frozen?_alloc_old _ _ t (by simp;omega),World.frozen?_alloc_old _ _ t (by simp;omega),World.frozen?_alloc_old _ _ t (Nat.ne_of_lt htl)];exact hf0)
 go_enter Tryz.func69,Tryz.ntmps69
 go_wp2
 refine wp_loop_rounds 1 ?_
 rw [rounds_succ]
 go_wp2
 go_ret
 exact ⟨O,O⟩
abbrev etF:Fact:=FzA 0 0 [.iface 207 (.agg #[.pointer (some ⟨2,29,none⟩)])]
theorem as_t (p b:Nat) (x:Value):Sp Tryz.prog 69 [.iface 86 (.pointer (some ⟨p,0,none⟩)), .iface 114 (.pointer (some ⟨b,0,none⟩))] [[(b,JD [x] 86)]] [etF] (fun v Lo fs=>v= .bool true∧Lo= [[(b,JD [.pointer (some ⟨p,0,none⟩)] 86)]] ∧fs= []):=by
 refine ⟨⟨_,_,_,_,Tryz.func69,O,O,O,O⟩,fun Z w Ps As hs=> ?_⟩
 have hg:w.cell? ⟨0,0,none⟩=some (.iface 207 (.agg #[.pointer (some ⟨2,29,none⟩)])):=by
  have h1:=hs.facts etF (by simp)
  have h2:=CellsAt.cell (j:=0) h1.2 rfl
  simpa using h2
 have hb:w.heap[b]? =some (JD [x] 86):=(hs.own (b,_) (by simp)).1
 refine (as_hit ⟨p,0,none⟩ ⟨b,0,none⟩ x w hg (by simp [World.cell?,hb,JD]) (by simp [World.frozen?,hb,JD])).mono ?_
 rintro ev w' ⟨rfl,rfl⟩
 refine ⟨_,O,Z,_,[],⟨O,O,O⟩,?_⟩
 have h4:=(((hs.alloc (.cells #[.pointer (some ⟨b,0,none⟩)] 114)).alloc (.cells #[.pointer (some ⟨2,114,none⟩), .pointer (some ⟨w.heap.size,0,none⟩), .int .u64 150] 172)).alloc (.cells #[.pointer (some ⟨2,114,none⟩), .pointer (some ⟨w.heap.size,0,none⟩), .int .u64 150] 172)).alloc (.cells #[.pointer (some ⟨p,0,none⟩)] 86)
 have h5:=h4.subParts (List.sublist_append_right [[_],[_],[_],[_]] _)
 exact h5.setCell (k:=0) _
theorem ZJ {P:Program} {l l':Fr} {w:World} {k0:Nat} (hl: ∀t,t<k0→lk l' t=lk l t): ∀ {rs:List ResultVar} {vs:List Value},(rs.all fun r=>match r with | .tmp t=>Nat.ble (t+1) k0 | .cell t _=>Nat.ble (t+1) k0)=true→RV P l w rs vs→RV P l' w rs vs
 | _,_,_, .nil=> .nil
 | _,_,hk, .tmp h hr=>by
  simp only [List.all_cons,Bool.and_eq_true] at hk
  exact .tmp (by rw [hl _ (Nat.le_of_ble_eq_true hk.1)];exact h) (ZJ hl hk.2 hr)
 | _,_,hk, .cell h hl2 hr=>by
  simp only [List.all_cons,Bool.and_eq_true] at hk
  exact .cell (by rw [hl _ (Nat.le_of_ble_eq_true hk.1)];exact h) hl2 (ZJ hl hk.2 hr)
theorem finD_fr {P:Program} {rs:List ResultVar} {ok:Value→Prop} {Lc:List Part→Prop} {Lc':Value→List Part} {res:Value→List Part→List Fact→Prop} {Ps Ps':List Part} {As As':List Fact} {c:List PanicEntry} {l l':Fr} {k0:Nat} (hk:(rs.all fun r=>match r with | .tmp t=>Nat.ble (t+1) k0 | .cell t _=>Nat.ble (t+1) k0)=true) (hl: ∀t,t<k0→lk l' t=lk l t) (h:finD P rs ok Lc Lc' res Ps As (.panic c) l Ps' As'):finD P rs ok Lc Lc' res Ps As (.panic c) l' Ps' As':=by
 obtain ⟨v,L,Ps2,vs,Lo,fs,h1,h2,h3,h4,h5,h6,h7⟩:=h
 exact ⟨v,L,Ps2,vs,Lo,fs,h1,h2,h3,h4,fun Z w hs=>ZJ hl hk (h5 Z w hs),h6,h7⟩
def fltW:De (ByteArray×Int×Nat) where
 sz:=3
 rep _ _ x cs:=cs= [.string x.1, .int .i64 x.2.1, .iface 86 (.pointer (some ⟨x.2.2,0,none⟩))]
 len h:=by subst h;rfl
 one h:=by subst h;rfl
 stable _ _ _ _ _ h:=h
def takeE (D:DS) (o:GOp):Int:=if o.c=D.u∨ ¬(1≤o.c∧o.c≤D.cl) then 82 else if D.op<o.n then 80 else if D.ce<putA D o.c+JC o then 81 else 0
theorem take_x1 (M:DM) (D:DS) (ok:DkOk M D) (o:GOp) (Ao:Option Addr) (co:Nat) (hot:o.text.size≤1152921504606846976) (hor:o.rs.length≤8796093022208) (hE:takeE D o≠0):Sp Tryz.prog 30 [.pointer (some ⟨M.d,0,none⟩),opV o Ao co] (Kv M D) (barF::KT M D++ [RdF rgD Ao co o.rs]) (fun v Lo fs=> ∃fp:Nat,v= .iface 86 (.pointer (some ⟨fp,0,none⟩))∧Lo=Kv M D∧fs= [RdF fltD (some ⟨fp,0,none⟩) 1 [(⟨#[84,97,107,101]⟩,D.got,takeE D o)]]):=by
 have hvl:=Kn M.t.row
 have hwt:=ok.wt
 have htl:=ok.tl
 have hrow:=ok.row
 have hpl:=ok.pl
 have hr:=ok.hr
 have hdi:=ok.di
 have hus:=ok.us
 have hlm:=ok.lm
 have hmd2:=ok.md
 have hsl:=ok.sl
 have hxl:=ok.xl
 have hpu:0≤putA D D.u∧putA D D.u≤4096:=by
  unfold putA
  rw [List.getD_eq_getElem?_getD,List.getElem?_eq_getElem (by omega)]
  exact ok.p0 _ (List.getElem_mem _)
 have hgp:=ok.gp
 have hw0:=KF o
 have hpc:(1≤o.c∧o.c≤D.cl)→0≤putA D o.c∧putA D o.c≤4096:=by
  intro hc
  unfold putA
  rw [List.getD_eq_getElem?_getD,List.getElem?_eq_getElem (by omega)]
  exact ok.p0 _ (List.getElem_mem _)
 refine Sp.ofD (n:=130) ⟨_,Tryz.func30,O,O,O,O⟩ (Nat.le_of_ble_eq_true O) fun Ps As=>Ja (Jg O (J1 (cs:= [_,_,_,_,_,_,_,_,_]) O O (by decide) fun b3=>Jg O (Jv (cs:= [_]) Ye O (by decide) fun b4=>Je ?_)))
 refine ⟨O,_,_,_,_,_,catch_Take b4,DefReg.mk (.n1 O) (by decide),?_⟩
 refine Jc (K7 (JI _ _ [] (.c 0 0 (.c 1 0 (.c 2 0 (.c 3 0 (.c 4 0 (.c 5 2 (.c 6 0 (.c 7 0 .nil)))))))) mixed (fun _ _ _ _ h=>h) (Sk10 (Sr)) (fun _ h=>h) (by kernel_rfl) (by first | exact dl O | decide) fun ws Z0=>JE O (Jh (o':=0) Un40 O KI O O) (dl O) (JE O (Jh (o':=0) Un37 O JY O O) (dl O) (JE O (KL (o':=0) Un34 ti3 O O (by first | exact dl O | decide) (by first | exact dl O | decide) O) (dl O) (JE O (Jj Un3 O O (Ji (Jm)) O) (dl O) ?_)))))
 refine JE O (Jw (vs:= [_,_,_,_,_,_,_,_,_]) Un40 O JF O (Ji (Jm)) O O) (dl O) (Js O O (Jo (Yh o Ao co (by omega)) (.n1 O) (by first | exact dl O | decide) (Jl Mm1 Jx) fun _ _ _ q9=>?_))
 obtain ⟨rfl,rfl,rfl⟩:=q9
 refine ⟨⟨(Sk10 (Sr)),Mm0⟩,?_⟩
 refine JE O (Jd O) (dl O) (JE O (Jd O) (dl O) (JJ (JK (Jf (Jc (Jc ?_))))))
 by_cases hcu:o.c=D.u
 ·have hcode:takeE D o=82:=by unfold takeE;rw [if_pos (.inl hcu)]
  refine Ja (JG (Jb O) (dl O) (JG (Jb O) (dl O) (JG (JB O) (dl O) (JG (Jh (o':=2) Un65 O ti3 O O) (dl O) (JG (Jj Un3 O O (Ji (Ji (Jm))) O) (dl O) (JG (Ka O O) (dl O) (JG (Jb O) (dl O) (Vd O O O (by simpa using hcu) (dl O) (Vd O O O (by simpa using hcu) (dl O) ?_)))))))))
  refine Vd O O O (by simpa using hcu) (dl O) (Vd O O O (by simpa using hcu) (dl O) (Vd O O O (by simpa using hcu) (dl O) (Vd O O O (by simpa using hcu) (dl O) (Vd O O O (by simpa using hcu) (dl O) (Vd O O O (by simpa using hcu) (dl O) (JG (JH O (by simpa using hcu) O) (dl O) (Je (Jf (JQ O O (Ja (JG (Jb O) (dl O) (JG (JB O) (dl O) ?_))))))))))))
  refine JG (Jh (o':=6) Un65 O ti3 O O) (dl O) (JG (Jj Un3 O O (Ji (Ji (Jm))) O) (dl O) (Jg O (KD (give_x ⟨#[84,97,107,101]⟩ D.got 82 (by first | exact dl O | decide)) (.n3 O O O) Jx fun _ _ _ q9=>?_)))
  obtain ⟨fp,rfl,rfl,rfl⟩:=q9
  refine K9 ?_
  refine ⟨_,_,_,_,[_,_,_,_,_,_,_,_],[_],O,⟨fp,O⟩,⟨_,O⟩,fun Z w hs=>(hs.pick .z),fun Z w hs=>Kj hs Un29 O O Jm O .nil,?_,fun Z w hs=>hs.out (Sd2 (Sk8 (Sr))) (Jl Mm0 Tt2)⟩
  exact ⟨fp,O,O,by rw [hcode]⟩
 ·by_cases hcc:1≤o.c∧o.c≤D.cl
  ·have hn0: ¬(o.c=D.u∨ ¬(1≤o.c∧o.c≤D.cl)):=fun h=>h.elim hcu fun h=>h hcc
   refine Ja (JG (Jb O) (dl O) (JG (Jb O) (dl O) (JG (JB O) (dl O) (JG (Jh (o':=2) Un65 O ti3 O O) (dl O) (JG (Jj Un3 O O (Ji (Ji (Jm))) O) (dl O) (JG (Ka O O) (dl O) (JG (Jb O) (dl O) (Yg O O O (by simpa using hcu) (Jb O) (dl O) (Yg O O O (by simpa using hcu) (Jb O) (dl O) ?_)))))))))
   refine Yg O O O (by simpa using hcu) (JB O) (dl O) (Yg O O O (by simpa using hcu) (Jh (o':=3) Un65 O QO O O) (dl O) (Yg O O O (by simpa using hcu) (Jh (o':=3) Un23 O ti3 O O) (dl O) (Yg O O O (by simpa using hcu) (Jj Un3 O O (Ji (Ji (Jm))) O) (dl O) (Kk O O O (by simpa using hcu) (Jo (KG _ _ _) (.n3 O O O) (by first | exact dl O | decide) Jx fun _ _ _ q9=>?_)))))
   obtain ⟨rfl,rfl,rfl⟩:=q9
   refine Yg O O O (by simpa using hcu) (KC O) (dl O) (JG (JA O (by simpa using hcu) O) (dl O) (Je (Jf (Jz O (by rw [decide_eq_true hcc];rfl) (Jp (Jf (Jc (Jc (K7 (JI _ _ [] (.c 0 0 (.c 1 0 (.c 2 0 (.c 3 0 (.c 4 0 (.c 5 0 (.c 6 0 (.c 7 0 (.c 8 0 (.c 9 0 .nil)))))))))) mixed (fun _ _ _ _ h=>h) (Sk10 (Sr)) (fun _ h=>h) (by kernel_rfl) (by first | exact dl O | decide) fun ws Z0=>JE O (Jh (o':=0) Un40 O KI O O) (dl O) (JE O (Jh (o':=0) Un37 O JY O O) (dl O) ?_)))))))))))
   refine JE O (KL (o':=1) Un34 ti3 O O (by first | exact dl O | decide) (by first | exact dl O | decide) O) (dl O) (JE O (Jj Un3 O O (Ji (Jm)) O) (dl O) (JE O (Jb O) (dl O) (JE O (JB O) (dl O) (JE O (Jh (o':=3) Un65 O QO O O) (dl O) (JE O (Jh (o':=5) Un23 O ti3 O O) (dl O) (JE O (Jj Un3 O O (Ji (Ji (Jm))) O) (dl O) (JE O (Ke O O) (dl O) (JJ (JK (Jf ?_))))))))))
   refine Jy O (fun h47=> ?_) (fun h47=> ?_)
   ·have hcode:takeE D o=80:=by unfold takeE;rw [if_neg hn0,if_pos (by simpa using h47)]
    refine Ja (JG (Jb O) (dl O) (JG (JB O) (dl O) (JG (Jh (o':=6) Un65 O ti3 O O) (dl O) (JG (Jj Un3 O O (Ji (Ji (Jm))) O) (dl O) (Jg O (KD (give_x ⟨#[84,97,107,101]⟩ D.got 80 (by first | exact dl O | decide)) (.n3 O O O) Jx fun _ _ _ q9=>?_))))))
    obtain ⟨fp,rfl,rfl,rfl⟩:=q9
    refine K9 ?_
    refine ⟨_,_,_,_,[_,_,_,_,_,_,_,_],[_],O,⟨fp,O⟩,⟨_,O⟩,fun Z w hs=>(hs.pick .z),fun Z w hs=>Kj hs Un29 O O Jm O .nil,?_,fun Z w hs=>hs.out (Sd2 (Sk8 (Sr))) (Jl Mm0 Tt3)⟩
    exact ⟨fp,O,O,by rw [hcode]⟩
   ·refine Jp (Jf (Jc (Jc (K7 (JI _ _ [] (.c 0 0 (.c 1 0 (.c 2 0 (.c 3 0 (.c 4 0 (.c 5 0 (.c 6 0 (.c 7 0 (.c 8 0 (.c 9 0 (.c 10 0 (.c 11 0 (.c 12 0 (.c 13 0 .nil)))))))))))))) mixed (fun _ _ _ _ h=>h) (Sk10 (Sr)) (fun _ h=>h) (by kernel_rfl) (by first | exact dl O | decide) fun ws Z0=>JE O (Jb O) (dl O) (JE O (Jb O) (dl O) (JE O (JB O) (dl O) (JE O (Jh (o':=8) Un65 O XP O O) (dl O) (JE O (KL (o':=8+o.c.toNat) Un63 ti3 O O (by omega) (by omega) (by omega)) (dl O) ?_)))))))))
    refine JE O (Jj (v:= .int .i64 (D.put.getD o.c.toNat 0)) Un3 O O (Ji (Ji (Jm))) (dkput hpl (by omega))) (dl O) (JE O (Jb O) (dl O) (JE O (JZ O O (wr64 (by have:=hpc hcc;unfold putA at this;omega))) (dl O) (JE O (Jb O) (dl O) (JE O (JB O) (dl O) (JE O (Jh (o':=3) Un65 O QO O O) (dl O) (JE O (Jh (o':=4) Un23 O ti3 O O) (dl O) (JE O (Jj Un3 O O (Ji (Ji (Jm))) O) (dl O) (JE O (Ke O O) (dl O) (JJ (JK ?_))))))))))
    refine Jf (Jy O (fun h66=> ?_) (fun h66=> ?_))
    ·have hcode:takeE D o=81:=by unfold takeE;rw [if_neg hn0,if_neg (by simpa using h47),if_pos (by have:=h66;simp only [decide_eq_true_eq] at this;exact this)]
     refine Ja (JG (Jb O) (dl O) (JG (JB O) (dl O) (JG (Jh (o':=6) Un65 O ti3 O O) (dl O) (JG (Jj Un3 O O (Ji (Ji (Jm))) O) (dl O) (Jg O (KD (give_x ⟨#[84,97,107,101]⟩ D.got 81 (by first | exact dl O | decide)) (.n3 O O O) Jx fun _ _ _ q9=>?_))))))
     obtain ⟨fp,rfl,rfl,rfl⟩:=q9
     refine K9 ?_
     refine ⟨_,_,_,_,[_,_,_,_,_,_,_,_],[_],O,⟨fp,O⟩,⟨_,O⟩,fun Z w hs=>(hs.pick .z),fun Z w hs=>Kj hs Un29 O O Jm O .nil,?_,fun Z w hs=>hs.out (Sd2 (Sk8 (Sr))) (Jl Mm0 Tt4)⟩
     exact ⟨fp,O,O,by rw [hcode]⟩
    ·refine Jp (Jf (Jc ?_))
     exact absurd (by unfold takeE;rw [if_neg hn0,if_neg (by simpa using h47),if_neg (by have:=h66;simp only [decide_eq_false_iff_not] at this;exact this)]) hE
  ·have hcode:takeE D o=82:=by unfold takeE;rw [if_pos (.inr hcc)]
   refine Ja (JG (Jb O) (dl O) (JG (Jb O) (dl O) (JG (JB O) (dl O) (JG (Jh (o':=2) Un65 O ti3 O O) (dl O) (JG (Jj Un3 O O (Ji (Ji (Jm))) O) (dl O) (JG (Ka O O) (dl O) (JG (Jb O) (dl O) (Yg O O O (by simpa using hcu) (Jb O) (dl O) (Yg O O O (by simpa using hcu) (Jb O) (dl O) ?_)))))))))
   refine Yg O O O (by simpa using hcu) (JB O) (dl O) (Yg O O O (by simpa using hcu) (Jh (o':=3) Un65 O QO O O) (dl O) (Yg O O O (by simpa using hcu) (Jh (o':=3) Un23 O ti3 O O) (dl O) (Yg O O O (by simpa using hcu) (Jj Un3 O O (Ji (Ji (Jm))) O) (dl O) (Kk O O O (by simpa using hcu) (Jo (KG _ _ _) (.n3 O O O) (by first | exact dl O | decide) Jx fun _ _ _ q9=>?_)))))
   obtain ⟨rfl,rfl,rfl⟩:=q9
   refine Yg O O O (by simpa using hcu) (KC O) (dl O) (JG (JA O (by simpa using hcu) O) (dl O) (Je (Jf (JQ O (by rw [decide_eq_false hcc];rfl) (Ja (JG (Jb O) (dl O) (JG (JB O) (dl O) (JG (Jh (o':=6) Un65 O ti3 O O) (dl O) (JG (Jj Un3 O O (Ji (Ji (Jm))) O) (dl O) (Jg O (KD (give_x ⟨#[84,97,107,101]⟩ D.got 82 (by first | exact dl O | decide)) (.n3 O O O) Jx fun _ _ _ q9=>?_)))))))))))
   obtain ⟨fp,rfl,rfl,rfl⟩:=q9
   refine K9 ?_
   refine ⟨_,_,_,_,[_,_,_,_,_,_,_,_],[_],O,⟨fp,O⟩,⟨_,O⟩,fun Z w hs=>(hs.pick .z),fun Z w hs=>Kj hs Un29 O O Jm O .nil,?_,fun Z w hs=>hs.out (Sd2 (Sk8 (Sr))) (Jl Mm0 Tt2)⟩
   exact ⟨fp,O,O,by rw [hcode]⟩
theorem bd118_0_1_2Xh3 (x0_:ByteArray) (x1_:Int) (x2_t:TypeId) (x2_v:Value) (w:World):(Instr.build 88 #[(0, .string x0_),(1, .int .i64 x1_),(2, .iface x2_t x2_v)]).run Tryz.prog w= .ok (.agg #[.string x0_, .int .i64 x1_, .iface x2_t x2_v]) w:=by kernel_rfl
theorem take_x2 (M:DM) (D:DS) (ok:DkOk M D) (o:GOp) (Ao:Option Addr) (co:Nat) (hot:o.text.size≤1152921504606846976) (hor:o.rs.length≤8796093022208) (hE:takeE D o=0) (hPE:rputE D.H D.got o≠0):Sp Tryz.prog 30 [.pointer (some ⟨M.d,0,none⟩),opV o Ao co] (Kv M D) (barF::KT M D++ [RdF rgD Ao co o.rs,etF]) (fun v Lo fs=> ∃fp ip:Nat,v= .iface 86 (.pointer (some ⟨fp,0,none⟩))∧Lo=Kv M D∧fs= [RdF fltW (some ⟨fp,0,none⟩) 1 [(⟨#[84,97,107,101]⟩,D.got,ip)],RdF fltD (some ⟨ip,0,none⟩) 1 [(⟨#[80,117,116]⟩,D.got,rputE D.H D.got o)]]):=by
 have hvl:=Kn M.t.row
 have hwt:=ok.wt
 have htl:=ok.tl
 have hrow:=ok.row
 have hpl:=ok.pl
 have hr:=ok.hr
 have hdi:=ok.di
 have hus:=ok.us
 have hlm:=ok.lm
 have hmd2:=ok.md
 have hsl:=ok.sl
 have hxl:=ok.xl
 have hpu:0≤putA D D.u∧putA D D.u≤4096:=by
  unfold putA
  rw [List.getD_eq_getElem?_getD,List.getElem?_eq_getElem (by omega)]
  exact ok.p0 _ (List.getElem_mem _)
 have hgp:=ok.gp
 have hw0:=KF o
 have hpc:(1≤o.c∧o.c≤D.cl)→0≤putA D o.c∧putA D o.c≤4096:=by
  intro hc
  unfold putA
  rw [List.getD_eq_getElem?_getD,List.getElem?_eq_getElem (by omega)]
  exact ok.p0 _ (List.getElem_mem _)
 have hk: ¬(o.c=D.u∨ ¬(1≤o.c∧o.c≤D.cl)):=by
  intro h;unfold takeE at hE;rw [if_pos h] at hE;exact absurd hE (by decide)
 have hn2: ¬D.op<o.n:=by
  intro h;unfold takeE at hE;rw [if_neg hk,if_pos h] at hE;exact absurd hE (by decide)
 have hn3: ¬D.ce<putA D o.c+JC o:=by
  intro h;unfold takeE at hE;rw [if_neg hk,if_neg hn2,if_pos h] at hE;exact absurd hE (by decide)
 have hcu:o.c≠D.u:=fun h=>hk (.inl h)
 have hcc:1≤o.c∧o.c≤D.cl:=Classical.byContradiction fun h=>hk (.inr h)
 refine Sp.ofD (n:=130) ⟨_,Tryz.func30,O,O,O,O⟩ (Nat.le_of_ble_eq_true O) fun Ps As=>Ja (Jg O (J1 (cs:= [_,_,_,_,_,_,_,_,_]) O O (by decide) fun b3=>Jg O (Jv (cs:= [_]) Ye O (by decide) fun b4=>Je ?_)))
 refine ⟨O,_,_,_,_,_,catch_Take b4,DefReg.mk (.n1 O) (by decide),?_⟩
 refine Jc (K7 (JI _ _ [] (.c 0 0 (.c 1 0 (.c 2 0 (.c 3 0 (.c 4 0 (.c 5 2 (.c 6 0 (.c 7 0 .nil)))))))) mixed (fun _ _ _ _ h=>h) (Sk10 (Sr)) (fun _ h=>h) (by kernel_rfl) (by first | exact dl O | decide) fun ws Z0=>JE O (Jh (o':=0) Un40 O KI O O) (dl O) (JE O (Jh (o':=0) Un37 O JY O O) (dl O) (JE O (KL (o':=0) Un34 ti3 O O (by first | exact dl O | decide) (by first | exact dl O | decide) O) (dl O) (JE O (Jj Un3 O O (Ji (Jm)) O) (dl O) ?_)))))
 refine JE O (Jw (vs:= [_,_,_,_,_,_,_,_,_]) Un40 O JF O (Ji (Jm)) O O) (dl O) (Js O O (Jo (Yh o Ao co (by omega)) (.n1 O) (by first | exact dl O | decide) (Jl Mm1 Jx) fun _ _ _ q9=>?_))
 obtain ⟨rfl,rfl,rfl⟩:=q9
 refine ⟨⟨(Sk10 (Sr)),Mm0⟩,?_⟩
 refine JE O (Jd O) (dl O) (JE O (Jd O) (dl O) (JJ (JK (Jf (Jc (Jc (Ja (JG (Jb O) (dl O) (JG (Jb O) (dl O) (JG (JB O) (dl O) (JG (Jh (o':=2) Un65 O ti3 O O) (dl O) (JG (Jj Un3 O O (Ji (Ji (Jm))) O) (dl O) (JG (Ka O O) (dl O) ?_)))))))))))))
 refine JG (Jb O) (dl O) (Yg O O O (by simpa using hcu) (Jb O) (dl O) (Yg O O O (by simpa using hcu) (Jb O) (dl O) (Yg O O O (by simpa using hcu) (JB O) (dl O) (Yg O O O (by simpa using hcu) (Jh (o':=3) Un65 O QO O O) (dl O) (Yg O O O (by simpa using hcu) (Jh (o':=3) Un23 O ti3 O O) (dl O) (Yg O O O (by simpa using hcu) (Jj Un3 O O (Ji (Ji (Jm))) O) (dl O) (Kk O O O (by simpa using hcu) (Jo (KG _ _ _) (.n3 O O O) (by first | exact dl O | decide) Jx fun _ _ _ q9=>?_))))))))
 obtain ⟨rfl,rfl,rfl⟩:=q9
 refine Yg O O O (by simpa using hcu) (KC O) (dl O) (JG (JA O (by simpa using hcu) O) (dl O) (Je (Jf (Jz O (by rw [decide_eq_true hcc];rfl) (Jp (Jf (Jc (Jc (K7 (JI _ _ [] (.c 0 0 (.c 1 0 (.c 2 0 (.c 3 0 (.c 4 0 (.c 5 0 (.c 6 0 (.c 7 0 (.c 8 0 (.c 9 0 .nil)))))))))) mixed (fun _ _ _ _ h=>h) (Sk10 (Sr)) (fun _ h=>h) (by kernel_rfl) (by first | exact dl O | decide) fun ws Z0=>JE O (Jh (o':=0) Un40 O KI O O) (dl O) (JE O (Jh (o':=0) Un37 O JY O O) (dl O) ?_)))))))))))
 refine JE O (KL (o':=1) Un34 ti3 O O (by first | exact dl O | decide) (by first | exact dl O | decide) O) (dl O) (JE O (Jj Un3 O O (Ji (Jm)) O) (dl O) (JE O (Jb O) (dl O) (JE O (JB O) (dl O) (JE O (Jh (o':=3) Un65 O QO O O) (dl O) (JE O (Jh (o':=5) Un23 O ti3 O O) (dl O) (JE O (Jj Un3 O O (Ji (Ji (Jm))) O) (dl O) (JE O (Ke O O) (dl O) (JJ (JK (Jf ?_))))))))))
 refine Jz O (decide_eq_false hn2) (Jp (Jf (Jc (Jc (K7 (JI _ _ [] (.c 0 0 (.c 1 0 (.c 2 0 (.c 3 0 (.c 4 0 (.c 5 0 (.c 6 0 (.c 7 0 (.c 8 0 (.c 9 0 (.c 10 0 (.c 11 0 (.c 12 0 (.c 13 0 .nil)))))))))))))) mixed (fun _ _ _ _ h=>h) (Sk10 (Sr)) (fun _ h=>h) (by kernel_rfl) (by first | exact dl O | decide) fun ws Z0=>JE O (Jb O) (dl O) (JE O (Jb O) (dl O) (JE O (JB O) (dl O) (JE O (Jh (o':=8) Un65 O XP O O) (dl O) ?_)))))))))
 refine JE O (KL (o':=8+o.c.toNat) Un63 ti3 O O (by omega) (by omega) (by omega)) (dl O) (JE O (Jj (v:= .int .i64 (D.put.getD o.c.toNat 0)) Un3 O O (Ji (Ji (Jm))) (dkput hpl (by omega))) (dl O) (JE O (Jb O) (dl O) (JE O (JZ O O (wr64 (by have:=hpc hcc;unfold putA at this;omega))) (dl O) (JE O (Jb O) (dl O) (JE O (JB O) (dl O) (JE O (Jh (o':=3) Un65 O QO O O) (dl O) (JE O (Jh (o':=4) Un23 O ti3 O O) (dl O) (JE O (Jj Un3 O O (Ji (Ji (Jm))) O) (dl O) (JE O (Ke O O) (dl O) ?_)))))))))
 refine JJ (JK (Jf (Jz O (decide_eq_false hn3) (Jp (Jf (Jc (Jt .z6 (Jt .z6 (Jt .z6 (Jt .z6 (Jt .z6 (K7 ?_))))))))))))
 refine JI _ _ [13] (.c 0 0 (.c 1 0 (.c 2 0 (.c 3 0 (.c 4 0 (.c 5 0 (.c 6 0 (.c 7 0 (.b (.c 8 2 (.c 9 0 (.c 10 0 (.c 11 1 (.c 12 2 (.c 13 3 (.c 14 1 .nil))))))) (.c 12 2 (.c 8 2 (.c 9 0 (.c 10 0 (.c 11 1 (.c 13 3 (.c 14 1 .nil)))))))))))))))) mixed (fun _ _ _ _ h=>h) (Sk (Sd4 (Sk5 (Sr)))) (fun _ h=>h) (by kernel_rfl) (by first | exact dl O | decide) fun ws Z0=>JE O (Jb O) (dl O) (JE O (JB O) (dl O) (JE O (Jh (o':=0) Un65 O Ym O O) (dl O) (JE O (Jb O) (dl O) (JE O (JB O) (dl O) (JE O (Jh (o':=6) Un65 O ti3 O O) (dl O) ?_)))))
 refine JE O (Jj Un3 O O Jm O) (dl O) (JE O (Jw (vs:= [_,_,_,_,_,_,_,_,_]) Un40 O JF O (Ji (Ji (Jm))) O O) (dl O) (KN ?_ ?_))
 ·refine Js O O (JW (rput_x M.d M.h M.m M.b _ _ D.H M.L M.A M.cap M.B M.t D.got o Ao co hr (by omega) hor hPE) (.n3 O O O) (by first | exact dl O | decide) (.n5 .z .z .z .z .z) (Jl Mm4 (Jl Mm5 (Jl Mm6 (Jl Mm7 (Jl Mm8 Jx))))) fun _ _ _ q9=>?_)
  obtain ⟨ip,rfl,rfl,rfl⟩:=q9
  refine ⟨⟨(Sk (Sd4 (Sk5 (Sr)))),Mm1⟩,?_⟩
  refine JE O (Jb O) (dl O) (JE O (Jk (vs:= [_,_]) O O) (dl O) (YW O (Jk (vs:= [_,_]) O O) (dl O) (Js O O (Jv (cs:= [_,_,_,_,_,_,_,_,_]) JF O (by first | exact dl O | decide) fun b7=> ?_))))
  refine ⟨⟨(Sd (Sk (Sd4 (Sk5 (Sr))))),Mm1⟩,?_⟩
  refine JJ (J2 O O (Jq (cs':= [_,_,_,_,_,_,_,_,_]) (vs:= [_,_,_,_,_,_,_,_,_]) JF O O O O O (Nat.le_of_ble_eq_true O) .z (YM O (Jd O) (dl O) (JK (Jf (Jc (Ja (Jg O (Jv (cs:= [_]) ZQ O (by first | exact dl O | decide) fun b9=>Je (Jf (Jc (Jc (Ja (JG (Jb O) (dl O) (JG (QH (by rw [Un114];rfl) O) (dl O) (Jg O (JX (as_t ip b9 _) (.n2 O O) (by first | exact dl O | decide) .z (Jl Mm10 Jx) fun _ _ _ q9=>?_)))))))))))))))))
  obtain ⟨rfl,rfl,rfl⟩:=q9
  refine Je (Jf (JQ O O (EL 87 (by kernel_rfl) (fun _ _ _ _ _ hl h=>(K9 (finD_fr O hl h))) _ _ [9] (.c 0 0 (.c 1 0 (.c 2 0 (.c 3 0 (.c 4 0 (.c 5 0 (.c 6 0 (.c 7 2 (.c 8 0 (.c 9 3 .nil)))))))))) mixed (Sk12 (Sr)) (fun _ h=>h) (by kernel_rfl) (by first | exact dl O | decide) fun ws Z0=>JE O (Jb O) (dl O) (JE O (JB O) (dl O) (JE O (Jh (o':=6) Un65 O ti3 O O) (dl O) (JE O (Jj Un3 O O (Ji (Ji (Jm))) O) (dl O) ?_))))))
  refine JE O (Jj Un86 O O Jm O) (dl O) (JE O (QH (by rw [Un86];rfl) O) (dl O) (JE O (JV (.n3 O O O) (bd118_0_1_2Xh3 _ _ _ _)) (dl O) (Js O O (J1 (cs:= [_,_,_]) O O (by first | exact dl O | decide) fun b94=> ?_))))
  refine ⟨⟨(Sd (Sk12 (Sr))),Mm0⟩,?_⟩
  refine JE O (QH (by rw [Un86];rfl) O) (dl O) (Ve (e:=fltW) (u:=(⟨#[84,97,107,101]⟩,D.got,ip)) .z (fun Z w hs=>O) (JJ (J2 O O (V7 O (K9 ?_)))))
  refine ⟨_,_,_,_,[_,_,_,_,_,_,_,_],[_,_],O,⟨b94,O⟩,⟨_,O⟩,fun Z w hs=>(hs.pick .z7),fun Z w hs=>Kj hs Un29 O O Jm O .nil,?_,fun Z w hs=>hs.out (Sd3 (Sk5 (Sd (Sk3 (Sr))))) (Jl Mm0 (Jl Mm2 Tt7))⟩
  exact ⟨b94,ip,O,O,O⟩
 ·refine Js O O (Jv (cs:= [_,_,_,_,_,_,_,_,_]) JF O (by first | exact dl O | decide) fun b7=> ?_)
  refine ⟨⟨(Sd (Sk (Sd4 (Sk5 (Sr))))),Mm0⟩,?_⟩
  refine Js O O (JW (rput_x M.d M.h M.m M.b _ _ D.H M.L M.A M.cap M.B M.t D.got o Ao co hr (by omega) hor hPE) (.n3 O O O) (by first | exact dl O | decide) (.n5 .z1 .z1 .z1 .z1 .z1) (Jl Mm4 (Jl Mm5 (Jl Mm6 (Jl Mm7 (Jl Mm8 Jx))))) fun _ _ _ q9=>?_)
  obtain ⟨ip,rfl,rfl,rfl⟩:=q9
  refine ⟨⟨(Sk (Sd5 (Sk5 (Sr)))),Mm1⟩,?_⟩
  refine JE O (Jb O) (dl O) (JE O (Jk (vs:= [_,_]) O O) (dl O) (YW O (Jk (vs:= [_,_]) O O) (dl O) (JJ (J2 O O (Jq (cs':= [_,_,_,_,_,_,_,_,_]) (vs:= [_,_,_,_,_,_,_,_,_]) JF O O O O O (Nat.le_of_ble_eq_true O) .z5 (YM O (Jd O) (dl O) (JK (Jf (Jc (Ja (Jg O (Jv (cs:= [_]) ZQ O (by first | exact dl O | decide) fun b9=>Je (Jf (Jc (Jc (Ja (JG (Jb O) (dl O) ?_)))))))))))))))))
  refine JG (QH (by rw [Un114];rfl) O) (dl O) (Jg O (JX (as_t ip b9 _) (.n2 O O) (by first | exact dl O | decide) .z (Jl Mm10 Jx) fun _ _ _ q9=>?_))
  obtain ⟨rfl,rfl,rfl⟩:=q9
  refine Je (Jf (JQ O O (EL 87 (by kernel_rfl) (fun _ _ _ _ _ hl h=>(K9 (finD_fr O hl h))) _ _ [9] (.c 0 0 (.c 1 0 (.c 2 0 (.c 3 0 (.c 4 0 (.c 5 0 (.c 6 0 (.c 7 2 (.c 8 0 (.c 9 3 .nil)))))))))) mixed (Sk12 (Sr)) (fun _ h=>h) (by kernel_rfl) (by first | exact dl O | decide) fun ws Z0=>JE O (Jb O) (dl O) (JE O (JB O) (dl O) (JE O (Jh (o':=6) Un65 O ti3 O O) (dl O) (JE O (Jj Un3 O O (Ji (Jm)) O) (dl O) ?_))))))
  refine JE O (Jj Un86 O O Jm O) (dl O) (JE O (QH (by rw [Un86];rfl) O) (dl O) (JE O (JV (.n3 O O O) (bd118_0_1_2Xh3 _ _ _ _)) (dl O) (Js O O (J1 (cs:= [_,_,_]) O O (by first | exact dl O | decide) fun b94=> ?_))))
  refine ⟨⟨(Sd (Sk12 (Sr))),Mm0⟩,?_⟩
  refine JE O (QH (by rw [Un86];rfl) O) (dl O) (Ve (e:=fltW) (u:=(⟨#[84,97,107,101]⟩,D.got,ip)) .z (fun Z w hs=>O) (JJ (J2 O O (V7 O (K9 ?_)))))
  refine ⟨_,_,_,_,[_,_,_,_,_,_,_,_],[_,_],O,⟨b94,O⟩,⟨_,O⟩,fun Z w hs=>(hs.pick .z7),fun Z w hs=>Kj hs Un29 O O Jm O .nil,?_,fun Z w hs=>hs.out (Sd2 (Sk5 (Sd2 (Sk3 (Sr))))) (Jl Mm0 (Jl Mm2 Tt7))⟩
  exact ⟨b94,ip,O,O,O⟩
theorem Sp.preS {P:Program} {k:FuncId} {args:List Value} {Lin:List Part} {pre pre':List Fact} {res:Value→List Part→List Fact→Prop} (h:Sp P k args Lin pre res) (hs: ∀A∈pre,A∈pre'):Sp P k args Lin pre' res:=by
 refine ⟨h.enters,fun Z w Ps As hst=>(h.calls Z w Ps (pre'++As) (hst.subFacts fun A hA=> ?_)).mono ?_⟩
 ·rcases List.mem_append.1 hA with h | h
  ·exact List.mem_append_left _ (hs A h)
  ·exact h
 ·rintro e w' ⟨v,he,Z',Lo,fs,h1,h2⟩
  refine ⟨v,he,Z',Lo,fs,h1,h2.subFacts fun A hA=> ?_⟩
  rcases List.mem_append.1 hA with h | h
  ·exact List.mem_append_left _ h
  ·exact List.mem_append_right _ (List.mem_append_right _ h)
theorem DG.take {D:DS} (h:DG D) {o:GOp} (g:Good D.H D.got o) (hn:D.H.ops.length<8192) (hc:o.c≠D.u) (h18:1≤o.c∧o.c≤8) (hce:putA D o.c+JC o≤4096):DG (YR D o):=by
 have T:=g.tad h.di hn
 obtain ⟨e,hs⟩:=take_ops h.di g
 have hnl:=T.nl
 have hpl:=h.pl
 have hw0:=T.w0
 have hmem: ∀x∈(YR D o).H.ops,(∃y∈D.H.ops,Same y x)∨x=o:=fun x hx=>by
  rw [e] at hx
  rcases List.mem_append.1 hx with hx | hx
  ·exact .inl ⟨x,List.mem_of_mem_take hx,Same.refl x⟩
  ·rcases List.mem_append.1 hx with hx | hx
   ·exact .inr (List.mem_singleton.1 hx)
   ·obtain ⟨y,hy,hxy⟩:=hs.mem x hx
    exact .inl ⟨y,List.mem_of_mem_drop hy,hxy⟩
 refine ⟨h.us,fun x hx hxc=> ?_,h.sid,?_,fun x hx=> ?_,?_,?_⟩
 ·rcases hmem x hx with ⟨y,hy,hxy⟩ | rfl
  ·rw [hxy.n];exact h.own y hy (by rw [←hxy.c];exact hxc)
  ·exact absurd hxc hc
 ·show (putF D.H D.got o).1.total≤(D.put.set o.c.toNat (putA D o.c+JC o)).sum
  rw [put_total h.di.hv g,sum_set_ (by omega)]
  have:=h.pg
  unfold putA
  omega
 ·have hx2:x∈D.put.set o.c.toNat (putA D o.c+JC o):=hx
  rcases List.mem_or_eq_of_mem_set hx2 with hx | rfl
  ·exact h.p0 x hx
  ·have:=(Qy (b:=4096) h.p0 (by decide) o.c.toNat).1
   unfold putA at hce ⊢
   omega
 ·show DI (putF D.H D.got o).1.ops.length _ _
  rw [hnl];exact T.di
 ·show (D.put.set _ _).length=9
  rw [List.length_set];exact hpl
structure CallD (mk:Bool) (D D2:DS):Prop where
 dg:DG D2
 u:D2.u=D.u
 made:mk=true→StepG D D2
 same:mk=false→D2.made=D.made
theorem StepG.call {D D2:DS} (h:StepG D D2):CallD true D D2:=⟨h.dg,h.u,fun _=>h,fun h=>by cases h⟩
theorem CallD.still {D D2:DS} (h:DG D2) (hu:D2.u=D.u) (hm:D2.made=D.made):CallD false D D2:=⟨h,hu,fun h=>(by cases h),fun _=>hm⟩
def CallR (mk:Bool) (M:DM) (D:DS) (e:Value) (Lo:List Part) (fs:List Fact):Prop:= ∃(M2:DM) (D2:DS),((e= .nilIface∧CallD mk D D2)∨(FltV e∧D2=D))∧M2.d=M.d∧DkOk M2 D2∧Lo=Kv M2 D2∧fs=KT M2 D2
def CallR2 (mk:Bool) (M:DM) (D:DS):Value→List Part→List Fact→Prop:=fun v Lo fs=> ∃(x e:Value),v= .tuple #[x,e] ∧CallR mk M D e Lo fs
theorem CallR.no {mk:Bool} {M:DM} {D:DS} (ok:DkOk M D) {e:Value} (h:FltV e):CallR mk M D e (Kv M D) (KT M D):=⟨M,D, .inr ⟨h,rfl⟩,rfl,ok,rfl,rfl⟩
theorem CallR.yes {mk:Bool} {M M2:DM} {D D2:DS} (ok:DkOk M2 D2) (hd:M2.d=M.d) (h:CallD mk D D2):CallR mk M D .nilIface (Kv M2 D2) (KT M2 D2):=⟨M2,D2, .inl ⟨rfl,h⟩,hd,ok,rfl,rfl⟩
theorem memA {A:Fact} {l m:List Fact} (h:A∈m):A∈l++m:=List.mem_append_right _ h
theorem DG.insD {D:DS} (h:DG D) (hm:D.made<1024) {k:Nat} (hk:k≤D.X.length) {text:ByteArray} (hu:(utF text).2.2=0) (hu1:1≤(utF text).1∧(utF text).1≤256) (hce:putA D D.u+(utF text).1≤4096):MkD D (insO D k text)∧StepG D (insD D k text):=by
 have g:=h.ins hm hk hu hu1
 have M:=g.mkd h.di (h.lt hm)
 have hw:JC (insO D k text)=(utF text).1:=by unfold JC;rw [if_pos (show (insO D k text).kind=1 from rfl)];rfl
 refine ⟨M,h.step g M O O O ⟨O,O,O⟩ O O O O (.inr ⟨by rw [hw];rfl,by rw [hw];exact hce⟩) fun x hx=> ?_⟩
 have hx2:x∈D.U++ [(D.u,(D.made:Int)+1)] ++ [] :=hx
 rw [List.append_nil] at hx2
 show x.2≤((D.made+1:Nat):Int)
 rcases List.mem_append.1 hx2 with hx | hx
 ·have:=h.sid x (List.mem_append_left _ hx);omega
 ·have:=List.mem_singleton.1 hx;subst this;show (D.made:Int)+1≤_;omega
theorem DG.hideD {D:DS} (h:DG D) (hm:D.made<1024) {p n:Nat} (hn0:0<n) (hv:p+n≤J8 D.X) {xs:List Rg} (hV:VisR p n D.X xs):MkD D (hideO D xs)∧p≤J8 (J6 (mkE D (hideO D xs)) D.X)∧ ∀k,StepG D (hideD D xs k):=by
 have g:=h.hide hm hV.pls (hV.ne hn0 hv)
 have M:=g.mkd h.di (h.lt hm)
 have hw:JC (hideO D xs)=0:=by unfold JC;rw [if_neg (show ¬(hideO D xs).kind=1 by show ¬(2:Int)=1;decide)]
 refine ⟨M,?_,fun k=>h.step g M O O O ⟨O,O,O⟩ O O O O (.inl ⟨O,hw⟩) fun x hx=> ?_⟩
 ·rw [hide_row h.di g,←KM,Gy hV h.di.rule.nn,List.length_append,List.length_take,KM];omega
 have hx2:x∈D.U++ [(D.u,(D.made:Int)+1)] ++ [] :=hx
 rw [List.append_nil] at hx2
 show x.2≤((D.made+1:Nat):Int)
 rcases List.mem_append.1 hx2 with hx | hx
 ·have:=h.sid x (List.mem_append_left _ hx);omega
 ·have:=List.mem_singleton.1 hx;subst this;show (D.made:Int)+1≤_;omega
theorem DG.statD {D:DS} (h:DG D) (hm:D.made<1024) {i0 i1:Int} {k:Nat} (hw:J5 D.H.ents i0 i1=some k) (hk:k<D.H.ents.length) (hk4:D.H.ents[k].op.kind≠4) (on:Bool) (hoff:D.H.ents[k].off=on):TuD D i0 i1 on k∧StepG D (statD D (i0,i1) on k):=by
 have T:=h.tud hm hw hk hk4 on hoff
 have hw0:JC (statO D (i0,i1) on)=0:=by unfold JC;rw [if_neg (show ¬(statO D (i0,i1) on).kind=1 by show ¬(4:Int)=1;decide)]
 refine ⟨T,h.step (h.stat hm hw hk hk4 on) T.mkd O O O ⟨O,O,O⟩ O O O O (.inl ⟨O,hw0⟩) fun x hx=> ?_⟩
 have:=h.sid x hx
 show x.2≤((D.made+1:Nat):Int)
 omega
theorem DG.undoD {D:DS} (h:DG D):DG (undoD D):=h.turned rfl rfl rfl rfl rfl fun x hx=>by
 have hx2:x∈(upF (J0 D.H true) D.U D.R).2.1++(upF (J0 D.H true) D.U D.R).2.2:=hx
 exact List.mem_append.2 (XA (List.mem_append.1 hx2))
theorem DG.redoD {D:DS} (h:DG D):DG (redoD D):=h.turned rfl rfl rfl rfl rfl fun x hx=>by
 have hx2:x∈(upF (J0 D.H false) D.R D.U).2.2++(upF (J0 D.H false) D.R D.U).2.1:=hx
 exact List.mem_append.2 (XA (List.mem_append.1 hx2).symm).symm
theorem StepG.off {D D1 D2:DS} (h:StepG D1 D2) (hu:D1.u=D.u) (hl:D1.cl=D.cl∧D1.ce=D.ce∧D1.op=D.op) (hg:D1.got=D.got) (hm:D1.made=D.made) (hH:D1.H=D.H):StepG D D2:=
 ⟨h.dg,h.u.trans hu,⟨h.lm.1.trans hl.1,h.lm.2.1.trans hl.2.1,h.lm.2.2.trans hl.2.2⟩,h.got.trans hg,by rw [h.made,hm],by
  obtain ⟨o,h1,h2,h3⟩:=h.ops
  exact ⟨o,h1.trans hu,by rw [h2,hm],by rw [h3,hH]⟩⟩
theorem Ja1 {H:Hist} {i0 i1:Int} {on:Bool} (h:effE H (i0,i1) on=0): ∃k,J5 H.ents i0 i1=some k∧ ∃hk:k<H.ents.length,H.ents[k].op.kind≠4∧H.ents[k].off=on:=by
 cases hw:J5 H.ents i0 i1 with
 | none=>unfold effE at h;rw [hw] at h;cases h
 | some k=>
  obtain ⟨hk,_,_⟩:=KJ hw
  refine ⟨k,O,hk,?_⟩
  unfold effE at h
  rw [hw] at h
  simp only [List.getElem?_eq_getElem hk] at h
  split at h
  ·cases h
  rename_i h4
  split at h
  ·rename_i ho;exact ⟨h4,ho⟩
  ·cases h
theorem ins_c (M:DM) (D:DS) (ok:DkOk M D) (dg:DG D) (p:Int) (text:ByteArray) (hts:text.size≤140737488355328):Sp Tryz.prog 13 [.pointer (some ⟨M.d,0,none⟩), .int .i64 p, .string text] (Kv M D) (barF::KT M D) (CallR2 true M D):=by
 have hun:=Hc text
 have hlm:=ok.lm
 by_cases hE:insE D p text=0
 ·unfold insE at hE
  split at hE
  ·cases hE
  rename_i h1
  split at hE
  ·rename_i h2;exact absurd hE h2
  rename_i h2
  split at hE
  ·cases hE
  rename_i h3
  split at hE
  ·cases hE
  rename_i h4
  split at hE
  ·cases hE
  rename_i h5
  split at hE
  ·cases hE
  rename_i h6
  have h1':=Classical.not_not.1 h1
  have h5':=Classical.not_not.1 h5
  have hu:=Classical.not_not.1 h2
  obtain ⟨q,rfl⟩:=Int.eq_ofNat_of_zero_le h1'.1
  have hts2:text.size≤1024:=(dg.ins (k:=0) (by omega) (Nat.zero_le _) hu (by omega)).right.text
  refine (insert_0 M D ok q (by omega) text (by omega) hu (by omega) (by omega) (by omega) (fun k hk=>(dg.insD (by omega) hk.le hu (by omega) (by omega)).1) dg.nU dg.nR).monoF ?_
  rintro v Lo fs ⟨k,M2,hk,hd,hok,rfl,rfl,rfl⟩
  exact ⟨_,⟨_,_,O,CallR.yes hok hd (dg.insD (by omega) hk.le hu (by omega) (by omega)).2.call⟩,fun A hA=>List.mem_append_left _ hA⟩
 ·refine (insert_x M D ok p text (by omega) (by omega) hE).monoF ?_
  rintro v Lo fs ⟨fp,rfl,rfl,rfl⟩
  exact ⟨_,⟨_,_,O,CallR.no ok ⟨fp,O⟩⟩,(fun A hA=>memA (.tail _ hA))⟩
theorem del_c (M:DM) (D:DS) (ok:DkOk M D) (dg:DG D) (p n:Int):Sp Tryz.prog 14 [.pointer (some ⟨M.d,0,none⟩), .int .i64 p, .int .i64 n] (Kv M D) (barF::KT M D) (CallR2 true M D):=by
 have hlm:=ok.lm
 by_cases hE:delE D p n=0
 ·unfold delE at hE
  split at hE
  ·cases hE
  rename_i h1
  split at hE
  ·cases hE
  rename_i h2
  split at hE
  ·cases hE
  rename_i h3
  split at hE
  ·cases hE
  rename_i h5
  have h1':=Classical.not_not.1 h1
  have h2':=Classical.not_not.1 h2
  have h5':=Classical.not_not.1 h5
  obtain ⟨q,rfl⟩:=Int.eq_ofNat_of_zero_le h1'.1
  obtain ⟨m,rfl⟩:=Int.eq_ofNat_of_zero_le h2'.1
  refine (delete_0 M D ok q m (by omega) (by omega) (by omega) (fun xs hx=>⟨(dg.hideD (by omega) (by omega) (by omega) hx).1,(dg.hideD (by omega) (by omega) (by omega) hx).2.1⟩) dg.nU dg.nR).monoF ?_
  rintro v Lo fs ⟨xs,k,M2,A9,c9,hV,hB,hd,hok,rfl,rfl,rfl⟩
  exact ⟨_,⟨_,_,O,CallR.yes hok hd ((dg.hideD (by omega) (by omega) (by omega) hV).2.2 k).call⟩,fun A hA=>List.mem_append_left _ (List.mem_append_left _ hA)⟩
 ·refine (delete_x M D ok p n hE).monoF ?_
  rintro v Lo fs ⟨fp,rfl,rfl,rfl⟩
  exact ⟨_,⟨_,_,O,CallR.no ok ⟨fp,O⟩⟩,(fun A hA=>memA (.tail _ hA))⟩
theorem mov_c (M:DM) (D:DS) (ok:DkOk M D) (dg:DG D) (p:Int):Sp Tryz.prog 27 [.pointer (some ⟨M.d,0,none⟩), .int .i64 p] (Kv M D) (barF::KT M D) (CallR false M D):=by
 by_cases hp:0≤p∧p≤J8 D.X
 ·obtain ⟨q,rfl⟩:=Int.eq_ofNat_of_zero_le hp.1
  refine (move_0 M D ok q (by omega)).monoF ?_
  rintro v Lo fs ⟨k,hB,hok,rfl,rfl,rfl⟩
  exact ⟨_,CallR.yes hok O (CallD.still (dg.turned O O O O O (fun x hx=>hx)) O O),(fun A hA=>memA (.tail _ hA))⟩
 ·refine (move_x M D ok p hp).monoF ?_
  rintro v Lo fs ⟨fp,rfl,rfl,rfl⟩
  exact ⟨_,CallR.no ok ⟨fp,O⟩,(fun A hA=>memA (.tail _ hA))⟩
theorem undo_c (M:DM) (D:DS) (ok:DkOk M D) (dg:DG D):Sp Tryz.prog 18 [.pointer (some ⟨M.d,0,none⟩)] (Kv M D) (barF::KT M D) (CallR2 true M D):=by
 have hlm:=ok.lm
 by_cases hmd:(D.made:Int)<D.op
 ·cases hx:(upF (J0 D.H true) D.U D.R).1 with
  | none=>
   refine (undo_n M D ok hmd hx).monoF ?_
   rintro v Lo fs ⟨e,M2,he,hd,hok,rfl,rfl,rfl⟩
   exact ⟨_,⟨_,_,O,M2,D, .inr ⟨he,O⟩,hd,hok,O,O⟩,fun A hA=>List.mem_append_left _ hA⟩
  | some id=>
   obtain ⟨k,hw,hk,h4,hoff⟩:=stand_true (H0 hx)
   have htu:=dg.undoD.statD (by show D.made<1024;omega) hw hk h4 false hoff
   refine (H1 M D ok hmd id.1 id.2 k hx htu.1).monoF ?_
   rintro v Lo fs ⟨M2,hd,hok,rfl,rfl,rfl⟩
   exact ⟨_,⟨_,_,O,CallR.yes hok hd (StepG.off (D:=D) htu.2 O ⟨O,O,O⟩ O O O).call⟩,fun A hA=>List.mem_append_left _ hA⟩
 ·refine (undo_o M D ok hmd).monoF ?_
  rintro v Lo fs ⟨fp,rfl,rfl,rfl⟩
  exact ⟨_,⟨_,_,O,CallR.no ok ⟨fp,O⟩⟩,(fun A hA=>memA (.tail _ hA))⟩
theorem redo_c (M:DM) (D:DS) (ok:DkOk M D) (dg:DG D):Sp Tryz.prog 28 [.pointer (some ⟨M.d,0,none⟩)] (Kv M D) (barF::KT M D) (CallR2 true M D):=by
 have hlm:=ok.lm
 by_cases hmd:(D.made:Int)<D.op
 ·cases hx:(upF (J0 D.H false) D.R D.U).1 with
  | none=>
   refine (redo_n M D ok hmd hx).monoF ?_
   rintro v Lo fs ⟨e,M2,he,hd,hok,rfl,rfl,rfl⟩
   exact ⟨_,⟨_,_,O,M2,D, .inr ⟨he,O⟩,hd,hok,O,O⟩,fun A hA=>List.mem_append_left _ hA⟩
  | some id=>
   obtain ⟨k,hw,hk,h4,hoff⟩:=stand_true (H0 hx)
   have htu:=dg.redoD.statD (by show D.made<1024;omega) hw hk h4 true hoff
   refine (Jaw M D ok hmd id.1 id.2 k hx htu.1).monoF ?_
   rintro v Lo fs ⟨M2,hd,hok,rfl,rfl,rfl⟩
   exact ⟨_,⟨_,_,O,CallR.yes hok hd (StepG.off (D:=D) htu.2 O ⟨O,O,O⟩ O O O).call⟩,fun A hA=>List.mem_append_left _ hA⟩
 ·refine (redo_o M D ok hmd).monoF ?_
  rintro v Lo fs ⟨fp,rfl,rfl,rfl⟩
  exact ⟨_,⟨_,_,O,CallR.no ok ⟨fp,O⟩⟩,(fun A hA=>memA (.tail _ hA))⟩
theorem turn_c (M:DM) (D:DS) (ok:DkOk M D) (dg:DG D) (i0 i1:Int) (on:Bool):Sp Tryz.prog 29 [.pointer (some ⟨M.d,0,none⟩), .agg #[.int .i64 i0, .int .i64 i1], .bool on] (Kv M D) (barF::KT M D) (CallR2 true M D):=by
 have hlm:=ok.lm
 by_cases hmd:(D.made:Int)<D.op
 ·by_cases he:effE D.H (i0,i1) on=0
  ·obtain ⟨k,hw,hk,h4,hoff⟩:=Ja1 he
   have htu:=dg.statD (by omega) hw hk h4 on hoff
   refine (turn_d M D ok hmd i0 i1 on k k hw hk h4 hoff htu.1).monoF ?_
   rintro v Lo fs ⟨M2,hd,hok,rfl,rfl,rfl⟩
   exact ⟨_,⟨_,_,O,CallR.yes hok hd htu.2.call⟩,fun A hA=>List.mem_append_left _ hA⟩
  ·refine (turn_x M D ok hmd i0 i1 on he).monoF ?_
   rintro v Lo fs ⟨fp,rfl,rfl,rfl⟩
   exact ⟨_,⟨_,_,O,CallR.no ok ⟨fp,O⟩⟩,(fun A hA=>memA (.tail _ hA))⟩
 ·refine (turn_o M D ok i0 i1 on hmd).monoF ?_
  rintro v Lo fs ⟨fp,rfl,rfl,rfl⟩
  exact ⟨_,⟨_,_,O,CallR.no ok ⟨fp,O⟩⟩,(fun A hA=>memA (.tail _ hA))⟩
theorem conf_c (M:DM) (D:DS) (ok:DkOk M D) (dg:DG D) (i0 i1:Int):Sp Tryz.prog 32 [.pointer (some ⟨M.d,0,none⟩), .agg #[.int .i64 i0, .int .i64 i1]] (Kv M D) (barF::KT M D) (CallR false M D):=by
 have hn:=ok.n
 have hrc:=ok.rc
 by_cases hg:D.got=D.H.ops.length
 ·refine (confirm_e M D ok i0 i1 hg).monoF ?_
  rintro v Lo fs ⟨fp,rfl,rfl,rfl⟩
  exact ⟨_,CallR.no ok ⟨fp,O⟩,(fun A hA=>memA (.tail _ hA))⟩
 ·have hl:D.got<D.H.ents.length:=by omega
  by_cases hi:D.H.ents[D.got].op.c=i0∧D.H.ents[D.got].op.n=i1
  ·refine (confirm_0 M D ok i0 i1 hl hi.1 hi.2).monoF ?_
   rintro v Lo fs ⟨hok,rfl,rfl,rfl⟩
   exact ⟨_,CallR.yes hok O (CallD.still (dg.turned O O O O O (fun x hx=>hx)) O O),(fun A hA=>memA (.tail _ hA))⟩
  ·refine (confirm_u M D ok i0 i1 hl hi).monoF ?_
   rintro v Lo fs ⟨fp,rfl,rfl,rfl⟩
   exact ⟨_,CallR.no ok ⟨fp,O⟩,(fun A hA=>memA (.tail _ hA))⟩
theorem take_c (M:DM) (D:DS) (ok:DkOk M D) (dg:DG D) (o:GOp) (Ao:Option Addr) (co:Nat) (hot:o.text.size≤140737488355328) (hor:o.rs.length≤8796093022208):Sp Tryz.prog 30 [.pointer (some ⟨M.d,0,none⟩),opV o Ao co] (Kv M D) (barF::KT M D++ [RdF rgD Ao co o.rs,etF]) (CallR false M D):=by
 have hlm:=ok.lm
 have hwl:=KF o
 by_cases hE:takeE D o=0
 ·by_cases hP:rputE D.H D.got o=0
  ·unfold takeE at hE
   split at hE
   ·cases hE
   rename_i h1
   split at hE
   ·cases hE
   rename_i h2
   split at hE
   ·cases hE
   rename_i h3
   unfold rputE at hP
   split at hP
   ·cases hP
   rename_i h4
   have hcu:o.c≠D.u:=fun h=>h1 (.inl h)
   have hcc:1≤o.c∧o.c≤D.cl:=Classical.byContradiction fun h=>h1 (.inr h)
   have htt:=dg.tot
   have hpc:=(Qy (b:=4096) dg.p0 (by decide) o.c.toNat).1
   have hg:Good D.H D.got o:=Z7 dg.di.hv hP (by unfold putA at h3;omega)
   refine (Sp.preS (take_0 M D ok o Ao co hcu hcc (by omega) (by have:=hg.right.text;omega) (by omega) (hg.tad dg.di (by omega))) (fun A hA=> ?_)).monoF ?_
   ·rcases List.mem_append.1 hA with h | h
    ·exact List.mem_append_left _ h
    ·exact List.mem_append_right _ (by rw [List.mem_singleton.1 h];exact List.mem_cons_self)
   rintro v Lo fs ⟨M2,hd,hok,rfl,rfl,rfl⟩
   exact ⟨_,CallR.yes hok hd (CallD.still (dg.take hg (by omega) hcu (by omega) (by omega)) O O),fun A hA=>List.mem_append_left _ hA⟩
  ·refine (take_x2 M D ok o Ao co (by omega) hor hE hP).monoF ?_
   rintro v Lo fs ⟨fp,ip,rfl,rfl,rfl⟩
   exact ⟨_,CallR.no ok ⟨fp,O⟩,fun A hA=>memA (.tail _ (List.mem_append_left _ hA))⟩
 ·refine (Sp.preS (take_x1 M D ok o Ao co (by omega) hor hE) (fun A hA=> ?_)).monoF ?_
  ·rcases List.mem_append.1 hA with h | h
   ·exact List.mem_append_left _ h
   ·exact List.mem_append_right _ (by rw [List.mem_singleton.1 h];exact List.mem_cons_self)
  rintro v Lo fs ⟨fp,rfl,rfl,rfl⟩
  exact ⟨_,CallR.no ok ⟨fp,O⟩,fun A hA=>memA (.tail _ (List.mem_append_left _ hA))⟩
theorem Ja3 (M:DM) (D:DS) (ok:DkOk M D) (dg:DG D) (s:SOp) (A:Option Addr) (c:Nat) (hs:SoOk s):Sp Tryz.prog 7 [.pointer (some ⟨M.d,0,none⟩),soV s A c] (Kv M D) (barF::KT M D++ [RdF rgD A c s.o.rs,etF]) (CallR (madeK s.kind) M D):=by
 unfold soV soC
 refine Sp.of (n:=75) ⟨_,Tryz.func7,O,O,O,O⟩ (Nat.le_of_ble_eq_true O) fun Ps As=>Jc (Ja (Jg O (J1 (cs:= [_,_,_,_,_,_,_,_,_,_,_,_,_,_,_,_]) O O (by decide) fun b3=>Lq (Jd O) (Je (Jf (Jc (Ja (Lq (Jd O) (Je (Jf (Jc (Jc (Ja (Lq (Jh (o':=0) Un42 O ti3 O O) (Lq (Jj Un3 O O Jm O) (Je (Jf (JO (Jc (Ja ?_))))))))))))))))))))
 refine Lq (Ka O O) (Lq (Jd O) (Je (Jf (Jy O (fun h8=> ?_) (fun h8=> ?_)))))
 ·refine Jt .z8 (Jt .z8 (Jt .z8 (Jt .z8 (Jt .z8 (Jt .z8 (Jt .z8 (Jt .z8 (Ja (Lq (Jb O) ?_)))))))))
  refine Lq (Jh (o':=1) Un42 O ti3 O O) (Lq (Jj Un3 O O (Ji (Ji (Ji (Ji (Ji (Ji (Ji (Ji (Jm))))))))) O) (Lq (Jh (o':=3) Un42 O ti9 O O) (Lq (Jj Un9 O O (Ji (Ji (Ji (Ji (Ji (Ji (Ji (Ji (Jm))))))))) O) (Jg O (JW (ins_c M D ok dg s.n s.text hs.text) (.n3 O O O) (by decide) (.n8 .z .z .z .z .z .z .z .z) (Jl Mm0 (Jl Mm1 (Jl Mm2 (Jl Mm3 Jx)))) fun _ _ _ q9=>?_)))))
  obtain ⟨x5,e5,rfl,M2,D2,hc,hd2,hok2,rfl,rfl⟩:=q9
  refine Lq (Jb O) (Lq (Jk (vs:= [_,_]) O O) (Lq (Jk (vs:= [_,_]) O O) (Lq (Jd O) (Je (J9 (Jf (Jc (Ja (Lq (Jb O) (Lq (Jd O) (Je (Jf (Jn ?_)))))))))))))
  refine ⟨_,[_,_,_,_,_,_,_,_],[_,_,_],fun Z w hs=> .tmp O .nil,?_,fun Z w hs=>hs.out (Sk8 (Sd (Sr))) (fun _ h=>h)⟩
  refine ⟨M2,D2,?_,hd2,hok2,O,O⟩
  have hkd:madeK s.kind=true:=by have h:=h8;simp at h;rw [h];rfl
  rw [hkd];exact hc
 ·refine Jc (Ja (Lq (Ka O O) (Lq (Jd O) (Je (Jf (Jy O (fun h19=> ?_) (fun h19=> ?_)))))))
  ·refine Jt .z8 (Jt .z8 (Jt .z8 (Jt .z8 (Jt .z8 (Jt .z8 (Jt .z8 (Jt .z8 (Ja (Lq (Jb O) ?_)))))))))
   refine Lq (Jh (o':=1) Un42 O ti3 O O) (Lq (Jj Un3 O O (Ji (Ji (Ji (Ji (Ji (Ji (Ji (Ji (Jm))))))))) O) (Lq (Jh (o':=2) Un42 O ti3 O O) (Lq (Jj Un3 O O (Ji (Ji (Ji (Ji (Ji (Ji (Ji (Ji (Jm))))))))) O) (Jg O (JW (del_c M D ok dg s.n s.m) (.n3 O O O) (by decide) (.n8 .z .z .z .z .z .z .z .z) (Jl Mm0 (Jl Mm1 (Jl Mm2 (Jl Mm3 Jx)))) fun _ _ _ q9=>?_)))))
   obtain ⟨x5,e5,rfl,M2,D2,hc,hd2,hok2,rfl,rfl⟩:=q9
   refine Lq (Jb O) (Lq (Jk (vs:= [_,_]) O O) (Lq (Jk (vs:= [_,_]) O O) (Lq (Jd O) (Je (J9 (Jf (Jc (Ja (Lq (Jb O) (Lq (Jd O) (Je (Jf (Jn ?_)))))))))))))
   refine ⟨_,[_,_,_,_,_,_,_,_],[_,_,_],fun Z w hs=> .tmp O .nil,?_,fun Z w hs=>hs.out (Sk8 (Sd (Sr))) (fun _ h=>h)⟩
   refine ⟨M2,D2,?_,hd2,hok2,O,O⟩
   have hkd:madeK s.kind=true:=by have h:=h19;simp at h;rw [h];rfl
   rw [hkd];exact hc
  ·refine Jc (Ja (Lq (Ka O O) (Lq (Jd O) (Je (Jf (Jy O (fun h30=> ?_) (fun h30=> ?_)))))))
   ·refine Jt .z8 (Jt .z8 (Jt .z8 (Jt .z8 (Jt .z8 (Jt .z8 (Jt .z8 (Jt .z8 (Ja (Lq (Jb O) ?_)))))))))
    refine Lq (Jh (o':=1) Un42 O ti3 O O) (Lq (Jj Un3 O O (Ji (Ji (Ji (Ji (Ji (Ji (Ji (Ji (Jm))))))))) O) (Jg O (JW (mov_c M D ok dg s.n) (.n2 O O) (by decide) (.n8 .z .z .z .z .z .z .z .z) (Jl Mm0 (Jl Mm1 (Jl Mm2 (Jl Mm3 Jx)))) fun _ _ _ q9=>?_)))
    obtain ⟨M2,D2,hc,hd2,hok2,rfl,rfl⟩:=q9
    refine Lq (Jd O) (Je (J9 (Jf (Jc (Ja (Lq (Jb O) (Lq (Jd O) (Je (Jf (Jn ?_))))))))))
    refine ⟨_,[_,_,_,_,_,_,_,_],[_,_,_],fun Z w hs=> .tmp O .nil,?_,fun Z w hs=>hs.out (Sk8 (Sd (Sr))) (fun _ h=>h)⟩
    refine ⟨M2,D2,?_,hd2,hok2,O,O⟩
    have hkd:madeK s.kind=false:=by have h:=h30;simp at h;rw [h];rfl
    rw [hkd];exact hc
   ·refine Jc (Ja (Lq (Ka O O) (Lq (Jd O) (Je (Jf (Jy O (fun h36=> ?_) (fun h36=> ?_)))))))
    ·refine Jt .z8 (Jt .z8 (Jt .z8 (Jt .z8 (Jt .z8 (Jt .z8 (Jt .z8 (Jt .z8 (Ja (Lq (Jb O) ?_)))))))))
     refine Jg O (JW (undo_c M D ok dg) (.n1 O) (by decide) (.n8 .z .z .z .z .z .z .z .z) (Jl Mm0 (Jl Mm1 (Jl Mm2 (Jl Mm3 Jx)))) fun _ _ _ q9=>?_)
     obtain ⟨x5,e5,rfl,M2,D2,hc,hd2,hok2,rfl,rfl⟩:=q9
     refine Lq (Jb O) (Lq (Jk (vs:= [_,_]) O O) (Lq (Jk (vs:= [_,_]) O O) (Lq (Jd O) (Je (J9 (Jf (Jc (Ja (Lq (Jb O) (Lq (Jd O) (Je (Jf (Jn ?_)))))))))))))
     refine ⟨_,[_,_,_,_,_,_,_,_],[_,_,_],fun Z w hs=> .tmp O .nil,?_,fun Z w hs=>hs.out (Sk8 (Sd (Sr))) (fun _ h=>h)⟩
     refine ⟨M2,D2,?_,hd2,hok2,O,O⟩
     have hkd:madeK s.kind=true:=by have h:=h36;simp at h;rw [h];rfl
     rw [hkd];exact hc
    ·refine Jc (Ja (Lq (Ka O O) (Lq (Jd O) (Je (Jf (Jy O (fun h43=> ?_) (fun h43=> ?_)))))))
     ·refine Jt .z8 (Jt .z8 (Jt .z8 (Jt .z8 (Jt .z8 (Jt .z8 (Jt .z8 (Jt .z8 (Ja (Lq (Jb O) ?_)))))))))
      refine Jg O (JW (redo_c M D ok dg) (.n1 O) (by decide) (.n8 .z .z .z .z .z .z .z .z) (Jl Mm0 (Jl Mm1 (Jl Mm2 (Jl Mm3 Jx)))) fun _ _ _ q9=>?_)
      obtain ⟨x5,e5,rfl,M2,D2,hc,hd2,hok2,rfl,rfl⟩:=q9
      refine Lq (Jb O) (Lq (Jk (vs:= [_,_]) O O) (Lq (Jk (vs:= [_,_]) O O) (Lq (Jd O) (Je (J9 (Jf (Jc (Ja (Lq (Jb O) (Lq (Jd O) (Je (Jf (Jn ?_)))))))))))))
      refine ⟨_,[_,_,_,_,_,_,_,_],[_,_,_],fun Z w hs=> .tmp O .nil,?_,fun Z w hs=>hs.out (Sk8 (Sd (Sr))) (fun _ h=>h)⟩
      refine ⟨M2,D2,?_,hd2,hok2,O,O⟩
      have hkd:madeK s.kind=true:=by have h:=h43;simp at h;rw [h];rfl
      rw [hkd];exact hc
     ·refine Jc (Ja (Lq (Ka O O) (Lq (Jd O) (Je (Jf (Jy O (fun h50=> ?_) (fun h50=> ?_)))))))
      ·refine Jt .z8 (Jt .z8 (Jt .z8 (Jt .z8 (Jt .z8 (Jt .z8 (Jt .z8 (Jt .z8 (Ja (Lq (Jb O) ?_)))))))))
       refine Lq (Jh (o':=4) Un42 O JY O O) (Lq (Jw (vs:= [_,_]) Un34 O JY O (Ji (Ji (Ji (Ji (Ji (Ji (Ji (Ji (Jm))))))))) O O) (Lq (Jh (o':=6) Un42 O ti4 O O) (Lq (Jj Un4 O O (Ji (Ji (Ji (Ji (Ji (Ji (Ji (Ji (Jm))))))))) O) (Jg O (JW (turn_c M D ok dg s.i0 s.i1 s.on) (.n3 O O O) (by decide) (.n8 .z .z .z .z .z .z .z .z) (Jl Mm0 (Jl Mm1 (Jl Mm2 (Jl Mm3 Jx)))) fun _ _ _ q9=>?_)))))
       obtain ⟨x5,e5,rfl,M2,D2,hc,hd2,hok2,rfl,rfl⟩:=q9
       refine Lq (Jb O) (Lq (Jk (vs:= [_,_]) O O) (Lq (Jk (vs:= [_,_]) O O) (Lq (Jd O) (Je (J9 (Jf (Jc (Ja (Lq (Jb O) (Lq (Jd O) (Je (Jf (Jn ?_)))))))))))))
       refine ⟨_,[_,_,_,_,_,_,_,_],[_,_,_],fun Z w hs=> .tmp O .nil,?_,fun Z w hs=>hs.out (Sk8 (Sd (Sr))) (fun _ h=>h)⟩
       refine ⟨M2,D2,?_,hd2,hok2,O,O⟩
       have hkd:madeK s.kind=true:=by have h:=h50;simp at h;rw [h];rfl
       rw [hkd];exact hc
      ·refine Jc (Ja (Lq (Ka O O) (Lq (Jd O) (Je (Jf (Jy O (fun h61=> ?_) (fun h61=> ?_)))))))
       ·refine Jt .z8 (Jt .z8 (Jt .z8 (Jt .z8 (Jt .z8 (Jt .z8 (Jt .z8 (Jt .z8 (Ja (Lq (Jb O) ?_)))))))))
        refine Lq (Jh (o':=7) Un42 O JF O O) (Lq (Jw (vs:= [_,_,_,_,_,_,_,_,_]) Un40 O JF O (Ji (Ji (Ji (Ji (Ji (Ji (Ji (Ji (Jm))))))))) O O) (Jg O (Jo (Zy s.o A c hs.rs) (.n1 O) (by decide) (Jl Mm4 Jx) fun _ _ _ q9=>?_)))
        obtain ⟨A8,c8,rfl,rfl,rfl⟩:=q9
        refine Jg O (JW (take_c M D ok dg s.o A8 c8 hs.otext hs.rs) (.n2 O O) (by decide) (.n8 .z .z .z .z .z .z .z .z) (Jl Mm1 (Jl Mm2 (Jl Mm3 (Jl Mm4 (Jl Mm0 (Jl Mm6 Jx)))))) fun _ _ _ q9=>?_)
        obtain ⟨M2,D2,hc,hd2,hok2,rfl,rfl⟩:=q9
        refine Lq (Jd O) (Je (J9 (Jf (Jc (Ja (Lq (Jb O) (Lq (Jd O) (Je (Jf (Jn ?_))))))))))
        refine ⟨_,[_,_,_,_,_,_,_,_],[_,_,_],fun Z w hs=> .tmp O .nil,?_,fun Z w hs=>hs.out (Sk8 (Sd (Sr))) (Jl Mm0 (Jl Mm1 (Jl Mm2 Tt4)))⟩
        refine ⟨M2,D2,?_,hd2,hok2,O,O⟩
        have hkd:madeK s.kind=false:=by have h:=h61;simp at h;rw [h];rfl
        rw [hkd];exact hc
       ·refine Jc (Ja (Lq (Ka O O) (Lq (Jd O) (Je (Jf (Jy O (fun h68=> ?_) (fun h68=> ?_)))))))
        ·refine Jt .z8 (Jt .z8 (Jt .z8 (Jt .z8 (Jt .z8 (Jt .z8 (Jt .z8 (Jt .z8 (Ja (Lq (Jb O) ?_)))))))))
         refine Lq (Jh (o':=4) Un42 O JY O O) (Lq (Jw (vs:= [_,_]) Un34 O JY O (Ji (Ji (Ji (Ji (Ji (Ji (Ji (Ji (Jm))))))))) O O) (Jg O (JW (conf_c M D ok dg s.i0 s.i1) (.n2 O O) (by decide) (.n8 .z .z .z .z .z .z .z .z) (Jl Mm0 (Jl Mm1 (Jl Mm2 (Jl Mm3 Jx)))) fun _ _ _ q9=>?_)))
         obtain ⟨M2,D2,hc,hd2,hok2,rfl,rfl⟩:=q9
         refine Lq (Jd O) (Je (J9 (Jf (Jc (Ja (Lq (Jb O) (Lq (Jd O) (Je (Jf (Jn ?_))))))))))
         refine ⟨_,[_,_,_,_,_,_,_,_],[_,_,_],fun Z w hs=> .tmp O .nil,?_,fun Z w hs=>hs.out (Sk8 (Sd (Sr))) (fun _ h=>h)⟩
         refine ⟨M2,D2,?_,hd2,hok2,O,O⟩
         have hkd:madeK s.kind=false:=by have h:=h68;simp at h;rw [h];rfl
         rw [hkd];exact hc
        ·refine Jp (J9 (Jf (Jc (Ja (Lq (Jb O) (Lq (Jd O) (Je (Jf (Jn ?_)))))))))
         refine ⟨_,[_,_,_,_,_,_,_,_],[_,_,_],fun Z w hs=> .tmp O .nil,?_,fun Z w hs=>hs.out (Sd (Sk8 (Sr))) (Jl Mm1 (Jl Mm2 (Jl Mm3 (fun _ h=>h))))⟩
         refine ⟨M,D, .inl ⟨O,?_⟩,O,ok,O,O⟩
         have hkd:madeK s.kind=false:=by
          unfold madeK
          refine decide_eq_false ?_
          simp at h8 h19 h30 h36 h43 h50 h61 h68
          omega
         rw [hkd];exact CallD.still dg rfl rfl
end Go.Proofs.YthkkklphanidjaaGreatDoor
