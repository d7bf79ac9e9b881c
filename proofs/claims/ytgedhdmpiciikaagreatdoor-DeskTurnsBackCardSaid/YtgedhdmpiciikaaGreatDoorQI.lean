/- Part of the proof that this claim's law answers true, whatever its arguments. Condition: the laid variables hold what their initialisers lay (the card ties that to the program's text). -/
import Derived.Test.YtgedhdmpiciikaaGreatDoorTie
import Derived.Test.YtgedhdmpiciikaaGreatDoorQH
set_option linter.unusedVariables false
set_option linter.unusedSimpArgs false
open Go.Proofs.Tryz renaming underlying1→Un1,underlying3→Un3,underlying4→Un4,underlying9→Un9,underlying20→Un20,underlying21→Un21,underlying22→Un22,underlying24→Un24,underlying25→Un25,underlying29→Un29,underlying30→Un30,underlying33→Un33,underlying34→Un34,underlying36→Un36,underlying38→Un38,underlying39→Un39,underlying40→Un40,underlying42→Un42,underlying43→Un43,underlying46→Un46,underlying47→Un47,underlying49→Un49,underlying50→Un50,underlying52→Un52,underlying54→Un54,underlying62→Un62,underlying67→Un67,underlying71→Un71,underlying74→Un74,underlying78→Un78,underlying93→Un93,underlying98→Un98,underlying116→Un116,underlying118→Un118,underlying121→Un121,underlying141→Un141,underlying143→Un143,underlying145→Un145,underlying149→Un149,underlying152→Un152,underlying154→Un154,underlying156→Un156,underlying157→Un157,underlying159→Un159,underlying160→Un160,underlying162→Un162,underlying167→Un167,underlying168→Un168,underlying170→Un170,underlying178→Un178,underlying188→Un188,underlying191→Un191,underlying195→Un195,underlying196→Un196,underlying198→Un198,underlying201→Un201,underlying213→Un213,underlying219→Un219
namespace Go.Proofs.YtgedhdmpiciikaaGreatDoor
open Go Go.GW
theorem eq121 (x0:ByteArray) (x1:Int) (y0:ByteArray) (y1:Int):EqT Tryz.prog 121 [.string x0, .int .i64 x1].toArray [.string y0, .int .i64 y1].toArray ((x0==y0) && ((x1==y1) && true)):=EqD.eqT (D:=2) (EqD.struct (D:=0) (l:= [(9,0),(3,1)]) (by kernel_rfl) (by kernel_rfl) (by kernel_rfl) (.str Un9 rfl rfl (.int Un3 rfl rfl .nil))) (by decide) (by kernel_rfl)
set_option maxRecDepth 10000 in
theorem sameRuns_t (A B:Option Addr) (c d:Nat) (xs:List Rn) (hl:xs.length≤1000000000):Sp Tryz.prog 27 [.slice A xs.length c, .slice B xs.length d] [] [RdF runD A c xs,RdF runD B d xs] (Is (.bool true)):=by
 refine Sp.of (n:=26) ⟨_,Tryz.func27,O,O,O,O⟩ (Nat.le_of_ble_eq_true O) fun Ps As=>Jc (Ja (Lq (Jd O) (Je (Jf (Jc (Jc (Ja (Lq (Jb O) (Lq (J3 Un67 O) (Lq (Jb O) (Lq (J3 Un67 O) (Lq (Kz O O) (Je (Jf ?_))))))))))))))
 refine Jv O (by simp) (Jp (Jf (Jc (Jc (Ja (Lq (Jd O) (Je (Jf (JE ?_)))))))))
 refine Kf (α:=Nat) (fun k=>xs.length-k)
  (fun k=> [(0, .slice A xs.length c),(1, .slice B xs.length d),(5, .int .i64 k)])
  (fun k=>Ps)
  (fun k=>(RdF runD A c xs::RdF runD B d xs::As))
  (fun k=>k≤xs.length)
  0 ?_ (.m3 rfl rfl rfl) (Sr) (fun _ h=>h) ?_
 ·exact Nat.zero_le _
 ·rintro k hI
  refine Jc (Jc (Ja (Lq (Jb O) (Lq (Jb O) (Lq (J3 Un67 O) (Lq (Km O O) (Je (Jf (Jy O (fun h14=> ?_) (fun h14=> ?_))))))))))
  ·refine Jp (Jf (Jc (JE (Jc ?_))))
   have hk:k<xs.length:=by have h:=h14;simp only [decide_eq_true_eq] at h;omega
   refine Kd (k:=k) Mm0 (List.getElem?_eq_getElem hk) (Vn _) fun b1 q1 y1 e1=> ?_
   cases e1
   refine Kd (k:=k) Mm2 (List.getElem?_eq_getElem hk) (Vn _) fun b2 q2 y2 e2=> ?_
   cases e2
   refine JI _ _ [] (.c 0 0 (.c 1 0 (.c 2 0 (.c 3 0 (.c 4 0 (.c 5 0 (.c 6 0 (.c 7 0 (.c 8 0 .nil))))))))) mixed (fun _ _ _ _ h=>h) (Sr) (fun _ h=>h) (by kernel_rfl) (by decide) fun ws Z0=>Qe O (Jb O) (Qe O (Jb O) (Qe O (J7 Un67 V2 O O (by omega) (by omega)) (Qe O (Kq (k:=0) (vs:= [_,_]) Un121 O V2 O Mm1 O O O) (Qe O (Jb O) (Qe O (Jb O) (Qe O (J7 Un67 V2 O O (by omega) (by omega)) (Qe O (Kq (k:=0) (vs:= [_,_]) Un121 O V2 O Mm0 O O O) (Qe O (Yq O O (eq121 _ _ _ _)) ?_))))))))
   refine JN (JM (Jf (Jv O (by simp [str_beq.2 O]) (Jp (Ka (Jf (Ja (Lq (Jb O) (Lq (JU O O (wr64 (by omega)) (c:=((k+1:Nat):Int))) (Lq (Jd O) (Je (Kp ?_))))))))))))
   refine ⟨k+1,?_,(.m3 O O O),(Sr),Tt3⟩
   exact ⟨by omega,by omega⟩
  ·refine Kk (JL (JL (Kc (Jf (Jc (Ja (Lq (Jd O) (Je (Jf (Jo ?_))))))))))
   refine ⟨_,[],[],fun Z w hs=> .tmp O .nil,?_,fun Z w hs=>hs.out (Sr) (fun _ h=>h)⟩
   exact ⟨O,O,O⟩
theorem edit_kind {H:Hist} (hv:HV H) {k:Nat} (hk:k<H.ents.length):H.ents[k].op.kind=1∨H.ents[k].op.kind=2∨H.ents[k].op.kind=4:=by
 have hk2:k<H.ops.length:=by rw [KG];exact hk
 have:=(CtxOk.at_ hk2 hv.ctx).kind
 have e:H.ops[k] =H.ents[k].op:=by simp [Hist.ops]
 rw [e] at this;exact this
def byE (e:Ent) (on:Bool):Int:=if (decide (e.op.kind=2)==on)=true then 1 else -1
theorem byE_off (e:Ent) (on:Bool):byE (offE e (!on)) (!on)= -byE e on:=by
 unfold byE
 show (if (decide (e.op.kind=2)== !on)=true then (1:Int) else -1)=_
 cases on<;>cases decide (e.op.kind=2)<;>rfl
structure TnI (D D2:DS) (k:Nat) (e:Ent):Prop where
 dv:DV D2
 row:D2.X=Kn e.now (byE e e.off) D.X
 pls:Pls D.X.length e.now
 ne:e.now≠ []
 up:byE e e.off=1→ ∀h:0<e.now.length,((D2.gap:Nat):Int)=e.now[0].lo
 dn:byE e e.off= -1→ ∀h:e.now.length-1<e.now.length,((D2.gap:Nat):Int)=e.now[e.now.length-1].hi
 hk:k<D2.H.ents.length
 en:D2.H.ents[k] =offE e (!e.off)
theorem tn_i {D:DS} (hv:DV D) (hm:D.made<1024) (hn:D.H.ops.length<900) {k:Nat} (hk:k<D.H.ents.length) (hk4:D.H.ents[k].op.kind≠4):TuD D D.H.ents[k].op.c D.H.ents[k].op.n D.H.ents[k].off k∧TnI D (statD D (D.H.ents[k].op.c,D.H.ents[k].op.n) D.H.ents[k].off k) k D.H.ents[k] :=by
 have hw:=Yj hv.di.hv.ids hk
 obtain ⟨i0,hi0⟩: ∃z,z=D.H.ents[k].op.c:=⟨_,rfl⟩
 obtain ⟨i1,hi1⟩: ∃z,z=D.H.ents[k].op.n:=⟨_,rfl⟩
 obtain ⟨on,hoff⟩: ∃z,D.H.ents[k].off=z:=⟨_,rfl⟩
 rw [←hi0,←hi1] at hw ⊢
 have hb0:byE D.H.ents[k] D.H.ents[k].off=byE D.H.ents[k] on:=by rw [hoff]
 have htu:=hv.tud hm hn hw hk hk4 on hoff
 have g:=hv.stat hm hn hw hk hk4 on
 have ho:=KG D.H
 have he:=(end_stat hv.di.hv (o:=statO D (i0,i1) on) (by rw [←ho];exact g) rfl hk hw hoff).2
 rw [←ho] at he
 have he2:(mkH D (statO D (i0,i1) on)).ents=D.H.ents.set k (offE D.H.ents[k] (!on))++ [⟨statO D (i0,i1) on,[],false⟩] :=he
 have hek:(mkH D (statO D (i0,i1) on)).ents[k]'htu.hj=offE D.H.ents[k] (!on):=by
  simp only [he2]
  rw [List.getElem_append_left (by simpa using hk),List.getElem_set_self]
 have hpl:=hv.di.hv.pls _ (List.getElem_mem hk)
 have hr:=hv.di.row
 have hpX:Pls D.X.length D.H.ents[k].now:=by rw [hr];exact hpl
 have hne:D.H.ents[k].now≠ [] :=fun e=>hk4 ((hv.di.hv.edit _ (List.getElem_mem hk)).2 e)
 have hent:entE (offE D.H.ents[k] (!on))=⟨D.H.ents[k].op.c,D.H.ents[k].op.n,D.H.ents[k].op.kind, !(!on),D.H.ents[k].now,0,0⟩:=by
  unfold entE offE;rw [if_neg hk4]
 have hgap:(statD D (i0,i1) on k).gap=turnGap D.gap ⟨D.H.ents[k].op.c,D.H.ents[k].op.n,D.H.ents[k].op.kind, !(!on),D.H.ents[k].now,0,0⟩ on:=by
  show turnGap _ (entryF (mkH D (statO D (i0,i1) on)) k).1 on=_
  rw [Yh htu.hj,hek,hent]
 have hkd:=edit_kind hv.di.hv hk
 rw [hoff]
 refine ⟨htu,(hv.statD k htu.mkd).1,by rw [hb0];exact stat_row hv.di g hk hw hoff,hpX,hne,fun hb h=> ?_,fun hb h=> ?_,htu.hj,by rw [hoff];exact hek⟩
 all_goals rw [hb0] at hb
 ·rw [hgap]
  obtain ⟨r0,rest,er⟩:=List.exists_cons_of_ne_nil hne
  have hlast:D.H.ents[k].now.getLast? =some D.H.ents[k].now[D.H.ents[k].now.length-1] :=by rw [List.getLast?_eq_getElem?,List.getElem?_eq_getElem]
  have hlo:=V7 hpX.norm _ (List.getElem_mem h)
  have hc:(on==(D.H.ents[k].op.kind==1))=false:=by
   unfold byE at hb
   rcases hkd with h1 | h1 | h1
   ·rw [h1] at hb ⊢;cases on<;>first | rfl | (exfalso;revert hb;decide)
   ·rw [h1] at hb ⊢;cases on<;>first | rfl | (exfalso;revert hb;decide)
   ·exact absurd h1 hk4
  have h0:D.H.ents[k].now[0] =r0:=by simp only [er,List.getElem_cons_zero]
  unfold turnGap
  rw [hlast]
  simp only [er,hc]
  rw [h0] at hlo
  simp
  omega
 ·rw [hgap]
  obtain ⟨r0,rest,er⟩:=List.exists_cons_of_ne_nil hne
  have hlast:D.H.ents[k].now.getLast? =some D.H.ents[k].now[D.H.ents[k].now.length-1] :=by rw [List.getLast?_eq_getElem?,List.getElem?_eq_getElem]
  have hlo:=V7 hpX.norm _ (List.getElem_mem h)
  have hc:(on==(D.H.ents[k].op.kind==1))=true:=by
   unfold byE at hb
   rcases hkd with h1 | h1 | h1
   ·rw [h1] at hb ⊢;cases on<;>first | rfl | (exfalso;revert hb;decide)
   ·rw [h1] at hb ⊢;cases on<;>first | rfl | (exfalso;revert hb;decide)
   ·exact absurd h1 hk4
  generalize hz:D.H.ents[k].now[D.H.ents[k].now.length-1] =z at hlast hlo ⊢
  unfold turnGap
  rw [hlast]
  simp only [er,hc,if_true]
  omega
theorem tn_back {D D1 D2:DS} {k:Nat} {e:Ent} (h1:TnI D D1 k e) (h2:TnI D1 D2 k (offE e (!e.off))):D2.X=D.X:=by
 have e1:byE (offE e (!e.off)) (offE e (!e.off)).off= -byE e e.off:=byE_off e e.off
 rw [h2.row,e1,h1.row]
 exact Xm h1.pls
theorem byE_cases (e:Ent):byE e e.off=1∨byE e e.off= -1:=by
 unfold byE
 split
 ·exact .inl O
 ·exact .inr O
theorem entE_st {e:Ent} (h:e.op.kind=4):entE e=⟨e.op.c,e.op.n,4,e.op.on,[],e.op.tc,e.op.tn⟩:=by unfold entE;rw [if_pos h,h]
theorem entE_ed {e:Ent} (h:e.op.kind≠4):entE e=⟨e.op.c,e.op.n,e.op.kind, !e.off,e.now,0,0⟩:=by unfold entE;rw [if_neg h]
theorem eff_st {D:DS} {i0 i1:Int} {k:Nat} (hw:JX D.H.ents i0 i1=some k) (hk:k<D.H.ents.length) (hk4:D.H.ents[k].op.kind=4) (on:Bool):effE D.H (i0,i1) on=63:=by
 unfold effE;rw [hw];simp only [List.getElem?_eq_getElem hk];rw [if_pos hk4]
theorem eff_tn {D:DS} {i0 i1:Int} {k:Nat} (hw:JX D.H.ents i0 i1=some k) (hk:k<D.H.ents.length) (hk4:D.H.ents[k].op.kind≠4) (on:Bool) (hoff:D.H.ents[k].off≠on):effE D.H (i0,i1) on=62:=by
 unfold effE;rw [hw];simp only [List.getElem?_eq_getElem hk];rw [if_neg hk4,if_neg hoff]
theorem Ze {D:DS} (hv:DV D) (h0:D.H.ops.length=0):textF D.X=⟨#[]⟩:=by
 have h1:=hv.total
 have h2:=hv.di.tot0
 have h3:=hv.di.row
 have:D.X= [] :=List.length_eq_zero_iff.1 (by omega)
 rw [this];rfl
theorem Jb5 {D:DS} (hv:DV D): ∀c∈D.X, -1000000≤c.2∧c.2≤1000000:=fun c hc=>by
 obtain ⟨q,hq,rfl⟩:=List.mem_iff_getElem.1 hc
 have h1:=hv.di.rule.cnt q _ (List.getElem?_eq_getElem hq)
 have h2:=Hu D.H.ents q
 have h3:=hv.di.len
 have h4:=hv.di.le
 omega
theorem turn_v (M:DM) (D:DS) (ok:DkOk M D) (hv:DV D) (q:Nat) (hb:BdN (q+1) D) (k:Nat) (hk:k<D.H.ents.length) (e:Ent) (he:D.H.ents[k] =e) (hk4:e.op.kind≠4):Sp Tryz.prog 20 [.pointer (some ⟨M.d,0,none⟩), .agg #[.int .i64 e.op.c, .int .i64 e.op.n], .bool e.off] (KC M D) (barF::KY M D) (fun v Lo fs=> ∃(M2:DM) (D2:DS),TnI D D2 k e∧BdN q D2∧M2.d=M.d∧DkOk M2 D2∧v= .tuple #[opV (statO D (e.op.c,e.op.n) e.off) none 0, .nilIface] ∧Lo=KC M2 D2∧fs=KY M2 D2):=by
 subst he
 have hbd:=hb.bd
 have hbm:=hbd.m
 have hbn:=hbd.n
 have hlm:=ok.lm
 obtain ⟨htu,hI⟩:=tn_i hv (by omega) (by omega) hk hk4
 refine (turn_d M D ok (by omega) _ _ _ k k (Yj hv.di.hv.ids hk) hk hk4 O htu).mono ?_
 rintro v Lo fs ⟨M2,hd,hok,rfl,rfl,rfl⟩
 obtain ⟨h1,h2⟩:=hv.statD k htu.mkd
 exact ⟨M2,_,hI,h2.bdn hb,hd,hok,O,O,O⟩
theorem runs_sz (X:List Ce) (h:X.length≤60000): ∀r∈runsF X,r.1.size≤1073741824:=fun r hr=>by
 have h1:=Ew X
 rw [let_size] at h1
 have h2:r.1.data.toList.length≤((runsF X).flatMap fun r=>r.1.data.toList).length:=by
  obtain ⟨s,t,e⟩:=List.append_of_mem hr
  rw [e,List.flatMap_append,List.flatMap_cons]
  simp only [List.length_append];omega
 rw [Array.length_toList] at h2
 have:r.1.size=r.1.data.size:=rfl
 omega
set_option maxRecDepth 10000 in
theorem EF (nd:Int) (B1:Option Addr) (cb:Nat) (acts:List GAct) (pick:Int):Sp Tryz.prog 4 [.agg #[.int .i64 nd, .slice B1 acts.length cb], .int .i64 pick] [] [barF,wordsF,RdF actD B1 cb acts] (Is (.bool true)):=by
 refine Sp.of (n:=234) ⟨_,Tryz.func4,O,O,O,O⟩ (Nat.le_of_ble_eq_true O) fun Ps As=>Jc (Ja (Jg O (J9 (cs:= [_,_]) O O (by decide) fun b2=>Lq (Jd O) (Je (Jf (Jc (Ja (Lq (Jh (o':=0) Un24 O ti3 O O) (Lq (Jj Un3 O O Jn O) (Jg O (Jm (Jb9 nd) (.n1 O) (by decide) Jw fun u1_2 Lo fs hres=> ?_)))))))))))
 obtain ⟨Rs,A1,c1,hR,rfl,rfl,rfl⟩:=hres
 refine Lq (Jd O) (Je (Jf (Jc (Jc ?_))))
 have hl0:0<Rs.length:=by have:=hR.len;omega
 refine Kd (k:=0) Mm0 (by rw [List.getElem?_map,List.getElem?_eq_getElem hl0];rfl) (pt_open _) fun b2 q2 y2 e2=> ?_
 cases e2
 refine Ja (Lq (Jb O) (Lq (Ja6 Un25 O) (Lq (Jb O) (Ks O O O O (Jm (Jbl) .nil (by decide) (Jl Mm3 Jw) fun u2_3 Lo fs hres=> ?_)))))
 obtain ⟨rfl,rfl,rfl⟩:=hres
 refine Lg O O O O (KL O) (Lq (JH O O O) (Je (Jf (Jv O O (Jp (Jf (Jc (Ja (Lq (Jb O) (Lq (Jh (o':=1) Un24 O Jcn O O) (Lq (Jj Un22 O O (Ji (Jn)) O) (Jg O (JR (Jba Rs [] hR (some ⟨b2,q2,none⟩) c1 acts B1 cb) (.n2 O O) (by decide) .z (Jl Mm3 (Jl Mm4 (Jl Mm2 (Jl Mm1 (Jl Mm5 Jw))))) fun u4_3 Lo fs hres=> ?_)))))))))))))
 obtain ⟨Rs2,G2,hR2,hm2,rfl,rfl,rfl⟩:=hres
 refine Lq (Jd O) (Je (Jf (Jc (Jc (Ja (Lq (Jb O) (Lq (KL O) (Je (Jf (Jv O O (Jp (Jf (Jc ?_)))))))))))))
 obtain ⟨M0,D0,T0,rfl⟩:=hR2.hd
 refine Kd (k:=0) Mm2 (show _=some M0.d by rw [←hm2];rfl) (pt_open _) fun b7 q7 y7 e7=> ?_
 cases e7
 refine JA .z (Zs Mm1 ?_)
 have ok0:DkOk M0 D0:=hR2.ok _ List.mem_cons_self
 have hv0:DV D0:=hR2.dv _ List.mem_cons_self
 have hb0:BdN 2 D0:=hR2.bdn (by decide) List.mem_cons_self 2 (by decide)
 have hbn:=hb0.n
 have hbm:=hb0.m
 have hxl:=ok0.xl
 clear hm2
 refine Ja (Lq (Jb O) (Lq (J7 Un25 Hc O O (by omega) (by omega)) (Lq (Kb (j:=0) Un29 O O Mm3 O O) (Lq (Jd O) (Je (Jf (Jc (Jc (Ja (Lq (Jb O) (Lq (JC O) (Lq (Jh (o':=_+0) Un42 O Yk O O) (Jg O (Kv (V4 M0.d M0.h M0.m M0.b D0.H.ops.length M0.cap _ _ M0.A D0.H.total) (.n1 O) (by decide) .z .z Jw fun u8_3 Lo fs hres=> ?_))))))))))))))
 obtain ⟨rfl,rfl,rfl⟩:=hres
 refine Lq (Kh O O) (Je (Jf (Jy O (fun h45=> ?_) (fun h45=> ?_))))
 ·refine Jc (Ja (Lq (Jh (o':=1) Un24 O Jcn O O) (Lq (Jj Un22 O O (Ji (Ji (Ji (Ji (Ji (Ji (Ji (Ji (Jn))))))))) O) (Lq (J3 Un22 O) (Lq (Kh O O) (Lq (Jb O) (J4 (t:=50) O (fun g50=> ?_) (fun g50=> ?_))))))))
  ·refine Ln O O O g50 (Ln O O O g50 (Ln O O O g50 (Ln O O O g50 (Ln O O O g50 (Lq (JP O g50 O) (Lq (Jd O) (Je (Jf (Jo (Js ?_))))))))))
   refine ⟨_,[],[],fun Z w hs=> .tmp O .nil,?_,fun Z w hs=>hs.out (Sd (Sd (Sd (Sd (Sd (Sd (Sd (Sd (Sd (Sr)))))))))) Tt8⟩
   first | exact ⟨rfl,rfl,rfl⟩ | exact ⟨congrArg Value.bool (str_beq.2 rfl),rfl,rfl⟩
  ·refine Lg O O O g50 (Jb O) (Lg O O O g50 (JC O) (Lg O O O g50 (Jh (o':=_+0) Un42 O Yk O O) (Ks O O O g50 (Kv (QI M0.d M0.h M0.b _ _ M0.B M0.t ok0.wt (by have:=ok0.tl;omega)) (.n1 O) (by decide) .z .z3 (Jl Mm2 Jw) fun u9_8 Lo fs hres=> ?_))))
   obtain ⟨rfl,rfl,rfl⟩:=hres
   rw [ok0.row,Ze hv0 (by have h:=h45;simpa using h)]
   refine Lg O O O g50 (Gh O O) (Lq (JH O g50 O) (Lq (Jd O) (Je (Jf (Jo (Js ?_))))))
   refine ⟨_,[],[],fun Z w hs=> .tmp O .nil,?_,fun Z w hs=>hs.out (Sd (Sd (Sd (Sd (Sd (Sd (Sd (Sd (Sd (Sr)))))))))) Tt8⟩
   first | exact ⟨rfl,rfl,rfl⟩ | exact ⟨congrArg Value.bool (str_beq.2 rfl),rfl,rfl⟩
 ·refine Jp (Jf (Jc (Ja (Lq (Jb O) (Lq (Jb O) (Lq (JC O) (Lq (Jh (o':=_+0) Un42 O Yk O O) (Jg O (Kv (V4 M0.d M0.h M0.m M0.b D0.H.ops.length M0.cap _ _ M0.A D0.H.total) (.n1 O) (by decide) .z .z Jw fun u10_4 Lo fs hres=> ?_)))))))))
  obtain ⟨rfl,rfl,rfl⟩:=hres
  refine Jg O (Jm (K9 pick D0.H.ops.length (by have h:=h45;simp only [beq_eq_false_iff_ne,ne_eq] at h;omega)) (.n2 O O) (by decide) Jw fun u10_5 Lo fs hres=> ?_)
  obtain ⟨k,hk,_,rfl,rfl,rfl⟩:=hres
  refine Lq (Jd O) (Je (Jf (Jc ?_)))
  have hk2:k<D0.H.ents.length:=by rw [←KG];exact hk
  have hwh:=Yj hv0.di.hv.ids hk2
  obtain ⟨e,he⟩: ∃z,D0.H.ents[k] =z:=⟨_,rfl⟩
  rw [he] at hwh
  by_cases h4:e.op.kind=4
  ·refine Ja (Lq (Jb O) (Lq (JC O) (Lq (Jh (o':=_+0) Un42 O Yk O O) (Lq (Jb O) (Jg O (J6 (GR M0.d M0.b _ _ M0.h M0.m M0.cap M0.A D0.H M0.L ok0.hr k hk2) (.n2 O O) (by decide) (.n4 .z .z .z .z) (Jl Mm0 (Jl Mm1 Jw)) fun u11_4 Lo fs hres=> ?_))))))
   obtain ⟨Ae,ce,rfl,rfl,rfl⟩:=hres
   rw [he,entE_st h4]
   dsimp only
   refine Lq (Jb O) (Lq (Jk (vs:= [_,_]) O O) (Lq (Jk (vs:= [_,_]) O O) (Jg O (Ju (cs:= [_,_,_,_,_,_,_]) Y3 O (by decide) fun b9=>Jg O (Jq (cs':= [_,_,_,_,_,_,_]) (vs:= [_,_,_,_,_,_,_]) Y3 O O O O O (Nat.le_of_ble_eq_true O) .z (Lq (Jd O) (Je (Jf (Jc (Jc (Ja (Lq (Jb O) (Lq (KX Un54 O) (Je (Jf (Jv O O (Jp (Jf (Jc (Jc (Ja ?_)))))))))))))))))))))
   refine Lq (Jh (o':=2) Un62 O Yt O O) (Lq (Jj Un47 O O Jn O) (Lq (Kh O O) (Je (Jf (J1 O O (Jc (Ja (Lq (Jb O) (Lq (Jh (o':=0) Un62 O JW O O) (Lq (Jt (vs:= [_,_]) Un46 O JW O Jn O O) ?_))))))))))
   refine Jg O (J6 (turn_x M0 D0 ok0 (by omega) e.op.c e.op.n true (by rw [eff_st hwh hk2 (by rw [he];exact h4) true];decide)) (.n3 O O O) (by decide) (.n8 .z1 .z1 .z1 .z1 .z1 .z1 .z1 .z1) (Jl Mm9 (Jl Mm1 (Jl Mm2 (Jl Mm3 Jw)))) fun u15_3 Lo fs hres=> ?_)
   obtain ⟨ep,rfl,rfl,rfl⟩:=hres
   rw [eff_st hwh hk2 (by rw [he];exact h4) true]
   refine Lq (Jb O) (Lq (Jk (vs:= [_,_]) O O) (Lq (Jk (vs:= [_,_]) O O) (Jg O (Ju (cs:= [_,_,_,_,_,_,_,_,_]) JD O (by decide) fun b11=>Jg O (Jq (cs':= [_,_,_,_,_,_,_,_,_]) (vs:= [_,_,_,_,_,_,_,_,_]) JD O O O O O (Nat.le_of_ble_eq_true O) .z (Lq (Jd O) (Je (Jf (Jc (Ja (Lq (Jb O) (Jg O (Jm (told_t ep ⟨#[84,117,114,110]⟩ 0 63 (by decide)) (.n4 O O O O) (by decide) (Jl Mm0 Jw) fun u16_1 Lo fs hres=> ?_)))))))))))))
   obtain ⟨rfl,rfl,rfl⟩:=hres
   refine Lq (Jd O) (Je (Jf (Jo (Js ?_))))
   refine ⟨_,[],[],fun Z w hs=> .tmp O .nil,?_,fun Z w hs=>hs.out (Sd (Sd (Sd (Sd (Sd (Sd (Sd (Sd (Sd (Sd (Sd (Sr)))))))))))) Tt10⟩
   first | exact ⟨rfl,rfl,rfl⟩ | exact ⟨congrArg Value.bool (str_beq.2 rfl),rfl,rfl⟩
  ·have hk4:D0.H.ents[k].op.kind≠4:=by rw [he];exact h4
   have hpX:Pls D0.X.length e.now:=by have h1:=hv0.di.hv.pls _ (List.getElem_mem hk2);rw [he] at h1;rw [hv0.di.row];exact h1
   have hne:e.now≠ [] :=by have h1:=fun h=>hk4 ((hv0.di.hv.edit _ (List.getElem_mem hk2)).2 h);rw [he] at h1;exact h1
   have hnl:=List.length_pos_iff.2 hne
   have hpl:=hpX.len (by omega)
   refine Ja (Lq (Jb O) (Lq (JC O) (Lq (Jh (o':=_+0) Un42 O Yk O O) (Lq (Jb O) (Jg O (J6 (GR M0.d M0.b _ _ M0.h M0.m M0.cap M0.A D0.H M0.L ok0.hr k hk2) (.n2 O O) (by decide) (.n4 .z .z .z .z) (Jl Mm0 (Jl Mm1 Jw)) fun u11_4 Lo fs hres=> ?_))))))
   obtain ⟨Ae,ce,rfl,rfl,rfl⟩:=hres
   rw [he,entE_ed h4]
   dsimp only
   refine Lq (Jb O) (Lq (Jk (vs:= [_,_]) O O) (Lq (Jk (vs:= [_,_]) O O) (Jg O (Ju (cs:= [_,_,_,_,_,_,_]) Y3 O (by decide) fun b9=>Jg O (Jq (cs':= [_,_,_,_,_,_,_]) (vs:= [_,_,_,_,_,_,_]) Y3 O O O O O (Nat.le_of_ble_eq_true O) .z (Lq (Jd O) (Je (Jf (Jc (Jc (Ja (Lq (Jb O) (Lq (KX Un54 O) (Je (Jf (Jv O O (Jp (Jf (Jc (Jc (Ja ?_)))))))))))))))))))))
   refine Lq (Jh (o':=2) Un62 O Yt O O) (Lq (Jj Un47 O O Jn O) (Lq (Kh O O) (Je (Jf (Jv O (by simpa using h4) (Jp (Jf (Jc (Ja (Lq (Jb O) (Lq (JC O) (Lq (Jh (o':=_+0) Un42 O Yk O O) (Jg O (Kv (Gd M0.d M0.b _ _ M0.h M0.B M0.t ok0.wt (by have:=ok0.tl;omega)) (.n1 O) (by decide) .z1 .z4 (Jl Mm3 Jw) fun u17_3 Lo fs hres=> ?_))))))))))))))
   obtain ⟨A17,c17,rfl,rfl,rfl⟩:=hres
   rw [ok0.row]
   refine Lq (Jd O) (Je (Jf (Jc (Ja (Lq (Jb O) (Lq (JC O) (Lq (Jh (o':=_+0) Un42 O Yk O O) (Jg O (Kv (QI M0.d M0.h M0.b _ _ M0.B M0.t ok0.wt (by have:=ok0.tl;omega)) (.n1 O) (by decide) .z .z (Jl Mm4 Jw) fun u18_3 Lo fs hres=> ?_)))))))))
   obtain ⟨rfl,rfl,rfl⟩:=hres
   rw [ok0.row]
   refine Lq (Jd O) (Je (Jf (Jc (Ja (Lq (Jb O) (Lq (Jh (o':=0) Un62 O JW O O) (Lq (Jt (vs:= [_,_]) Un46 O JW O (Ji (Ji (Jn))) O O) (Lq (Jh (o':=3) Un62 O ti4 O O) (Lq (Jj Un4 O O (Ji (Ji (Jn))) O) ?_)))))))))
   refine Jg rfl (J6 (turn_x M0 D0 ok0 (by omega) e.op.c e.op.n (!e.off) (by rw [eff_tn hwh hk2 hk4 (!e.off) (by rw [he];cases e.off<;>decide)];decide)) (.n3 rfl rfl rfl) (by decide) (.n8 .z .z2 .z2 .z2 .z .z1 .z1 .z1) (Jl Mm10 (Jl Mm2 (Jl Mm3 (Jl Mm4 Jw)))) fun u19_5 Lo fs hres=> ?_)
   obtain ⟨ep,rfl,rfl,rfl⟩:=hres
   rw [eff_tn hwh hk2 hk4 (!e.off) (by rw [he];cases e.off<;>decide)]
   refine Lq (Jb O) (Lq (Jk (vs:= [_,_]) O O) (Lq (Jk (vs:= [_,_]) O O) (Jg O (Ju (cs:= [_,_,_,_,_,_,_,_,_]) JD O (by decide) fun b15=>Jg O (Jq (cs':= [_,_,_,_,_,_,_,_,_]) (vs:= [_,_,_,_,_,_,_,_,_]) JD O O O O O (Nat.le_of_ble_eq_true O) .z (Lq (Jd O) (Je (Jf (Jc (Jc (Ja (Lq (Jb O) (Jg O (Jm (told_t ep ⟨#[84,117,114,110]⟩ 0 62 (by decide)) (.n4 O O O O) (by decide) (Jl Mm0 Jw) fun u20_1 Lo fs hres=> ?_))))))))))))))
   obtain ⟨rfl,rfl,rfl⟩:=hres
   refine Lq (KL O) (Lq (Jb O) (Lg O O O O (Jb O) (Lg O O O O (JC O) (Lg O O O O (Jh (o':=_+0) Un42 O Yk O O) (Ks O O O O (Kv (QI M0.d M0.h M0.b _ _ M0.B M0.t ok0.wt (by have:=ok0.tl;omega)) (.n1 O) (by decide) .z1 .z4 (Jl Mm5 Jw) fun u20_7 Lo fs hres=> ?_))))))
   obtain ⟨rfl,rfl,rfl⟩:=hres
   rw [ok0.row]
   refine Lg O O O O (Jb O) (Lg O O O O (Gg O O) (Lq (JH O O O) (Je (Jf (Jv O (by rw [str_beq.2 O];rfl) (Jp (Jf (Jc (Ja (Lq (Jb O) (Lq (Jh (o':=0) Un62 O JW O O) (Lq (Jt (vs:= [_,_]) Un46 O JW O (Ji (Ji (Ji (Ji (Ji (Ji (Ji (Ji (Ji (Jn)))))))))) O O) (Lq (Jh (o':=3) Un62 O ti4 O O) ?_)))))))))))))
   refine Lq (Jj Un4 O O (Ji (Ji (Ji (Ji (Ji (Ji (Ji (Ji (Ji (Jn)))))))))) O) (Lq (KL O) ?_)
   rw [Bool.not_not]
   refine Jg O (J6 (turn_v M0 D0 ok0 hv0 1 hb0 k hk2 e he h4) (.n3 O O O) (by decide) (.n8 .z .z2 .z2 .z2 .z .z1 .z1 .z1) (Jl Mm11 (Jl Mm3 (Jl Mm4 (Jl Mm5 Jw)))) fun u22_6 Lo fs hres=> ?_)
   obtain ⟨M1,D1,hI1,hb1n,hd1,ok1,rfl,rfl,rfl⟩:=hres
   refine Lq (Jb O) (Lq (Jk (vs:= [_,_]) O O) (Lq (Jk (vs:= [_,_]) O O) (Jg O (Ju (cs:= [_,_,_,_,_,_,_,_,_]) JD O (by decide) fun b17=>Jg O (Jq (cs':= [_,_,_,_,_,_,_,_,_]) (vs:= [_,_,_,_,_,_,_,_,_]) JD O O O O O (Nat.le_of_ble_eq_true O) .z (Lq (Jd O) (Je (Jf (Jc (Jc ?_))))))))))
   rw [←hd1]
   have ok1x:=ok1.xl
   have hlet:lttF (runsF D1.X)=lttF (runsF D0.X):=let_runs (by rw [hI1.row];exact GB hpX)
   have hr0:(runsF D0.X).length≤D0.X.length:=(XR D0.X).flush.2
   have hr1:(runsF D1.X).length≤D1.X.length:=(XR D1.X).flush.2
   have hl0x:=Ew D0.X
   have hl1x:=Ew D1.X
   have hc0:ctrF (runsF D0.X)=D0.X.map (fun c:Ce=>c.2):=ctr_runs hv0.di.made.okR
   have hc1:ctrF (runsF D1.X)=(Kn e.now (byE e e.off) D0.X).map (fun c:Ce=>c.2):=by rw [ctr_runs hI1.dv.di.made.okR,hI1.row]
   have hb1:=GC (k:=byE e e.off) hpX
   refine Ja (Lq (Jb O) (Lq (KX Un54 O) (Lq (Jb O) (Lg O O O O (Jh (o':=0) Un52 O KW O O) (Lg O O O O (Jh (o':=2) Un49 O Yt O O) (Lg O O O O (Jj Un47 O O Jn O) (Lg O O O O (Kz O O) (Lq (JH O O O) (Lq (Jb O) ?_)))))))))
   refine Lg O O O O (Jh (o':=6) Un52 O JW O O) (Lg O O O O (Jt (vs:= [_,_]) Un46 O JW O Jn O O) (Lg O O O O (Jh (o':=0) Un62 O JW O O) (Lg O O O O (Jt (vs:= [_,_]) Un46 O JW O (Ji (Ji (Ji (Ji (Ji (Ji (Ji (Ji (Ji (Ji (Jn))))))))))) O O) (Lg O O O O (Yq O O (eq46 _ _ _ _)) (Lq (JH O O O) (Lq (Jb O) (Lg O O O (by simp [statO]) (Jh (o':=8) Un52 O ti4 O O) (Lg O O O (by simp [statO]) (Jj Un4 O O Jn O) (Lg O O O (by simp [statO]) (Jh (o':=3) Un62 O ti4 O O) ?_)))))))))
   refine Lg rfl rfl rfl (by simp [statO]) (Jj Un4 rfl rfl (Ji (Ji (Ji (Ji (Ji (Ji (Ji (Ji (Ji (Ji (Jn))))))))))) rfl) (Lg rfl rfl rfl (by simp [statO]) (q_beql' Un4 rfl rfl) (Lq (JH rfl (by simp [statO]) rfl) (Lq (Jb rfl) (Lg rfl rfl rfl (by show (e.off== !e.off)=false;cases e.off<;>rfl) (Jh (o':=4) Un62 rfl Ya rfl rfl) (Lg rfl rfl rfl (by show (e.off== !e.off)=false;cases e.off<;>rfl) (Jj Un50 rfl rfl (Ji (Ji (Ji (Ji (Ji (Ji (Ji (Ji (Ji (Ji (Jn))))))))))) rfl) (Lg rfl rfl rfl (by show (e.off== !e.off)=false;cases e.off<;>rfl) (J3 Un50 rfl) (Lg rfl rfl rfl (by show (e.off== !e.off)=false;cases e.off<;>rfl) (Kh rfl rfl) (Lq (JH rfl (by show (e.off== !e.off)=false;cases e.off<;>rfl) rfl) (Je (Jf ?_))))))))))
   refine JF [(150,_),(14,_),(13,_),(9,_),(7,_),(4,_)] (.m6 O O O O O O) (Jv O (by simp;exact hne) (Jp (Jf (Jc (JA .z8 (JA .z8 (JA .z8 (JA .z8 (JA .z8 (JA .z8 (JA .z8 ?_)))))))))))
   refine JA .z8 (Ja (Lq (Jd O) (Je (Jf ?_))))
   refine XY (α:=Int)
    (fun by_=> [(7, .pointer (some ⟨M1.d,0,none⟩)),(9, .pointer (some ⟨b9,0,none⟩)),(13, .slice A17 (runsF D0.X).length c17),(14, .string (textF D0.X)),(19, .int .i64 by_)])
    (fun by_=>(dkB M1 D1::hdP M1.h M1.A D1.H.ops.length M1.cap M1.m D1.H.total::mpP M1.m M1.L::mkP M1.L::rpP M1.b M1.B::stP M1.s M1.vu M1.vr::M1.pu::M1.pr:: [(b9,JB [.int .i64 e.op.c, .int .i64 e.op.n, .int .i64 e.op.kind, .bool (!e.off), .slice Ae e.now.length ce, .int .i64 0, .int .i64 0] 62)] ::Ps))
    (fun by_=>(RdF opD M1.A M1.cap D1.H.ops::AllF M1.L nowF::TrF M1.B M1.t::RdF runD A17 c17 (runsF D0.X)::RdF rgD Ae ce e.now::barF::wordsF::RdF actD B1 cb acts::As))
    (fun by_=>by_=byE e e.off) ?_ ?_
   ·refine Jc (Ja (Lq (Jh (o':=3) Un62 O ti4 O O) (Lq (Jj Un4 O O (Ji (Ji (Ji (Ji (Ji (Ji (Ji (Ji (Ji (Ji (Jn))))))))))) O) (Lq (Jh (o':=2) Un62 O Yt O O) (Lq (Jj Un47 O O (Ji (Ji (Ji (Ji (Ji (Ji (Ji (Ji (Ji (Ji (Jn))))))))))) O) (Lq (Kh O O) (Lq (q_beql' Un4 O O) (Je (Jf (Jy O (fun h156=> ?_) (fun h156=> ?_)))))))))))
    ·refine Ja (Lq (Jd O) (Je (Kp ?_)))
     refine ⟨-1,?_,(.m5 O O O O O),(Sk (Sk (Sk (Sk (Sk (Sk (Sk (Sk (Sd (Sd (Sk (Sd (Sr))))))))))))),(Jl Mm0 (Jl Mm1 (Jl Mm2 (Jl Mm4 (Jl Mm5 Tt14)))))⟩
     have h:=h156
     show _=byE e e.off
     unfold byE
     by_cases hk:e.op.kind=2<;>cases hf:e.off<;>simp [hk,hf] at h ⊢
    ·refine Jp (Kp ?_)
     refine ⟨1,?_,(.m5 O O O O O),(Sk (Sk (Sk (Sk (Sk (Sk (Sk (Sk (Sd (Sd (Sk (Sd (Sr))))))))))))),(Jl Mm0 (Jl Mm1 (Jl Mm2 (Jl Mm4 (Jl Mm5 Tt14)))))⟩
     have h:=h156
     show _=byE e e.off
     unfold byE
     by_cases hk:e.op.kind=2<;>cases hf:e.off<;>simp [hk,hf] at h ⊢
   ·rintro by_ hby
    have hby:by_=byE e e.off:=hby
    have hbc:=byE_cases e
    rw [←hby] at hbc
    refine Jc (Ja (Lq (Jb O) (Lq (JC O) (Lq (Jh (o':=_+0) Un42 O Yk O O) (Jg O (Kv (Gd M1.d M1.b _ _ M1.h M1.B M1.t ok1.wt (by have:=ok1.tl;omega)) (.n1 O) (by decide) .z .z3 (Jl Mm2 Jw) fun u28_3 Lo fs hres=> ?_))))))
    obtain ⟨A28,c28,rfl,rfl,rfl⟩:=hres
    rw [ok1.row]
    refine Lq (Jd O) (Je (Jf (Jc (Jc (JA .z7 (JA .z7 (JA .z7 (JA .z4 (JA .z7 (JA .z7 (JA .z7 (JA .z7 ?_))))))))))))
    refine JI _ _ [] (.c 0 0 (.c 2 0 (.c 1 2 (.c 3 2 (.c 4 0 (.c 5 0 (.c 6 0 (.c 8 0 (.c 10 0 (.c 11 0 (.c 12 0 (.c 7 2 (.c 9 2 (.c 13 2 (.c 14 0 (.c 15 0 .nil)))))))))))))))) mixed (fun _ _ _ _ h=>h) (Sk (Sk (Sk (Sk (Sk (Sk (Sk (Sk (Sk (Sr)))))))))) (fun _ h=>h) (by kernel_rfl) (by decide) fun ws Z0=>Qe O (Jb O) (Qe O (Jb O) (Jz O O (Jm (GX A28 c28 (runsF D1.X) (by omega) (by omega)) (.n1 O) (by decide) (Jl Mm1 Jw) fun u29_1 Lo fs hres=> ?_)))
    obtain ⟨rfl,rfl,rfl⟩:=hres
    rw [hlet]
    refine ⟨⟨(Sk (Sk (Sk (Sk (Sk (Sk (Sk (Sk (Sk (Sr)))))))))),Mm0⟩,?_⟩
    refine Jz O O (Jm (GX A17 c17 (runsF D0.X) (by omega) (by omega)) (.n1 O) (by decide) (Jl Mm5 Jw) fun u29_3 Lo fs hres=> ?_)
    obtain ⟨rfl,rfl,rfl⟩:=hres
    refine ⟨⟨(Sk (Sk (Sk (Sk (Sk (Sk (Sk (Sk (Sk (Sr)))))))))),Mm0⟩,?_⟩
    refine Qe O (Gg O O) (Qe O (Jb O) (Ki O O O O (by rw [str_beq.2 O];rfl) (Jb O) (by decide) (Ki O O O O (by rw [str_beq.2 O];rfl) (Jb O) (by decide) (Ki O O O O (by rw [str_beq.2 O];rfl) (Jh (o':=4) Un62 O Ya O O) (by decide) (Ki O O O O (by rw [str_beq.2 O];rfl) (Jj Un50 O O (Ji (Ji (Ji (Ji (Ji (Ji (Ji (Ji (Jn))))))))) O) (by decide) (Ki O O O O (by rw [str_beq.2 O];rfl) (Jb O) (by decide) (YK O O O O O (by rw [str_beq.2 O];rfl) (Jm (Gw A17 c17 (runsF D0.X) (by omega) (by rw [hc0,List.length_map];omega) (runs_sz D0.X hxl)) (.n1 O) (by decide) (Jl Mm5 Jw) fun u29_7 Lo fs hres=> ?_))))))))
    obtain ⟨A29,c29,rfl,rfl,rfl⟩:=hres
    rw [hc0]
    refine ⟨⟨(Sk (Sk (Sk (Sk (Sk (Sk (Sk (Sk (Sk (Sr)))))))))),Mm1⟩,?_⟩
    refine YK O O O O O (by rw [str_beq.2 O];rfl) (Jm (Gw A28 c28 (runsF D1.X) (by omega) (by rw [hc1,List.length_map];omega) (runs_sz D1.X ok1x)) (.n1 O) (by decide) (Jl Mm2 Jw) fun u29_9 Lo fs hres=> ?_)
    obtain ⟨A30,c30,rfl,rfl,rfl⟩:=hres
    rw [hc1,←hby]
    refine ⟨⟨(Sk (Sk (Sk (Sk (Sk (Sk (Sk (Sk (Sk (Sr)))))))))),Mm2⟩,?_⟩
    refine YK O O O O O (by rw [str_beq.2 O];rfl) (Jm (Zg A29 A30 Ae c29 c30 ce D0.X e.now by_ (by omega) (by have h:=hpX.below _ (List.getElem_mem hnl);have h2:=XU hpX.norm (List.getElem_mem hnl);omega) (by omega) hpX (Jb5 hv0)) (.n4 O O O O) (by decide) (Jl Mm1 (Jl Mm0 (Jl Mm8 Jw))) fun u29_13 Lo fs hres=> ?_)
    obtain ⟨rfl,rfl,rfl⟩:=hres
    refine ⟨⟨(Sk (Sk (Sk (Sk (Sk (Sk (Sk (Sk (Sk (Sr)))))))))),Mm2⟩,?_⟩
    refine Ki O O O O (by rw [str_beq.2 O];rfl) (KL O) (by decide) (Qe O (JH O (by rw [str_beq.2 O];rfl) O) (JN (JM (Jf (Jv O O (Jp (Jf ?_)))))))
    refine XY (α:=Unit)
     (fun _=> [(7, .pointer (some ⟨M1.d,0,none⟩)),(9, .pointer (some ⟨b9,0,none⟩)),(13, .slice A17 (runsF D0.X).length c17),(14, .string (textF D0.X))])
     (fun _=>(dkB M1 D1::hdP M1.h M1.A D1.H.ops.length M1.cap M1.m D1.H.total::mpP M1.m M1.L::mkP M1.L::rpP M1.b M1.B::stP M1.s M1.vu M1.vr::M1.pu::M1.pr:: [(b9,JB [.int .i64 e.op.c, .int .i64 e.op.n, .int .i64 e.op.kind, .bool (!e.off), .slice Ae e.now.length ce, .int .i64 0, .int .i64 0] 62)] ::Ps))
     (fun _=>(RdF opD M1.A M1.cap D1.H.ops::AllF M1.L nowF::TrF M1.B M1.t::RdF runD A17 c17 (runsF D0.X)::RdF rgD Ae ce e.now::barF::wordsF::RdF actD B1 cb acts::As))
     (fun _=>True) ?_ ?_
    ·refine Jc ?_
     rcases hbc with hb | hb
     ·refine Kd (k:=0) Mm8 (List.getElem?_eq_getElem hnl) (rg_open _) fun b31 q31 y31 e31=> ?_
      cases e31
      have hnl1:e.now.length-1<e.now.length:=by omega
      refine Kd (k:=(e.now.length-1)) Mm9 (List.getElem?_eq_getElem hnl1) (rg_open _) fun b32 q32 y32 e32=> ?_
      cases e32
      refine JI _ _ [] (.c 0 0 (.c 1 0 (.c 2 0 (.c 3 0 (.c 5 0 (.c 6 0 (.c 7 0 (.c 8 0 (.c 9 0 (.c 4 2 (.c 10 0 (.c 11 0 (.c 12 0 (.c 13 0 (.c 14 0 (.c 15 0 (.c 16 0 (.c 18 0 (.c 19 0 (.c 20 0 (.c 21 0 (.c 22 0 (.c 23 0 (.c 24 0 (.c 25 0 (.c 26 0 (.c 17 2 (.c 27 0 (.c 28 0 (.c 29 0 .nil)))))))))))))))))))))))))))))) mixed (fun _ _ _ _ h=>h) (Sk (Sk (Sk (Sk (Sk (Sk (Sk (Sk (Sk (Sr)))))))))) (fun _ h=>h) (by kernel_rfl) (by decide) fun ws Z0=>Qe O (Jb O) (Qe O (Kl O O) (Qe O (Jb O) (Ki O O O O (by rw [hb];rfl) (Jb O) (by decide) ?_)))
      refine Ki O O O O (by rw [hb];rfl) (Jh (o':=4) Un62 O Ya O O) (by decide) (Ki O O O O (by rw [hb];rfl) (Jj Un50 O O (Ji (Ji (Ji (Ji (Ji (Ji (Ji (Ji (Jn))))))))) O) (by decide) (Ki O O O O (by rw [hb];rfl) (J7 Un50 KZ O O (by omega) (by omega)) (by decide) (Ki O O O O (by rw [hb];rfl) (Jh (o':=_+0) Un74 O ti3 O O) (by decide) (Ki O O O O (by rw [hb];rfl) (Kb (j:=0) Un3 O O Mm1 O O) (by decide) (YK O O O O O (by rw [hb];rfl) (J6 (Hr M1 D1 ok1) (.n1 O) (by decide) (.n8 .z .z .z .z .z .z .z .z) Jw fun u31_4 Lo fs hres=> ?_))))))
      obtain ⟨rfl,rfl,rfl⟩:=hres
      refine ⟨⟨(Sk (Sk (Sk (Sk (Sk (Sk (Sk (Sk (Sk (Sr)))))))))),Mm0⟩,?_⟩
      refine Ki O O O O (by rw [hb];rfl) (Kz O O) (by decide) (Qe O (JP O (by rw [hb];rfl) O) (Qe O (Jb O) (Ki O O O O (by rw [hI1.up (by rw [←hby];exact hb) hnl];simp) (Jb O) (by decide) (Ki O O O O (by rw [hI1.up (by rw [←hby];exact hb) hnl];simp) (Km O O) (by decide) (Ki O O O O (by rw [hI1.up (by rw [←hby];exact hb) hnl];simp) (Jb O) (by decide) (Kr O O O O (by rw [hb];rfl) (by decide) (Kr O O O O (by rw [hb];rfl) (by decide) (Kr O O O O (by rw [hb];rfl) (by decide) (Kr O O O O (by rw [hb];rfl) (by decide) ?_)))))))))
      refine Kr O O O O (by rw [hb];rfl) (by decide) (Kr O O O O (by rw [hb];rfl) (by decide) (Kr O O O O (by rw [hb];rfl) (by decide) (Kr O O O O (by rw [hb];rfl) (by decide) (Kr O O O O (by rw [hb];rfl) (by decide) (Kr O O O O (by rw [hb];rfl) (by decide) (XX O O O O (by rw [hb];rfl) (by decide) (Kr O O O O (by rw [hb];rfl) (by decide) (Ki O O O O (by rw [hI1.up (by rw [←hby];exact hb) hnl];simp) (JH O (by rw [hb];rfl) O) (by decide) (Qe O (JH O (by rw [hI1.up (by rw [←hby];exact hb) hnl];simp) O) ?_)))))))))
      refine JN (JM (Jf (Jv O O (Jp (Kp ?_)))))
      refine ⟨(),?_,(.m4 O O O O),(Sk (Sk (Sk (Sk (Sk (Sk (Sk (Sk (Sk (Sr)))))))))),Tt7⟩
      trivial
     ·refine Kd (k:=0) Mm8 (List.getElem?_eq_getElem hnl) (rg_open _) fun b31 q31 y31 e31=> ?_
      cases e31
      have hnl1:e.now.length-1<e.now.length:=by omega
      refine Kd (k:=(e.now.length-1)) Mm9 (List.getElem?_eq_getElem hnl1) (rg_open _) fun b32 q32 y32 e32=> ?_
      cases e32
      refine JI _ _ [] (.c 0 0 (.c 1 0 (.c 2 0 (.c 3 0 (.c 5 0 (.c 6 0 (.c 7 0 (.c 8 0 (.c 9 0 (.c 4 2 (.c 10 0 (.c 11 0 (.c 12 0 (.c 13 0 (.c 14 0 (.c 15 0 (.c 16 0 (.c 18 0 (.c 19 0 (.c 20 0 (.c 21 0 (.c 22 0 (.c 23 0 (.c 24 0 (.c 25 0 (.c 26 0 (.c 17 2 (.c 27 0 (.c 28 0 (.c 29 0 .nil)))))))))))))))))))))))))))))) mixed (fun _ _ _ _ h=>h) (Sk (Sk (Sk (Sk (Sk (Sk (Sk (Sk (Sk (Sr)))))))))) (fun _ h=>h) (by kernel_rfl) (by decide) fun ws Z0=>Qe O (Jb O) (Qe O (Kl O O) (Qe O (Jb O) (Kr O O O O (by rw [hb];rfl) (by decide) (Kr O O O O (by rw [hb];rfl) (by decide) (Kr O O O O (by rw [hb];rfl) (by decide) ?_)))))
      refine Kr O O O O (by rw [hb];rfl) (by decide) (Kr O O O O (by rw [hb];rfl) (by decide) (Kr O O O O (by rw [hb];rfl) (by decide) (XX O O O O (by rw [hb];rfl) (by decide) (Kr O O O O (by rw [hb];rfl) (by decide) (Qe O (JH O (by rw [hb];rfl) O) (Qe O (Jb O) (Ki O O O O O (Jb O) (by decide) (Ki O O O O O (Km O O) (by decide) (Ki O O O O O (Jb O) (by decide) ?_)))))))))
      refine Ki O O O O (by rw [hb];rfl) (Jb O) (by decide) (Ki O O O O (by rw [hb];rfl) (Jh (o':=4) Un62 O Ya O O) (by decide) (Ki O O O O (by rw [hb];rfl) (Jj Un50 O O (Ji (Ji (Ji (Ji (Ji (Ji (Ji (Ji (Jn))))))))) O) (by decide) (Ki O O O O (by rw [hb];rfl) (Jh (o':=4) Un62 O Ya O O) (by decide) (Ki O O O O (by rw [hb];rfl) (Jj Un50 O O (Ji (Ji (Ji (Ji (Ji (Ji (Ji (Ji (Jn))))))))) O) (by decide) (Ki O O O O (by rw [hb];rfl) (J3 Un50 O) (by decide) (Ki O O O O (by rw [hb];rfl) (KP O O (by rw [wr64 (by omega)];omega) (c:=((e.now.length-1:Nat):Int))) (by decide) ?_))))))
      refine Ki O O O O (by rw [hb];rfl) (J7 Un50 KZ O O (by omega) (by omega)) (by decide) (Ki O O O O (by rw [hb];rfl) (Jh (o':=_+1) Un74 O ti3 O O) (by decide) (Ki O O O O (by rw [hb];rfl) (Kb (j:=1) Un3 O O Mm0 O O) (by decide) (YK O O O O O (by rw [hb];rfl) (J6 (Hr M1 D1 ok1) (.n1 O) (by decide) (.n8 .z .z .z .z .z .z .z .z) Jw fun u31_17 Lo fs hres=> ?_))))
      obtain ⟨rfl,rfl,rfl⟩:=hres
      refine ⟨⟨(Sk (Sk (Sk (Sk (Sk (Sk (Sk (Sk (Sk (Sr)))))))))),Mm0⟩,?_⟩
      refine Ki O O O O (by rw [hb];rfl) (Kz O O) (by decide) (Ki O O O O O (JP O (by rw [hb];rfl) O) (by decide) (Qe O (JH O O O) (JN (JM (Jf (Jv O (by rw [hI1.dn (by rw [←hby];exact hb) hnl1];simp) (Jp (Kp ?_))))))))
      refine ⟨(),?_,(.m4 O O O O),(Sk (Sk (Sk (Sk (Sk (Sk (Sk (Sk (Sk (Sr)))))))))),Tt7⟩
      trivial
    ·rintro _-
     refine Jc (Ja (Lq (Jb O) (Lq (Jh (o':=0) Un62 O JW O O) (Lq (Jt (vs:= [_,_]) Un46 O JW O (Ji (Ji (Ji (Ji (Ji (Ji (Ji (Ji (Jn))))))))) O O) (Lq (Jh (o':=3) Un62 O ti4 O O) (Lq (Jj Un4 O O (Ji (Ji (Ji (Ji (Ji (Ji (Ji (Ji (Jn))))))))) O) (Jg O (J6 (turn_v M1 D1 ok1 hI1.dv 0 hb1n k hI1.hk (offE e (!e.off)) hI1.en h4) (.n3 O O O) (by decide) (.n8 .z .z .z .z .z .z .z .z) (Jl Mm5 (Jl Mm0 (Jl Mm1 (Jl Mm2 Jw)))) fun u33_5 Lo fs hres=> ?_))))))))
     obtain ⟨M2,D2,hI2,hb2n,hd2,ok2,rfl,rfl,rfl⟩:=hres
     rw [←hd2]
     have hX2:=tn_back hI1 hI2
     refine Lq (Jb O) (Lq (Jk (vs:= [_,_]) O O) (Lq (Jk (vs:= [_,_]) O O) (Jg O (Ju (cs:= [_,_,_,_,_,_,_,_,_]) JD O (by decide) fun b21=>Jg O (Jq (cs':= [_,_,_,_,_,_,_,_,_]) (vs:= [_,_,_,_,_,_,_,_,_]) JD O O O O O (Nat.le_of_ble_eq_true O) .z (Lq (Jd O) (Je (Jf (Jc (Ja (Lq (Jb O) (Lq (QX Un54 O) (Lq (Jb O) ?_)))))))))))))
     refine Lg O O O O (Jb O) (Lg O O O O (JC O) (Lg O O O O (Jh (o':=_+0) Un42 O Yk O O) (Ks O O O O (Kv (QI M2.d M2.h M2.b _ _ M2.B M2.t ok2.wt (by have:=ok2.tl;omega)) (.n1 O) (by decide) .z1 .z4 (Jl Mm2 Jw) fun u34_6 Lo fs hres=> ?_))))
     obtain ⟨rfl,rfl,rfl⟩:=hres
     rw [ok2.row,hX2]
     refine Lg O O O O (Jb O) (Lg O O O O (Gh O O) (Lq (JP O O O) (Lq (Jb O) (Lg O O O (str_beq.2 O) (Jb O) (Lg O O O (str_beq.2 O) (JC O) (Lg O O O (str_beq.2 O) (Jh (o':=_+0) Un42 O Yk O O) (Ks O O O (str_beq.2 O) (Kv (Gd M2.d M2.b _ _ M2.h M2.B M2.t ok2.wt (by have:=ok2.tl;omega)) (.n1 O) (by decide) .z .z (Jl Mm2 Jw) fun u34_14 Lo fs hres=> ?_))))))))
     obtain ⟨A34,c34,rfl,rfl,rfl⟩:=hres
     rw [ok2.row,hX2]
     refine Lg O O O (str_beq.2 O) (Jb O) (Ks O O O (str_beq.2 O) (Jm (sameRuns_t A34 A17 c34 c17 (runsF D0.X) (by omega)) (.n2 O O) (by decide) (Jl Mm0 (Jl Mm7 Jw)) fun u34_16 Lo fs hres=> ?_))
     obtain ⟨rfl,rfl,rfl⟩:=hres
     refine Lq (JP O (str_beq.2 O) O) (Lq (Jd O) (Je (Jf (Jo ?_))))
     refine ⟨_,[],[],fun Z w hs=> .tmp O .nil,?_,fun Z w hs=>hs.out (Sd (Sd (Sd (Sd (Sd (Sd (Sd (Sd (Sd (Sd (Sr))))))))))) Tt9⟩
     first | exact ⟨rfl,rfl,rfl⟩ | exact ⟨congrArg Value.bool (str_beq.2 rfl),rfl,rfl⟩
end Go.Proofs.YtgedhdmpiciikaaGreatDoor
set_option maxRecDepth 100000
namespace Go.Proofs.YtgedhdmpiciikaaGreatDoor.deskTurnsBack
open Go Go.GW Go.ChangeShapes Go.WideShapes Go.ChangeAt Go.RowKit
theorem own:ownKnob Tryz.prog.godebug=none:=by kernel_rfl
theorem contract (H:Type) (enc:TypeId×Value→H) (W:World) (base:Nat) (args:Array Value) (ds gs:List (DataW H)) (before:List MemPlace)
  (hval: ∀(j:Nat) t v,Tryz.f4.params[j]? =some t→args[j]? =some v→Value.okWide Tryz.prog W .any base t v)
  (hW:DataW.Whole enc Tryz.prog Tryz.f4.params.toList Rows.deskTurnsBackSpec.vars false W args.toList ds gs before) (hL:laidMetH Tryz.prog Rows.deskTurnsBackRow.laid W):
  Calls Tryz.prog 4 args W fun e W'=> ∃v,e= .returned v∧Rows.deskTurnsBackSpec.post enc Tryz.prog Tryz.f4 false true false false W args v W':=by
 have hW':=hW
 have hlt:=hW.lt
 obtain ⟨p,q,hA0,hV,rfl,hfz,hnd⟩:=hW
 have hA:DataW.TrodAll enc Tryz.prog W 0 (fun _=>true) true Tryz.f4.params.toList args.toList ds p:=hA0
 rw [Tryz.params4] at hA hval
 obtain ⟨v0,v1,d0,d1,p0,p1,rfl,rfl,rfl,t0,t1⟩:=trodAll_two hA
 obtain ⟨rfl,rfl⟩:=trodVars_none hV
 clear hA0
 obtain ⟨n0,A0,c0,as0,rfl,hR0⟩:=room_arg (hval 0 24 v0 rfl rfl) t0
 obtain ⟨z1,rfl, -, -,wz1⟩:=open_int Un3 (hval 1 3 v1 rfl rfl) t1
 have hb:=Jbc hL
 have hs:=Jcp (W:=W) (As:= [barF,wordsF,RdF actD A0 c0 as0]) (fun A hA=>by
  simp only [List.mem_cons,List.not_mem_nil,or_false] at hA
  rcases hA with rfl | rfl | rfl
  ·exact ⟨hb.1.2,hb.1.1⟩
  ·exact ⟨hb.2.2,hb.2.1⟩
  ·exact hR0)
 refine ((EF n0 A0 c0 as0 z1).calls _ W [] [NearF W (fun b=>b<W.heap.size)] hs).mono ?_
 rintro e W' ⟨v,rfl,Z',Lo,fs,⟨rfl,rfl,rfl⟩,h2⟩
 have hk:=h2.facts (NearF W (fun b=>b<W.heap.size)) (by simp)
 have hsame: ∀x∈p0++p1++ [],W.sameAt W' x:=fun x hx=>Ja4 hk (hlt x hx)
 exact ⟨_,O,post_plain (pa:=p0++p1) (pv:= []) hW' (fun _ _ _=>trodAll_cons_mk (shut_bool Un4 _) trodAll_mk0) (fun sp hsp=>trodAll_mk2 (WideElems.Trod_stays laidOk (by kernel_rfl) (of_decide_eq_true (by kernel_rfl)) t0 (fun x hx=>hsame x (by simp [hx])) (fun x hx=>hsp x (by simp [hx]))) (WideElems.Trod_stays laidOk (by kernel_rfl) (of_decide_eq_true (by kernel_rfl)) t1 (fun x hx=>hsame x (by simp [hx])) (fun x hx=>hsp x (by simp [hx])))) (fun _ _=>O) O (Jbd hk _)⟩
noncomputable def laidWorld (os:Os):World:=
 { World.holding Tryz.prog os ⟨#[],#[.agg #[.int .i64 0, .slice none 0 0], .int .i64 0],[]⟩ with heap:=((((World.holding Tryz.prog os ⟨#[],#[.agg #[.int .i64 0, .slice none 0 0], .int .i64 0],[]⟩).heap.modify 0 fun
   | .cells _ t frozen=> .cells wordsC.toArray t frozen
   | o=>o).modify 1 fun
   | .cells _ t frozen=> .cells barC.toArray t frozen
   | o=>o).modify 2 fun
   | .cells _ t frozen=> .cells #[.iface 247 (.agg #[typeHandle Tryz.prog 54])] t frozen
   | o=>o) }
theorem laid_met (os:Os):laidMetH Tryz.prog Rows.deskTurnsBackRow.laid ((laidWorld os).forCall (fun _ _=>0) ⟨#[],#[.agg #[.int .i64 0, .slice none 0 0], .int .i64 0],[]⟩).memory:=
 laidMetH_of_parts (laidMet_of_run' 8 (by kernel_rfl) (by kernel_rfl)) (by kernel_rfl)
theorem reads (os:Os) {H:Type} (enc:TypeId×Value→H): ∃places,DataW.whole enc Tryz.prog ((laidWorld os).forCall (fun _ _=>0) ⟨#[],#[.agg #[.int .i64 0, .slice none 0 0], .int .i64 0],[]⟩).memory Tryz.f4.params.toList Rows.deskTurnsBackSpec.vars false (#[.agg #[.int .i64 0, .slice none 0 0], .int .i64 0] :Array Value).toList 8=some ([.agg [.lit (.int .i64 0), .nil], .lit (.int .i64 0)],[],places):=
 ⟨[],by kernel_rfl⟩
theorem lifted (os:Os) (started:os.Started) (H:Type) (enc:TypeId×Value→H) (F:Stop.Interp):
  ReturnsInHanded {} Tryz.checked os 4 .any ((OpenSpec.ofChange Rows.deskTurnsBackSpec).preRow enc Tryz.prog Tryz.f4 Rows.deskTurnsBackRow.domain false Rows.deskTurnsBackRow.laid) (((OpenSpec.ofChange Rows.deskTurnsBackSpec).at F).post enc Tryz.prog Tryz.f4 false true false false):=by
 obtain ⟨places,hx⟩:=reads os enc
 refine returnsInHanded_of_row (C:=Tryz.checked) (s:=OpenSpec.ofChange Rows.deskTurnsBackSpec) own started (by kernel_rfl) Tryz.func4
  (witness_row_at (enc:=enc) (C:=Tryz.checked) false (laidWorld os) #[.agg #[.int .i64 0, .slice none 0 0], .int .i64 0] rfl (by kernel_rfl) (by kernel_rfl) (by kernel_rfl)
   (OpenSpec.preRow_of_cond 8 hx (by kernel_rfl) (fun k hk=>by cases hk) (by kernel_rfl) (laid_met os))) ?_
 intro W base args ds gs before hval hW _ _ _ hL _ _
 exact contract H enc W base args ds gs before hval hW hL
theorem said:Rows.DeskTurnsBackSaid:=
 OpenClaim.holds_of_cond 4 Tryz.f4 rfl rfl rfl rfl rfl rfl rfl ⟨rfl,rfl,rfl,rfl,rfl⟩ rfl rfl rfl rfl rfl (by kernel_rfl) Tryz.func4 (by kernel_rfl)
  (of_decide_eq_true (by kernel_rfl)) (by unfold Func.isWrapper;first | (rw [if_pos (by decide +kernel)];kernel_rfl) | (rw [if_neg (by decide +kernel)];exact ⟨rfl,rfl⟩))
  (fun os started H enc _ F=>by rw [OpenClaim.pre_eq_preRow];exact lifted os started H enc F)
theorem plain (f : FuncId) (fn : Func) (hf : Tryz.pinned.checked.prog.funcNamed "redraft/redraftlaw08.DeskTurnsBack" = some f) (hfn : Tryz.pinned.checked.prog.funcs[f]? = some fn) :
  true=Tryz.pinned.checked.prog.looks [] ∧ ∀(j:Nat) t,fn.params[j]? =some t→Tryz.pinned.checked.prog.wantsStandIn t=false:=by
 obtain rfl : f = 4 := Option.some.inj ((show Tryz.prog.funcNamed "redraft/redraftlaw08.DeskTurnsBack" = some 4 by kernel_rfl).symm.trans hf) |>.symm
 obtain rfl:fn=Tryz.f4:=(Option.some.inj (Tryz.func4.symm.trans hfn)).symm
 refine ⟨by kernel_rfl,fun j t ht=> ?_⟩
 rw [Tryz.params4] at ht
 rcases j with _ | _ | j
 ·simp at ht;subst ht;kernel_rfl
 ·simp at ht;subst ht;kernel_rfl
 ·simp at ht
theorem card:Rows.DeskTurnsBackCardSaid:=
 Claim7.holds_tied_plain_at .later [] _ _ _ _ said (fun _ h=>by cases h) (by kernel_rfl) (fun _ h=>by cases h) deskTurnsBack_row_tie rfl ⟨rfl,rfl⟩ (by kernel_rfl) rfl plain (by kernel_rfl)
#print axioms card
end Go.Proofs.YtgedhdmpiciikaaGreatDoor.deskTurnsBack
