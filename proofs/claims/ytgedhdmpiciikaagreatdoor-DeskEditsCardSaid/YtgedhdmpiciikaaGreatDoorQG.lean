/- Part of the proof that this claim's law answers true, whatever its arguments. Condition: the laid variables hold what their initialisers lay (the card ties that to the program's text). -/
import Derived.WalkKit
import Derived.ProofKit
import Derived.OpenShut
import Derived.Deep.DeepHandedRow
import Derived.Lib.LaidTab
import Derived.LaidHandle
import Derived.Test.YtgedhdmpiciikaaGreatDoorCards
import Derived.Test.YtgedhdmpiciikaaGreatDoorQF
set_option linter.unusedVariables false
set_option linter.unusedSimpArgs false
open Go.Proofs.Tryz renaming underlying1→Un1,underlying3→Un3,underlying4→Un4,underlying9→Un9,underlying20→Un20,underlying21→Un21,underlying22→Un22,underlying24→Un24,underlying25→Un25,underlying29→Un29,underlying30→Un30,underlying33→Un33,underlying34→Un34,underlying36→Un36,underlying38→Un38,underlying39→Un39,underlying40→Un40,underlying42→Un42,underlying43→Un43,underlying46→Un46,underlying47→Un47,underlying49→Un49,underlying50→Un50,underlying52→Un52,underlying54→Un54,underlying62→Un62,underlying67→Un67,underlying74→Un74,underlying78→Un78,underlying93→Un93,underlying98→Un98,underlying116→Un116,underlying141→Un141,underlying143→Un143,underlying145→Un145,underlying149→Un149,underlying152→Un152,underlying154→Un154,underlying156→Un156,underlying157→Un157,underlying159→Un159,underlying160→Un160,underlying162→Un162,underlying167→Un167,underlying168→Un168,underlying170→Un170,underlying178→Un178,underlying188→Un188,underlying191→Un191,underlying195→Un195,underlying196→Un196,underlying198→Un198,underlying201→Un201,underlying213→Un213,underlying219→Un219
namespace Go.Proofs.YtgedhdmpiciikaaGreatDoor
open Go Go.GW
set_option maxRecDepth 10000 in
theorem Gv (h:Nat) (on:Bool):Sp Tryz.prog 111 [.pointer (some ⟨h,0,none⟩), .bool on] [] [] (fun u Lo fs=> ∃bh bo:Nat,u= .func (.func 144) #[] #[.pointer (some ⟨bh,0,none⟩), .pointer (some ⟨bo,0,none⟩)] ∧Lo= [chP bh h,cbP bo on] ∧fs= []):=by
 refine Sp.of (n:=6) ⟨_,Tryz.func111,rfl,rfl,rfl,rfl⟩ (Nat.le_of_ble_eq_true rfl) fun Ps As=>Jc (Ja (Jg rfl (J7 (cs:= [_]) rfl rfl (by decide) fun b2=>Jg rfl (J7 (cs:= [_]) rfl rfl (by decide) fun b3=>Lq (Jd rfl) (Je (Jf (Jc (Ja (Lq (VQ (.cons rfl (.cons rfl .nil))) (Lq (Jd rfl) (Je (Jf (Jo ?_)))))))))))))
 refine ⟨_,[_,_],[],fun Z w hs=> .tmp rfl (.nil),?_,fun Z w hs=>((hs.pick (.z)).pick (.s (.z))).out (Sk (Sk (Sr))) (fun _ h=>h)⟩
 exact ⟨b2,b3,rfl,rfl,rfl⟩
set_option maxRecDepth 10000 in
theorem XC (h m cap:Nat) (A:Option Addr) (H:Hist) (L:List MR) (hr:HR H L) (s:Nat) (vu vr:Value) (pu pr:Part) (U R:List Id2) (hU:Row 46 2 vu U.length (Kb idC U) pu) (hR:Row 46 2 vr R.length (Kb idC R) pr) (hlU:U.length≤100000) (hlR:R.length≤100000):Sp Tryz.prog 76 [.pointer (some ⟨s,0,none⟩), .pointer (some ⟨h,0,none⟩)] [stP s vu vr,pu,pr,hdP h A H.ops.length cap m H.total,mpP m L,mkP L] [RdF opD A cap H.ops,AllF L nowF] (fun u Lo fs=> ∃vu2 pu2 vr2 pr2,Row 46 2 vu2 (upF (JX H true) U R).2.1.length (Kb idC (upF (JX H true) U R).2.1) pu2∧Row 46 2 vr2 (upF (JX H true) U R).2.2.length (Kb idC (upF (JX H true) U R).2.2) pr2∧u=upV (upF (JX H true) U R).1∧Lo= [stP s vu2 vr2,pu2,pr2,hdP h A H.ops.length cap m H.total,mpP m L,mkP L] ∧fs= []):=by
 refine Sp.of (n:=20) ⟨_,Tryz.func76,rfl,rfl,rfl,rfl⟩ (Nat.le_of_ble_eq_true rfl) fun Ps As=>Jc (Ja (Jg rfl (Ju (cs:= [_,_]) JY rfl (by decide) fun b4=>Lq (Jd rfl) (Je (Jf (Jc (Jc (Ja (Lq (Jb rfl) (Lq (KT Un33 rfl rfl (by simp)) (Je (Jf (Jv rfl rfl (Jp (Jf (Jc (JI _ _ [11] (.c 0 0 (.c 1 0 (.c 2 0 (.c 3 0 (.c 4 0 (.c 5 0 (.c 6 0 (.c 7 2 (.c 8 2 (.c 9 0 (.c 10 0 (.c 11 3 (.c 12 1 .nil))))))))))))) mixed (fun _ _ _ _ h=>h) (Sd (Sd (Sd (Sd (Sk (Sk (Sk (Sr)))))))) (fun _ h=>h) (by kernel_rfl) (by decide) fun ws Z0=>Qe rfl (Jb rfl) ?_)))))))))))))))))
 refine Qe rfl (JC rfl) (Qe rfl (Jh (o':=0) Un154 rfl Ql rfl rfl) (Qe rfl (Jb rfl) (Qe rfl (JC rfl) (Qe rfl (Jh (o':=1) Un154 rfl Ql rfl rfl) (Qe rfl (Jb rfl) (Jy rfl rfl (Jm (Gv h true) (.cons rfl (.cons rfl (.nil))) (by decide) Jx fun u3_7 Lo fs hres=> ?_)))))))
 obtain ⟨bh,bo,rfl,rfl,rfl⟩:=hres
 refine ⟨⟨(Sd (Sd (Sd (Sd (Sd (Sd (Sk (Sk (Sk (Sr)))))))))),Mm0⟩,?_⟩
 refine Jy rfl rfl (J5 (moveu_m h m cap A H L hr bh bo true s vu vr pu pr U R hU hR hlU hlR) (.cons rfl (.cons rfl (.cons rfl (.nil)))) (by decide) (.cons (.s (.s (.s (.z)))) (.cons (.s (.s (.s (.z)))) (.cons (.s (.s (.s (.z)))) (.cons (.z) (.cons (.z) (.cons (.s (.z)) (.cons (.s (.z)) (.cons (.s (.z)) .nil)))))))) (Jl Mm1 (Jl Mm2 Jx)) fun u3_8 Lo fs hres=> ?_)
 obtain ⟨vu2,pu2,vr2,pr2,hU2,hR2,rfl,rfl,rfl⟩:=hres
 refine ⟨⟨(Sd (Sd (Sd (Sd (Sd (Sk (Sk (Sk (Sd (Sr)))))))))),Mm0⟩,?_⟩
 refine Qe rfl (Jk (vs:= [_,_]) rfl rfl) (Qe rfl (Jk (vs:= [_,_]) rfl rfl) (JL (J8 rfl rfl (Jq (cs':= [_,_]) (vs:= [_,_]) JY rfl rfl rfl rfl rfl (Nat.le_of_ble_eq_true rfl) (.s (.s (.s (.s (.s (.s (.s (.s (.z))))))))) (YR rfl (Jd rfl) (by decide) (JK (Jf (Jo ?_))))))))
 refine ⟨_,[_,_,_,_,_,_],[],fun Z w hs=>JT hs Un46 rfl JY rfl (Ji (Ji (Ji (Ji (Ji (Ji (Ji (Ji (Jn))))))))) rfl (.tmp rfl (.nil)),?_,fun Z w hs=>hs.out (Sk (Sk (Sk (Sd (Sd (Sk (Sk (Sk (Sd (Sr)))))))))) Tt1⟩
 exact ⟨vu2,pu2,vr2,pr2,hU2,hR2,rfl,rfl,rfl⟩
set_option maxRecDepth 10000 in
theorem XD (h m cap:Nat) (A:Option Addr) (H:Hist) (L:List MR) (hr:HR H L) (s:Nat) (vu vr:Value) (pu pr:Part) (U R:List Id2) (hU:Row 46 2 vu U.length (Kb idC U) pu) (hR:Row 46 2 vr R.length (Kb idC R) pr) (hlU:U.length≤100000) (hlR:R.length≤100000):Sp Tryz.prog 117 [.pointer (some ⟨s,0,none⟩), .pointer (some ⟨h,0,none⟩)] [stP s vu vr,pu,pr,hdP h A H.ops.length cap m H.total,mpP m L,mkP L] [RdF opD A cap H.ops,AllF L nowF] (fun u Lo fs=> ∃vu2 pu2 vr2 pr2,Row 46 2 vu2 (upF (JX H false) R U).2.2.length (Kb idC (upF (JX H false) R U).2.2) pu2∧Row 46 2 vr2 (upF (JX H false) R U).2.1.length (Kb idC (upF (JX H false) R U).2.1) pr2∧u=upV (upF (JX H false) R U).1∧Lo= [stP s vu2 vr2,pu2,pr2,hdP h A H.ops.length cap m H.total,mpP m L,mkP L] ∧fs= []):=by
 refine Sp.of (n:=20) ⟨_,Tryz.func117,rfl,rfl,rfl,rfl⟩ (Nat.le_of_ble_eq_true rfl) fun Ps As=>Jc (Ja (Jg rfl (Ju (cs:= [_,_]) JY rfl (by decide) fun b4=>Lq (Jd rfl) (Je (Jf (Jc (Jc (Ja (Lq (Jb rfl) (Lq (KT Un33 rfl rfl (by simp)) (Je (Jf (Jv rfl rfl (Jp (Jf (Jc (JI _ _ [11] (.c 0 0 (.c 1 0 (.c 2 0 (.c 3 0 (.c 4 0 (.c 5 0 (.c 6 0 (.c 7 2 (.c 8 2 (.c 9 0 (.c 10 0 (.c 11 3 (.c 12 1 .nil))))))))))))) mixed (fun _ _ _ _ h=>h) (Sd (Sd (Sd (Sd (Sk (Sk (Sk (Sr)))))))) (fun _ h=>h) (by kernel_rfl) (by decide) fun ws Z0=>Qe rfl (Jb rfl) ?_)))))))))))))))))
 refine Qe rfl (JC rfl) (Qe rfl (Jh (o':=1) Un154 rfl Ql rfl rfl) (Qe rfl (Jb rfl) (Qe rfl (JC rfl) (Qe rfl (Jh (o':=0) Un154 rfl Ql rfl rfl) (Qe rfl (Jb rfl) (Jy rfl rfl (Jm (Gv h false) (.cons rfl (.cons rfl (.nil))) (by decide) Jx fun u3_7 Lo fs hres=> ?_)))))))
 obtain ⟨bh,bo,rfl,rfl,rfl⟩:=hres
 refine ⟨⟨(Sd (Sd (Sd (Sd (Sd (Sd (Sk (Sk (Sk (Sr)))))))))),Mm0⟩,?_⟩
 refine Jy rfl rfl (J5 (mover_m h m cap A H L hr bh bo false s vu vr pu pr U R hU hR hlU hlR) (.cons rfl (.cons rfl (.cons rfl (.nil)))) (by decide) (.cons (.s (.s (.s (.z)))) (.cons (.s (.s (.s (.z)))) (.cons (.s (.s (.s (.z)))) (.cons (.z) (.cons (.z) (.cons (.s (.z)) (.cons (.s (.z)) (.cons (.s (.z)) .nil)))))))) (Jl Mm1 (Jl Mm2 Jx)) fun u3_8 Lo fs hres=> ?_)
 obtain ⟨vu2,pu2,vr2,pr2,hU2,hR2,rfl,rfl,rfl⟩:=hres
 refine ⟨⟨(Sd (Sd (Sd (Sd (Sd (Sk (Sk (Sk (Sd (Sr)))))))))),Mm0⟩,?_⟩
 refine Qe rfl (Jk (vs:= [_,_]) rfl rfl) (Qe rfl (Jk (vs:= [_,_]) rfl rfl) (JL (J8 rfl rfl (Jq (cs':= [_,_]) (vs:= [_,_]) JY rfl rfl rfl rfl rfl (Nat.le_of_ble_eq_true rfl) (.s (.s (.s (.s (.s (.s (.s (.s (.z))))))))) (YR rfl (Jd rfl) (by decide) (JK (Jf (Jo ?_))))))))
 refine ⟨_,[_,_,_,_,_,_],[],fun Z w hs=>JT hs Un46 rfl JY rfl (Ji (Ji (Ji (Ji (Ji (Ji (Ji (Ji (Jn))))))))) rfl (.tmp rfl (.nil)),?_,fun Z w hs=>hs.out (Sk (Sk (Sk (Sd (Sd (Sk (Sk (Sk (Sd (Sr)))))))))) Tt1⟩
 exact ⟨vu2,pu2,vr2,pr2,hU2,hR2,rfl,rfl,rfl⟩
set_option maxRecDepth 10000 in
theorem Jbc (s:Nat) (vu vr:Value) (pu pr:Part) (U R:List Id2) (hU:Row 46 2 vu U.length (Kb idC U) pu) (hR:Row 46 2 vr R.length (Kb idC R) pr) (hlU:U.length≤1000000) (hlR:R.length≤1000000) (i0 i1:Int) (hi:1≤i0∧i0≤8∧1≤i1∧i1≤1024) (hnU:(i0,i1)∉U) (hnR:(i0,i1)∉R):Sp Tryz.prog 51 [.pointer (some ⟨s,0,none⟩), .agg #[.int .i64 i0, .int .i64 i1]] [stP s vu vr,pu,pr] [] (fun u Lo fs=> ∃vu2 pu2,Row 46 2 vu2 (U++ [(i0,i1)]).length (Kb idC (U++ [(i0,i1)])) pu2∧u= .int .i64 0∧Lo= [stP s vu2 (.slice none 0 0),pu2,[]] ∧fs= []):=by
 obtain ⟨Au,cu,rfl⟩:=hU.slice
 obtain ⟨Ar,cr,rfl⟩:=hR.slice
 refine Sp.of (n:=50) ⟨_,Tryz.func51,rfl,rfl,rfl,rfl⟩ (Nat.le_of_ble_eq_true rfl) fun Ps As=>Jc (Ja (Jg rfl (J7 (cs:= [_,_]) rfl rfl (by decide) fun b3=>Lq (Jd rfl) (Je (Jf (Jc (Jc (Ja (Lq (Yb (o':=0) Un46 ti3 rfl rfl (by decide) (by decide) rfl) (Lq (Jj Un3 rfl rfl Jn rfl) (Lq (Ko rfl rfl) (Lq (Jb rfl) (Lg rfl rfl rfl (decide_eq_false (by omega)) (Yb (o':=0) Un46 ti3 rfl rfl (by decide) (by decide) rfl) ?_)))))))))))))
 refine Lg rfl rfl rfl (decide_eq_false (by omega)) (Jj Un3 rfl rfl Jn rfl) (Lg rfl rfl rfl (decide_eq_false (by omega)) (Kf rfl rfl) (Lq (JH rfl (decide_eq_false (by omega)) rfl) (Lq (Jb rfl) (Lg rfl rfl rfl (decide_eq_false (by omega)) (Yb (o':=1) Un46 ti3 rfl rfl (by decide) (by decide) rfl) (Lg rfl rfl rfl (decide_eq_false (by omega)) (Jj Un3 rfl rfl Jn rfl) (Lg rfl rfl rfl (decide_eq_false (by omega)) (Ko rfl rfl) (Lq (JH rfl (decide_eq_false (by omega)) rfl) (Lq (Jb rfl) (Lg rfl rfl rfl (decide_eq_false (by omega)) (Yb (o':=1) Un46 ti3 rfl rfl (by decide) (by decide) rfl) ?_)))))))))
 refine Lg rfl rfl rfl (decide_eq_false (by omega)) (Jj Un3 rfl rfl Jn rfl) (Lg rfl rfl rfl (decide_eq_false (by omega)) (Kf rfl rfl) (Lq (JH rfl (decide_eq_false (by omega)) rfl) (Je (Jf (Jv rfl (decide_eq_false (by omega)) (Jp (Jf (Jc (Jc (JI _ _ [] (.c 0 0 (.c 1 0 (.c 2 0 (.c 3 0 (.c 4 0 (.c 5 2 (.c 6 0 (.c 7 0 (.c 8 0 (.c 9 0 (.c 10 0 (.c 11 0 (.c 12 2 (.c 13 0 .nil)))))))))))))) mixed (fun _ _ _ _ h=>h) (Sk (Sk (Sd (Sd (Sr))))) (fun _ h=>h) (by kernel_rfl) (by decide) fun ws Z0=>Qe rfl (Jb rfl) (Qe rfl (JC rfl) (Qe rfl (Jh (o':=0) Un154 rfl Ql rfl rfl) ?_))))))))))))
 refine Qe rfl (Jj Un152 rfl rfl (Ji (Jn)) rfl) (Qe rfl (Jt (vs:= [_,_]) Un46 rfl JY rfl Jn rfl rfl) (Jy rfl rfl (JU (Jbe _ _ U hU hlU i0 i1) (.cons rfl (.cons rfl (.nil))) (by decide) (.s (.s (.z))) Jx fun u3_5 Lo fs hres=> ?_)))
 obtain ⟨rfl,rfl,rfl⟩:=hres
 rw [decide_eq_false hnU]
 refine ⟨⟨(Sd (Sk (Sk (Sd (Sr))))),Mm0⟩,?_⟩
 refine Qe rfl (Jb rfl) (Kz rfl rfl rfl rfl rfl (Jb rfl) (by decide) (Kz rfl rfl rfl rfl rfl (JC rfl) (by decide) (Kz rfl rfl rfl rfl rfl (Jh (o':=1) Un154 rfl Ql rfl rfl) (by decide) (Kz rfl rfl rfl rfl rfl (Jj Un152 rfl rfl (Ji (Jn)) rfl) (by decide) (Kz rfl rfl rfl rfl rfl (Jt (vs:= [_,_]) Un46 rfl JY rfl Jn rfl rfl) (by decide) (Vx rfl rfl rfl rfl rfl rfl (JU (Jbe _ _ R hR hlR i0 i1) (.cons rfl (.cons rfl (.nil))) (by decide) (.s (.s (.s (.z)))) Jx fun u3_12 Lo fs hres=> ?_)))))))
 obtain ⟨rfl,rfl,rfl⟩:=hres
 rw [decide_eq_false hnR]
 refine ⟨⟨(Sd (Sd (Sk (Sk (Sr))))),Mm0⟩,?_⟩
 refine Qe rfl (JH rfl rfl rfl) (JL (JK (Jf (Jv rfl rfl (Jp (Jf (Jc (JI _ _ [10] (.c 0 0 (.c 1 0 (.c 2 0 (.c 3 0 (.c 4 0 (.c 5 0 (.c 6 2 (.c 7 2 (.c 8 0 (.c 9 0 (.c 10 3 .nil))))))))))) mixed (fun _ _ _ _ h=>h) (Sk (Sd (Sk (Sk (Sr))))) (fun _ h=>h) (by kernel_rfl) (by decide) fun ws Z0=>Qe rfl (Jb rfl) (Qe rfl (Jb rfl) (Qe rfl (JC rfl) (Qe rfl (Jh (o':=0) Un154 rfl Ql rfl rfl) (Qe rfl (Jj Un152 rfl rfl (Ji (Ji (Jn))) rfl) (Qe rfl (Jt (vs:= [_,_]) Un46 rfl JY rfl (Ji (Jn)) rfl rfl) ?_)))))))))))))
 refine Jy rfl rfl (KG (cs:= [_,_]) Un152 JY (by decide) (by decide) rfl rfl rfl rfl (by decide) fun b43=> ?_)
 refine ⟨⟨(Sd (Sk (Sd (Sk (Sk (Sr)))))),Mm0⟩,?_⟩
 refine Jy rfl rfl (KP (news:= [_,_]) Un152 JY rfl (by decide) rfl rfl hU Jn rfl rfl (by omega) (by unfold maxLen;omega) (by decide) (DelAt.perm (.s (.s (.z)))) fun v9 p9 hr9=> ?_)
 obtain ⟨As9,cs9,es9⟩:=hr9.slice
 subst es9
 refine ⟨⟨(Sd (Sd (Sk (Sk (Sk (Sr)))))),Mm0⟩,?_⟩
 refine Qe rfl (JC rfl) (Qe rfl (Jh (o':=0) Un154 rfl Ql rfl rfl) (JL (J8 rfl rfl (JJ Ql rfl rfl rfl (.z) (.s (.s (.s (.s (.z))))) (JK (Jf (Jc (Ja (Lq (Jb rfl) (Lq (JC rfl) (Lq (Jh (o':=1) Un154 rfl Ql rfl rfl) (Jg rfl (JJ Ql rfl rfl rfl (.s (.z)) (.s (.s (.s (.s (.z))))) (Je (Jf (Jc ?_))))))))))))))))
 refine KD (Ja (Lq (Jd rfl) (Je (Jf (Jo ?_)))))
 refine ⟨_,[_,_,_],[],fun Z w hs=> .tmp rfl (.nil),?_,fun Z w hs=>(((hs.pick (.z)).pick (.s (.z))).pick (.s (.s (.s (.s (.s (.z))))))).out (Sk (Sk (Sk (Sd (Sd (Sd (Sr))))))) Tt2⟩
 have hrow:Row 46 2 (.slice As9 (U.length+1) cs9) (U++ [(i0,i1)]).length (Kb idC (U++ [(i0,i1)])) p9:=by rw [YV,Xb,List.length_append];exact hr9
 exact ⟨_,p9,hrow,rfl,rfl,rfl⟩
theorem bd154Xg10 (w:World):(Instr.build 154 #[]).run Tryz.prog w= .ok (.agg #[.slice none 0 0, .slice none 0 0]) w:=by kernel_rfl
set_option maxRecDepth 10000 in
theorem Hm:Sp Tryz.prog 73 [] [] [] (fun u Lo fs=> ∃s:Nat,u= .pointer (some ⟨s,0,none⟩)∧Lo= [stP s (.slice none 0 0) (.slice none 0 0)] ∧fs= []):=by
 refine Sp.of (n:=3) ⟨_,Tryz.func73,rfl,rfl,rfl,rfl⟩ (Nat.le_of_ble_eq_true rfl) fun Ps As=>Jc (Ja (Lq (Jd rfl) (Je (Jf (Jc (Ja (Lq (J0 (.nil) (bd154Xg10)) (Jg rfl (J7 (cs:= [_,_]) rfl rfl (by decide) fun b2=>Lq (Jd rfl) (Je (Jf (Jo ?_))))))))))))
 refine ⟨_,[_],[],fun Z w hs=> .tmp rfl (.nil),?_,fun Z w hs=>hs.out (Sk (Sr)) (fun _ h=>h)⟩
 exact ⟨b2,rfl,rfl,rfl⟩
structure DM where
 d:Nat
 h:Nat
 m:Nat
 b:Nat
 s:Nat
 A:Option Addr
 cap:Nat
 B:Option Addr
 t:Tr
 L:List MR
 vu:Value
 vr:Value
 pu:Part
 pr:Part
structure DS where
 u:Int
 cl:Int
 ce:Int
 op:Int
 H:Hist
 X:List Ce
 got:Nat
 made:Nat
 put:List Int
 gap:Nat
 U:List Id2
 R:List Id2
abbrev dkB (M:DM) (D:DS):Part:=dkP M.d M.h M.b D.u D.cl D.ce D.op D.got D.made D.put D.gap M.s
abbrev KA (M:DM) (D:DS):List Part:= [dkB M D,hdP M.h M.A D.H.ops.length M.cap M.m D.H.total,mpP M.m M.L,mkP M.L,rpP M.b M.B,stP M.s M.vu M.vr,M.pu,M.pr]
abbrev KV (M:DM) (D:DS):List Fact:= [RdF opD M.A M.cap D.H.ops,AllF M.L nowF,TrF M.B M.t]
structure DkOk (M:DM) (D:DS):Prop where
 hr:HR D.H M.L
 wt:Wf M.t
 row:M.t.row=D.X
 hU:Row 46 2 M.vu D.U.length (Kb idC D.U) M.pu
 hR:Row 46 2 M.vr D.R.length (Kb idC D.R) M.pr
 di:DI D.H.ops.length D.H D.X
 us:1≤D.u∧D.u≤8
 pl:D.put.length=9
 p0: ∀x∈D.put,0≤x∧x≤4096
 lm:D.ce≤4096∧D.op≤1024∧1≤D.cl∧D.cl≤8
 gp:D.gap≤D.X.length
 rc:D.got≤D.H.ops.length
 md:D.made≤1024
 sl:D.U.length+D.R.length≤D.made
theorem DkOk.xl {M:DM} {D:DS} (ok:DkOk M D):D.X.length≤60000:=by
 have h1:=ok.di.row
 have h2:=ok.di.tot0
 omega
theorem DkOk.tl {M:DM} {D:DS} (ok:DkOk M D):M.t.row.length≤60000:=by rw [ok.row];exact ok.xl
theorem DkOk.n {M:DM} {D:DS} (ok:DkOk M D):D.H.ents.length=D.H.ops.length:=ok.di.len
def DkR (M:DM) (D:DS) (u:Value):Value→List Part→List Fact→Prop:=fun v Lo fs=> ∃M2:DM,M2.d=M.d∧DkOk M2 D∧v=u∧Lo=KA M2 D∧fs=KV M2 D
structure Beh (X:List Ce) (p k:Nat):Prop where
 le:k≤X.length
 ct:J3 (X.take k)=p
 z:p=0→k=0
 at_:0<p→ ∃r,X[k-1]? =some (r,0)
def mkH (D:DS) (o:GOp):Hist:=(putF D.H D.H.ops.length o).1
def mkE (D:DS) (o:GOp):GOp:=(putF D.H D.H.ops.length o).2.1
structure MkD (D:DS) (o:GOp):Prop where
 tk:TkD D.H D.X D.H.ops.length D.H.ops.length o (mkH D o) (mkE D o)
 ops:(mkH D o).ops=D.H.ops++ [o]
 len:(JS (mkE D o) D.X).length=D.X.length+(Jw o).toNat
 di:DI (D.H.ops.length+1) (mkH D o) (JS (mkE D o) D.X)
def putA (D:DS) (c:Int):Int:=D.put.getD c.toNat 0
def insO (D:DS) (k:Nat) (text:ByteArray):GOp:= { zeroOp with c:=D.u,n:=D.made+1,kind:=1,at_:=k,text:=text }
def insD (D:DS) (k:Nat) (text:ByteArray):DS:= { D with H:=mkH D (insO D k text),X:=JS (mkE D (insO D k text)) D.X,made:=D.made+1,put:=D.put.set D.u.toNat (putA D D.u+(utF text).1),gap:=k+(utF text).1.toNat,U:=D.U++ [(D.u,(D.made:Int)+1)],R:= [] }
def hideO (D:DS) (rs:List Rg):GOp:= { zeroOp with c:=D.u,n:=D.made+1,kind:=2,rs:=rs }
def hideD (D:DS) (rs:List Rg) (k:Nat):DS:= { D with H:=mkH D (hideO D rs),X:=JS (mkE D (hideO D rs)) D.X,made:=D.made+1,gap:=k,U:=D.U++ [(D.u,(D.made:Int)+1)],R:= [] }
def statO (D:DS) (id:Id2) (on:Bool):GOp:= { zeroOp with c:=D.u,n:=D.made+1,kind:=4,tc:=id.1,tn:=id.2,on:=on }
def turnGap (gap:Nat) (e:GEn) (on:Bool):Nat:=match e.rs,e.rs.getLast? with
 | r::_,some l=>if (on==(e.kind==1))=true then l.hi.toNat else r.lo.toNat
 | _,_=>gap
def statD (D:DS) (id:Id2) (on:Bool) (j:Nat):DS:= { D with H:=mkH D (statO D id on),X:=JS (mkE D (statO D id on)) D.X,made:=D.made+1,gap:=turnGap D.gap (entryF (mkH D (statO D id on)) j).1 on }
def KZ (D:DS) (o:GOp):DS:= { D with H:=(putF D.H D.got o).1,X:=JS (putF D.H D.got o).2.1 D.X,got:=D.got+1,put:=D.put.set o.c.toNat (putA D o.c+Jw o),gap:=if (putF D.H D.got o).2.1.kind=1∧(putF D.H D.got o).2.1.at_<D.gap then D.gap+(Jw (putF D.H D.got o).2.1).toNat else D.gap }
theorem Beh.zero (X:List Ce):Beh X 0 0:=⟨Nat.zero_le _,by simp [J3],fun _=>rfl,fun h=>absurd h (Nat.lt_irrefl _)⟩
theorem Pth.beh {X:List Ce} {p k:Nat} (h:Pth X p k) (hp:p<J3 X):Beh X (p+1) (k+1):=by
 obtain ⟨r,hr⟩:=h.at_ hp
 have hk:k<X.length:=by
  rcases Nat.lt_or_ge k X.length with h | h
  ·exact h
  ·rw [List.getElem?_eq_none h] at hr;cases hr
 have e:=List.getElem?_eq_getElem hk
 rw [e] at hr
 refine ⟨hk,?_,fun h=>by omega,fun _=>⟨r,by rw [Nat.add_sub_cancel,e,hr]⟩⟩
 rw [List.take_succ_eq_append_getElem hk,Ki,h.ct,Option.some.inj hr]
 rfl
set_option maxRecDepth 10000 in
theorem behind_0 (M:DM) (D:DS) (ok:DkOk M D) (p:Nat) (hp:p=0):Sp Tryz.prog 57 [.pointer (some ⟨M.d,0,none⟩), .int .i64 p] [dkB M D,rpP M.b M.B] [TrF M.B M.t] (fun v Lo fs=> ∃k:Nat,Beh D.X p k∧v= .int .i64 k∧Lo= [dkB M D,rpP M.b M.B] ∧fs= []):=by
 have hvl:=Kl M.t.row
 have hwt:=ok.wt
 have htl:=ok.tl
 have hrow:=ok.row
 have hpl:=ok.pl
 refine Sp.of (n:=22) ⟨_,Tryz.func57,rfl,rfl,rfl,rfl⟩ (Nat.le_of_ble_eq_true rfl) fun Ps As=>Jc (Ja (Lq (Jd rfl) (Je (Jf (Jc (Jc (Ja (Lq (Jb rfl) (Lq (Kg rfl rfl) (Je (Jf (J2 rfl (by simp;omega) (Jc (Ja (Lq (Jd rfl) ?_)))))))))))))))
 refine Je (Jf (Jo (Js ?_)))
 refine ⟨_,[_,_],[],fun Z w hs=> .tmp rfl (.nil),?_,fun Z w hs=>hs.out (Sk (Sk (Sr))) (fun _ h=>h)⟩
 subst hp
 exact ⟨0,Beh.zero _,rfl,rfl,rfl⟩
set_option maxRecDepth 10000 in
theorem behind_1 (M:DM) (D:DS) (ok:DkOk M D) (q p:Nat) (hq:p=q+1) (hp:p≤J3 D.X):Sp Tryz.prog 57 [.pointer (some ⟨M.d,0,none⟩), .int .i64 p] [dkB M D,rpP M.b M.B] [TrF M.B M.t] (fun v Lo fs=> ∃k:Nat,Beh D.X p k∧v= .int .i64 k∧Lo= [dkB M D,rpP M.b M.B] ∧fs= []):=by
 have hvl:=Kl M.t.row
 have hwt:=ok.wt
 have htl:=ok.tl
 have hrow:=ok.row
 have hpl:=ok.pl
 have hvx:J3 M.t.row=J3 D.X:=by rw [hrow]
 refine Sp.of (n:=22) ⟨_,Tryz.func57,rfl,rfl,rfl,rfl⟩ (Nat.le_of_ble_eq_true rfl) fun Ps As=>Jc (Ja (Lq (Jd rfl) (Je (Jf (Jc (Jc (Ja (Lq (Jb rfl) (Lq (Kg rfl rfl) (Je (Jf (Jv rfl (by simp;omega) (Jp (Jf (Jc (Ja (Lq (Jb rfl) ?_)))))))))))))))))
 refine Lq (JC rfl) (Lq (Jh (o':=0) Un42 rfl Yn rfl rfl) (Lq (Jh (o':=1) Un36 rfl GY rfl rfl) (Lq (Jj Un34 rfl rfl Jn rfl) (Lq (Jb rfl) (Lq (KJ rfl rfl (by rw [wr64 (by omega)];omega) (c:=((q:Nat):Int))) (Jg rfl (JU (totalOf_g M.b M.B M.t hwt (by omega) q (by omega)) (.cons rfl (.cons rfl (.nil))) (by decide) (.s (.z)) (Jl Mm0 Jx) fun u3_7 Lo fs hres=> ?_)))))))
 obtain ⟨k,hk,rfl,rfl,rfl⟩:=hres
 have hkl:=hk.le
 refine Lq (Jb rfl) (Lq (Jk (vs:= [_,_]) rfl rfl) (Lq (Jk (vs:= [_,_]) rfl rfl) (Lq (Jd rfl) (Lq (Jd rfl) (Je (Jf (Jc (Ja (Lq (Jb rfl) (Lq (JV rfl rfl (wr64 (by omega)) (c:=((k+1:Nat):Int))) (Lq (Jd rfl) (Je (Jf (Jo ?_))))))))))))))
 refine ⟨_,[_,_],[],fun Z w hs=> .tmp rfl (.nil),?_,fun Z w hs=>((hs.pick (.z)).pick (.s (.z))).out (Sk (Sk (Sr))) (fun _ h=>h)⟩
 rw [hrow] at hk
 exact ⟨k+1,by subst hq;exact hk.beh (by omega),rfl,rfl,rfl⟩
theorem EK (M:DM) (D:DS) (ok:DkOk M D) (p:Nat) (hp:p≤J3 D.X):Sp Tryz.prog 57 [.pointer (some ⟨M.d,0,none⟩), .int .i64 p] [dkB M D,rpP M.b M.B] [TrF M.B M.t] (fun v Lo fs=> ∃k:Nat,Beh D.X p k∧v= .int .i64 k∧Lo= [dkB M D,rpP M.b M.B] ∧fs= []):=by
 cases p with
 | zero=>exact behind_0 M D ok 0 rfl
 | succ q=>exact behind_1 M D ok q (q+1) rfl hp
theorem dkl17 {a b u cl ce op rec made x y:Value} {put:List Int} (h:put.length=9):17<(a::b::u::cl::ce::op::rec::made::(ints .i64 put++ [x,y])).length:=by
 have:(ints .i64 put).length=9:=by unfold ints;rw [List.length_map];exact h
 simp [this]
def gapD (D:DS) (k:Nat):DS:= { D with gap:=k }
theorem DkOk.gap {M:DM} {D:DS} (ok:DkOk M D) {k:Nat} (h:k≤D.X.length):DkOk M (gapD D k):=⟨ok.hr,ok.wt,ok.row,ok.hU,ok.hR,ok.di,ok.us,ok.pl,ok.p0,ok.lm,h,ok.rc,ok.md,ok.sl⟩
def RefO (M:DM) (D:DS):Value→List Part→List Fact→Prop:=fun v Lo fs=> ∃e,FltV e∧v= .tuple #[opV zeroOp none 0,e] ∧Lo=KA M D∧fs= []
set_option maxRecDepth 10000 in
theorem move_0 (M:DM) (D:DS) (ok:DkOk M D) (p:Nat) (hp:p≤J3 D.X):Sp Tryz.prog 81 [.pointer (some ⟨M.d,0,none⟩), .int .i64 p] (KA M D) (barF::KV M D) (fun v Lo fs=> ∃k,Beh D.X p k∧DkOk M (gapD D k)∧v= .nilIface∧Lo=KA M (gapD D k)∧fs= []):=by
 have hvl:=Kl M.t.row
 have hwt:=ok.wt
 have htl:=ok.tl
 have hrow:=ok.row
 have hpl:=ok.pl
 refine Sp.ofD (n:=15) ⟨_,Tryz.func81,rfl,rfl,rfl,rfl⟩ (Nat.le_of_ble_eq_true rfl) fun Ps As=>Ja (Jg rfl (Ju (cs:= [_]) Ym rfl (by decide) fun b4=>Je ?_))
 refine ⟨rfl,_,_,_,_,_,catch_Move b4,DefReg.mk (.cons rfl (.nil)) (by decide),?_⟩
 refine Jc (Ja (JM (Jb rfl) (dl rfl) (JM (Jb rfl) (dl rfl) (Jg rfl (Kp (place_0 M.d M.h M.b _ _ _ _ _ _ _ _ _ M.B M.t hwt _ p (by rw [hrow];omega)) (.cons rfl (.cons rfl (.cons rfl (.nil)))) (by first | exact dl rfl | decide) (.s (.z)) (.s (.s (.s (.s (.z))))) (Jl Mm3 Jx) fun u2_2 Lo fs hres=> ?_)))))
 obtain ⟨rfl,rfl,rfl⟩:=hres
 refine Je (Jf (Jc (Ja (JM (Jb rfl) (dl rfl) (JM (Jb rfl) (dl rfl) (JM (Jb rfl) (dl rfl) (Jg rfl (Kp (EK M D ok p hp) (.cons rfl (.cons rfl (.nil))) (by first | exact dl rfl | decide) (.z) (.z) (Jl Mm3 Jx) fun u3_3 Lo fs hres=> ?_))))))))
 obtain ⟨k,hk,rfl,rfl,rfl⟩:=hres
 refine JM (JC rfl) (dl rfl) (JM (Jh (o':=17) Un42 rfl ti3 rfl rfl) (dl rfl) (Jg rfl (K9 ti3 rfl rfl rfl (dkl17 hpl) (.z) ?_)))
 rw [dkset17 hpl]
 refine Je (Jf (Jc (Ja (Jg rfl (JJ Ym rfl rfl rfl (.z) (.s (.s (.z))) (Je (Jf (Jo ?_))))))))
 refine ⟨_,[_,_,_,_,_,_,_,_],[],fun Z w hs=>KI hs Un54 rfl rfl (Ji (Ji (Jn))) rfl (.nil),?_,fun Z w hs=>((((((((hs.pick (.s (.s (.s (.s (.s (.s (.s (.s (.z)))))))))).pick (.s (.s (.s (.s (.s (.s (.s (.s (.z)))))))))).pick (.s (.s (.s (.s (.s (.s (.s (.s (.z)))))))))).pick (.s (.s (.s (.s (.z)))))).pick (.s (.s (.s (.s (.s (.s (.s (.s (.z)))))))))).pick (.s (.s (.s (.s (.s (.s (.s (.s (.z)))))))))).pick (.s (.s (.s (.s (.s (.s (.s (.s (.z)))))))))).pick (.s (.s (.s (.s (.s (.s (.s (.z))))))))).out (Sk (Sk (Sk (Sk (Sk (Sk (Sk (Sk (Sd (Sr)))))))))) (fun _ h=>h)⟩
 exact ⟨k,hk,ok.gap hk.le,rfl,rfl,rfl⟩
theorem X6 (put:List Int):(ints .i64 put).length=put.length:=by unfold ints;rw [List.length_map]
theorem dkput {a b u cl ce op rec made x y:Value} {put:List Int} {c:Nat} (h:put.length=9) (hc:c<9):(a::b::u::cl::ce::op::rec::made::(ints .i64 put++ [x,y]))[8+c]? =some (.int .i64 (put.getD c 0)):=by
 have e:(a::b::u::cl::ce::op::rec::made::(ints .i64 put++ [x,y]))[8+c]? =(ints .i64 put++ [x,y])[c]? :=by rw [Nat.add_comm];rfl
 rw [e,List.getElem?_append_left (by rw [X6];omega)]
 unfold ints
 rw [List.getElem?_map,List.getD_eq_getElem?_getD,List.getElem?_eq_getElem (by omega)];rfl
theorem dklc {a b u cl ce op rec made x y:Value} {put:List Int} {c:Nat} (h:put.length=9) (hc:c<9):8+c<(a::b::u::cl::ce::op::rec::made::(ints .i64 put++ [x,y])).length:=by
 have:=X6 put
 simp [this];omega
theorem dksetc {a b u cl ce op rec made x y:Value} {put:List Int} {c:Nat} {v:Int} (h:put.length=9) (hc:c<9):(a::b::u::cl::ce::op::rec::made::(ints .i64 put++ [x,y])).set (8+c) (.int .i64 v)=a::b::u::cl::ce::op::rec::made::(ints .i64 (put.set c v)++ [x,y]):=by
 have e:(a::b::u::cl::ce::op::rec::made::(ints .i64 put++ [x,y])).set (8+c) (.int .i64 v)=a::b::u::cl::ce::op::rec::made::(ints .i64 put++ [x,y]).set c (.int .i64 v):=by rw [Nat.add_comm];rfl
 rw [e,List.set_append_left _ _ (by rw [X6];omega)]
 unfold ints;rw [List.map_set]
theorem DkOk.mk_ {M M2:DM} {D D2:DS} (ok:DkOk M D) (hr:HR D2.H M2.L) (wt:Wf M2.t) (row:M2.t.row=D2.X) (hU:Row 46 2 M2.vu D2.U.length (Kb idC D2.U) M2.pu) (hR:Row 46 2 M2.vr D2.R.length (Kb idC D2.R) M2.pr) (di:DI D2.H.ops.length D2.H D2.X) (us:D2.u=D.u) (lm:D2.ce=D.ce∧D2.op=D.op∧D2.cl=D.cl) (pl:D2.put.length=9) (p0: ∀x∈D2.put,0≤x∧x≤4096) (gp:D2.gap≤D2.X.length) (rc:D2.got≤D2.H.ops.length) (md:D2.made≤1024) (sl:D2.U.length+D2.R.length≤D2.made):DkOk M2 D2:=
 ⟨hr,wt,row,hU,hR,di,us ▸ ok.us,pl,p0,by rw [lm.1,lm.2.1,lm.2.2];exact ok.lm,gp,rc,md,sl⟩
theorem V1 {D:DS} {c:Nat} {v:Int} (h0: ∀x∈D.put,0≤x∧x≤4096) (hv:0≤v∧v≤4096): ∀x∈D.put.set c v,0≤x∧x≤4096:=fun x hx=>by
 rcases List.mem_or_eq_of_mem_set hx with hx | rfl
 ·exact h0 x hx
 ·exact hv
set_option maxRecDepth 10000 in
theorem insert_e (M:DM) (D:DS) (ok:DkOk M D) (p:Int) (text:ByteArray) (hp: ¬(0≤p∧p≤J3 D.X)):Sp Tryz.prog 13 [.pointer (some ⟨M.d,0,none⟩), .int .i64 p, .string text] (KA M D) (barF::KV M D) (RefO M D):=by
 have hvl:=Kl M.t.row
 have hwt:=ok.wt
 have htl:=ok.tl
 have hrow:=ok.row
 have hpl:=ok.pl
 refine Sp.ofD (n:=105) ⟨_,Tryz.func13,rfl,rfl,rfl,rfl⟩ (Nat.le_of_ble_eq_true rfl) fun Ps As=>Ja (Jg rfl (Ju (cs:= [_,_,_,_,_,_,_,_,_]) JB rfl (by decide) fun b6=>Jg rfl (Ju (cs:= [_]) Ym rfl (by decide) fun b7=>Je ?_)))
 refine ⟨rfl,_,_,_,_,_,catch_Insert b6 b7,DefReg.mk (.cons rfl (.cons rfl (.nil))) (by decide),?_⟩
 refine Jc (Ja (JM (Jb rfl) (dl rfl) (JM (Jb rfl) (dl rfl) (Jg rfl (GU (place_e M.d M.h M.b _ _ _ _ _ _ _ _ _ M.B M.t hwt _ p (by rw [hrow];omega)) (.cons rfl (.cons rfl (.cons rfl (.nil)))) (.s (.s (.z))) (.s (.s (.s (.s (.s (.z)))))) (Jl Mm3 Jx) fun u2_2 Lo fs hres=> ?_)))))
 obtain ⟨hv,rfl,rfl⟩:=hres
 refine VJ ?_
 refine ⟨_,_,_,_,[_,_,_,_,_,_,_,_],[],rfl,hv,⟨_,_,_,_,_,_,_,_,_,_,rfl⟩,fun Z w hs=>((hs.pick (.s (.s (.z)))).pick (.s (.s (.s (.z))))),fun Z w hs=>JT hs Un52 rfl JB rfl Jn rfl (KI hs Un54 rfl rfl (Ji Jn) rfl .nil),?_,fun Z w hs=>((((((((hs.pick (.s (.s (.s (.s (.s (.s (.s (.s (.s (.z))))))))))).pick (.s (.s (.s (.s (.s (.s (.s (.s (.s (.z))))))))))).pick (.s (.s (.s (.s (.s (.s (.s (.s (.s (.z))))))))))).pick (.s (.s (.s (.s (.s (.s (.z)))))))).pick (.s (.s (.s (.s (.s (.s (.s (.s (.s (.z))))))))))).pick (.s (.s (.s (.s (.s (.s (.s (.s (.s (.z))))))))))).pick (.s (.s (.s (.s (.s (.s (.s (.s (.s (.z))))))))))).pick (.s (.s (.s (.s (.s (.s (.s (.s (.s (.z))))))))))).out (Sk (Sk (Sk (Sk (Sk (Sk (Sk (Sk (Sd (Sd (Sr))))))))))) (fun _ h=>h)⟩
 exact ⟨_,hv,rfl,rfl,rfl⟩
theorem bd49_1Xg12 (x1_:Int) (w:World):(Instr.build 49 #[(1, .int .i64 x1_)]).run Tryz.prog w= .ok (.agg #[.int .i64 0, .int .i64 0, .int .i64 x1_]) w:=by kernel_rfl
theorem bd52_0_1_2Xg12 (x0_0a0:Int) (x0_0a1:Int) (x0_1:Int) (x1_:Int) (x2_:ByteArray) (w:World):(Instr.build 52 #[(0, .agg #[.int .i64 x0_0a0, .int .i64 x0_0a1, .int .i64 x0_1]),(1, .int .i64 x1_),(2, .string x2_)]).run Tryz.prog w= .ok (.agg #[.int .i64 x0_0a0, .int .i64 x0_0a1, .int .i64 x0_1, .int .i64 x1_, .string x2_, .slice none 0 0, .int .i64 0, .int .i64 0, .bool false]) w:=by kernel_rfl
set_option maxRecDepth 10000 in
theorem insert_0 (M:DM) (D:DS) (ok:DkOk M D) (p:Nat) (hp:p≤J3 D.X) (text:ByteArray) (hts:text.size≤1048576) (hu:(utF text).2.2=0) (hu1:1≤(utF text).1∧(utF text).1≤256) (hmd:(D.made:Int)<D.op) (hce:putA D D.u+(utF text).1≤D.ce) (hmk: ∀k,Pth D.X p k→MkD D (insO D k text)) (hnU:(D.u,(D.made:Int)+1)∉D.U) (hnR:(D.u,(D.made:Int)+1)∉D.R):Sp Tryz.prog 13 [.pointer (some ⟨M.d,0,none⟩), .int .i64 p, .string text] (KA M D) (barF::KV M D) (fun v Lo fs=> ∃(k:Nat) (M2:DM),Pth D.X p k∧M2.d=M.d∧DkOk M2 (insD D k text)∧v= .tuple #[opV (insO D k text) none 0, .nilIface] ∧Lo=KA M2 (insD D k text)∧fs=KV M2 (insD D k text)):=by
 have hvl:=Kl M.t.row
 have hwt:=ok.wt
 have htl:=ok.tl
 have hrow:=ok.row
 have hpl:=ok.pl
 have hr:=ok.hr
 have hdi:=ok.di
 have hus:=ok.us
 have hlm:=ok.lm
 have hmd2:=ok.md
 have hsl:=ok.sl
 have hxl:=ok.xl
 have hpu:0≤putA D D.u∧putA D D.u≤4096:=by
  unfold putA
  rw [List.getD_eq_getElem?_getD,List.getElem?_eq_getElem (by omega)]
  exact ok.p0 _ (List.getElem_mem _)
 refine Sp.ofD (n:=105) ⟨_,Tryz.func13,rfl,rfl,rfl,rfl⟩ (Nat.le_of_ble_eq_true rfl) fun Ps As=>Ja (Jg rfl (Ju (cs:= [_,_,_,_,_,_,_,_,_]) JB rfl (by decide) fun b6=>Jg rfl (Ju (cs:= [_]) Ym rfl (by decide) fun b7=>Je ?_)))
 refine ⟨rfl,_,_,_,_,_,catch_Insert b6 b7,DefReg.mk (.cons rfl (.cons rfl (.nil))) (by decide),?_⟩
 refine Jc (Ja (JM (Jb rfl) (dl rfl) (JM (Jb rfl) (dl rfl) (Jg rfl (Kp (place_0 M.d M.h M.b _ _ _ _ _ _ _ _ _ M.B M.t hwt _ p (by rw [hrow];omega)) (.cons rfl (.cons rfl (.cons rfl (.nil)))) (by first | exact dl rfl | decide) (.s (.s (.z))) (.s (.s (.s (.s (.s (.z)))))) (Jl Mm3 Jx) fun u2_2 Lo fs hres=> ?_)))))
 obtain ⟨rfl,rfl,rfl⟩:=hres
 refine Je (Jf (Jc (Ja (JM (Jb rfl) (dl rfl) (Jg rfl (Jm (Vz text (by omega)) (.cons rfl (.nil)) (by first | exact dl rfl | decide) (Jl Mm0 Jx) fun u3_1 Lo fs hres=> ?_))))))
 obtain ⟨rfl,rfl,rfl⟩:=hres
 rw [hu]
 refine JM (Jb rfl) (dl rfl) (JM (Jk (vs:= [_,_,_]) rfl rfl) (dl rfl) (JM (Jk (vs:= [_,_,_]) rfl rfl) (dl rfl) (JM (Jk (vs:= [_,_,_]) rfl rfl) (dl rfl) (JM (Jd rfl) (dl rfl) (JM (Jd rfl) (dl rfl) (JM (Jd rfl) (dl rfl) (Je (Jf (Jc (Ja (JM (Jb rfl) (dl rfl) (JM (Jb rfl) (dl rfl) ?_))))))))))))
 refine Jg rfl (Jm (give_0 _ _) (.cons rfl (.cons rfl (.cons rfl (.nil)))) (by first | exact dl rfl | decide) Jx fun u4_2 Lo fs hres=> ?_)
 obtain ⟨rfl,rfl,rfl⟩:=hres
 refine Je (Jf (Jc (JN (Jc (Ja (JM (Jb rfl) (dl rfl) (JM (Kg rfl rfl) (dl rfl) (JM (Jd rfl) (dl rfl) (Je (Jf (Jv rfl (by simp;omega) (Jc (Ja (JM (Jb rfl) (dl rfl) (JM (Kf rfl rfl) (dl rfl) (JM (Jd rfl) (dl rfl) ?_))))))))))))))))
 refine Je (Jf (Jv rfl (by simp;omega) (Jp (Ka (Jf (Jc (Ja (JM (Jb rfl) (dl rfl) (JM (Jb rfl) (dl rfl) (Jg rfl (JU (room_0 M.d M.h M.b _ _ _ _ _ _ _ _ _ _ p hmd) (.cons rfl (.cons rfl (.cons rfl (.nil)))) (by first | exact dl rfl | decide) (.z) Jx fun u9_2 Lo fs hres=> ?_)))))))))))
 obtain ⟨rfl,rfl,rfl⟩:=hres
 refine Je (Jf (Jc (Jc (YQ (JI _ _ [] (.c 0 0 (.c 1 0 (.c 2 0 (.c 3 0 (.c 4 0 (.c 5 0 (.c 6 0 (.c 7 0 (.c 8 0 (.c 9 0 (.c 10 0 (.c 11 0 (.c 12 0 (.c 13 0 (.c 14 0 (.c 15 0 (.c 16 0 .nil))))))))))))))))) mixed (fun _ _ _ _ h=>h) (Sk (Sk (Sk (Sk (Sk (Sk (Sk (Sk (Sk (Sk (Sr))))))))))) (fun _ h=>h) (by kernel_rfl) (by first | exact dl rfl | decide) fun ws Z0=>JQ rfl (Jb rfl) (dl rfl) (JQ rfl (Jb rfl) (dl rfl) (JQ rfl (JC rfl) (dl rfl) (JQ rfl (Jh (o':=2) Un42 rfl ti3 rfl rfl) (dl rfl) (JQ rfl (Jj Un3 rfl rfl Jn rfl) (dl rfl) (JQ rfl (JC rfl) (dl rfl) ?_))))))))))
 refine JQ rfl (Jh (o':=8) Un42 rfl Em rfl rfl) (dl rfl) (JQ rfl (Yb (o':=8+D.u.toNat) Un39 ti3 rfl rfl (by omega) (by omega) (by omega)) (dl rfl) (JQ rfl (Jj (v:= .int .i64 (D.put.getD D.u.toNat 0)) Un3 rfl rfl Jn (dkput hpl (by omega))) (dl rfl) (JQ rfl (Jb rfl) (dl rfl) (JQ rfl (JV rfl rfl (wr64 (by have:=hpu;unfold putA at this;omega))) (dl rfl) (JQ rfl (Jb rfl) (dl rfl) (JQ rfl (JC rfl) (dl rfl) (JQ rfl (Jh (o':=3) Un42 rfl GX rfl rfl) (dl rfl) (JQ rfl (Jh (o':=4) Un38 rfl ti3 rfl rfl) (dl rfl) (JQ rfl (Jj Un3 rfl rfl Jn rfl) (dl rfl) ?_)))))))))
 refine JQ rfl (Kf rfl rfl) (dl rfl) (JL (JK (Jf (Jv rfl (by simp;exact hce) (Jp (Jf (Jc (Ja (JM (Jb rfl) (dl rfl) (JM (JC rfl) (dl rfl) (JM (Jh (o':=0) Un42 rfl Yn rfl rfl) (dl rfl) (JM (Jh (o':=1) Un36 rfl GY rfl rfl) (dl rfl) (JM (Jj Un34 rfl rfl Jn rfl) (dl rfl) ?_)))))))))))))
 refine JM (Jb rfl) (dl rfl) (Jg rfl (JU (totalOf_g M.b M.B M.t hwt (by omega) p (by rw [hrow];exact hp)) (.cons rfl (.cons rfl (.nil))) (by first | exact dl rfl | decide) (.s (.z)) (Jl Mm4 Jx) fun u12_6 Lo fs hres=> ?_))
 obtain ⟨k,hk,rfl,rfl,rfl⟩:=hres
 rw [hrow] at hk
 replace hmk:=hmk k hk
 have hkl:=hk.le
 refine JM (Jb rfl) (dl rfl) (JM (Jk (vs:= [_,_]) rfl rfl) (dl rfl) (JM (Jk (vs:= [_,_]) rfl rfl) (dl rfl) (JM (Jd rfl) (dl rfl) (JM (Jd rfl) (dl rfl) (Je (Jf (Jc (Ja (JM (Jb rfl) (dl rfl) (JM (Jb rfl) (dl rfl) (Jg rfl (Jm (give_0 _ _) (.cons rfl (.cons rfl (.cons rfl (.nil)))) (by first | exact dl rfl | decide) Jx fun u13_2 Lo fs hres=> ?_))))))))))))
 obtain ⟨rfl,rfl,rfl⟩:=hres
 refine Je (Jf (Jc (J9 (A:=RdF rgD none 0 []) (fun Z w _=>RdS.nil _ Z w) (Ja (JM (Jb rfl) (dl rfl) (JM (J0 (.cons rfl (.nil)) (bd49_1Xg12 _)) (dl rfl) (JM (Jb rfl) (dl rfl) (JM (Jb rfl) (dl rfl) (JM (J0 (.cons rfl (.cons rfl (.cons rfl (.nil)))) (bd52_0_1_2Xg12 _ _ _ _ _)) (dl rfl) ?_)))))))))
 refine Jg rfl (J5 (Ea M.d M.h M.m M.b _ _ _ _ _ _ _ _ _ D.H M.L M.A M.cap M.B M.t D.H.ops.length D.X { zeroOp with kind:=1,at_:=k,text:=text } none 0 (mkH D (insO D k text)) (mkE D (insO D k text)) hr hwt hrow hdi hmk.tk (by omega)) (.cons rfl (.cons rfl (.nil))) (by first | exact dl rfl | decide) (.cons (.s (.z)) (.cons (.s (.s (.s (.z)))) (.cons (.s (.s (.s (.z)))) (.cons (.s (.s (.s (.z)))) (.cons (.z) .nil))))) (Jl Mm2 (Jl Mm3 (Jl Mm4 (Jl Mm5 (Jl Mm0 Jx))))) fun u14_5 Lo fs hres=> ?_)
 obtain ⟨L2,A2,cap2,B2,t2,rfl,hr2,wt2,hX2,rfl,rfl⟩:=hres
 have hn2:(mkH D (insO D k text)).ops.length=D.H.ops.length+1:=by rw [hmk.ops];simp
 refine Jg rfl (Jq (cs':= [_,_,_,_,_,_,_,_,_]) (vs:= [_,_,_,_,_,_,_,_,_]) JB rfl rfl rfl rfl rfl (Nat.le_of_ble_eq_true rfl) (.s (.s (.s (.s (.s (.s (.z))))))) (Je (Jf (Jc (YQ (JI _ _ [14] (.c 0 0 (.c 1 0 (.c 2 0 (.c 3 0 (.c 4 0 (.c 5 0 (.c 6 0 (.c 7 0 (.c 8 0 (.c 9 0 (.c 10 0 (.c 11 0 (.c 12 0 (.c 13 0 (.c 14 3 .nil))))))))))))))) mixed (fun _ _ _ _ h=>h) (Sk (Sk (Sk (Sk (Sk (Sk (Sk (Sk (Sk (Sk (Sr))))))))))) (fun _ h=>h) (by kernel_rfl) (by first | exact dl rfl | decide) fun ws Z0=>JQ rfl (Jb rfl) (dl rfl) (JQ rfl (Jb rfl) (dl rfl) (JQ rfl (JC rfl) (dl rfl) ?_))))))))
 refine JQ rfl (Jh (o':=2) Un42 rfl ti3 rfl rfl) (dl rfl) (JQ rfl (Jj Un3 rfl rfl Jn rfl) (dl rfl) (JQ rfl (JC rfl) (dl rfl) (JQ rfl (Jh (o':=8) Un42 rfl Em rfl rfl) (dl rfl) (JQ rfl (Yb (o':=8+D.u.toNat) Un39 ti3 rfl rfl (by omega) (by omega) (by omega)) (dl rfl) (JQ rfl (Jj (v:= .int .i64 (D.put.getD D.u.toNat 0)) Un3 rfl rfl Jn (dkput hpl (by omega))) (dl rfl) (JQ rfl (Jb rfl) (dl rfl) (JQ rfl (JV rfl rfl (wr64 (by have:=hpu;unfold putA at this;omega)) (c:=putA D D.u+(utF text).1)) (dl rfl) (JQ rfl (JC rfl) (dl rfl) (JQ rfl (Jh (o':=8) Un42 rfl Em rfl rfl) (dl rfl) ?_)))))))))
 refine JQ rfl (Yb (o':=8+D.u.toNat) Un39 ti3 rfl rfl (by omega) (by omega) (by omega)) (dl rfl) (JL (J8 rfl rfl (K9 ti3 rfl rfl rfl (dklc hpl (by omega)) (.z) ?_)))
 rw [dksetc hpl (by omega)]
 refine JK (Jf (Jc (YQ (JI _ _ [] (.c 0 0 (.c 1 0 (.c 2 0 (.c 3 0 (.c 4 0 (.c 5 0 (.c 6 0 (.c 7 2 .nil)))))))) mixed (fun _ _ _ _ h=>h) (Sk (Sk (Sk (Sk (Sk (Sk (Sk (Sd (Sd (Sd (Sr))))))))))) (fun _ h=>h) (by kernel_rfl) (by first | exact dl rfl | decide) fun ws Z0=>JQ rfl (Jb rfl) (dl rfl) (JQ rfl (JC rfl) (dl rfl) (JQ rfl (Jh (o':=18) Un42 rfl HL rfl rfl) (dl rfl) (JQ rfl (Jj Un40 rfl rfl Jn (dk18 (by rw [List.length_set];exact hpl))) (dl rfl) (JQ rfl (Jh (o':=0) Un52 rfl KY rfl rfl) (dl rfl) ?_))))))))
 refine JQ rfl (Jh (o':=0) Un49 rfl JY rfl rfl) (dl rfl) (JQ rfl (Jt (vs:= [_,_]) Un46 rfl JY rfl (Ji (Ji (Ji (Ji (Ji (Ji (Jn))))))) rfl rfl) (dl rfl) (Jy rfl rfl (KE (Jbc M.s M.vu M.vr M.pu M.pr D.U D.R ok.hU ok.hR (by omega) (by omega) D.u ((D.made:Int)+1) (by omega) hnU hnR) (.cons rfl (.cons rfl (.nil))) (by first | exact dl rfl | decide) (.s (.s (.s (.s (.s (.s (.s (.z)))))))) (.s (.s (.s (.s (.s (.s (.s (.z)))))))) (.s (.s (.s (.s (.s (.s (.s (.z)))))))) Jx fun u16_7 Lo fs hres=> ?_)))
 obtain ⟨vu2,pu2,hU2,rfl,rfl,rfl⟩:=hres
 refine ⟨⟨(Sd (Sd (Sd (Sk (Sk (Sk (Sk (Sk (Sk (Sk (Sr))))))))))),Mm0⟩,?_⟩
 refine JL (JK (Jf (Jc (Ja (JM (Jb rfl) (dl rfl) (JM (Jb rfl) (dl rfl) (JM (Jb rfl) (dl rfl) (JM (JV rfl rfl (by rw [wr64 (by omega)];omega) (c:=((k+(utF text).1.toNat:Nat):Int))) (dl rfl) (JM (JC rfl) (dl rfl) (JM (Jh (o':=17) Un42 rfl ti3 rfl rfl) (dl rfl) (Jg rfl (K9 ti3 rfl rfl rfl (dkl17 (by rw [List.length_set];exact hpl)) (.s (.s (.s (.z)))) ?_))))))))))))
 rw [dkset17 (by rw [List.length_set];exact hpl)]
 refine Je (Jf (JE [(7,_),(6,_)] (.cons rfl (.cons rfl (.nil _))) (Jc (Ja (JM (Jt (vs:= [_,_,_,_,_,_,_,_,_]) Un52 rfl JB rfl (Ji (Ji (Ji (Ji (Ji (Ji (Ji (Ji (Ji (Jn)))))))))) rfl rfl) (dl rfl) (Jg rfl (Jq (cs':= [_,_,_,_,_,_,_,_,_]) (vs:= [_,_,_,_,_,_,_,_,_]) JB rfl rfl rfl rfl rfl (Nat.le_of_ble_eq_true rfl) (.s (.s (.s (.s (.s (.s (.s (.s (.s (.z)))))))))) (Jg rfl (JJ Ym rfl rfl rfl (.z) (.s (.s (.s (.s (.s (.s (.s (.s (.z))))))))) (Je (Jf (Jo ?_))))))))))))
 refine ⟨_,[_,_,_,_,_,_,_,_],[_,_,_],fun Z w hs=>JT hs Un52 rfl JB rfl (Ji (Ji (Ji (Ji (Ji (Ji (Ji (Ji (Ji (Jn)))))))))) rfl (KI hs Un54 rfl rfl (Ji (Ji (Ji (Ji (Ji (Ji (Ji (Ji (Jn))))))))) rfl (.nil)),?_,fun Z w hs=>((((((((hs.pick (.s (.s (.z)))).pick (.s (.s (.z)))).pick (.s (.s (.z)))).pick (.s (.s (.s (.s (.s (.s (.s (.z))))))))).pick (.s (.s (.s (.s (.s (.s (.s (.z))))))))).pick (.s (.s (.s (.s (.s (.s (.s (.z))))))))).pick (.s (.s (.s (.s (.s (.s (.s (.z))))))))).pick (.s (.s (.s (.s (.s (.s (.s (.z))))))))).out (Sk (Sk (Sk (Sk (Sk (Sk (Sk (Sk (Sd (Sd (Sr))))))))))) (Jl Mm2 (Jl Mm3 (Jl Mm4 Tt7)))⟩
 have hw:(Jw (insO D k text)).toNat=(utF text).1.toNat:=by unfold Jw;rw [if_pos (show (insO D k text).kind=1 from rfl)];rfl
 have hlen:=hmk.len
 have hok2:DkOk ⟨M.d,M.h,M.m,M.b,M.s,A2,cap2,B2,t2,L2,vu2, .slice none 0 0,pu2,[]⟩ (insD D k text):=ok.mk_ hr2 wt2 hX2 hU2 (Row.nil _ _) (by show DI (mkH D (insO D k text)).ops.length _ _;rw [hn2];exact hmk.di) rfl ⟨rfl,rfl,rfl⟩ (by show (D.put.set _ _).length=9;rw [List.length_set];exact hpl) (V1 ok.p0 (by omega)) (by show k+_≤(JS (mkE D (insO D k text)) D.X).length;omega) (by show D.got≤(mkH D (insO D k text)).ops.length;have:=ok.rc;omega) (by show D.made+1≤1024;omega) (by show (D.U++ [_]).length+0≤D.made+1;simp;omega)
 refine ⟨k,_,hk,?_,hok2,rfl,rfl,rfl⟩
 rfl
set_option maxRecDepth 10000 in
theorem delete_e1 (M:DM) (D:DS) (ok:DkOk M D) (p n:Int) (hp: ¬(0≤p∧p≤J3 D.X)):Sp Tryz.prog 17 [.pointer (some ⟨M.d,0,none⟩), .int .i64 p, .int .i64 n] (KA M D) (barF::KV M D) (RefO M D):=by
 have hvl:=Kl M.t.row
 have hwt:=ok.wt
 have htl:=ok.tl
 have hrow:=ok.row
 have hpl:=ok.pl
 refine Sp.ofD (n:=68) ⟨_,Tryz.func17,rfl,rfl,rfl,rfl⟩ (Nat.le_of_ble_eq_true rfl) fun Ps As=>Ja (Jg rfl (Ju (cs:= [_,_,_,_,_,_,_,_,_]) JB rfl (by decide) fun b6=>Jg rfl (Ju (cs:= [_]) Ym rfl (by decide) fun b7=>Je ?_)))
 refine ⟨rfl,_,_,_,_,_,catch_Delete b6 b7,DefReg.mk (.cons rfl (.cons rfl (.nil))) (by decide),?_⟩
 refine Jc (Ja (JM (Jb rfl) (dl rfl) (JM (Jb rfl) (dl rfl) (Jg rfl (GU (place_e M.d M.h M.b _ _ _ _ _ _ _ _ _ M.B M.t hwt _ p (by rw [hrow];omega)) (.cons rfl (.cons rfl (.cons rfl (.nil)))) (.s (.s (.z))) (.s (.s (.s (.s (.s (.z)))))) (Jl Mm3 Jx) fun u2_2 Lo fs hres=> ?_)))))
 obtain ⟨hv,rfl,rfl⟩:=hres
 refine VJ ?_
 refine ⟨_,_,_,_,[_,_,_,_,_,_,_,_],[],rfl,hv,⟨_,_,_,_,_,_,_,_,_,_,rfl⟩,fun Z w hs=>((hs.pick (.s (.s (.z)))).pick (.s (.s (.s (.z))))),fun Z w hs=>JT hs Un52 rfl JB rfl Jn rfl (KI hs Un54 rfl rfl (Ji Jn) rfl .nil),?_,fun Z w hs=>((((((((hs.pick (.s (.s (.s (.s (.s (.s (.s (.s (.s (.z))))))))))).pick (.s (.s (.s (.s (.s (.s (.s (.s (.s (.z))))))))))).pick (.s (.s (.s (.s (.s (.s (.s (.s (.s (.z))))))))))).pick (.s (.s (.s (.s (.s (.s (.z)))))))).pick (.s (.s (.s (.s (.s (.s (.s (.s (.s (.z))))))))))).pick (.s (.s (.s (.s (.s (.s (.s (.s (.s (.z))))))))))).pick (.s (.s (.s (.s (.s (.s (.s (.s (.s (.z))))))))))).pick (.s (.s (.s (.s (.s (.s (.s (.s (.s (.z))))))))))).out (Sk (Sk (Sk (Sk (Sk (Sk (Sk (Sk (Sd (Sd (Sr))))))))))) (fun _ h=>h)⟩
 exact ⟨_,hv,rfl,rfl,rfl⟩
set_option maxRecDepth 10000 in
theorem delete_e2 (M:DM) (D:DS) (ok:DkOk M D) (p n:Int) (hp:0≤p∧p≤J3 D.X) (hn: ¬(0≤n∧n≤J3 D.X-p)):Sp Tryz.prog 17 [.pointer (some ⟨M.d,0,none⟩), .int .i64 p, .int .i64 n] (KA M D) (barF::KV M D) (RefO M D):=by
 have hvl:=Kl M.t.row
 have hwt:=ok.wt
 have htl:=ok.tl
 have hrow:=ok.row
 have hpl:=ok.pl
 have hxl:=ok.xl
 have hvx:=Kl D.X
 refine Sp.ofD (n:=68) ⟨_,Tryz.func17,rfl,rfl,rfl,rfl⟩ (Nat.le_of_ble_eq_true rfl) fun Ps As=>Ja (Jg rfl (Ju (cs:= [_,_,_,_,_,_,_,_,_]) JB rfl (by decide) fun b6=>Jg rfl (Ju (cs:= [_]) Ym rfl (by decide) fun b7=>Je ?_)))
 refine ⟨rfl,_,_,_,_,_,catch_Delete b6 b7,DefReg.mk (.cons rfl (.cons rfl (.nil))) (by decide),?_⟩
 refine Jc (Ja (JM (Jb rfl) (dl rfl) (JM (Jb rfl) (dl rfl) (Jg rfl (Kp (place_0 M.d M.h M.b _ _ _ _ _ _ _ _ _ M.B M.t hwt _ p (by rw [hrow];omega)) (.cons rfl (.cons rfl (.cons rfl (.nil)))) (by first | exact dl rfl | decide) (.s (.s (.z))) (.s (.s (.s (.s (.s (.z)))))) (Jl Mm3 Jx) fun u2_2 Lo fs hres=> ?_)))))
 obtain ⟨rfl,rfl,rfl⟩:=hres
 refine Je (Jf (Jc (Jc (Ja (JM (Jb rfl) (dl rfl) (JM (Jb rfl) (dl rfl) (JM (JC rfl) (dl rfl) (JM (Jh (o':=0) Un42 rfl Yn rfl rfl) (dl rfl) (Jg rfl (Kp (Y2 M.d M.h M.b _ _ M.B M.t hwt) (.cons rfl (.nil)) (by first | exact dl rfl | decide) (.z) (.z) (Jl Mm3 Jx) fun u3_4 Lo fs hres=> ?_))))))))))
 obtain ⟨rfl,rfl,rfl⟩:=hres
 refine JM (Jb rfl) (dl rfl) (JM (KJ rfl rfl (wr64 (by rw [hrow];omega)) (c:=(J3 M.t.row:Int)-p)) (dl rfl) (Jg rfl (Jm (YF _ _ _) (.cons rfl (.cons rfl (.cons rfl (.nil)))) (by first | exact dl rfl | decide) Jx fun u3_7 Lo fs hres=> ?_)))
 obtain ⟨rfl,rfl,rfl⟩:=hres
 refine JM (KK rfl) (dl rfl) (Je (Jf (J2 rfl (by rw [hrow,decide_eq_false hn];rfl) (Ja (JM (Jb rfl) (dl rfl) (Jg rfl (YC (give_e _ _ 12 (by first | exact dl rfl | decide)) (.cons rfl (.cons rfl (.cons rfl (.nil)))) Jx fun u4_1 Lo fs hres=> ?_)))))))
 obtain ⟨hv,rfl,rfl⟩:=hres
 refine VJ ?_
 refine ⟨_,_,_,_,[_,_,_,_,_,_,_,_],[],rfl,hv,⟨_,_,_,_,_,_,_,_,_,_,rfl⟩,fun Z w hs=>((hs.pick (.s (.s (.z)))).pick (.s (.s (.s (.z))))),fun Z w hs=>JT hs Un52 rfl JB rfl Jn rfl (KI hs Un54 rfl rfl (Ji Jn) rfl .nil),?_,fun Z w hs=>((((((((hs.pick (.s (.s (.s (.s (.s (.s (.s (.s (.s (.z))))))))))).pick (.s (.s (.s (.s (.s (.s (.s (.s (.s (.z))))))))))).pick (.s (.s (.s (.s (.s (.s (.s (.s (.s (.z))))))))))).pick (.s (.s (.s (.s (.s (.s (.z)))))))).pick (.s (.s (.s (.s (.s (.s (.s (.s (.s (.z))))))))))).pick (.s (.s (.s (.s (.s (.s (.s (.s (.s (.z))))))))))).pick (.s (.s (.s (.s (.s (.s (.s (.s (.s (.z))))))))))).pick (.s (.s (.s (.s (.s (.s (.s (.s (.s (.z))))))))))).out (Sk (Sk (Sk (Sk (Sk (Sk (Sk (Sk (Sd (Sd (Sr))))))))))) (fun _ h=>h)⟩
 exact ⟨_,hv,rfl,rfl,rfl⟩
set_option maxRecDepth 10000 in
theorem delete_e3 (M:DM) (D:DS) (ok:DkOk M D) (p n:Int) (hp:0≤p∧p≤J3 D.X) (hn:n=0):Sp Tryz.prog 17 [.pointer (some ⟨M.d,0,none⟩), .int .i64 p, .int .i64 n] (KA M D) (barF::KV M D) (RefO M D):=by
 have hvl:=Kl M.t.row
 have hwt:=ok.wt
 have htl:=ok.tl
 have hrow:=ok.row
 have hpl:=ok.pl
 have hxl:=ok.xl
 have hvx:=Kl D.X
 refine Sp.ofD (n:=68) ⟨_,Tryz.func17,rfl,rfl,rfl,rfl⟩ (Nat.le_of_ble_eq_true rfl) fun Ps As=>Ja (Jg rfl (Ju (cs:= [_,_,_,_,_,_,_,_,_]) JB rfl (by decide) fun b6=>Jg rfl (Ju (cs:= [_]) Ym rfl (by decide) fun b7=>Je ?_)))
 refine ⟨rfl,_,_,_,_,_,catch_Delete b6 b7,DefReg.mk (.cons rfl (.cons rfl (.nil))) (by decide),?_⟩
 refine Jc (Ja (JM (Jb rfl) (dl rfl) (JM (Jb rfl) (dl rfl) (Jg rfl (Kp (place_0 M.d M.h M.b _ _ _ _ _ _ _ _ _ M.B M.t hwt _ p (by rw [hrow];omega)) (.cons rfl (.cons rfl (.cons rfl (.nil)))) (by first | exact dl rfl | decide) (.s (.s (.z))) (.s (.s (.s (.s (.s (.z)))))) (Jl Mm3 Jx) fun u2_2 Lo fs hres=> ?_)))))
 obtain ⟨rfl,rfl,rfl⟩:=hres
 refine Je (Jf (Jc (Jc (Ja (JM (Jb rfl) (dl rfl) (JM (Jb rfl) (dl rfl) (JM (JC rfl) (dl rfl) (JM (Jh (o':=0) Un42 rfl Yn rfl rfl) (dl rfl) (Jg rfl (Kp (Y2 M.d M.h M.b _ _ M.B M.t hwt) (.cons rfl (.nil)) (by first | exact dl rfl | decide) (.z) (.z) (Jl Mm3 Jx) fun u3_4 Lo fs hres=> ?_))))))))))
 obtain ⟨rfl,rfl,rfl⟩:=hres
 refine JM (Jb rfl) (dl rfl) (JM (KJ rfl rfl (wr64 (by rw [hrow];omega)) (c:=(J3 M.t.row:Int)-p)) (dl rfl) (Jg rfl (Jm (YF _ _ _) (.cons rfl (.cons rfl (.cons rfl (.nil)))) (by first | exact dl rfl | decide) Jx fun u3_7 Lo fs hres=> ?_)))
 obtain ⟨rfl,rfl,rfl⟩:=hres
 refine JM (KK rfl) (dl rfl) (Je (Jf (Jv rfl (by rw [hrow,decide_eq_true (by omega)];rfl) (Jp (Jf (Jc (Jc (Ja (JM (Jb rfl) (dl rfl) (JM (Kg rfl rfl) (dl rfl) (Je (Jf (J2 rfl (by simpa using hn) (Ja (JM (Jb rfl) (dl rfl) ?_)))))))))))))))
 refine Jg rfl (YC (give_e _ _ 15 (by first | exact dl rfl | decide)) (.cons rfl (.cons rfl (.cons rfl (.nil)))) Jx fun u6_1 Lo fs hres=> ?_)
 obtain ⟨hv,rfl,rfl⟩:=hres
 refine VJ ?_
 refine ⟨_,_,_,_,[_,_,_,_,_,_,_,_],[],rfl,hv,⟨_,_,_,_,_,_,_,_,_,_,rfl⟩,fun Z w hs=>((hs.pick (.s (.s (.z)))).pick (.s (.s (.s (.z))))),fun Z w hs=>JT hs Un52 rfl JB rfl Jn rfl (KI hs Un54 rfl rfl (Ji Jn) rfl .nil),?_,fun Z w hs=>((((((((hs.pick (.s (.s (.s (.s (.s (.s (.s (.s (.s (.z))))))))))).pick (.s (.s (.s (.s (.s (.s (.s (.s (.s (.z))))))))))).pick (.s (.s (.s (.s (.s (.s (.s (.s (.s (.z))))))))))).pick (.s (.s (.s (.s (.s (.s (.z)))))))).pick (.s (.s (.s (.s (.s (.s (.s (.s (.s (.z))))))))))).pick (.s (.s (.s (.s (.s (.s (.s (.s (.s (.z))))))))))).pick (.s (.s (.s (.s (.s (.s (.s (.s (.s (.z))))))))))).pick (.s (.s (.s (.s (.s (.s (.s (.s (.s (.z))))))))))).out (Sk (Sk (Sk (Sk (Sk (Sk (Sk (Sk (Sd (Sd (Sr))))))))))) (fun _ h=>h)⟩
 exact ⟨_,hv,rfl,rfl,rfl⟩
theorem bd49_1Xg13 (x1_:Int) (w:World):(Instr.build 49 #[(1, .int .i64 x1_)]).run Tryz.prog w= .ok (.agg #[.int .i64 0, .int .i64 0, .int .i64 x1_]) w:=by kernel_rfl
theorem bd52_0_3Xg13 (x0_0a0:Int) (x0_0a1:Int) (x0_1:Int) (x3_A:Option Addr) (x3_n x3_c:Nat) (w:World):(Instr.build 52 #[(0, .agg #[.int .i64 x0_0a0, .int .i64 x0_0a1, .int .i64 x0_1]),(3, .slice x3_A x3_n x3_c)]).run Tryz.prog w= .ok (.agg #[.int .i64 x0_0a0, .int .i64 x0_0a1, .int .i64 x0_1, .int .i64 0, .string ⟨#[]⟩, .slice x3_A x3_n x3_c, .int .i64 0, .int .i64 0, .bool false]) w:=by kernel_rfl
set_option maxRecDepth 10000 in
theorem delete_0 (M:DM) (D:DS) (ok:DkOk M D) (p n:Nat) (hn0:0<n) (hpn:p+n≤J3 D.X) (hmd:(D.made:Int)<D.op) (hmk: ∀xs,VisR p n D.X xs→MkD D (hideO D xs)∧p≤J3 (JS (mkE D (hideO D xs)) D.X)) (hnU:(D.u,(D.made:Int)+1)∉D.U) (hnR:(D.u,(D.made:Int)+1)∉D.R):Sp Tryz.prog 17 [.pointer (some ⟨M.d,0,none⟩), .int .i64 p, .int .i64 n] (KA M D) (barF::KV M D) (fun v Lo fs=> ∃(xs:List Rg) (k:Nat) (M2:DM) (A9:Option Addr) (c9:Nat),VisR p n D.X xs∧Beh (JS (mkE D (hideO D xs)) D.X) p k∧M2.d=M.d∧DkOk M2 (hideD D xs k)∧v= .tuple #[opV (hideO D xs) A9 c9, .nilIface] ∧Lo=KA M2 (hideD D xs k)∧fs=KV M2 (hideD D xs k)++ [RdF rgD A9 c9 xs]):=by
 have hvl:=Kl M.t.row
 have hwt:=ok.wt
 have htl:=ok.tl
 have hrow:=ok.row
 have hpl:=ok.pl
 have hr:=ok.hr
 have hdi:=ok.di
 have hus:=ok.us
 have hlm:=ok.lm
 have hmd2:=ok.md
 have hsl:=ok.sl
 have hxl:=ok.xl
 have hpu:0≤putA D D.u∧putA D D.u≤4096:=by
  unfold putA
  rw [List.getD_eq_getElem?_getD,List.getElem?_eq_getElem (by omega)]
  exact ok.p0 _ (List.getElem_mem _)
 have hvx:=Kl D.X
 refine Sp.ofD (n:=68) ⟨_,Tryz.func17,rfl,rfl,rfl,rfl⟩ (Nat.le_of_ble_eq_true rfl) fun Ps As=>Ja (Jg rfl (Ju (cs:= [_,_,_,_,_,_,_,_,_]) JB rfl (by decide) fun b6=>Jg rfl (Ju (cs:= [_]) Ym rfl (by decide) fun b7=>Je ?_)))
 refine ⟨rfl,_,_,_,_,_,catch_Delete b6 b7,DefReg.mk (.cons rfl (.cons rfl (.nil))) (by decide),?_⟩
 refine Jc (Ja (JM (Jb rfl) (dl rfl) (JM (Jb rfl) (dl rfl) (Jg rfl (Kp (place_0 M.d M.h M.b _ _ _ _ _ _ _ _ _ M.B M.t hwt _ p (by rw [hrow];omega)) (.cons rfl (.cons rfl (.cons rfl (.nil)))) (by first | exact dl rfl | decide) (.s (.s (.z))) (.s (.s (.s (.s (.s (.z)))))) (Jl Mm3 Jx) fun u2_2 Lo fs hres=> ?_)))))
 obtain ⟨rfl,rfl,rfl⟩:=hres
 refine Je (Jf (Jc (Jc (Ja (JM (Jb rfl) (dl rfl) (JM (Jb rfl) (dl rfl) (JM (JC rfl) (dl rfl) (JM (Jh (o':=0) Un42 rfl Yn rfl rfl) (dl rfl) (Jg rfl (Kp (Y2 M.d M.h M.b _ _ M.B M.t hwt) (.cons rfl (.nil)) (by first | exact dl rfl | decide) (.z) (.z) (Jl Mm3 Jx) fun u3_4 Lo fs hres=> ?_))))))))))
 obtain ⟨rfl,rfl,rfl⟩:=hres
 refine JM (Jb rfl) (dl rfl) (JM (KJ rfl rfl (wr64 (by rw [hrow];omega)) (c:=(J3 M.t.row:Int)-p)) (dl rfl) (Jg rfl (Jm (YF _ _ _) (.cons rfl (.cons rfl (.cons rfl (.nil)))) (by first | exact dl rfl | decide) Jx fun u3_7 Lo fs hres=> ?_)))
 obtain ⟨rfl,rfl,rfl⟩:=hres
 refine JM (KK rfl) (dl rfl) (Je (Jf (Jv rfl (by rw [hrow,decide_eq_true (by omega)];rfl) (Jp (Jf (Jc (Jc (Ja (JM (Jb rfl) (dl rfl) (JM (Kg rfl rfl) (dl rfl) (Je (Jf (Jv rfl (by simp;omega) (Jp (Jf (Jc (Ja (JM (Jb rfl) (dl rfl) ?_))))))))))))))))))
 refine JM (Jb rfl) (dl rfl) (Jg rfl (JU (room_0 M.d M.h M.b _ _ _ _ _ _ _ _ _ _ p hmd) (.cons rfl (.cons rfl (.cons rfl (.nil)))) (by first | exact dl rfl | decide) (.z) Jx fun u7_2 Lo fs hres=> ?_))
 obtain ⟨rfl,rfl,rfl⟩:=hres
 refine Je (Jf (Jc (Ja (JM (Jb rfl) (dl rfl) (JM (JC rfl) (dl rfl) (JM (Jh (o':=0) Un42 rfl Yn rfl rfl) (dl rfl) (JM (Jh (o':=1) Un36 rfl GY rfl rfl) (dl rfl) (JM (Jj Un34 rfl rfl Jn rfl) (dl rfl) (JM (Jb rfl) (dl rfl) (JM (Jb rfl) (dl rfl) (JM (Jb rfl) (dl rfl) (JM (JV rfl rfl (wr64 (by omega)) (c:=((p+n:Nat):Int))) (dl rfl) ?_))))))))))))
 refine Jg rfl (JU (HB M.b M.B M.t hwt htl p n (by rw [hrow];exact hpn)) (.cons rfl (.cons rfl (.cons rfl (.nil)))) (by first | exact dl rfl | decide) (.s (.z)) (Jl Mm3 Jx) fun u8_9 Lo fs hres=> ?_)
 obtain ⟨A9,c9,xs,hV,rfl,rfl,rfl⟩:=hres
 rw [hrow] at hV
 obtain ⟨hmk,hp2⟩:=hmk xs hV
 refine JM (Jb rfl) (dl rfl) (JM (Jk (vs:= [_,_]) rfl rfl) (dl rfl) (JM (Jk (vs:= [_,_]) rfl rfl) (dl rfl) (JM (Jd rfl) (dl rfl) (JM (Jd rfl) (dl rfl) (Je (Jf (Jc (Ja (JM (Jb rfl) (dl rfl) (JM (Jb rfl) (dl rfl) (Jg rfl (Jm (give_0 _ _) (.cons rfl (.cons rfl (.cons rfl (.nil)))) (by first | exact dl rfl | decide) Jx fun u9_2 Lo fs hres=> ?_))))))))))))
 obtain ⟨rfl,rfl,rfl⟩:=hres
 refine Je (Jf (Jc (Ja (JM (Jb rfl) (dl rfl) (JM (J0 (.cons rfl (.nil)) (bd49_1Xg13 _)) (dl rfl) (JM (Jb rfl) (dl rfl) (JM (J0 (.cons rfl (.cons rfl (.nil))) (bd52_0_3Xg13 _ _ _ _ _ _)) (dl rfl) (Jg rfl (J5 (Ea M.d M.h M.m M.b _ _ _ _ _ _ _ _ _ D.H M.L M.A M.cap M.B M.t D.H.ops.length D.X { zeroOp with kind:=2,rs:=xs } A9 c9 (mkH D (hideO D xs)) (mkE D (hideO D xs)) hr hwt hrow hdi hmk.tk (by omega)) (.cons rfl (.cons rfl (.nil))) (by first | exact dl rfl | decide) (.cons (.s (.z)) (.cons (.s (.s (.s (.z)))) (.cons (.s (.s (.s (.z)))) (.cons (.s (.s (.s (.z)))) (.cons (.z) .nil))))) (Jl Mm1 (Jl Mm2 (Jl Mm3 (Jl Mm4 (Jl Mm0 Jx))))) fun u10_4 Lo fs hres=> ?_)))))))))
 obtain ⟨L2,A2,cap2,B2,t2,rfl,hr2,wt2,hX2,rfl,rfl⟩:=hres
 have hn2:(mkH D (hideO D xs)).ops.length=D.H.ops.length+1:=by rw [hmk.ops];simp
 refine Jg rfl (Jq (cs':= [_,_,_,_,_,_,_,_,_]) (vs:= [_,_,_,_,_,_,_,_,_]) JB rfl rfl rfl rfl rfl (Nat.le_of_ble_eq_true rfl) (.s (.s (.s (.s (.s (.s (.z))))))) (Je (Jf (Jc (YQ (JI _ _ [] (.c 0 0 (.c 1 0 (.c 2 0 (.c 3 0 (.c 4 0 (.c 5 0 (.c 6 0 (.c 7 2 .nil)))))))) mixed (fun _ _ _ _ h=>h) (Sk (Sk (Sk (Sk (Sk (Sk (Sk (Sd (Sd (Sd (Sr))))))))))) (fun _ h=>h) (by kernel_rfl) (by first | exact dl rfl | decide) fun ws Z0=>JQ rfl (Jb rfl) (dl rfl) (JQ rfl (JC rfl) (dl rfl) (JQ rfl (Jh (o':=18) Un42 rfl HL rfl rfl) (dl rfl) ?_))))))))
 refine JQ rfl (Jj Un40 rfl rfl Jn (dk18 hpl)) (dl rfl) (JQ rfl (Jh (o':=0) Un52 rfl KY rfl rfl) (dl rfl) (JQ rfl (Jh (o':=0) Un49 rfl JY rfl rfl) (dl rfl) (JQ rfl (Jt (vs:= [_,_]) Un46 rfl JY rfl (Ji (Ji (Ji (Ji (Ji (Ji (Jn))))))) rfl rfl) (dl rfl) (Jy rfl rfl (KE (Jbc M.s M.vu M.vr M.pu M.pr D.U D.R ok.hU ok.hR (by omega) (by omega) D.u ((D.made:Int)+1) (by omega) hnU hnR) (.cons rfl (.cons rfl (.nil))) (by first | exact dl rfl | decide) (.s (.s (.s (.s (.s (.s (.s (.z)))))))) (.s (.s (.s (.s (.s (.s (.s (.z)))))))) (.s (.s (.s (.s (.s (.s (.s (.z)))))))) Jx fun u11_7 Lo fs hres=> ?_)))))
 obtain ⟨vu2,pu2,hU2,rfl,rfl,rfl⟩:=hres
 refine ⟨⟨(Sd (Sd (Sd (Sk (Sk (Sk (Sk (Sk (Sk (Sk (Sr))))))))))),Mm0⟩,?_⟩
 refine JL (JK (Jf (Jc ?_)))
 have hw:(Jw (hideO D xs)).toNat=0:=by unfold Jw;rw [if_neg (show ¬(hideO D xs).kind=1 by show ¬(2:Int)=1;decide)];rfl
 have hlen:=hmk.len
 have hgp:=ok.gp
 have hok2:DkOk ⟨M.d,M.h,M.m,M.b,M.s,A2,cap2,B2,t2,L2,vu2, .slice none 0 0,pu2,[]⟩ (hideD D xs D.gap):=ok.mk_ hr2 wt2 hX2 hU2 (Row.nil _ _) (by show DI (mkH D (hideO D xs)).ops.length _ _;rw [hn2];exact hmk.di) rfl ⟨rfl,rfl,rfl⟩ hpl ok.p0 (by show D.gap≤(JS (mkE D (hideO D xs)) D.X).length;omega) (by show D.got≤(mkH D (hideO D xs)).ops.length;have:=ok.rc;omega) (by show D.made+1≤1024;omega) (by show (D.U++ [_]).length+0≤D.made+1;simp;omega)
 refine Ja (JM (Jb rfl) (dl rfl) (JM (Jb rfl) (dl rfl) (JM (Jb rfl) (dl rfl) (Jg rfl (Kp (EK _ _ hok2 p hp2) (.cons rfl (.cons rfl (.nil))) (by first | exact dl rfl | decide) (.s (.s (.s (.z)))) (.s (.s (.s (.s (.s (.s (.z))))))) (Jl Mm3 Jx) fun u12_3 Lo fs hres=> ?_)))))
 obtain ⟨k,hk,rfl,rfl,rfl⟩:=hres
 refine JM (JC rfl) (dl rfl) (JM (Jh (o':=17) Un42 rfl ti3 rfl rfl) (dl rfl) (Jg rfl (K9 ti3 rfl rfl rfl (dkl17 hpl) (.z) ?_)))
 rw [dkset17 hpl]
 refine Je (Jf (Jc (Ja (JM (Jt (vs:= [_,_,_,_,_,_,_,_,_]) Un52 rfl JB rfl (Ji (Ji (Ji (Ji (Ji (Ji (Ji (Ji (Ji (Jn)))))))))) rfl rfl) (dl rfl) (Jg rfl (Jq (cs':= [_,_,_,_,_,_,_,_,_]) (vs:= [_,_,_,_,_,_,_,_,_]) JB rfl rfl rfl rfl rfl (Nat.le_of_ble_eq_true rfl) (.s (.s (.s (.s (.s (.s (.s (.s (.s (.z)))))))))) (Jg rfl (JJ Ym rfl rfl rfl (.z) (.s (.s (.s (.s (.s (.s (.s (.s (.z))))))))) (Je (Jf (Jo ?_)))))))))))
 refine ⟨_,[_,_,_,_,_,_,_,_],[_,_,_,_],fun Z w hs=>JT hs Un52 rfl JB rfl (Ji (Ji (Ji (Ji (Ji (Ji (Ji (Ji (Ji (Jn)))))))))) rfl (KI hs Un54 rfl rfl (Ji (Ji (Ji (Ji (Ji (Ji (Ji (Ji (Jn))))))))) rfl (.nil)),?_,fun Z w hs=>((((((((hs.pick (.s (.s (.s (.s (.z)))))).pick (.s (.s (.s (.s (.z)))))).pick (.s (.s (.s (.s (.z)))))).pick (.s (.s (.s (.s (.z)))))).pick (.s (.s (.s (.s (.s (.s (.s (.z))))))))).pick (.s (.s (.s (.s (.s (.s (.s (.z))))))))).pick (.s (.s (.s (.s (.s (.s (.s (.z))))))))).pick (.s (.s (.s (.s (.s (.s (.s (.z))))))))).out (Sk (Sk (Sk (Sk (Sk (Sk (Sk (Sk (Sd (Sd (Sr))))))))))) Tt1⟩
 refine ⟨xs,k,_,_,_,hV,hk,?_,hok2.gap hk.le,rfl,rfl,rfl⟩
 rfl
theorem bd49_1Xg14 (x1_:Int) (w:World):(Instr.build 49 #[(1, .int .i64 x1_)]).run Tryz.prog w= .ok (.agg #[.int .i64 0, .int .i64 0, .int .i64 x1_]) w:=by kernel_rfl
theorem bd52_0_4_5Xg14 (x0_0a0:Int) (x0_0a1:Int) (x0_1:Int) (x4_a0:Int) (x4_a1:Int) (x5_:Bool) (w:World):(Instr.build 52 #[(0, .agg #[.int .i64 x0_0a0, .int .i64 x0_0a1, .int .i64 x0_1]),(4, .agg #[.int .i64 x4_a0, .int .i64 x4_a1]),(5, .bool x5_)]).run Tryz.prog w= .ok (.agg #[.int .i64 x0_0a0, .int .i64 x0_0a1, .int .i64 x0_1, .int .i64 0, .string ⟨#[]⟩, .slice none 0 0, .int .i64 x4_a0, .int .i64 x4_a1, .bool x5_]) w:=by kernel_rfl
set_option maxRecDepth 10000 in
theorem VB (M:DM) (D:DS) (ok:DkOk M D) (i0 i1:Int) (on:Bool) (j:Nat) (hmd:(D.made:Int)<D.op) (hmk:MkD D (statO D (i0,i1) on)) (hj:j<(mkH D (statO D (i0,i1) on)).ents.length) (hw2:JZ (mkH D (statO D (i0,i1) on)).ents i0 i1=some j) (hne:(entE ((mkH D (statO D (i0,i1) on)).ents[j])).rs≠ []) (hrl:(entE ((mkH D (statO D (i0,i1) on)).ents[j])).rs.length≤100000) (hrs: ∀r∈(entE ((mkH D (statO D (i0,i1) on)).ents[j])).rs,0≤r.lo∧r.lo<r.hi∧r.hi≤(JS (mkE D (statO D (i0,i1) on)) D.X).length):Sp Tryz.prog 63 [.pointer (some ⟨M.d,0,none⟩), .agg #[.int .i64 i0, .int .i64 i1], .bool on] (KA M D) (barF::KV M D) (fun v Lo fs=> ∃(M2:DM),M2.d=M.d∧DkOk M2 (statD D (i0,i1) on j)∧v=opV (statO D (i0,i1) on) none 0∧Lo=KA M2 (statD D (i0,i1) on j)∧fs=KV M2 (statD D (i0,i1) on j)):=by
 have hvl:=Kl M.t.row
 have hwt:=ok.wt
 have htl:=ok.tl
 have hrow:=ok.row
 have hpl:=ok.pl
 have hr:=ok.hr
 have hdi:=ok.di
 have hus:=ok.us
 have hlm:=ok.lm
 have hmd2:=ok.md
 have hsl:=ok.sl
 have hxl:=ok.xl
 have hpu:0≤putA D D.u∧putA D D.u≤4096:=by
  unfold putA
  rw [List.getD_eq_getElem?_getD,List.getElem?_eq_getElem (by omega)]
  exact ok.p0 _ (List.getElem_mem _)
 refine Sp.of (n:=68) ⟨_,Tryz.func63,rfl,rfl,rfl,rfl⟩ (Nat.le_of_ble_eq_true rfl) fun Ps As=>Jc (Ja (Jg rfl (J7 (cs:= [_,_]) rfl rfl (by decide) fun b4=>Jg rfl (Ju (cs:= [_,_,_,_,_,_,_,_,_]) JB rfl (by decide) fun b6=>Je (Jf (Jc (J9 (A:=RdF rgD none 0 []) (fun Z w _=>RdS.nil _ Z w) (Ja (Lq (Jb rfl) (Lq (J0 (.cons rfl (.nil)) (bd49_1Xg14 _)) (Lq (Jt (vs:= [_,_]) Un46 rfl JY rfl (Ji (Jn)) rfl rfl) ?_)))))))))))
 refine Lq (Jb rfl) (Lq (J0 (.cons rfl (.cons rfl (.cons rfl (.nil)))) (bd52_0_4_5Xg14 _ _ _ _ _ _)) (Jg rfl (J5 (Ea M.d M.h M.m M.b _ _ _ _ _ _ _ _ _ D.H M.L M.A M.cap M.B M.t D.H.ops.length D.X { zeroOp with kind:=4,tc:=i0,tn:=i1,on:=on } none 0 (mkH D (statO D (i0,i1) on)) (mkE D (statO D (i0,i1) on)) hr hwt hrow hdi hmk.tk (by omega)) (.cons rfl (.cons rfl (.nil))) (by decide) (.cons (.s (.s (.z))) (.cons (.s (.s (.z))) (.cons (.s (.s (.z))) (.cons (.s (.s (.z))) (.cons (.s (.s (.z))) .nil))))) (Jl Mm1 (Jl Mm2 (Jl Mm3 (Jl Mm4 (Jl Mm0 Jx))))) fun u1_5 Lo fs hres=> ?_)))
 obtain ⟨L2,A2,cap2,B2,t2,rfl,hr2,wt2,hX2,rfl,rfl⟩:=hres
 have hn2:(mkH D (statO D (i0,i1) on)).ops.length=D.H.ops.length+1:=by rw [hmk.ops];simp
 refine Jg rfl (Ju (cs:= [_,_,_,_,_,_,_,_,_]) JB rfl (by decide) fun b7=>Jg rfl (Jq (cs':= [_,_,_,_,_,_,_,_,_]) (vs:= [_,_,_,_,_,_,_,_,_]) JB rfl rfl rfl rfl rfl (Nat.le_of_ble_eq_true rfl) (.z) (Je (Jf (Jc (JI _ _ [] (.c 0 0 (.c 1 0 (.c 2 0 (.c 3 0 (.c 4 0 (.c 5 0 (.c 6 2 (.c 7 0 (.c 8 0 (.c 9 0 (.c 10 0 (.c 11 0 .nil)))))))))))) mixed (fun _ _ _ _ h=>h) (Sk (Sk (Sd (Sd (Sd (Sk (Sk (Sk (Sk (Sk (Sk (Sr)))))))))))) (fun _ h=>h) (by kernel_rfl) (by decide) fun ws Z0=>Qe rfl (Jb rfl) (Qe rfl (JC rfl) (Qe rfl (Jh (o':=0) Un42 rfl Yn rfl rfl) ?_))))))))
 refine Qe rfl (Jh (o':=0) Un36 rfl VX rfl rfl) (Qe rfl (Jj Un33 rfl rfl (Ji (Jn)) rfl) (Qe rfl (Jt (vs:= [_,_]) Un46 rfl JY rfl (Ji (Ji (Ji (Ji (Jn))))) rfl rfl) (Jy rfl rfl (KE (ZC M.h M.m cap2 A2 (mkH D (statO D (i0,i1) on)) L2 hr2 i0 i1 j hw2) (.cons rfl (.cons rfl (.nil))) (by decide) (.s (.s (.z))) (.s (.s (.z))) (.s (.s (.z))) Jx fun u2_6 Lo fs hres=> ?_))))
 obtain ⟨rfl,rfl,rfl⟩:=hres
 refine ⟨⟨(Sd (Sd (Sd (Sk (Sk (Sk (Sk (Sk (Sk (Sk (Sk (Sr)))))))))))),Mm0⟩,?_⟩
 refine Qe rfl (Jb rfl) (Qe rfl (Jk (vs:= [_,_]) rfl rfl) (Qe rfl (Jk (vs:= [_,_]) rfl rfl) (Qe rfl (Jd rfl) (Qe rfl (Jd rfl) (JL (JK (Jf (Jc (Ja (Lq (Jb rfl) (Lq (JC rfl) (Lq (Jh (o':=0) Un42 rfl Yn rfl rfl) ?_))))))))))))
 refine Lq (Jh (o':=0) Un36 rfl VX rfl rfl) (Lq (Jj Un33 rfl rfl (Ji (Ji (Ji (Ji (Jn))))) rfl) (Lq (Jb rfl) (Jg rfl (KE (XH M.h M.m cap2 A2 (mkH D (statO D (i0,i1) on)) L2 hr2 j) (.cons rfl (.cons rfl (.nil))) (by decide) (.z) (.z) (.z) (Jl Mm1 (Jl Mm2 Jx)) fun u3_6 Lo fs hres=> ?_))))
 obtain ⟨A1,c1,rfl,rfl,rfl⟩:=hres
 rw [YA hj]
 generalize hen:entE ((mkH D (statO D (i0,i1) on)).ents[j])=en at hne hrl hrs ⊢
 dsimp only
 refine Lq (Jb rfl) (Lq (Jk (vs:= [_,_]) rfl rfl) (Lq (Jk (vs:= [_,_]) rfl rfl) (Jg rfl (Ju (cs:= [_,_,_,_,_,_,_]) Vi rfl (by decide) fun b10=>Jg rfl (Jq (cs':= [_,_,_,_,_,_,_]) (vs:= [_,_,_,_,_,_,_]) Vi rfl rfl rfl rfl rfl (Nat.le_of_ble_eq_true rfl) (.z) (Lq (Jd rfl) (Je (Jf (Jc (Jc (Ja (Lq (Jh (o':=4) Un62 rfl Yf rfl rfl) (Lq (Jj Un50 rfl rfl Jn rfl) (Lq (J6 Un50 rfl) ?_))))))))))))))
 refine Lq (Jd rfl) (Je (Jf (Jc (Ja (Lq (Jb rfl) (Lq (Kf rfl rfl) (Je (Jf (J2 rfl (by have:=List.length_pos_iff.2 hne;simp;omega) (Jc (Ja (Lq (Jb rfl) (Lq (Jh (o':=2) Un62 rfl YE rfl rfl) (Lq (Jj Un47 rfl rfl Jn rfl) ?_))))))))))))))
 refine Lq (Kg rfl rfl) (Lq (q_beql' Un4 rfl rfl) (Je (Jf (Jz rfl (fun h48=> ?_) (fun h48=> ?_)))))
 ·have hlp:=List.length_pos_iff.2 hne
  have hkl:en.rs.length-1<en.rs.length:=by omega
  have hlast:=hrs _ (List.getElem_mem hkl)
  refine Kk (k:=(en.rs.length-1)) Mm0 (List.getElem?_eq_getElem hkl) (rg_open _) fun b7 q7 y7 e7=> ?_
  cases e7
  refine Ja (Lq (Jb rfl) (Lq (Jh (o':=4) Un62 rfl Yf rfl rfl) (Lq (Jj Un50 rfl rfl Jn rfl) (Lq (Jb rfl) (Lq (KJ rfl rfl (by rw [wr64 (by have:=hlp;omega)];omega) (c:=((en.rs.length-1:Nat):Int))) (Lq (Kc Un50 K3 rfl rfl (by omega) (by omega)) (Lq (Jh (o':=_+1) Un74 rfl ti3 rfl rfl) (Lq (Kj (j:=1) Un3 rfl rfl Mm0 rfl rfl) (Lq (JC rfl) ?_)))))))))
  refine Lq (Jh (o':=17) Un42 rfl ti3 rfl rfl) (Jg rfl (K9 ti3 rfl rfl rfl (dkl17 hpl) (.s (.s (.s (.s (.s (.z)))))) ?_))
  rw [dkset17 hpl]
  refine Je (Jf (Jc (Ja (Lq (Jt (vs:= [_,_,_,_,_,_,_,_,_]) Un52 rfl JB rfl (Ji (Ji (Ji (Ji (Jn))))) rfl rfl) (Jg rfl (Jq (cs':= [_,_,_,_,_,_,_,_,_]) (vs:= [_,_,_,_,_,_,_,_,_]) JB rfl rfl rfl rfl rfl (Nat.le_of_ble_eq_true rfl) (.s (.s (.s (.s (.s (.s (.s (.z)))))))) (Je (Jf (Jo ?_)))))))))
  refine ⟨_,[_,_,_,_,_,_,_,_],[_,_,_],fun Z w hs=>JT hs Un52 rfl JB rfl (Ji (Ji (Ji (Ji (Ji (Ji (Ji (Jn)))))))) rfl (.nil),?_,fun Z w hs=>((((((((hs.pick (.s (.s (.s (.s (.s (.s (.s (.s (.s (.s (.s (.z))))))))))))).pick (.s (.s (.s (.s (.s (.s (.s (.s (.s (.s (.s (.z))))))))))))).pick (.s (.s (.s (.s (.s (.s (.s (.s (.s (.s (.s (.z))))))))))))).pick (.s (.s (.s (.s (.s (.s (.s (.s (.s (.z))))))))))).pick (.s (.s (.s (.s (.s (.s (.s (.z))))))))).pick (.s (.s (.s (.s (.s (.s (.s (.z))))))))).pick (.s (.s (.s (.s (.s (.s (.s (.z))))))))).pick (.s (.s (.s (.s (.s (.s (.s (.s (.s (.z))))))))))).out (Sk (Sk (Sk (Sk (Sk (Sk (Sk (Sk (Sd (Sd (Sd (Sd (Sr))))))))))))) (Jl Mm3 (Jl Mm4 (Jl Mm5 Tt7)))⟩
  have hg:turnGap D.gap (entryF (mkH D (statO D (i0,i1) on)) j).1 on=(en.rs[en.rs.length-1].hi).toNat:=by
   rw [YA hj,hen]
   unfold turnGap
   obtain ⟨r0,rest,er⟩:=List.exists_cons_of_ne_nil hne
   have el:en.rs.getLast? =some en.rs[en.rs.length-1] :=by rw [List.getLast?_eq_getElem?,List.getElem?_eq_getElem]
   have e0:en.rs[0] =r0:=by simp only [er,List.getElem_cons_zero]
   rw [el]
   simp only [h48,if_true,er]
   try simp
  have hgt:((turnGap D.gap (entryF (mkH D (statO D (i0,i1) on)) j).1 on:Nat):Int)=en.rs[en.rs.length-1].hi:=by rw [hg];omega
  have hok2:DkOk ⟨M.d,M.h,M.m,M.b,M.s,A2,cap2,B2,t2,L2,M.vu,M.vr,M.pu,M.pr⟩ (statD D (i0,i1) on j):=ok.mk_ hr2 wt2 hX2 ok.hU ok.hR (by show DI (mkH D (statO D (i0,i1) on)).ops.length _ _;rw [hn2];exact hmk.di) rfl ⟨rfl,rfl,rfl⟩ hpl ok.p0 (by show turnGap D.gap (entryF (mkH D (statO D (i0,i1) on)) j).1 on≤(JS (mkE D (statO D (i0,i1) on)) D.X).length;omega) (by show D.got≤(mkH D (statO D (i0,i1) on)).ops.length;have:=ok.rc;omega) (by show D.made+1≤1024;omega) (by show D.U.length+D.R.length≤D.made+1;omega)
  refine ⟨_,?_,hok2,rfl,?_,rfl⟩
  ·rfl
  ·show _=KA ⟨M.d,M.h,M.m,M.b,M.s,A2,cap2,B2,t2,L2,M.vu,M.vr,M.pu,M.pr⟩ (statD D (i0,i1) on j)
   rw [←hgt]
   rfl
 ·have hlp:=List.length_pos_iff.2 hne
  have hfirst:=hrs _ (List.getElem_mem hlp)
  refine Kk (k:=0) Mm0 (List.getElem?_eq_getElem hlp) (rg_open _) fun b8 q8 y8 e8=> ?_
  cases e8
  refine Ja (Lq (Jb rfl) (Lq (Jh (o':=4) Un62 rfl Yf rfl rfl) (Lq (Jj Un50 rfl rfl Jn rfl) (Lq (Kc Un50 K3 rfl rfl (by omega) (by omega)) (Lq (Jh (o':=_+0) Un74 rfl ti3 rfl rfl) (Lq (Kj (j:=0) Un3 rfl rfl Mm0 rfl rfl) (Lq (JC rfl) (Lq (Jh (o':=17) Un42 rfl ti3 rfl rfl) (Jg rfl (K9 ti3 rfl rfl rfl (dkl17 hpl) (.s (.s (.s (.s (.s (.z)))))) ?_))))))))))
  rw [dkset17 hpl]
  refine Je (Jf (Jc (Ja (Lq (Jt (vs:= [_,_,_,_,_,_,_,_,_]) Un52 rfl JB rfl (Ji (Ji (Ji (Ji (Jn))))) rfl rfl) (Jg rfl (Jq (cs':= [_,_,_,_,_,_,_,_,_]) (vs:= [_,_,_,_,_,_,_,_,_]) JB rfl rfl rfl rfl rfl (Nat.le_of_ble_eq_true rfl) (.s (.s (.s (.s (.s (.s (.s (.z)))))))) (Je (Jf (Jo ?_)))))))))
  refine ⟨_,[_,_,_,_,_,_,_,_],[_,_,_],fun Z w hs=>JT hs Un52 rfl JB rfl (Ji (Ji (Ji (Ji (Ji (Ji (Ji (Jn)))))))) rfl (.nil),?_,fun Z w hs=>((((((((hs.pick (.s (.s (.s (.s (.s (.s (.s (.s (.s (.s (.s (.z))))))))))))).pick (.s (.s (.s (.s (.s (.s (.s (.s (.s (.s (.s (.z))))))))))))).pick (.s (.s (.s (.s (.s (.s (.s (.s (.s (.s (.s (.z))))))))))))).pick (.s (.s (.s (.s (.s (.s (.s (.s (.s (.z))))))))))).pick (.s (.s (.s (.s (.s (.s (.s (.z))))))))).pick (.s (.s (.s (.s (.s (.s (.s (.z))))))))).pick (.s (.s (.s (.s (.s (.s (.s (.z))))))))).pick (.s (.s (.s (.s (.s (.s (.s (.s (.s (.z))))))))))).out (Sk (Sk (Sk (Sk (Sk (Sk (Sk (Sk (Sd (Sd (Sd (Sd (Sr))))))))))))) (Jl Mm3 (Jl Mm4 (Jl Mm5 Tt7)))⟩
  have hg:turnGap D.gap (entryF (mkH D (statO D (i0,i1) on)) j).1 on=(en.rs[0].lo).toNat:=by
   rw [YA hj,hen]
   unfold turnGap
   obtain ⟨r0,rest,er⟩:=List.exists_cons_of_ne_nil hne
   have el:en.rs.getLast? =some en.rs[en.rs.length-1] :=by rw [List.getLast?_eq_getElem?,List.getElem?_eq_getElem]
   have e0:en.rs[0] =r0:=by simp only [er,List.getElem_cons_zero]
   rw [el]
   simp only [h48,Bool.false_eq_true,if_false,er]
   try simp
  have hgt:((turnGap D.gap (entryF (mkH D (statO D (i0,i1) on)) j).1 on:Nat):Int)=en.rs[0].lo:=by rw [hg];omega
  have hok2:DkOk ⟨M.d,M.h,M.m,M.b,M.s,A2,cap2,B2,t2,L2,M.vu,M.vr,M.pu,M.pr⟩ (statD D (i0,i1) on j):=ok.mk_ hr2 wt2 hX2 ok.hU ok.hR (by show DI (mkH D (statO D (i0,i1) on)).ops.length _ _;rw [hn2];exact hmk.di) rfl ⟨rfl,rfl,rfl⟩ hpl ok.p0 (by show turnGap D.gap (entryF (mkH D (statO D (i0,i1) on)) j).1 on≤(JS (mkE D (statO D (i0,i1) on)) D.X).length;omega) (by show D.got≤(mkH D (statO D (i0,i1) on)).ops.length;have:=ok.rc;omega) (by show D.made+1≤1024;omega) (by show D.U.length+D.R.length≤D.made+1;omega)
  refine ⟨_,?_,hok2,rfl,?_,rfl⟩
  ·rfl
  ·show _=KA ⟨M.d,M.h,M.m,M.b,M.s,A2,cap2,B2,t2,L2,M.vu,M.vr,M.pu,M.pr⟩ (statD D (i0,i1) on j)
   rw [←hgt]
   rfl
theorem effect_y (h m cap:Nat) (A:Option Addr) (H:Hist) (L:List MR) (hr:HR H L) (i0 i1:Int) (k:Nat) (hw:JZ H.ents i0 i1=some k) (hk:k<H.ents.length) (hk4:H.ents[k].op.kind≠4) (on:Bool) (hoff:H.ents[k].off=on):Sp Tryz.prog 62 [.pointer (some ⟨h,0,none⟩), .agg #[.int .i64 i0, .int .i64 i1], .bool on] [hdP h A H.ops.length cap m H.total,mpP m L,mkP L] [RdF opD A cap H.ops,AllF L nowF] (fun u Lo fs=> ∃Ae ce,u= .tuple #[opV (turnF H.ents[k] on) Ae ce, .int .i64 0] ∧Lo= [hdP h A H.ops.length cap m H.total,mpP m L,mkP L] ∧fs= [RdF rgD Ae ce (turnF H.ents[k] on).rs]):=by
 refine (EE h m cap A H L hr i0 i1 k hw (fun e he=>by rw [List.getElem?_eq_getElem hk] at he;rw [←Option.some.inj he];exact hk4) on).mono ?_
 rintro u Lo fs ⟨_,Ae,ce,rfl,⟨_,rfl,rfl⟩ | ⟨hne,_,_⟩⟩
 ·exact ⟨Ae,ce,rfl,rfl,rfl⟩
 ·exact absurd hoff hne
theorem effect_x (h m cap:Nat) (A:Option Addr) (H:Hist) (L:List MR) (hr:HR H L) (i0 i1:Int) (on:Bool) (he:effE H (i0,i1) on≠0):Sp Tryz.prog 62 [.pointer (some ⟨h,0,none⟩), .agg #[.int .i64 i0, .int .i64 i1], .bool on] [hdP h A H.ops.length cap m H.total,mpP m L,mkP L] [RdF opD A cap H.ops,AllF L nowF] (fun u Lo fs=>u= .tuple #[opV zeroOp none 0, .int .i64 (effE H (i0,i1) on)] ∧Lo= [hdP h A H.ops.length cap m H.total,mpP m L,mkP L] ∧fs= []):=by
 cases hw:JZ H.ents i0 i1 with
 | none=>
  have e:effE H (i0,i1) on=60:=by unfold effE;rw [hw]
  rw [e];exact effect_n h m cap A H L hr i0 i1 hw on
 | some k=>
  obtain ⟨hk,_,_⟩:=KB hw
  have e0:effE H (i0,i1) on=if H.ents[k].op.kind=4 then 63 else if H.ents[k].off=on then 0 else 62:=by unfold effE;rw [hw];simp only [List.getElem?_eq_getElem hk]
  by_cases h4:H.ents[k].op.kind=4
  ·rw [e0,if_pos h4]
   exact effect_4 h m cap A H L hr i0 i1 k hw (fun e he=>by rw [List.getElem?_eq_getElem hk] at he;rw [←Option.some.inj he];exact h4) on
  ·rw [e0,if_neg h4] at he ⊢
   by_cases ho:H.ents[k].off=on
   ·rw [if_pos ho] at he;exact absurd rfl he
   ·rw [if_neg ho]
    refine (EE h m cap A H L hr i0 i1 k hw (fun e he=>by rw [List.getElem?_eq_getElem hk] at he;rw [←Option.some.inj he];exact h4) on).mono ?_
    rintro u Lo fs ⟨_,Ae,ce,rfl,⟨hy,_,_⟩ | ⟨_,rfl,rfl⟩⟩
    ·exact absurd hy ho
    ·exact ⟨rfl,rfl,rfl⟩
structure TuD (D:DS) (i0 i1:Int) (on:Bool) (j:Nat):Prop where
 mkd:MkD D (statO D (i0,i1) on)
 hj:j<(mkH D (statO D (i0,i1) on)).ents.length
 hw:JZ (mkH D (statO D (i0,i1) on)).ents i0 i1=some j
 ne:(entE ((mkH D (statO D (i0,i1) on)).ents[j])).rs≠ []
 rl:(entE ((mkH D (statO D (i0,i1) on)).ents[j])).rs.length≤100000
 rs: ∀r∈(entE ((mkH D (statO D (i0,i1) on)).ents[j])).rs,0≤r.lo∧r.lo<r.hi∧r.hi≤(JS (mkE D (statO D (i0,i1) on)) D.X).length
def undoD (D:DS):DS:= { D with U:=(upF (JX D.H true) D.U D.R).2.1,R:=(upF (JX D.H true) D.U D.R).2.2 }
def redoD (D:DS):DS:= { D with R:=(upF (JX D.H false) D.R D.U).2.1,U:=(upF (JX D.H false) D.R D.U).2.2 }
theorem Xz (ok:Id2→Bool) (U R:List Id2):(upF ok U R).2.1.length+(upF ok U R).2.2.length=U.length+R.length:=by
 unfold upF
 cases hp:pickF ok U with
 | none=>rfl
 | some kx=>
  obtain ⟨hx,_⟩:=Y4 (ok:=ok) (l:=U) (k:=kx.1) (x:=kx.2) hp
  have hk:kx.1<U.length:=by
   rcases Nat.lt_or_ge kx.1 U.length with h | h
   ·exact h
   ·rw [List.getElem?_eq_none h] at hx;cases hx
  simp only [List.length_eraseIdx_of_lt hk,List.length_append,List.length_cons,List.length_nil]
  omega
theorem El {ok:Id2→Bool} {U R:List Id2} (h:(upF ok U R).1=none):upF ok U R=(none,U,R):=by
 unfold upF at h ⊢
 cases hp:pickF ok U with
 | none=>rfl
 | some kx=>rw [hp] at h;cases h
def RefN (M:DM) (D:DS) (u:Value→Value):Value→List Part→List Fact→Prop:=fun v Lo fs=> ∃(e:Value) (M2:DM),FltV e∧M2.d=M.d∧DkOk M2 D∧v=u e∧Lo=KA M2 D∧fs=KV M2 D
set_option maxRecDepth 10000 in
theorem undo_n (M:DM) (D:DS) (ok:DkOk M D) (hmd:(D.made:Int)<D.op) (hx:(upF (JX D.H true) D.U D.R).1=none):Sp Tryz.prog 39 [.pointer (some ⟨M.d,0,none⟩)] (KA M D) (barF::KV M D) (RefN M D fun e=> .tuple #[opV zeroOp none 0,e]):=by
 have hvl:=Kl M.t.row
 have hwt:=ok.wt
 have htl:=ok.tl
 have hrow:=ok.row
 have hpl:=ok.pl
 have hr:=ok.hr
 have hdi:=ok.di
 have hus:=ok.us
 have hlm:=ok.lm
 have hmd2:=ok.md
 have hsl:=ok.sl
 have hxl:=ok.xl
 have hpu:0≤putA D D.u∧putA D D.u≤4096:=by
  unfold putA
  rw [List.getD_eq_getElem?_getD,List.getElem?_eq_getElem (by omega)]
  exact ok.p0 _ (List.getElem_mem _)
 have hlen:=Xz (JX D.H true) D.U D.R
 have hun:=El hx
 refine Sp.ofD (n:=27) ⟨_,Tryz.func39,rfl,rfl,rfl,rfl⟩ (Nat.le_of_ble_eq_true rfl) fun Ps As=>Ja (Jg rfl (Ju (cs:= [_,_,_,_,_,_,_,_,_]) JB rfl (by decide) fun b2=>Jg rfl (Ju (cs:= [_]) Ym rfl (by decide) fun b3=>Je ?_)))
 refine ⟨rfl,_,_,_,_,_,catch_Undo b2 b3,DefReg.mk (.cons rfl (.cons rfl (.nil))) (by decide),?_⟩
 refine Jc (Ja (JM (Jb rfl) (dl rfl) (Jg rfl (JU (room_0 M.d M.h M.b _ _ _ _ _ _ _ _ _ _ 0 hmd) (.cons rfl (.cons rfl (.cons rfl (.nil)))) (by first | exact dl rfl | decide) (.s (.s (.z))) Jx fun u2_1 Lo fs hres=> ?_))))
 obtain ⟨rfl,rfl,rfl⟩:=hres
 refine Je (Jf (Jc (YQ (JI _ _ [14] (.c 0 0 (.c 1 0 (.c 2 0 (.c 3 0 (.c 4 0 (.c 5 0 (.c 6 0 (.c 7 0 (.c 8 0 (.b (.c 9 2 (.c 10 0 (.c 11 0 (.c 12 1 (.c 13 2 (.c 14 3 (.c 15 1 .nil))))))) (.c 13 2 (.c 9 2 (.c 10 0 (.c 11 0 (.c 12 1 (.c 14 3 (.c 15 1 .nil))))))))))))))))) mixed (fun _ _ _ _ h=>h) (Sk (Sk (Sk (Sd (Sd (Sd (Sk (Sd (Sd (Sd (Sr))))))))))) (fun _ h=>h) (by kernel_rfl) (by first | exact dl rfl | decide) fun ws Z0=>JQ rfl (Jb rfl) (dl rfl) (JQ rfl (JC rfl) (dl rfl) (JQ rfl (Jh (o':=18) Un42 rfl HL rfl rfl) (dl rfl) (JQ rfl (Jj Un40 rfl rfl Jn (dk18 hpl)) (dl rfl) (JQ rfl (Jb rfl) (dl rfl) ?_))))))))
 refine JQ rfl (JC rfl) (dl rfl) (JQ rfl (Jh (o':=0) Un42 rfl Yn rfl rfl) (dl rfl) (JQ rfl (Jh (o':=0) Un36 rfl VX rfl rfl) (dl rfl) (JQ rfl (Jj Un33 rfl rfl Jn rfl) (dl rfl) (Yd ?_ ?_))))
 ·refine Jy rfl rfl (J5 (XC M.h M.m M.cap M.A D.H M.L hr M.s M.vu M.vr M.pu M.pr D.U D.R ok.hU ok.hR (by omega) (by omega)) (.cons rfl (.cons rfl (.nil))) (by first | exact dl rfl | decide) (.cons (.s (.s (.s (.s (.s (.s (.s (.z)))))))) (.cons (.s (.s (.s (.s (.s (.s (.s (.z)))))))) (.cons (.s (.s (.s (.s (.s (.s (.s (.z)))))))) (.cons (.s (.s (.s (.z)))) (.cons (.s (.s (.s (.z)))) (.cons (.s (.s (.s (.z)))) .nil)))))) (Jl Mm2 (Jl Mm3 Jx)) fun u3_9 Lo fs hres=> ?_)
  obtain ⟨vu2,pu2,vr2,pr2,hU2,hR2,rfl,rfl,rfl⟩:=hres
  rw [hx]
  refine ⟨⟨(Sd (Sd (Sd (Sd (Sd (Sd (Sk (Sk (Sk (Sk (Sr))))))))))),Mm0⟩,?_⟩
  refine JQ rfl (Jb rfl) (dl rfl) (JQ rfl (Jk (vs:= [_,_]) rfl rfl) (dl rfl) (Y5 rfl (Jk (vs:= [_,_]) rfl rfl) (dl rfl) (Jy rfl rfl (Ju (cs:= [_,_]) JY rfl (by first | exact dl rfl | decide) fun b4=> ?_))))
  refine ⟨⟨(Sd (Sd (Sd (Sd (Sd (Sd (Sd (Sk (Sk (Sk (Sk (Sr)))))))))))),Mm0⟩,?_⟩
  refine JL (J8 rfl rfl (Jq (cs':= [_,_]) (vs:= [_,_]) JY rfl rfl rfl rfl rfl (Nat.le_of_ble_eq_true rfl) (.z) (YR rfl (Jd rfl) (dl rfl) (JK (Jf (Jc (Ja (JM (Jb rfl) (dl rfl) (Jg rfl (YC (give_e _ _ 70 (by first | exact dl rfl | decide)) (.cons rfl (.cons rfl (.cons rfl (.nil)))) Jx fun u4_1 Lo fs hres=> ?_))))))))))
  obtain ⟨hv,rfl,rfl⟩:=hres
  refine VJ ?_
  rw [hun] at hU2 hR2
  refine ⟨_,_,_,_,[_,_,_,_,_,_,_,_],[_,_,_],rfl,hv,⟨_,_,_,_,_,_,_,_,_,_,rfl⟩,fun Z w hs=>((hs.pick (.s (.s (.s (.s (.s (.s (.s (.s (.z)))))))))).pick (.s (.s (.s (.s (.s (.s (.s (.s (.s (.z))))))))))),fun Z w hs=>JT hs Un52 rfl JB rfl Jn rfl (KI hs Un54 rfl rfl (Ji Jn) rfl .nil),?_,fun Z w hs=>((((((((hs.pick (.s (.s (.s (.s (.s (.z))))))).pick (.s (.s (.s (.s (.s (.z))))))).pick (.s (.s (.s (.s (.s (.z))))))).pick (.s (.s (.s (.s (.s (.s (.s (.s (.s (.s (.z)))))))))))).pick (.s (.s (.s (.s (.s (.s (.s (.s (.s (.z))))))))))).pick (.s (.s (.s (.s (.s (.s (.s (.s (.s (.z))))))))))).pick (.s (.s (.s (.s (.s (.s (.s (.s (.s (.z))))))))))).pick (.s (.s (.s (.s (.s (.s (.s (.s (.s (.s (.z)))))))))))).out (Sk (Sk (Sk (Sk (Sk (Sk (Sk (Sk (Sd (Sd (Sd (Sr)))))))))))) (Jl Mm2 (Jl Mm3 (Jl Mm4 Tt1)))⟩
  refine ⟨_,⟨M.d,M.h,M.m,M.b,M.s,M.A,M.cap,M.B,M.t,M.L,vu2,vr2,pu2,pr2⟩,hv,rfl,ok.mk_ hr hwt hrow hU2 hR2 hdi rfl ⟨rfl,rfl,rfl⟩ hpl ok.p0 ok.gp ok.rc ok.md ok.sl,rfl,rfl,rfl⟩
 ·refine Jy rfl rfl (Ju (cs:= [_,_]) JY rfl (by first | exact dl rfl | decide) fun b4=> ?_)
  refine ⟨⟨(Sd (Sk (Sk (Sk (Sd (Sd (Sd (Sk (Sd (Sd (Sd (Sr)))))))))))),Mm0⟩,?_⟩
  refine Jy rfl rfl (J5 (XC M.h M.m M.cap M.A D.H M.L hr M.s M.vu M.vr M.pu M.pr D.U D.R ok.hU ok.hR (by omega) (by omega)) (.cons rfl (.cons rfl (.nil))) (by first | exact dl rfl | decide) (.cons (.s (.s (.s (.s (.s (.s (.s (.s (.z))))))))) (.cons (.s (.s (.s (.s (.s (.s (.s (.s (.z))))))))) (.cons (.s (.s (.s (.s (.s (.s (.s (.s (.z))))))))) (.cons (.s (.s (.s (.s (.z))))) (.cons (.s (.s (.s (.s (.z))))) (.cons (.s (.s (.s (.s (.z))))) .nil)))))) (Jl Mm2 (Jl Mm3 Jx)) fun u3_9 Lo fs hres=> ?_)
  obtain ⟨vu2,pu2,vr2,pr2,hU2,hR2,rfl,rfl,rfl⟩:=hres
  rw [hx]
  refine ⟨⟨(Sd (Sd (Sd (Sd (Sd (Sd (Sd (Sk (Sk (Sk (Sk (Sr)))))))))))),Mm0⟩,?_⟩
  refine JQ rfl (Jb rfl) (dl rfl) (JQ rfl (Jk (vs:= [_,_]) rfl rfl) (dl rfl) (Y5 rfl (Jk (vs:= [_,_]) rfl rfl) (dl rfl) (JL (J8 rfl rfl (Jq (cs':= [_,_]) (vs:= [_,_]) JY rfl rfl rfl rfl rfl (Nat.le_of_ble_eq_true rfl) (.s (.s (.s (.s (.s (.s (.z))))))) (YR rfl (Jd rfl) (dl rfl) (JK (Jf (Jc (Ja (JM (Jb rfl) (dl rfl) (Jg rfl (YC (give_e _ _ 70 (by first | exact dl rfl | decide)) (.cons rfl (.cons rfl (.cons rfl (.nil)))) Jx fun u4_1 Lo fs hres=> ?_)))))))))))))
  obtain ⟨hv,rfl,rfl⟩:=hres
  refine VJ ?_
  rw [hun] at hU2 hR2
  refine ⟨_,_,_,_,[_,_,_,_,_,_,_,_],[_,_,_],rfl,hv,⟨_,_,_,_,_,_,_,_,_,_,rfl⟩,fun Z w hs=>((hs.pick (.s (.s (.s (.s (.s (.s (.s (.s (.z)))))))))).pick (.s (.s (.s (.s (.s (.s (.s (.s (.s (.z))))))))))),fun Z w hs=>JT hs Un52 rfl JB rfl Jn rfl (KI hs Un54 rfl rfl (Ji Jn) rfl .nil),?_,fun Z w hs=>((((((((hs.pick (.s (.s (.s (.s (.z)))))).pick (.s (.s (.s (.s (.z)))))).pick (.s (.s (.s (.s (.z)))))).pick (.s (.s (.s (.s (.s (.s (.s (.s (.s (.s (.z)))))))))))).pick (.s (.s (.s (.s (.s (.s (.s (.s (.z)))))))))).pick (.s (.s (.s (.s (.s (.s (.s (.s (.z)))))))))).pick (.s (.s (.s (.s (.s (.s (.s (.s (.z)))))))))).pick (.s (.s (.s (.s (.s (.s (.s (.s (.s (.s (.z)))))))))))).out (Sk (Sk (Sk (Sk (Sk (Sk (Sk (Sk (Sd (Sd (Sd (Sr)))))))))))) (Jl Mm2 (Jl Mm3 (Jl Mm4 Tt1)))⟩
  refine ⟨_,⟨M.d,M.h,M.m,M.b,M.s,M.A,M.cap,M.B,M.t,M.L,vu2,vr2,pu2,pr2⟩,hv,rfl,ok.mk_ hr hwt hrow hU2 hR2 hdi rfl ⟨rfl,rfl,rfl⟩ hpl ok.p0 ok.gp ok.rc ok.md ok.sl,rfl,rfl,rfl⟩
set_option maxRecDepth 10000 in
theorem Ze (M:DM) (D:DS) (ok:DkOk M D) (hmd:(D.made:Int)<D.op) (i0 i1:Int) (j:Nat) (hx:(upF (JX D.H true) D.U D.R).1=some (i0,i1)) (htu:TuD (undoD D) i0 i1 false j):Sp Tryz.prog 39 [.pointer (some ⟨M.d,0,none⟩)] (KA M D) (barF::KV M D) (fun v Lo fs=> ∃(M2:DM),M2.d=M.d∧DkOk M2 (statD (undoD D) (i0,i1) false j)∧v= .tuple #[opV (statO (undoD D) (i0,i1) false) none 0, .nilIface] ∧Lo=KA M2 (statD (undoD D) (i0,i1) false j)∧fs=KV M2 (statD (undoD D) (i0,i1) false j)):=by
 have hvl:=Kl M.t.row
 have hwt:=ok.wt
 have htl:=ok.tl
 have hrow:=ok.row
 have hpl:=ok.pl
 have hr:=ok.hr
 have hdi:=ok.di
 have hus:=ok.us
 have hlm:=ok.lm
 have hmd2:=ok.md
 have hsl:=ok.sl
 have hxl:=ok.xl
 have hpu:0≤putA D D.u∧putA D D.u≤4096:=by
  unfold putA
  rw [List.getD_eq_getElem?_getD,List.getElem?_eq_getElem (by omega)]
  exact ok.p0 _ (List.getElem_mem _)
 have hlen:=Xz (JX D.H true) D.U D.R
 refine Sp.ofD (n:=27) ⟨_,Tryz.func39,rfl,rfl,rfl,rfl⟩ (Nat.le_of_ble_eq_true rfl) fun Ps As=>Ja (Jg rfl (Ju (cs:= [_,_,_,_,_,_,_,_,_]) JB rfl (by decide) fun b2=>Jg rfl (Ju (cs:= [_]) Ym rfl (by decide) fun b3=>Je ?_)))
 refine ⟨rfl,_,_,_,_,_,catch_Undo b2 b3,DefReg.mk (.cons rfl (.cons rfl (.nil))) (by decide),?_⟩
 refine Jc (Ja (JM (Jb rfl) (dl rfl) (Jg rfl (JU (room_0 M.d M.h M.b _ _ _ _ _ _ _ _ _ _ 0 hmd) (.cons rfl (.cons rfl (.cons rfl (.nil)))) (by first | exact dl rfl | decide) (.s (.s (.z))) Jx fun u2_1 Lo fs hres=> ?_))))
 obtain ⟨rfl,rfl,rfl⟩:=hres
 refine Je (Jf (Jc (YQ (JI _ _ [14] (.c 0 0 (.c 1 0 (.c 2 0 (.c 3 0 (.c 4 0 (.c 5 0 (.c 6 0 (.c 7 0 (.c 8 0 (.b (.c 9 2 (.c 10 0 (.c 11 0 (.c 12 1 (.c 13 2 (.c 14 3 (.c 15 1 .nil))))))) (.c 13 2 (.c 9 2 (.c 10 0 (.c 11 0 (.c 12 1 (.c 14 3 (.c 15 1 .nil))))))))))))))))) mixed (fun _ _ _ _ h=>h) (Sk (Sk (Sk (Sd (Sd (Sd (Sk (Sd (Sd (Sd (Sr))))))))))) (fun _ h=>h) (by kernel_rfl) (by first | exact dl rfl | decide) fun ws Z0=>JQ rfl (Jb rfl) (dl rfl) (JQ rfl (JC rfl) (dl rfl) (JQ rfl (Jh (o':=18) Un42 rfl HL rfl rfl) (dl rfl) (JQ rfl (Jj Un40 rfl rfl Jn (dk18 hpl)) (dl rfl) (JQ rfl (Jb rfl) (dl rfl) ?_))))))))
 refine JQ rfl (JC rfl) (dl rfl) (JQ rfl (Jh (o':=0) Un42 rfl Yn rfl rfl) (dl rfl) (JQ rfl (Jh (o':=0) Un36 rfl VX rfl rfl) (dl rfl) (JQ rfl (Jj Un33 rfl rfl Jn rfl) (dl rfl) (Yd ?_ ?_))))
 ·refine Jy rfl rfl (J5 (XC M.h M.m M.cap M.A D.H M.L hr M.s M.vu M.vr M.pu M.pr D.U D.R ok.hU ok.hR (by omega) (by omega)) (.cons rfl (.cons rfl (.nil))) (by first | exact dl rfl | decide) (.cons (.s (.s (.s (.s (.s (.s (.s (.z)))))))) (.cons (.s (.s (.s (.s (.s (.s (.s (.z)))))))) (.cons (.s (.s (.s (.s (.s (.s (.s (.z)))))))) (.cons (.s (.s (.s (.z)))) (.cons (.s (.s (.s (.z)))) (.cons (.s (.s (.s (.z)))) .nil)))))) (Jl Mm2 (Jl Mm3 Jx)) fun u3_9 Lo fs hres=> ?_)
  obtain ⟨vu2,pu2,vr2,pr2,hU2,hR2,rfl,rfl,rfl⟩:=hres
  rw [hx]
  refine ⟨⟨(Sd (Sd (Sd (Sd (Sd (Sd (Sk (Sk (Sk (Sk (Sr))))))))))),Mm0⟩,?_⟩
  refine JQ rfl (Jb rfl) (dl rfl) (JQ rfl (Jk (vs:= [_,_]) rfl rfl) (dl rfl) (Y5 rfl (Jk (vs:= [_,_]) rfl rfl) (dl rfl) (Jy rfl rfl (Ju (cs:= [_,_]) JY rfl (by first | exact dl rfl | decide) fun b4=> ?_))))
  refine ⟨⟨(Sd (Sd (Sd (Sd (Sd (Sd (Sd (Sk (Sk (Sk (Sk (Sr)))))))))))),Mm0⟩,?_⟩
  refine JL (J8 rfl rfl (Jq (cs':= [_,_]) (vs:= [_,_]) JY rfl rfl rfl rfl rfl (Nat.le_of_ble_eq_true rfl) (.z) (YR rfl (Jd rfl) (dl rfl) (JK (Jf (Jc (Ja (JM (Jb rfl) (dl rfl) (Jg rfl (Jm (give_0 _ _) (.cons rfl (.cons rfl (.cons rfl (.nil)))) (by first | exact dl rfl | decide) Jx fun u4_1 Lo fs hres=> ?_))))))))))
  obtain ⟨rfl,rfl,rfl⟩:=hres
  refine Je (Jf (Jc (JD (.s (.s (.s (.z)))) (JD (.s (.s (.s (.z)))) (JD (.s (.s (.s (.z)))) (JD (.s (.s (.s (.s (.s (.s (.s (.s (.s (.s (.z))))))))))) (JD (.s (.s (.s (.s (.s (.s (.s (.z)))))))) (JD (.s (.s (.s (.s (.s (.s (.s (.z)))))))) (JD (.s (.s (.s (.s (.s (.s (.s (.z)))))))) (JD (.s (.s (.s (.s (.s (.s (.s (.s (.z))))))))) ?_))))))))))
  have hok1:DkOk ⟨M.d,M.h,M.m,M.b,M.s,M.A,M.cap,M.B,M.t,M.L,vu2,vr2,pu2,pr2⟩ (undoD D):=ok.mk_ hr hwt hrow hU2 hR2 hdi rfl ⟨rfl,rfl,rfl⟩ hpl ok.p0 ok.gp ok.rc ok.md (by show (upF (JX D.H true) D.U D.R).2.1.length+(upF (JX D.H true) D.U D.R).2.2.length≤D.made;omega)
  refine Ja (JM (Jb rfl) (dl rfl) (JM (Jt (vs:= [_,_]) Un46 rfl JY rfl (Ji (Ji (Ji (Ji (Ji (Ji (Ji (Ji (Jn))))))))) rfl rfl) (dl rfl) (Jg rfl (J5 (VB ⟨M.d,M.h,M.m,M.b,M.s,M.A,M.cap,M.B,M.t,M.L,vu2,vr2,pu2,pr2⟩ (undoD D) hok1 i0 i1 false j hmd htu.mkd htu.hj htu.hw htu.ne htu.rl htu.rs) (.cons rfl (.cons rfl (.cons rfl (.nil)))) (by first | exact dl rfl | decide) (.cons (.z) (.cons (.z) (.cons (.z) (.cons (.z) (.cons (.z) (.cons (.z) (.cons (.z) (.cons (.z) .nil)))))))) (Jl Mm1 (Jl Mm2 (Jl Mm3 (Jl Mm4 Jx)))) fun u5_2 Lo fs hres=> ?_))))
  obtain ⟨M2,hd2,hok2,rfl,rfl,rfl⟩:=hres
  refine Jg rfl (Jq (cs':= [_,_,_,_,_,_,_,_,_]) (vs:= [_,_,_,_,_,_,_,_,_]) JB rfl rfl rfl rfl rfl (Nat.le_of_ble_eq_true rfl) (.s (.s (.s (.s (.s (.s (.s (.s (.s (.s (.z))))))))))) (Jg rfl (JJ Ym rfl rfl rfl (.z) (.s (.s (.s (.s (.s (.s (.s (.s (.s (.z)))))))))) (Je (Jf (Jo ?_))))))
  refine ⟨_,[_,_,_,_,_,_,_,_],[_,_,_],fun Z w hs=>JT hs Un52 rfl JB rfl (Ji (Ji (Ji (Ji (Ji (Ji (Ji (Ji (Ji (Ji (Jn))))))))))) rfl (KI hs Un54 rfl rfl (Ji (Ji (Ji (Ji (Ji (Ji (Ji (Ji (Ji (Jn)))))))))) rfl (.nil)),?_,fun Z w hs=>hs.out (Sk (Sk (Sk (Sk (Sk (Sk (Sk (Sk (Sd (Sd (Sd (Sr)))))))))))) (Jl Mm0 (Jl Mm1 (Jl Mm2 Tt4)))⟩
  exact ⟨M2,hd2,hok2,rfl,rfl,rfl⟩
 ·refine Jy rfl rfl (Ju (cs:= [_,_]) JY rfl (by first | exact dl rfl | decide) fun b4=> ?_)
  refine ⟨⟨(Sd (Sk (Sk (Sk (Sd (Sd (Sd (Sk (Sd (Sd (Sd (Sr)))))))))))),Mm0⟩,?_⟩
  refine Jy rfl rfl (J5 (XC M.h M.m M.cap M.A D.H M.L hr M.s M.vu M.vr M.pu M.pr D.U D.R ok.hU ok.hR (by omega) (by omega)) (.cons rfl (.cons rfl (.nil))) (by first | exact dl rfl | decide) (.cons (.s (.s (.s (.s (.s (.s (.s (.s (.z))))))))) (.cons (.s (.s (.s (.s (.s (.s (.s (.s (.z))))))))) (.cons (.s (.s (.s (.s (.s (.s (.s (.s (.z))))))))) (.cons (.s (.s (.s (.s (.z))))) (.cons (.s (.s (.s (.s (.z))))) (.cons (.s (.s (.s (.s (.z))))) .nil)))))) (Jl Mm2 (Jl Mm3 Jx)) fun u3_9 Lo fs hres=> ?_)
  obtain ⟨vu2,pu2,vr2,pr2,hU2,hR2,rfl,rfl,rfl⟩:=hres
  rw [hx]
  refine ⟨⟨(Sd (Sd (Sd (Sd (Sd (Sd (Sd (Sk (Sk (Sk (Sk (Sr)))))))))))),Mm0⟩,?_⟩
  refine JQ rfl (Jb rfl) (dl rfl) (JQ rfl (Jk (vs:= [_,_]) rfl rfl) (dl rfl) (Y5 rfl (Jk (vs:= [_,_]) rfl rfl) (dl rfl) (JL (J8 rfl rfl (Jq (cs':= [_,_]) (vs:= [_,_]) JY rfl rfl rfl rfl rfl (Nat.le_of_ble_eq_true rfl) (.s (.s (.s (.s (.s (.s (.z))))))) (YR rfl (Jd rfl) (dl rfl) (JK (Jf (Jc (Ja (JM (Jb rfl) (dl rfl) (Jg rfl (Jm (give_0 _ _) (.cons rfl (.cons rfl (.cons rfl (.nil)))) (by first | exact dl rfl | decide) Jx fun u4_1 Lo fs hres=> ?_)))))))))))))
  obtain ⟨rfl,rfl,rfl⟩:=hres
  refine Je (Jf (Jc (JD (.s (.s (.z))) (JD (.s (.s (.z))) (JD (.s (.s (.z))) (JD (.s (.s (.s (.s (.s (.s (.s (.s (.s (.s (.z))))))))))) (JD (.s (.s (.s (.s (.s (.s (.z))))))) (JD (.s (.s (.s (.s (.s (.s (.z))))))) (JD (.s (.s (.s (.s (.s (.s (.z))))))) (JD (.s (.s (.s (.s (.s (.s (.s (.s (.z))))))))) ?_))))))))))
  have hok1:DkOk ⟨M.d,M.h,M.m,M.b,M.s,M.A,M.cap,M.B,M.t,M.L,vu2,vr2,pu2,pr2⟩ (undoD D):=ok.mk_ hr hwt hrow hU2 hR2 hdi rfl ⟨rfl,rfl,rfl⟩ hpl ok.p0 ok.gp ok.rc ok.md (by show (upF (JX D.H true) D.U D.R).2.1.length+(upF (JX D.H true) D.U D.R).2.2.length≤D.made;omega)
  refine Ja (JM (Jb rfl) (dl rfl) (JM (Jt (vs:= [_,_]) Un46 rfl JY rfl (Ji (Ji (Ji (Ji (Ji (Ji (Ji (Ji (Jn))))))))) rfl rfl) (dl rfl) (Jg rfl (J5 (VB ⟨M.d,M.h,M.m,M.b,M.s,M.A,M.cap,M.B,M.t,M.L,vu2,vr2,pu2,pr2⟩ (undoD D) hok1 i0 i1 false j hmd htu.mkd htu.hj htu.hw htu.ne htu.rl htu.rs) (.cons rfl (.cons rfl (.cons rfl (.nil)))) (by first | exact dl rfl | decide) (.cons (.z) (.cons (.z) (.cons (.z) (.cons (.z) (.cons (.z) (.cons (.z) (.cons (.z) (.cons (.z) .nil)))))))) (Jl Mm1 (Jl Mm2 (Jl Mm3 (Jl Mm4 Jx)))) fun u5_2 Lo fs hres=> ?_))))
  obtain ⟨M2,hd2,hok2,rfl,rfl,rfl⟩:=hres
  refine Jg rfl (Jq (cs':= [_,_,_,_,_,_,_,_,_]) (vs:= [_,_,_,_,_,_,_,_,_]) JB rfl rfl rfl rfl rfl (Nat.le_of_ble_eq_true rfl) (.s (.s (.s (.s (.s (.s (.s (.s (.s (.s (.z))))))))))) (Jg rfl (JJ Ym rfl rfl rfl (.z) (.s (.s (.s (.s (.s (.s (.s (.s (.s (.z)))))))))) (Je (Jf (Jo ?_))))))
  refine ⟨_,[_,_,_,_,_,_,_,_],[_,_,_],fun Z w hs=>JT hs Un52 rfl JB rfl (Ji (Ji (Ji (Ji (Ji (Ji (Ji (Ji (Ji (Ji (Jn))))))))))) rfl (KI hs Un54 rfl rfl (Ji (Ji (Ji (Ji (Ji (Ji (Ji (Ji (Ji (Jn)))))))))) rfl (.nil)),?_,fun Z w hs=>hs.out (Sk (Sk (Sk (Sk (Sk (Sk (Sk (Sk (Sd (Sd (Sd (Sr)))))))))))) (Jl Mm0 (Jl Mm1 (Jl Mm2 Tt4)))⟩
  exact ⟨M2,hd2,hok2,rfl,rfl,rfl⟩
set_option maxRecDepth 10000 in
theorem redo_n (M:DM) (D:DS) (ok:DkOk M D) (hmd:(D.made:Int)<D.op) (hx:(upF (JX D.H false) D.R D.U).1=none):Sp Tryz.prog 80 [.pointer (some ⟨M.d,0,none⟩)] (KA M D) (barF::KV M D) (RefN M D fun e=> .tuple #[opV zeroOp none 0,e]):=by
 have hvl:=Kl M.t.row
 have hwt:=ok.wt
 have htl:=ok.tl
 have hrow:=ok.row
 have hpl:=ok.pl
 have hr:=ok.hr
 have hdi:=ok.di
 have hus:=ok.us
 have hlm:=ok.lm
 have hmd2:=ok.md
 have hsl:=ok.sl
 have hxl:=ok.xl
 have hpu:0≤putA D D.u∧putA D D.u≤4096:=by
  unfold putA
  rw [List.getD_eq_getElem?_getD,List.getElem?_eq_getElem (by omega)]
  exact ok.p0 _ (List.getElem_mem _)
 have hlen:=Xz (JX D.H false) D.R D.U
 have hun:=El hx
 refine Sp.ofD (n:=27) ⟨_,Tryz.func80,rfl,rfl,rfl,rfl⟩ (Nat.le_of_ble_eq_true rfl) fun Ps As=>Ja (Jg rfl (Ju (cs:= [_,_,_,_,_,_,_,_,_]) JB rfl (by decide) fun b2=>Jg rfl (Ju (cs:= [_]) Ym rfl (by decide) fun b3=>Je ?_)))
 refine ⟨rfl,_,_,_,_,_,catch_Redo b2 b3,DefReg.mk (.cons rfl (.cons rfl (.nil))) (by decide),?_⟩
 refine Jc (Ja (JM (Jb rfl) (dl rfl) (Jg rfl (JU (room_0 M.d M.h M.b _ _ _ _ _ _ _ _ _ _ 0 hmd) (.cons rfl (.cons rfl (.cons rfl (.nil)))) (by first | exact dl rfl | decide) (.s (.s (.z))) Jx fun u2_1 Lo fs hres=> ?_))))
 obtain ⟨rfl,rfl,rfl⟩:=hres
 refine Je (Jf (Jc (YQ (JI _ _ [14] (.c 0 0 (.c 1 0 (.c 2 0 (.c 3 0 (.c 4 0 (.c 5 0 (.c 6 0 (.c 7 0 (.c 8 0 (.b (.c 9 2 (.c 10 0 (.c 11 0 (.c 12 1 (.c 13 2 (.c 14 3 (.c 15 1 .nil))))))) (.c 13 2 (.c 9 2 (.c 10 0 (.c 11 0 (.c 12 1 (.c 14 3 (.c 15 1 .nil))))))))))))))))) mixed (fun _ _ _ _ h=>h) (Sk (Sk (Sk (Sd (Sd (Sd (Sk (Sd (Sd (Sd (Sr))))))))))) (fun _ h=>h) (by kernel_rfl) (by first | exact dl rfl | decide) fun ws Z0=>JQ rfl (Jb rfl) (dl rfl) (JQ rfl (JC rfl) (dl rfl) (JQ rfl (Jh (o':=18) Un42 rfl HL rfl rfl) (dl rfl) (JQ rfl (Jj Un40 rfl rfl Jn (dk18 hpl)) (dl rfl) (JQ rfl (Jb rfl) (dl rfl) ?_))))))))
 refine JQ rfl (JC rfl) (dl rfl) (JQ rfl (Jh (o':=0) Un42 rfl Yn rfl rfl) (dl rfl) (JQ rfl (Jh (o':=0) Un36 rfl VX rfl rfl) (dl rfl) (JQ rfl (Jj Un33 rfl rfl Jn rfl) (dl rfl) (Yd ?_ ?_))))
 ·refine Jy rfl rfl (J5 (XD M.h M.m M.cap M.A D.H M.L hr M.s M.vu M.vr M.pu M.pr D.U D.R ok.hU ok.hR (by omega) (by omega)) (.cons rfl (.cons rfl (.nil))) (by first | exact dl rfl | decide) (.cons (.s (.s (.s (.s (.s (.s (.s (.z)))))))) (.cons (.s (.s (.s (.s (.s (.s (.s (.z)))))))) (.cons (.s (.s (.s (.s (.s (.s (.s (.z)))))))) (.cons (.s (.s (.s (.z)))) (.cons (.s (.s (.s (.z)))) (.cons (.s (.s (.s (.z)))) .nil)))))) (Jl Mm2 (Jl Mm3 Jx)) fun u3_9 Lo fs hres=> ?_)
  obtain ⟨vu2,pu2,vr2,pr2,hU2,hR2,rfl,rfl,rfl⟩:=hres
  rw [hx]
  refine ⟨⟨(Sd (Sd (Sd (Sd (Sd (Sd (Sk (Sk (Sk (Sk (Sr))))))))))),Mm0⟩,?_⟩
  refine JQ rfl (Jb rfl) (dl rfl) (JQ rfl (Jk (vs:= [_,_]) rfl rfl) (dl rfl) (Y5 rfl (Jk (vs:= [_,_]) rfl rfl) (dl rfl) (Jy rfl rfl (Ju (cs:= [_,_]) JY rfl (by first | exact dl rfl | decide) fun b4=> ?_))))
  refine ⟨⟨(Sd (Sd (Sd (Sd (Sd (Sd (Sd (Sk (Sk (Sk (Sk (Sr)))))))))))),Mm0⟩,?_⟩
  refine JL (J8 rfl rfl (Jq (cs':= [_,_]) (vs:= [_,_]) JY rfl rfl rfl rfl rfl (Nat.le_of_ble_eq_true rfl) (.z) (YR rfl (Jd rfl) (dl rfl) (JK (Jf (Jc (Ja (JM (Jb rfl) (dl rfl) (Jg rfl (YC (give_e _ _ 70 (by first | exact dl rfl | decide)) (.cons rfl (.cons rfl (.cons rfl (.nil)))) Jx fun u4_1 Lo fs hres=> ?_))))))))))
  obtain ⟨hv,rfl,rfl⟩:=hres
  refine VJ ?_
  rw [hun] at hU2 hR2
  refine ⟨_,_,_,_,[_,_,_,_,_,_,_,_],[_,_,_],rfl,hv,⟨_,_,_,_,_,_,_,_,_,_,rfl⟩,fun Z w hs=>((hs.pick (.s (.s (.s (.s (.s (.s (.s (.s (.z)))))))))).pick (.s (.s (.s (.s (.s (.s (.s (.s (.s (.z))))))))))),fun Z w hs=>JT hs Un52 rfl JB rfl Jn rfl (KI hs Un54 rfl rfl (Ji Jn) rfl .nil),?_,fun Z w hs=>((((((((hs.pick (.s (.s (.s (.s (.s (.z))))))).pick (.s (.s (.s (.s (.s (.z))))))).pick (.s (.s (.s (.s (.s (.z))))))).pick (.s (.s (.s (.s (.s (.s (.s (.s (.s (.s (.z)))))))))))).pick (.s (.s (.s (.s (.s (.s (.s (.s (.s (.z))))))))))).pick (.s (.s (.s (.s (.s (.s (.s (.s (.s (.z))))))))))).pick (.s (.s (.s (.s (.s (.s (.s (.s (.s (.z))))))))))).pick (.s (.s (.s (.s (.s (.s (.s (.s (.s (.s (.z)))))))))))).out (Sk (Sk (Sk (Sk (Sk (Sk (Sk (Sk (Sd (Sd (Sd (Sr)))))))))))) (Jl Mm2 (Jl Mm3 (Jl Mm4 Tt1)))⟩
  refine ⟨_,⟨M.d,M.h,M.m,M.b,M.s,M.A,M.cap,M.B,M.t,M.L,vu2,vr2,pu2,pr2⟩,hv,rfl,ok.mk_ hr hwt hrow hU2 hR2 hdi rfl ⟨rfl,rfl,rfl⟩ hpl ok.p0 ok.gp ok.rc ok.md ok.sl,rfl,rfl,rfl⟩
 ·refine Jy rfl rfl (Ju (cs:= [_,_]) JY rfl (by first | exact dl rfl | decide) fun b4=> ?_)
  refine ⟨⟨(Sd (Sk (Sk (Sk (Sd (Sd (Sd (Sk (Sd (Sd (Sd (Sr)))))))))))),Mm0⟩,?_⟩
  refine Jy rfl rfl (J5 (XD M.h M.m M.cap M.A D.H M.L hr M.s M.vu M.vr M.pu M.pr D.U D.R ok.hU ok.hR (by omega) (by omega)) (.cons rfl (.cons rfl (.nil))) (by first | exact dl rfl | decide) (.cons (.s (.s (.s (.s (.s (.s (.s (.s (.z))))))))) (.cons (.s (.s (.s (.s (.s (.s (.s (.s (.z))))))))) (.cons (.s (.s (.s (.s (.s (.s (.s (.s (.z))))))))) (.cons (.s (.s (.s (.s (.z))))) (.cons (.s (.s (.s (.s (.z))))) (.cons (.s (.s (.s (.s (.z))))) .nil)))))) (Jl Mm2 (Jl Mm3 Jx)) fun u3_9 Lo fs hres=> ?_)
  obtain ⟨vu2,pu2,vr2,pr2,hU2,hR2,rfl,rfl,rfl⟩:=hres
  rw [hx]
  refine ⟨⟨(Sd (Sd (Sd (Sd (Sd (Sd (Sd (Sk (Sk (Sk (Sk (Sr)))))))))))),Mm0⟩,?_⟩
  refine JQ rfl (Jb rfl) (dl rfl) (JQ rfl (Jk (vs:= [_,_]) rfl rfl) (dl rfl) (Y5 rfl (Jk (vs:= [_,_]) rfl rfl) (dl rfl) (JL (J8 rfl rfl (Jq (cs':= [_,_]) (vs:= [_,_]) JY rfl rfl rfl rfl rfl (Nat.le_of_ble_eq_true rfl) (.s (.s (.s (.s (.s (.s (.z))))))) (YR rfl (Jd rfl) (dl rfl) (JK (Jf (Jc (Ja (JM (Jb rfl) (dl rfl) (Jg rfl (YC (give_e _ _ 70 (by first | exact dl rfl | decide)) (.cons rfl (.cons rfl (.cons rfl (.nil)))) Jx fun u4_1 Lo fs hres=> ?_)))))))))))))
  obtain ⟨hv,rfl,rfl⟩:=hres
  refine VJ ?_
  rw [hun] at hU2 hR2
  refine ⟨_,_,_,_,[_,_,_,_,_,_,_,_],[_,_,_],rfl,hv,⟨_,_,_,_,_,_,_,_,_,_,rfl⟩,fun Z w hs=>((hs.pick (.s (.s (.s (.s (.s (.s (.s (.s (.z)))))))))).pick (.s (.s (.s (.s (.s (.s (.s (.s (.s (.z))))))))))),fun Z w hs=>JT hs Un52 rfl JB rfl Jn rfl (KI hs Un54 rfl rfl (Ji Jn) rfl .nil),?_,fun Z w hs=>((((((((hs.pick (.s (.s (.s (.s (.z)))))).pick (.s (.s (.s (.s (.z)))))).pick (.s (.s (.s (.s (.z)))))).pick (.s (.s (.s (.s (.s (.s (.s (.s (.s (.s (.z)))))))))))).pick (.s (.s (.s (.s (.s (.s (.s (.s (.z)))))))))).pick (.s (.s (.s (.s (.s (.s (.s (.s (.z)))))))))).pick (.s (.s (.s (.s (.s (.s (.s (.s (.z)))))))))).pick (.s (.s (.s (.s (.s (.s (.s (.s (.s (.s (.z)))))))))))).out (Sk (Sk (Sk (Sk (Sk (Sk (Sk (Sk (Sd (Sd (Sd (Sr)))))))))))) (Jl Mm2 (Jl Mm3 (Jl Mm4 Tt1)))⟩
  refine ⟨_,⟨M.d,M.h,M.m,M.b,M.s,M.A,M.cap,M.B,M.t,M.L,vu2,vr2,pu2,pr2⟩,hv,rfl,ok.mk_ hr hwt hrow hU2 hR2 hdi rfl ⟨rfl,rfl,rfl⟩ hpl ok.p0 ok.gp ok.rc ok.md ok.sl,rfl,rfl,rfl⟩
set_option maxRecDepth 10000 in
theorem Jbj (M:DM) (D:DS) (ok:DkOk M D) (hmd:(D.made:Int)<D.op) (i0 i1:Int) (j:Nat) (hx:(upF (JX D.H false) D.R D.U).1=some (i0,i1)) (htu:TuD (redoD D) i0 i1 true j):Sp Tryz.prog 80 [.pointer (some ⟨M.d,0,none⟩)] (KA M D) (barF::KV M D) (fun v Lo fs=> ∃(M2:DM),M2.d=M.d∧DkOk M2 (statD (redoD D) (i0,i1) true j)∧v= .tuple #[opV (statO (redoD D) (i0,i1) true) none 0, .nilIface] ∧Lo=KA M2 (statD (redoD D) (i0,i1) true j)∧fs=KV M2 (statD (redoD D) (i0,i1) true j)):=by
 have hvl:=Kl M.t.row
 have hwt:=ok.wt
 have htl:=ok.tl
 have hrow:=ok.row
 have hpl:=ok.pl
 have hr:=ok.hr
 have hdi:=ok.di
 have hus:=ok.us
 have hlm:=ok.lm
 have hmd2:=ok.md
 have hsl:=ok.sl
 have hxl:=ok.xl
 have hpu:0≤putA D D.u∧putA D D.u≤4096:=by
  unfold putA
  rw [List.getD_eq_getElem?_getD,List.getElem?_eq_getElem (by omega)]
  exact ok.p0 _ (List.getElem_mem _)
 have hlen:=Xz (JX D.H false) D.R D.U
 refine Sp.ofD (n:=27) ⟨_,Tryz.func80,rfl,rfl,rfl,rfl⟩ (Nat.le_of_ble_eq_true rfl) fun Ps As=>Ja (Jg rfl (Ju (cs:= [_,_,_,_,_,_,_,_,_]) JB rfl (by decide) fun b2=>Jg rfl (Ju (cs:= [_]) Ym rfl (by decide) fun b3=>Je ?_)))
 refine ⟨rfl,_,_,_,_,_,catch_Redo b2 b3,DefReg.mk (.cons rfl (.cons rfl (.nil))) (by decide),?_⟩
 refine Jc (Ja (JM (Jb rfl) (dl rfl) (Jg rfl (JU (room_0 M.d M.h M.b _ _ _ _ _ _ _ _ _ _ 0 hmd) (.cons rfl (.cons rfl (.cons rfl (.nil)))) (by first | exact dl rfl | decide) (.s (.s (.z))) Jx fun u2_1 Lo fs hres=> ?_))))
 obtain ⟨rfl,rfl,rfl⟩:=hres
 refine Je (Jf (Jc (YQ (JI _ _ [14] (.c 0 0 (.c 1 0 (.c 2 0 (.c 3 0 (.c 4 0 (.c 5 0 (.c 6 0 (.c 7 0 (.c 8 0 (.b (.c 9 2 (.c 10 0 (.c 11 0 (.c 12 1 (.c 13 2 (.c 14 3 (.c 15 1 .nil))))))) (.c 13 2 (.c 9 2 (.c 10 0 (.c 11 0 (.c 12 1 (.c 14 3 (.c 15 1 .nil))))))))))))))))) mixed (fun _ _ _ _ h=>h) (Sk (Sk (Sk (Sd (Sd (Sd (Sk (Sd (Sd (Sd (Sr))))))))))) (fun _ h=>h) (by kernel_rfl) (by first | exact dl rfl | decide) fun ws Z0=>JQ rfl (Jb rfl) (dl rfl) (JQ rfl (JC rfl) (dl rfl) (JQ rfl (Jh (o':=18) Un42 rfl HL rfl rfl) (dl rfl) (JQ rfl (Jj Un40 rfl rfl Jn (dk18 hpl)) (dl rfl) (JQ rfl (Jb rfl) (dl rfl) ?_))))))))
 refine JQ rfl (JC rfl) (dl rfl) (JQ rfl (Jh (o':=0) Un42 rfl Yn rfl rfl) (dl rfl) (JQ rfl (Jh (o':=0) Un36 rfl VX rfl rfl) (dl rfl) (JQ rfl (Jj Un33 rfl rfl Jn rfl) (dl rfl) (Yd ?_ ?_))))
 ·refine Jy rfl rfl (J5 (XD M.h M.m M.cap M.A D.H M.L hr M.s M.vu M.vr M.pu M.pr D.U D.R ok.hU ok.hR (by omega) (by omega)) (.cons rfl (.cons rfl (.nil))) (by first | exact dl rfl | decide) (.cons (.s (.s (.s (.s (.s (.s (.s (.z)))))))) (.cons (.s (.s (.s (.s (.s (.s (.s (.z)))))))) (.cons (.s (.s (.s (.s (.s (.s (.s (.z)))))))) (.cons (.s (.s (.s (.z)))) (.cons (.s (.s (.s (.z)))) (.cons (.s (.s (.s (.z)))) .nil)))))) (Jl Mm2 (Jl Mm3 Jx)) fun u3_9 Lo fs hres=> ?_)
  obtain ⟨vu2,pu2,vr2,pr2,hU2,hR2,rfl,rfl,rfl⟩:=hres
  rw [hx]
  refine ⟨⟨(Sd (Sd (Sd (Sd (Sd (Sd (Sk (Sk (Sk (Sk (Sr))))))))))),Mm0⟩,?_⟩
  refine JQ rfl (Jb rfl) (dl rfl) (JQ rfl (Jk (vs:= [_,_]) rfl rfl) (dl rfl) (Y5 rfl (Jk (vs:= [_,_]) rfl rfl) (dl rfl) (Jy rfl rfl (Ju (cs:= [_,_]) JY rfl (by first | exact dl rfl | decide) fun b4=> ?_))))
  refine ⟨⟨(Sd (Sd (Sd (Sd (Sd (Sd (Sd (Sk (Sk (Sk (Sk (Sr)))))))))))),Mm0⟩,?_⟩
  refine JL (J8 rfl rfl (Jq (cs':= [_,_]) (vs:= [_,_]) JY rfl rfl rfl rfl rfl (Nat.le_of_ble_eq_true rfl) (.z) (YR rfl (Jd rfl) (dl rfl) (JK (Jf (Jc (Ja (JM (Jb rfl) (dl rfl) (Jg rfl (Jm (give_0 _ _) (.cons rfl (.cons rfl (.cons rfl (.nil)))) (by first | exact dl rfl | decide) Jx fun u4_1 Lo fs hres=> ?_))))))))))
  obtain ⟨rfl,rfl,rfl⟩:=hres
  refine Je (Jf (Jc (JD (.s (.s (.s (.z)))) (JD (.s (.s (.s (.z)))) (JD (.s (.s (.s (.z)))) (JD (.s (.s (.s (.s (.s (.s (.s (.s (.s (.s (.z))))))))))) (JD (.s (.s (.s (.s (.s (.s (.s (.z)))))))) (JD (.s (.s (.s (.s (.s (.s (.s (.z)))))))) (JD (.s (.s (.s (.s (.s (.s (.s (.z)))))))) (JD (.s (.s (.s (.s (.s (.s (.s (.s (.z))))))))) ?_))))))))))
  have hok1:DkOk ⟨M.d,M.h,M.m,M.b,M.s,M.A,M.cap,M.B,M.t,M.L,vu2,vr2,pu2,pr2⟩ (redoD D):=ok.mk_ hr hwt hrow hU2 hR2 hdi rfl ⟨rfl,rfl,rfl⟩ hpl ok.p0 ok.gp ok.rc ok.md (by show (upF (JX D.H false) D.R D.U).2.2.length+(upF (JX D.H false) D.R D.U).2.1.length≤D.made;omega)
  refine Ja (JM (Jb rfl) (dl rfl) (JM (Jt (vs:= [_,_]) Un46 rfl JY rfl (Ji (Ji (Ji (Ji (Ji (Ji (Ji (Ji (Jn))))))))) rfl rfl) (dl rfl) (Jg rfl (J5 (VB ⟨M.d,M.h,M.m,M.b,M.s,M.A,M.cap,M.B,M.t,M.L,vu2,vr2,pu2,pr2⟩ (redoD D) hok1 i0 i1 true j hmd htu.mkd htu.hj htu.hw htu.ne htu.rl htu.rs) (.cons rfl (.cons rfl (.cons rfl (.nil)))) (by first | exact dl rfl | decide) (.cons (.z) (.cons (.z) (.cons (.z) (.cons (.z) (.cons (.z) (.cons (.z) (.cons (.z) (.cons (.z) .nil)))))))) (Jl Mm1 (Jl Mm2 (Jl Mm3 (Jl Mm4 Jx)))) fun u5_2 Lo fs hres=> ?_))))
  obtain ⟨M2,hd2,hok2,rfl,rfl,rfl⟩:=hres
  refine Jg rfl (Jq (cs':= [_,_,_,_,_,_,_,_,_]) (vs:= [_,_,_,_,_,_,_,_,_]) JB rfl rfl rfl rfl rfl (Nat.le_of_ble_eq_true rfl) (.s (.s (.s (.s (.s (.s (.s (.s (.s (.s (.z))))))))))) (Jg rfl (JJ Ym rfl rfl rfl (.z) (.s (.s (.s (.s (.s (.s (.s (.s (.s (.z)))))))))) (Je (Jf (Jo ?_))))))
  refine ⟨_,[_,_,_,_,_,_,_,_],[_,_,_],fun Z w hs=>JT hs Un52 rfl JB rfl (Ji (Ji (Ji (Ji (Ji (Ji (Ji (Ji (Ji (Ji (Jn))))))))))) rfl (KI hs Un54 rfl rfl (Ji (Ji (Ji (Ji (Ji (Ji (Ji (Ji (Ji (Jn)))))))))) rfl (.nil)),?_,fun Z w hs=>hs.out (Sk (Sk (Sk (Sk (Sk (Sk (Sk (Sk (Sd (Sd (Sd (Sr)))))))))))) (Jl Mm0 (Jl Mm1 (Jl Mm2 Tt4)))⟩
  exact ⟨M2,hd2,hok2,rfl,rfl,rfl⟩
 ·refine Jy rfl rfl (Ju (cs:= [_,_]) JY rfl (by first | exact dl rfl | decide) fun b4=> ?_)
  refine ⟨⟨(Sd (Sk (Sk (Sk (Sd (Sd (Sd (Sk (Sd (Sd (Sd (Sr)))))))))))),Mm0⟩,?_⟩
  refine Jy rfl rfl (J5 (XD M.h M.m M.cap M.A D.H M.L hr M.s M.vu M.vr M.pu M.pr D.U D.R ok.hU ok.hR (by omega) (by omega)) (.cons rfl (.cons rfl (.nil))) (by first | exact dl rfl | decide) (.cons (.s (.s (.s (.s (.s (.s (.s (.s (.z))))))))) (.cons (.s (.s (.s (.s (.s (.s (.s (.s (.z))))))))) (.cons (.s (.s (.s (.s (.s (.s (.s (.s (.z))))))))) (.cons (.s (.s (.s (.s (.z))))) (.cons (.s (.s (.s (.s (.z))))) (.cons (.s (.s (.s (.s (.z))))) .nil)))))) (Jl Mm2 (Jl Mm3 Jx)) fun u3_9 Lo fs hres=> ?_)
  obtain ⟨vu2,pu2,vr2,pr2,hU2,hR2,rfl,rfl,rfl⟩:=hres
  rw [hx]
  refine ⟨⟨(Sd (Sd (Sd (Sd (Sd (Sd (Sd (Sk (Sk (Sk (Sk (Sr)))))))))))),Mm0⟩,?_⟩
  refine JQ rfl (Jb rfl) (dl rfl) (JQ rfl (Jk (vs:= [_,_]) rfl rfl) (dl rfl) (Y5 rfl (Jk (vs:= [_,_]) rfl rfl) (dl rfl) (JL (J8 rfl rfl (Jq (cs':= [_,_]) (vs:= [_,_]) JY rfl rfl rfl rfl rfl (Nat.le_of_ble_eq_true rfl) (.s (.s (.s (.s (.s (.s (.z))))))) (YR rfl (Jd rfl) (dl rfl) (JK (Jf (Jc (Ja (JM (Jb rfl) (dl rfl) (Jg rfl (Jm (give_0 _ _) (.cons rfl (.cons rfl (.cons rfl (.nil)))) (by first | exact dl rfl | decide) Jx fun u4_1 Lo fs hres=> ?_)))))))))))))
  obtain ⟨rfl,rfl,rfl⟩:=hres
  refine Je (Jf (Jc (JD (.s (.s (.z))) (JD (.s (.s (.z))) (JD (.s (.s (.z))) (JD (.s (.s (.s (.s (.s (.s (.s (.s (.s (.s (.z))))))))))) (JD (.s (.s (.s (.s (.s (.s (.z))))))) (JD (.s (.s (.s (.s (.s (.s (.z))))))) (JD (.s (.s (.s (.s (.s (.s (.z))))))) (JD (.s (.s (.s (.s (.s (.s (.s (.s (.z))))))))) ?_))))))))))
  have hok1:DkOk ⟨M.d,M.h,M.m,M.b,M.s,M.A,M.cap,M.B,M.t,M.L,vu2,vr2,pu2,pr2⟩ (redoD D):=ok.mk_ hr hwt hrow hU2 hR2 hdi rfl ⟨rfl,rfl,rfl⟩ hpl ok.p0 ok.gp ok.rc ok.md (by show (upF (JX D.H false) D.R D.U).2.2.length+(upF (JX D.H false) D.R D.U).2.1.length≤D.made;omega)
  refine Ja (JM (Jb rfl) (dl rfl) (JM (Jt (vs:= [_,_]) Un46 rfl JY rfl (Ji (Ji (Ji (Ji (Ji (Ji (Ji (Ji (Jn))))))))) rfl rfl) (dl rfl) (Jg rfl (J5 (VB ⟨M.d,M.h,M.m,M.b,M.s,M.A,M.cap,M.B,M.t,M.L,vu2,vr2,pu2,pr2⟩ (redoD D) hok1 i0 i1 true j hmd htu.mkd htu.hj htu.hw htu.ne htu.rl htu.rs) (.cons rfl (.cons rfl (.cons rfl (.nil)))) (by first | exact dl rfl | decide) (.cons (.z) (.cons (.z) (.cons (.z) (.cons (.z) (.cons (.z) (.cons (.z) (.cons (.z) (.cons (.z) .nil)))))))) (Jl Mm1 (Jl Mm2 (Jl Mm3 (Jl Mm4 Jx)))) fun u5_2 Lo fs hres=> ?_))))
  obtain ⟨M2,hd2,hok2,rfl,rfl,rfl⟩:=hres
  refine Jg rfl (Jq (cs':= [_,_,_,_,_,_,_,_,_]) (vs:= [_,_,_,_,_,_,_,_,_]) JB rfl rfl rfl rfl rfl (Nat.le_of_ble_eq_true rfl) (.s (.s (.s (.s (.s (.s (.s (.s (.s (.s (.z))))))))))) (Jg rfl (JJ Ym rfl rfl rfl (.z) (.s (.s (.s (.s (.s (.s (.s (.s (.s (.z)))))))))) (Je (Jf (Jo ?_))))))
  refine ⟨_,[_,_,_,_,_,_,_,_],[_,_,_],fun Z w hs=>JT hs Un52 rfl JB rfl (Ji (Ji (Ji (Ji (Ji (Ji (Ji (Ji (Ji (Ji (Jn))))))))))) rfl (KI hs Un54 rfl rfl (Ji (Ji (Ji (Ji (Ji (Ji (Ji (Ji (Ji (Jn)))))))))) rfl (.nil)),?_,fun Z w hs=>hs.out (Sk (Sk (Sk (Sk (Sk (Sk (Sk (Sk (Sd (Sd (Sd (Sr)))))))))))) (Jl Mm0 (Jl Mm1 (Jl Mm2 Tt4)))⟩
  exact ⟨M2,hd2,hok2,rfl,rfl,rfl⟩
set_option maxRecDepth 10000 in
theorem turn_e (M:DM) (D:DS) (ok:DkOk M D) (hmd:(D.made:Int)<D.op) (i0 i1:Int) (on:Bool) (he:effE D.H (i0,i1) on≠0):Sp Tryz.prog 20 [.pointer (some ⟨M.d,0,none⟩), .agg #[.int .i64 i0, .int .i64 i1], .bool on] (KA M D) (barF::KV M D) (RefO M D):=by
 have hvl:=Kl M.t.row
 have hwt:=ok.wt
 have htl:=ok.tl
 have hrow:=ok.row
 have hpl:=ok.pl
 have hr:=ok.hr
 have hdi:=ok.di
 have hus:=ok.us
 have hlm:=ok.lm
 have hmd2:=ok.md
 have hsl:=ok.sl
 have hxl:=ok.xl
 have hpu:0≤putA D D.u∧putA D D.u≤4096:=by
  unfold putA
  rw [List.getD_eq_getElem?_getD,List.getElem?_eq_getElem (by omega)]
  exact ok.p0 _ (List.getElem_mem _)
 refine Sp.ofD (n:=30) ⟨_,Tryz.func20,rfl,rfl,rfl,rfl⟩ (Nat.le_of_ble_eq_true rfl) fun Ps As=>Ja (Jg rfl (J7 (cs:= [_,_]) rfl rfl (by decide) fun b4=>Jg rfl (Ju (cs:= [_,_,_,_,_,_,_,_,_]) JB rfl (by decide) fun b6=>Jg rfl (Ju (cs:= [_]) Ym rfl (by decide) fun b7=>Je ?_))))
 refine ⟨rfl,_,_,_,_,_,catch_Turn b6 b7,DefReg.mk (.cons rfl (.cons rfl (.nil))) (by decide),?_⟩
 refine Jc (Ja (JM (Jb rfl) (dl rfl) (Jg rfl (JU (room_0 M.d M.h M.b _ _ _ _ _ _ _ _ _ _ 0 hmd) (.cons rfl (.cons rfl (.cons rfl (.nil)))) (by first | exact dl rfl | decide) (.s (.s (.s (.z)))) Jx fun u2_1 Lo fs hres=> ?_))))
 obtain ⟨rfl,rfl,rfl⟩:=hres
 refine Je (Jf (Jc (YQ (JI _ _ [12] (.c 0 0 (.c 1 0 (.c 2 0 (.c 3 0 (.c 4 0 (.c 5 0 (.c 6 0 (.b (.c 7 2 (.c 8 0 (.c 9 0 (.c 10 1 (.c 11 2 (.c 12 3 (.c 13 1 .nil))))))) (.c 11 2 (.c 7 2 (.c 8 0 (.c 9 0 (.c 10 1 (.c 12 3 (.c 13 1 .nil))))))))))))))) mixed (fun _ _ _ _ h=>h) (Sk (Sk (Sk (Sk (Sd (Sd (Sd (Sk (Sk (Sk (Sk (Sr)))))))))))) (fun _ h=>h) (by kernel_rfl) (by first | exact dl rfl | decide) fun ws Z0=>JQ rfl (Jb rfl) (dl rfl) (JQ rfl (JC rfl) (dl rfl) (JQ rfl (Jh (o':=0) Un42 rfl Yn rfl rfl) (dl rfl) (JQ rfl (Jh (o':=0) Un36 rfl VX rfl rfl) (dl rfl) ?_)))))))
 refine JQ rfl (Jj Un33 rfl rfl Jn rfl) (dl rfl) (JQ rfl (Jt (vs:= [_,_]) Un46 rfl JY rfl (Ji (Ji (Ji (Jn)))) rfl rfl) (dl rfl) (JQ rfl (Jb rfl) (dl rfl) (Yd ?_ ?_)))
 ·refine Jy rfl rfl (KE (effect_x M.h M.m M.cap M.A D.H M.L hr i0 i1 on he) (.cons rfl (.cons rfl (.cons rfl (.nil)))) (by first | exact dl rfl | decide) (.s (.s (.s (.s (.z))))) (.s (.s (.s (.s (.z))))) (.s (.s (.s (.s (.z))))) (Jl Mm2 (Jl Mm3 Jx)) fun u3_7 Lo fs hres=> ?_)
  obtain ⟨rfl,rfl,rfl⟩:=hres
  refine ⟨⟨(Sd (Sd (Sd (Sk (Sk (Sk (Sk (Sk (Sk (Sk (Sk (Sr)))))))))))),Mm0⟩,?_⟩
  refine JQ rfl (Jb rfl) (dl rfl) (JQ rfl (Jk (vs:= [_,_]) rfl rfl) (dl rfl) (Y5 rfl (Jk (vs:= [_,_]) rfl rfl) (dl rfl) (Jy rfl rfl (Ju (cs:= [_,_,_,_,_,_,_,_,_]) JB rfl (by first | exact dl rfl | decide) fun b8=> ?_))))
  refine ⟨⟨(Sd (Sd (Sd (Sd (Sk (Sk (Sk (Sk (Sk (Sk (Sk (Sk (Sr))))))))))))),Mm0⟩,?_⟩
  refine JL (J8 rfl rfl (Jq (cs':= [_,_,_,_,_,_,_,_,_]) (vs:= [_,_,_,_,_,_,_,_,_]) JB rfl rfl rfl rfl rfl (Nat.le_of_ble_eq_true rfl) (.z) (YR rfl (Jd rfl) (dl rfl) (JK (Jf (Jc (Ja (JM (Jb rfl) (dl rfl) (Jg rfl (YC (give_e _ _ _ he) (.cons rfl (.cons rfl (.cons rfl (.nil)))) Jx fun u4_1 Lo fs hres=> ?_))))))))))
  obtain ⟨hv,rfl,rfl⟩:=hres
  refine VJ ?_
  refine ⟨_,_,_,_,[_,_,_,_,_,_,_,_],[],rfl,hv,⟨_,_,_,_,_,_,_,_,_,_,rfl⟩,fun Z w hs=>((hs.pick (.s (.s (.s (.s (.s (.z))))))).pick (.s (.s (.s (.s (.s (.s (.z)))))))),fun Z w hs=>JT hs Un52 rfl JB rfl Jn rfl (KI hs Un54 rfl rfl (Ji Jn) rfl .nil),?_,fun Z w hs=>((((((((hs.pick (.s (.s (.s (.s (.s (.s (.s (.s (.s (.s (.s (.z))))))))))))).pick (.s (.s (.s (.s (.s (.s (.s (.s (.s (.s (.s (.z))))))))))))).pick (.s (.s (.s (.s (.s (.s (.s (.s (.s (.s (.s (.z))))))))))))).pick (.s (.s (.s (.s (.s (.s (.s (.s (.s (.s (.s (.z))))))))))))).pick (.s (.s (.s (.s (.s (.s (.s (.s (.s (.z))))))))))).pick (.s (.s (.s (.s (.s (.s (.s (.s (.s (.z))))))))))).pick (.s (.s (.s (.s (.s (.s (.s (.s (.s (.z))))))))))).pick (.s (.s (.s (.s (.s (.s (.s (.s (.s (.s (.z)))))))))))).out (Sk (Sk (Sk (Sk (Sk (Sk (Sk (Sk (Sd (Sd (Sd (Sd (Sr))))))))))))) Tt1⟩
  exact ⟨_,hv,rfl,rfl,rfl⟩
 ·refine Jy rfl rfl (Ju (cs:= [_,_,_,_,_,_,_,_,_]) JB rfl (by first | exact dl rfl | decide) fun b8=> ?_)
  refine ⟨⟨(Sd (Sk (Sk (Sk (Sk (Sd (Sd (Sd (Sk (Sk (Sk (Sk (Sr))))))))))))),Mm0⟩,?_⟩
  refine Jy rfl rfl (KE (effect_x M.h M.m M.cap M.A D.H M.L hr i0 i1 on he) (.cons rfl (.cons rfl (.cons rfl (.nil)))) (by first | exact dl rfl | decide) (.s (.s (.s (.s (.s (.z)))))) (.s (.s (.s (.s (.s (.z)))))) (.s (.s (.s (.s (.s (.z)))))) (Jl Mm2 (Jl Mm3 Jx)) fun u3_7 Lo fs hres=> ?_)
  obtain ⟨rfl,rfl,rfl⟩:=hres
  refine ⟨⟨(Sd (Sd (Sd (Sd (Sk (Sk (Sk (Sk (Sk (Sk (Sk (Sk (Sr))))))))))))),Mm0⟩,?_⟩
  refine JQ rfl (Jb rfl) (dl rfl) (JQ rfl (Jk (vs:= [_,_]) rfl rfl) (dl rfl) (Y5 rfl (Jk (vs:= [_,_]) rfl rfl) (dl rfl) (JL (J8 rfl rfl (Jq (cs':= [_,_,_,_,_,_,_,_,_]) (vs:= [_,_,_,_,_,_,_,_,_]) JB rfl rfl rfl rfl rfl (Nat.le_of_ble_eq_true rfl) (.s (.s (.s (.z)))) (YR rfl (Jd rfl) (dl rfl) (JK (Jf (Jc (Ja (JM (Jb rfl) (dl rfl) (Jg rfl (YC (give_e _ _ _ he) (.cons rfl (.cons rfl (.cons rfl (.nil)))) Jx fun u4_1 Lo fs hres=> ?_)))))))))))))
  obtain ⟨hv,rfl,rfl⟩:=hres
  refine VJ ?_
  refine ⟨_,_,_,_,[_,_,_,_,_,_,_,_],[],rfl,hv,⟨_,_,_,_,_,_,_,_,_,_,rfl⟩,fun Z w hs=>((hs.pick (.s (.s (.s (.s (.s (.z))))))).pick (.s (.s (.s (.s (.s (.s (.z)))))))),fun Z w hs=>JT hs Un52 rfl JB rfl Jn rfl (KI hs Un54 rfl rfl (Ji Jn) rfl .nil),?_,fun Z w hs=>((((((((hs.pick (.s (.s (.s (.s (.s (.s (.s (.s (.s (.s (.s (.z))))))))))))).pick (.s (.s (.s (.s (.s (.s (.s (.s (.s (.s (.s (.z))))))))))))).pick (.s (.s (.s (.s (.s (.s (.s (.s (.s (.s (.s (.z))))))))))))).pick (.s (.s (.s (.s (.s (.s (.s (.s (.s (.s (.s (.z))))))))))))).pick (.s (.s (.s (.s (.s (.s (.s (.s (.z)))))))))).pick (.s (.s (.s (.s (.s (.s (.s (.s (.z)))))))))).pick (.s (.s (.s (.s (.s (.s (.s (.s (.z)))))))))).pick (.s (.s (.s (.s (.s (.s (.s (.s (.s (.s (.z)))))))))))).out (Sk (Sk (Sk (Sk (Sk (Sk (Sk (Sk (Sd (Sd (Sd (Sd (Sr))))))))))))) Tt1⟩
  exact ⟨_,hv,rfl,rfl,rfl⟩
set_option maxRecDepth 10000 in
theorem turn_d (M:DM) (D:DS) (ok:DkOk M D) (hmd:(D.made:Int)<D.op) (i0 i1:Int) (on:Bool) (k j:Nat) (hw:JZ D.H.ents i0 i1=some k) (hk:k<D.H.ents.length) (hk4:D.H.ents[k].op.kind≠4) (hoff:D.H.ents[k].off=on) (htu:TuD D i0 i1 on j):Sp Tryz.prog 20 [.pointer (some ⟨M.d,0,none⟩), .agg #[.int .i64 i0, .int .i64 i1], .bool on] (KA M D) (barF::KV M D) (fun v Lo fs=> ∃(M2:DM),M2.d=M.d∧DkOk M2 (statD D (i0,i1) on j)∧v= .tuple #[opV (statO D (i0,i1) on) none 0, .nilIface] ∧Lo=KA M2 (statD D (i0,i1) on j)∧fs=KV M2 (statD D (i0,i1) on j)):=by
 have hvl:=Kl M.t.row
 have hwt:=ok.wt
 have htl:=ok.tl
 have hrow:=ok.row
 have hpl:=ok.pl
 have hr:=ok.hr
 have hdi:=ok.di
 have hus:=ok.us
 have hlm:=ok.lm
 have hmd2:=ok.md
 have hsl:=ok.sl
 have hxl:=ok.xl
 have hpu:0≤putA D D.u∧putA D D.u≤4096:=by
  unfold putA
  rw [List.getD_eq_getElem?_getD,List.getElem?_eq_getElem (by omega)]
  exact ok.p0 _ (List.getElem_mem _)
 refine Sp.ofD (n:=30) ⟨_,Tryz.func20,rfl,rfl,rfl,rfl⟩ (Nat.le_of_ble_eq_true rfl) fun Ps As=>Ja (Jg rfl (J7 (cs:= [_,_]) rfl rfl (by decide) fun b4=>Jg rfl (Ju (cs:= [_,_,_,_,_,_,_,_,_]) JB rfl (by decide) fun b6=>Jg rfl (Ju (cs:= [_]) Ym rfl (by decide) fun b7=>Je ?_))))
 refine ⟨rfl,_,_,_,_,_,catch_Turn b6 b7,DefReg.mk (.cons rfl (.cons rfl (.nil))) (by decide),?_⟩
 refine Jc (Ja (JM (Jb rfl) (dl rfl) (Jg rfl (JU (room_0 M.d M.h M.b _ _ _ _ _ _ _ _ _ _ 0 hmd) (.cons rfl (.cons rfl (.cons rfl (.nil)))) (by first | exact dl rfl | decide) (.s (.s (.s (.z)))) Jx fun u2_1 Lo fs hres=> ?_))))
 obtain ⟨rfl,rfl,rfl⟩:=hres
 refine Je (Jf (Jc (YQ (JI _ _ [12] (.c 0 0 (.c 1 0 (.c 2 0 (.c 3 0 (.c 4 0 (.c 5 0 (.c 6 0 (.b (.c 7 2 (.c 8 0 (.c 9 0 (.c 10 1 (.c 11 2 (.c 12 3 (.c 13 1 .nil))))))) (.c 11 2 (.c 7 2 (.c 8 0 (.c 9 0 (.c 10 1 (.c 12 3 (.c 13 1 .nil))))))))))))))) mixed (fun _ _ _ _ h=>h) (Sk (Sk (Sk (Sk (Sd (Sd (Sd (Sk (Sk (Sk (Sk (Sr)))))))))))) (fun _ h=>h) (by kernel_rfl) (by first | exact dl rfl | decide) fun ws Z0=>JQ rfl (Jb rfl) (dl rfl) (JQ rfl (JC rfl) (dl rfl) (JQ rfl (Jh (o':=0) Un42 rfl Yn rfl rfl) (dl rfl) (JQ rfl (Jh (o':=0) Un36 rfl VX rfl rfl) (dl rfl) ?_)))))))
 refine JQ rfl (Jj Un33 rfl rfl Jn rfl) (dl rfl) (JQ rfl (Jt (vs:= [_,_]) Un46 rfl JY rfl (Ji (Ji (Ji (Jn)))) rfl rfl) (dl rfl) (JQ rfl (Jb rfl) (dl rfl) (Yd ?_ ?_)))
 ·refine Jy rfl rfl (KE (effect_y M.h M.m M.cap M.A D.H M.L hr i0 i1 k hw hk hk4 on hoff) (.cons rfl (.cons rfl (.cons rfl (.nil)))) (by first | exact dl rfl | decide) (.s (.s (.s (.s (.z))))) (.s (.s (.s (.s (.z))))) (.s (.s (.s (.s (.z))))) (Jl Mm2 (Jl Mm3 Jx)) fun u3_7 Lo fs hres=> ?_)
  obtain ⟨Ae,ce,rfl,rfl,rfl⟩:=hres
  refine ⟨⟨(Sd (Sd (Sd (Sk (Sk (Sk (Sk (Sk (Sk (Sk (Sk (Sr)))))))))))),Mm1⟩,?_⟩
  refine JQ rfl (Jb rfl) (dl rfl) (JQ rfl (Jk (vs:= [_,_]) rfl rfl) (dl rfl) (Y5 rfl (Jk (vs:= [_,_]) rfl rfl) (dl rfl) (Jy rfl rfl (Ju (cs:= [_,_,_,_,_,_,_,_,_]) JB rfl (by first | exact dl rfl | decide) fun b8=> ?_))))
  refine ⟨⟨(Sd (Sd (Sd (Sd (Sk (Sk (Sk (Sk (Sk (Sk (Sk (Sk (Sr))))))))))))),Mm1⟩,?_⟩
  refine JL (J8 rfl rfl (Jq (cs':= [_,_,_,_,_,_,_,_,_]) (vs:= [_,_,_,_,_,_,_,_,_]) JB rfl rfl rfl rfl rfl (Nat.le_of_ble_eq_true rfl) (.z) (YR rfl (Jd rfl) (dl rfl) (JK (Jf (Jc (Ja (JM (Jb rfl) (dl rfl) (Jg rfl (Jm (give_0 _ _) (.cons rfl (.cons rfl (.cons rfl (.nil)))) (by first | exact dl rfl | decide) Jx fun u4_1 Lo fs hres=> ?_))))))))))
  obtain ⟨rfl,rfl,rfl⟩:=hres
  refine Je (Jf (Jc (JD (.s (.s (.s (.s (.s (.s (.s (.s (.s (.s (.s (.z)))))))))))) (JD (.s (.s (.s (.s (.s (.s (.s (.s (.s (.s (.s (.z)))))))))))) (JD (.s (.s (.s (.s (.s (.s (.s (.s (.s (.s (.s (.z)))))))))))) (JD (.s (.s (.s (.s (.s (.s (.s (.s (.s (.s (.s (.z)))))))))))) (JD (.s (.s (.s (.s (.s (.s (.s (.z)))))))) (JD (.s (.s (.s (.s (.s (.s (.s (.z)))))))) (JD (.s (.s (.s (.s (.s (.s (.s (.z)))))))) (JD (.s (.s (.s (.s (.s (.s (.s (.s (.z))))))))) (Ja ?_)))))))))))
  refine JM (Jb rfl) (dl rfl) (JM (Jt (vs:= [_,_]) Un46 rfl JY rfl (Ji (Ji (Ji (Ji (Ji (Ji (Ji (Ji (Ji (Ji (Ji (Jn)))))))))))) rfl rfl) (dl rfl) (JM (Jb rfl) (dl rfl) (Jg rfl (J5 (VB M D ok i0 i1 on j hmd htu.mkd htu.hj htu.hw htu.ne htu.rl htu.rs) (.cons rfl (.cons rfl (.cons rfl (.nil)))) (by first | exact dl rfl | decide) (.cons (.z) (.cons (.z) (.cons (.z) (.cons (.z) (.cons (.z) (.cons (.z) (.cons (.z) (.cons (.z) .nil)))))))) (Jl Mm2 (Jl Mm3 (Jl Mm4 (Jl Mm5 Jx)))) fun u5_3 Lo fs hres=> ?_))))
  obtain ⟨M2,hd2,hok2,rfl,rfl,rfl⟩:=hres
  refine Jg rfl (Jq (cs':= [_,_,_,_,_,_,_,_,_]) (vs:= [_,_,_,_,_,_,_,_,_]) JB rfl rfl rfl rfl rfl (Nat.le_of_ble_eq_true rfl) (.s (.s (.s (.s (.s (.s (.s (.s (.s (.s (.z))))))))))) (Jg rfl (JJ Ym rfl rfl rfl (.z) (.s (.s (.s (.s (.s (.s (.s (.s (.s (.z)))))))))) (Je (Jf (Jo ?_))))))
  refine ⟨_,[_,_,_,_,_,_,_,_],[_,_,_],fun Z w hs=>JT hs Un52 rfl JB rfl (Ji (Ji (Ji (Ji (Ji (Ji (Ji (Ji (Ji (Ji (Jn))))))))))) rfl (KI hs Un54 rfl rfl (Ji (Ji (Ji (Ji (Ji (Ji (Ji (Ji (Ji (Jn)))))))))) rfl (.nil)),?_,fun Z w hs=>hs.out (Sk (Sk (Sk (Sk (Sk (Sk (Sk (Sk (Sd (Sd (Sd (Sd (Sr))))))))))))) (Jl Mm0 (Jl Mm1 (Jl Mm2 Tt5)))⟩
  exact ⟨M2,hd2,hok2,rfl,rfl,rfl⟩
 ·refine Jy rfl rfl (Ju (cs:= [_,_,_,_,_,_,_,_,_]) JB rfl (by first | exact dl rfl | decide) fun b8=> ?_)
  refine ⟨⟨(Sd (Sk (Sk (Sk (Sk (Sd (Sd (Sd (Sk (Sk (Sk (Sk (Sr))))))))))))),Mm0⟩,?_⟩
  refine Jy rfl rfl (KE (effect_y M.h M.m M.cap M.A D.H M.L hr i0 i1 k hw hk hk4 on hoff) (.cons rfl (.cons rfl (.cons rfl (.nil)))) (by first | exact dl rfl | decide) (.s (.s (.s (.s (.s (.z)))))) (.s (.s (.s (.s (.s (.z)))))) (.s (.s (.s (.s (.s (.z)))))) (Jl Mm2 (Jl Mm3 Jx)) fun u3_7 Lo fs hres=> ?_)
  obtain ⟨Ae,ce,rfl,rfl,rfl⟩:=hres
  refine ⟨⟨(Sd (Sd (Sd (Sd (Sk (Sk (Sk (Sk (Sk (Sk (Sk (Sk (Sr))))))))))))),Mm1⟩,?_⟩
  refine JQ rfl (Jb rfl) (dl rfl) (JQ rfl (Jk (vs:= [_,_]) rfl rfl) (dl rfl) (Y5 rfl (Jk (vs:= [_,_]) rfl rfl) (dl rfl) (JL (J8 rfl rfl (Jq (cs':= [_,_,_,_,_,_,_,_,_]) (vs:= [_,_,_,_,_,_,_,_,_]) JB rfl rfl rfl rfl rfl (Nat.le_of_ble_eq_true rfl) (.s (.s (.s (.z)))) (YR rfl (Jd rfl) (dl rfl) (JK (Jf (Jc (Ja (JM (Jb rfl) (dl rfl) (Jg rfl (Jm (give_0 _ _) (.cons rfl (.cons rfl (.cons rfl (.nil)))) (by first | exact dl rfl | decide) Jx fun u4_1 Lo fs hres=> ?_)))))))))))))
  obtain ⟨rfl,rfl,rfl⟩:=hres
  refine Je (Jf (Jc (JD (.s (.s (.s (.s (.s (.s (.s (.s (.s (.s (.s (.z)))))))))))) (JD (.s (.s (.s (.s (.s (.s (.s (.s (.s (.s (.s (.z)))))))))))) (JD (.s (.s (.s (.s (.s (.s (.s (.s (.s (.s (.s (.z)))))))))))) (JD (.s (.s (.s (.s (.s (.s (.s (.s (.s (.s (.s (.z)))))))))))) (JD (.s (.s (.s (.s (.s (.s (.z))))))) (JD (.s (.s (.s (.s (.s (.s (.z))))))) (JD (.s (.s (.s (.s (.s (.s (.z))))))) (JD (.s (.s (.s (.s (.s (.s (.s (.s (.z))))))))) (Ja ?_)))))))))))
  refine JM (Jb rfl) (dl rfl) (JM (Jt (vs:= [_,_]) Un46 rfl JY rfl (Ji (Ji (Ji (Ji (Ji (Ji (Ji (Ji (Ji (Ji (Ji (Jn)))))))))))) rfl rfl) (dl rfl) (JM (Jb rfl) (dl rfl) (Jg rfl (J5 (VB M D ok i0 i1 on j hmd htu.mkd htu.hj htu.hw htu.ne htu.rl htu.rs) (.cons rfl (.cons rfl (.cons rfl (.nil)))) (by first | exact dl rfl | decide) (.cons (.z) (.cons (.z) (.cons (.z) (.cons (.z) (.cons (.z) (.cons (.z) (.cons (.z) (.cons (.z) .nil)))))))) (Jl Mm2 (Jl Mm3 (Jl Mm4 (Jl Mm5 Jx)))) fun u5_3 Lo fs hres=> ?_))))
  obtain ⟨M2,hd2,hok2,rfl,rfl,rfl⟩:=hres
  refine Jg rfl (Jq (cs':= [_,_,_,_,_,_,_,_,_]) (vs:= [_,_,_,_,_,_,_,_,_]) JB rfl rfl rfl rfl rfl (Nat.le_of_ble_eq_true rfl) (.s (.s (.s (.s (.s (.s (.s (.s (.s (.s (.z))))))))))) (Jg rfl (JJ Ym rfl rfl rfl (.z) (.s (.s (.s (.s (.s (.s (.s (.s (.s (.z)))))))))) (Je (Jf (Jo ?_))))))
  refine ⟨_,[_,_,_,_,_,_,_,_],[_,_,_],fun Z w hs=>JT hs Un52 rfl JB rfl (Ji (Ji (Ji (Ji (Ji (Ji (Ji (Ji (Ji (Ji (Jn))))))))))) rfl (KI hs Un54 rfl rfl (Ji (Ji (Ji (Ji (Ji (Ji (Ji (Ji (Ji (Jn)))))))))) rfl (.nil)),?_,fun Z w hs=>hs.out (Sk (Sk (Sk (Sk (Sk (Sk (Sk (Sk (Sd (Sd (Sd (Sd (Sr))))))))))))) (Jl Mm0 (Jl Mm1 (Jl Mm2 Tt5)))⟩
  exact ⟨M2,hd2,hok2,rfl,rfl,rfl⟩
set_option maxRecDepth 10000 in
theorem Hv (c:Nat) (o:GOp) (A:Option Addr) (k:Nat) (hf:Fit o) (ho:ownF o=0) (hk:o.kind=1) (hc:c≤60000) (hw:0≤Jw o∧Jw o≤256):Sp Tryz.prog 115 [.int .i64 c,opV o A k] [] [barF,RdF rgD A k o.rs] (Is (.tuple #[.int .i64 (if o.at_<c then c+Jw o else c), .int .i64 0])):=by
 have hft:=hf.text
 refine Sp.of (n:=38) ⟨_,Tryz.func115,rfl,rfl,rfl,rfl⟩ (Nat.le_of_ble_eq_true rfl) fun Ps As=>Jc (Ja (Jg rfl (J7 (cs:= [_,_,_,_,_,_,_,_,_]) rfl rfl (by decide) fun b3=>Lq (Jd rfl) (Lq (Jd rfl) (Je (Jf (Jc (Jc (Ja (Lq (Jt (vs:= [_,_,_,_,_,_,_,_,_]) Un52 rfl JB rfl Jn rfl rfl) (Jg rfl (Jm (Jbb o A k hf) (.cons rfl (.nil)) (by decide) (Jl Mm0 (Jl Mm1 Jx)) fun u1_1 Lo fs hres=> ?_))))))))))))
 obtain ⟨rfl,rfl,rfl⟩:=hres
 rw [ho]
 refine Lq (Jd rfl) (Je (Jf (Jc (Ja (Lq (Jb rfl) (Lq (Ky rfl rfl) (Je (Jf (Jv rfl rfl (Jp (Jf (Jc (Jc (Ja (Lq (Jb rfl) (Lq (Ko rfl rfl) (Lq (Jb rfl) (Lg rfl rfl rfl (decide_eq_false (by omega)) (Jb rfl) (Lg rfl rfl rfl (decide_eq_false (by omega)) (Kf rfl rfl) ?_)))))))))))))))))))
 refine Lq (JH rfl (decide_eq_false (by omega)) rfl) (Je (Jf (Jv rfl (decide_eq_false (by omega)) (Jp (Jf (Jc (Jc (Ja (Lq (Jh (o':=0) Un52 rfl KY rfl rfl) (Lq (Jh (o':=2) Un49 rfl YE rfl rfl) (Lq (Jj Un47 rfl rfl Jn rfl) (Lq (Ky rfl rfl) (Lq (Jb rfl) (Lg rfl rfl rfl (by simpa using hk) (Jh (o':=3) Un52 rfl ti3 rfl rfl) ?_))))))))))))))
 refine Lg rfl rfl rfl (by simpa using hk) (Jj Un3 rfl rfl Jn rfl) (Lg rfl rfl rfl (by simpa using hk) (Jb rfl) (Lg rfl rfl rfl (by simpa using hk) (Yg rfl rfl) (Lq (JH rfl (by simpa using hk) rfl) (Je (Jf (Jz rfl (fun h27=> ?_) (fun h27=> ?_)))))))
 ·refine Jc (Ja (Lq (Jb rfl) (Lq (Jd rfl) (Lq (Jd rfl) (Je (Jf (Jo (Js ?_))))))))
  refine ⟨_,[],[],fun Z w hs=> .tmp rfl (.tmp rfl (.nil)),?_,fun Z w hs=>hs.out (Sd (Sr)) (fun _ h=>h)⟩
  exact ⟨by rw [if_neg (by have h:=h27;simp at h;omega)];rfl,rfl,rfl⟩
 ·refine Jp (Jf (Jc (Jc (Ja (Lq (Jb rfl) (Lq (Jt (vs:= [_,_,_,_,_,_,_,_,_]) Un52 rfl JB rfl Jn rfl rfl) (Jg rfl (Jm (YJ o A k (by omega)) (.cons rfl (.nil)) (by decide) (Jl Mm0 Jx) fun u8_2 Lo fs hres=> ?_))))))))
  obtain ⟨rfl,rfl,rfl⟩:=hres
  refine Lq (JV rfl rfl (wr64 (by omega))) (Lq (Kf rfl rfl) (Je (Jf (Jv rfl (decide_eq_false (by omega)) (Jp (Jf (Jc (Ja (Lq (Jb rfl) (Lq (Jt (vs:= [_,_,_,_,_,_,_,_,_]) Un52 rfl JB rfl Jn rfl rfl) (Jg rfl (Jm (YJ o A k (by omega)) (.cons rfl (.nil)) (by decide) (Jl Mm0 Jx) fun u10_2 Lo fs hres=> ?_))))))))))))
  obtain ⟨rfl,rfl,rfl⟩:=hres
  refine Lq (JV rfl rfl (wr64 (by omega))) (Lq (Jd rfl) (Lq (Jd rfl) (Je (Jf (Jo ?_)))))
  refine ⟨_,[],[],fun Z w hs=> .tmp rfl (.tmp rfl (.nil)),?_,fun Z w hs=>hs.out (Sd (Sr)) (fun _ h=>h)⟩
  exact ⟨by rw [if_pos (by have h:=h27;simp at h;omega)];rfl,rfl,rfl⟩
set_option maxRecDepth 10000 in
theorem ZT (t:TypeId) (x:Value):Sp Tryz.prog 114 [.nilIface, .iface t x] [] [] (Is (.bool false)):=by
 refine Sp.of (n:=42) ⟨_,Tryz.func114,rfl,rfl,rfl,rfl⟩ (Nat.le_of_ble_eq_true rfl) fun Ps As=>Jc (Ja (Lq (Jd rfl) (Je (Jf (Jc (Jc (Ja (Lq (Jb rfl) (Lq (Qr Un54 rfl) (Je (Jf (J2 rfl rfl (Jc (Ja (Lq (Jd rfl) (Je (Jf (Jo (Js ?_)))))))))))))))))))
 refine ⟨_,[],[],fun Z w hs=> .tmp rfl (.nil),?_,fun Z w hs=>hs.out (Sr) (fun _ h=>h)⟩
 exact ⟨rfl,rfl,rfl⟩
structure TaD (D:DS) (o:GOp):Prop where
 tk:TkD D.H D.X D.H.ops.length D.got o (putF D.H D.got o).1 (putF D.H D.got o).2.1
 nl:(putF D.H D.got o).1.ops.length=D.H.ops.length+1
 len:(JS (putF D.H D.got o).2.1 D.X).length=D.X.length+(Jw o).toNat
 wd:(putF D.H D.got o).2.1.kind=1→Jw (putF D.H D.got o).2.1=Jw o
 w0:0≤Jw o∧Jw o≤256
 di:DI (D.H.ops.length+1) (putF D.H D.got o).1 (JS (putF D.H D.got o).2.1 D.X)
set_option maxRecDepth 10000 in
theorem take_0 (M:DM) (D:DS) (ok:DkOk M D) (o:GOp) (Ao:Option Addr) (co:Nat) (hcu:o.c≠D.u) (hc:1≤o.c∧o.c≤D.cl) (hn:o.n≤D.op) (hts:o.text.size≤1048576) (hce:putA D o.c+Jw o≤D.ce) (hta:TaD D o):Sp Tryz.prog 78 [.pointer (some ⟨M.d,0,none⟩),opV o Ao co] (KA M D) (barF::KV M D++ [RdF rgD Ao co o.rs]) (DkR M (KZ D o) .nilIface):=by
 have hvl:=Kl M.t.row
 have hwt:=ok.wt
 have htl:=ok.tl
 have hrow:=ok.row
 have hpl:=ok.pl
 have hr:=ok.hr
 have hdi:=ok.di
 have hus:=ok.us
 have hlm:=ok.lm
 have hmd2:=ok.md
 have hsl:=ok.sl
 have hxl:=ok.xl
 have hpu:0≤putA D D.u∧putA D D.u≤4096:=by
  unfold putA
  rw [List.getD_eq_getElem?_getD,List.getElem?_eq_getElem (by omega)]
  exact ok.p0 _ (List.getElem_mem _)
 have hgp:=ok.gp
 have hw0:=hta.w0
 have hln:=hta.len
 have hpc:0≤putA D o.c∧putA D o.c≤4096:=by
  unfold putA
  rw [List.getD_eq_getElem?_getD,List.getElem?_eq_getElem (by omega)]
  exact ok.p0 _ (List.getElem_mem _)
 refine Sp.ofD (n:=130) ⟨_,Tryz.func78,rfl,rfl,rfl,rfl⟩ (Nat.le_of_ble_eq_true rfl) fun Ps As=>Ja (Jg rfl (J7 (cs:= [_,_,_,_,_,_,_,_,_]) rfl rfl (by decide) fun b3=>Jg rfl (Ju (cs:= [_]) Ym rfl (by decide) fun b4=>Je ?_)))
 refine ⟨rfl,_,_,_,_,_,catch_Take b4,DefReg.mk (.cons rfl (.nil)) (by decide),?_⟩
 refine Jc (YQ (JI _ _ [] (.c 0 0 (.c 1 0 (.c 2 0 (.c 3 0 (.c 4 0 (.c 5 2 (.c 6 0 (.c 7 0 .nil)))))))) mixed (fun _ _ _ _ h=>h) (Sk (Sk (Sk (Sk (Sk (Sk (Sk (Sk (Sk (Sk (Sr))))))))))) (fun _ h=>h) (by kernel_rfl) (by first | exact dl rfl | decide) fun ws Z0=>JQ rfl (Jh (o':=0) Un52 rfl KY rfl rfl) (dl rfl) (JQ rfl (Jh (o':=0) Un49 rfl JY rfl rfl) (dl rfl) (JQ rfl (Yb (o':=0) Un46 ti3 rfl rfl (by first | exact dl rfl | decide) (by first | exact dl rfl | decide) rfl) (dl rfl) (JQ rfl (Jj Un3 rfl rfl (Ji (Jn)) rfl) (dl rfl) ?_)))))
 refine JQ rfl (Jt (vs:= [_,_,_,_,_,_,_,_,_]) Un52 rfl JB rfl (Ji (Jn)) rfl rfl) (dl rfl) (Jy rfl rfl (Jm (YJ o Ao co (by omega)) (.cons rfl (.nil)) (by first | exact dl rfl | decide) (Jl Mm1 Jx) fun u2_5 Lo fs hres=> ?_))
 obtain ⟨rfl,rfl,rfl⟩:=hres
 refine ⟨⟨(Sk (Sk (Sk (Sk (Sk (Sk (Sk (Sk (Sk (Sk (Sr))))))))))),Mm0⟩,?_⟩
 refine JQ rfl (Jd rfl) (dl rfl) (JQ rfl (Jd rfl) (dl rfl) (JL (JK (Jf (Jc (Jc (Ja (JM (Jb rfl) (dl rfl) (JM (Jb rfl) (dl rfl) (JM (JC rfl) (dl rfl) (JM (Jh (o':=2) Un42 rfl ti3 rfl rfl) (dl rfl) (JM (Jj Un3 rfl rfl (Ji (Ji (Jn))) rfl) (dl rfl) (JM (Kg rfl rfl) (dl rfl) ?_)))))))))))))
 refine JM (Jb rfl) (dl rfl) (Xt rfl rfl rfl (by simpa using hcu) (Jb rfl) (dl rfl) (Xt rfl rfl rfl (by simpa using hcu) (Jb rfl) (dl rfl) (Xt rfl rfl rfl (by simpa using hcu) (JC rfl) (dl rfl) (Xt rfl rfl rfl (by simpa using hcu) (Jh (o':=3) Un42 rfl GX rfl rfl) (dl rfl) (Xt rfl rfl rfl (by simpa using hcu) (Jh (o':=3) Un38 rfl ti3 rfl rfl) (dl rfl) (Xt rfl rfl rfl (by simpa using hcu) (Jj Un3 rfl rfl (Ji (Ji (Jn))) rfl) (dl rfl) (Kv rfl rfl rfl (by simpa using hcu) (Jm (YF _ _ _) (.cons rfl (.cons rfl (.cons rfl (.nil)))) (by first | exact dl rfl | decide) Jx fun u3_13 Lo fs hres=> ?_))))))))
 obtain ⟨rfl,rfl,rfl⟩:=hres
 refine Xt rfl rfl rfl (by simpa using hcu) (KK rfl) (dl rfl) (JM (JH rfl (by simpa using hcu) rfl) (dl rfl) (Je (Jf (Jv rfl (by rw [decide_eq_true (by omega)];rfl) (Jp (Jf (Jc (Jc (YQ (JI _ _ [] (.c 0 0 (.c 1 0 (.c 2 0 (.c 3 0 (.c 4 0 (.c 5 0 (.c 6 0 (.c 7 0 (.c 8 0 (.c 9 0 .nil)))))))))) mixed (fun _ _ _ _ h=>h) (Sk (Sk (Sk (Sk (Sk (Sk (Sk (Sk (Sk (Sk (Sr))))))))))) (fun _ h=>h) (by kernel_rfl) (by first | exact dl rfl | decide) fun ws Z0=>JQ rfl (Jh (o':=0) Un52 rfl KY rfl rfl) (dl rfl) (JQ rfl (Jh (o':=0) Un49 rfl JY rfl rfl) (dl rfl) ?_)))))))))))
 refine JQ rfl (Yb (o':=1) Un46 ti3 rfl rfl (by first | exact dl rfl | decide) (by first | exact dl rfl | decide) rfl) (dl rfl) (JQ rfl (Jj Un3 rfl rfl (Ji (Jn)) rfl) (dl rfl) (JQ rfl (Jb rfl) (dl rfl) (JQ rfl (JC rfl) (dl rfl) (JQ rfl (Jh (o':=3) Un42 rfl GX rfl rfl) (dl rfl) (JQ rfl (Jh (o':=5) Un38 rfl ti3 rfl rfl) (dl rfl) (JQ rfl (Jj Un3 rfl rfl (Ji (Ji (Jn))) rfl) (dl rfl) (JQ rfl (Kf rfl rfl) (dl rfl) (JL (JK (Jf ?_))))))))))
 refine Jv rfl (decide_eq_false (by omega)) (Jp (Jf (Jc (Jc (YQ (JI _ _ [] (.c 0 0 (.c 1 0 (.c 2 0 (.c 3 0 (.c 4 0 (.c 5 0 (.c 6 0 (.c 7 0 (.c 8 0 (.c 9 0 (.c 10 0 (.c 11 0 (.c 12 0 (.c 13 0 .nil)))))))))))))) mixed (fun _ _ _ _ h=>h) (Sk (Sk (Sk (Sk (Sk (Sk (Sk (Sk (Sk (Sk (Sr))))))))))) (fun _ h=>h) (by kernel_rfl) (by first | exact dl rfl | decide) fun ws Z0=>JQ rfl (Jb rfl) (dl rfl) (JQ rfl (Jb rfl) (dl rfl) (JQ rfl (JC rfl) (dl rfl) (JQ rfl (Jh (o':=8) Un42 rfl Em rfl rfl) (dl rfl) ?_)))))))))
 refine JQ rfl (Yb (o':=8+o.c.toNat) Un39 ti3 rfl rfl (by omega) (by omega) (by omega)) (dl rfl) (JQ rfl (Jj (v:= .int .i64 (D.put.getD o.c.toNat 0)) Un3 rfl rfl (Ji (Ji (Jn))) (dkput hpl (by omega))) (dl rfl) (JQ rfl (Jb rfl) (dl rfl) (JQ rfl (JV rfl rfl (wr64 (by have:=hpc;unfold putA at this;omega))) (dl rfl) (JQ rfl (Jb rfl) (dl rfl) (JQ rfl (JC rfl) (dl rfl) (JQ rfl (Jh (o':=3) Un42 rfl GX rfl rfl) (dl rfl) (JQ rfl (Jh (o':=4) Un38 rfl ti3 rfl rfl) (dl rfl) (JQ rfl (Jj Un3 rfl rfl (Ji (Ji (Jn))) rfl) (dl rfl) (JQ rfl (Kf rfl rfl) (dl rfl) ?_)))))))))
 refine JL (JK (Jf (Jv rfl (decide_eq_false (by exact Int.not_lt.2 hce)) (Jp (Jf (Jc (JD (.s (.s (.s (.s (.s (.s (.z))))))) (JD (.s (.s (.s (.s (.s (.s (.z))))))) (JD (.s (.s (.s (.s (.s (.s (.z))))))) (JD (.s (.s (.s (.s (.s (.s (.z))))))) (JD (.s (.s (.s (.s (.s (.s (.z))))))) (YQ ?_))))))))))))
 refine JI _ _ [13] (.c 0 0 (.c 1 0 (.c 2 0 (.c 3 0 (.c 4 0 (.c 5 0 (.c 6 0 (.c 7 0 (.b (.c 8 2 (.c 9 0 (.c 10 0 (.c 11 1 (.c 12 2 (.c 13 3 (.c 14 1 .nil))))))) (.c 12 2 (.c 8 2 (.c 9 0 (.c 10 0 (.c 11 1 (.c 13 3 (.c 14 1 .nil)))))))))))))))) mixed (fun _ _ _ _ h=>h) (Sk (Sd (Sd (Sd (Sd (Sk (Sk (Sk (Sk (Sk (Sr))))))))))) (fun _ h=>h) (by kernel_rfl) (by first | exact dl rfl | decide) fun ws Z0=>JQ rfl (Jb rfl) (dl rfl) (JQ rfl (JC rfl) (dl rfl) (JQ rfl (Jh (o':=0) Un42 rfl Yn rfl rfl) (dl rfl) (JQ rfl (Jb rfl) (dl rfl) (JQ rfl (JC rfl) (dl rfl) (JQ rfl (Jh (o':=6) Un42 rfl ti3 rfl rfl) (dl rfl) ?_)))))
 refine JQ rfl (Jj Un3 rfl rfl Jn rfl) (dl rfl) (JQ rfl (Jt (vs:= [_,_,_,_,_,_,_,_,_]) Un52 rfl JB rfl (Ji (Ji (Jn))) rfl rfl) (dl rfl) (Yd ?_ ?_))
 ·refine Jy rfl rfl (J5 (XV M.d M.h M.m M.b _ _ D.H M.L M.A M.cap M.B M.t D.H.ops.length D.X D.got o Ao co (putF D.H D.got o).1 (putF D.H D.got o).2.1 hr hwt hrow hdi hta.tk) (.cons rfl (.cons rfl (.cons rfl (.nil)))) (by first | exact dl rfl | decide) (.cons (.z) (.cons (.z) (.cons (.z) (.cons (.z) (.cons (.z) .nil))))) (Jl Mm4 (Jl Mm5 (Jl Mm6 (Jl Mm7 (Jl Mm8 Jx))))) fun u9_8 Lo fs hres=> ?_)
  obtain ⟨L2,A2,cap2,B2,t2,Ae,ce2,rfl,hr2,wt2,hX2,rfl,rfl⟩:=hres
  refine ⟨⟨(Sk (Sd (Sd (Sd (Sd (Sk (Sk (Sk (Sk (Sk (Sr))))))))))),Mm4⟩,?_⟩
  refine JQ rfl (Jb rfl) (dl rfl) (JQ rfl (Jk (vs:= [_,_]) rfl rfl) (dl rfl) (Y5 rfl (Jk (vs:= [_,_]) rfl rfl) (dl rfl) (Jy rfl rfl (Ju (cs:= [_,_,_,_,_,_,_,_,_]) JB rfl (by first | exact dl rfl | decide) fun b7=> ?_))))
  refine ⟨⟨(Sd (Sk (Sd (Sd (Sd (Sd (Sk (Sk (Sk (Sk (Sk (Sr)))))))))))),Mm4⟩,?_⟩
  refine JL (J8 rfl rfl (Jq (cs':= [_,_,_,_,_,_,_,_,_]) (vs:= [_,_,_,_,_,_,_,_,_]) JB rfl rfl rfl rfl rfl (Nat.le_of_ble_eq_true rfl) (.z) (YR rfl (Jd rfl) (dl rfl) (JK (Jf (Jc (Ja (Jg rfl (Ju (cs:= [_]) Ja8 rfl (by first | exact dl rfl | decide) fun b9=>Je (Jf (Jc (Jc (Ja (JM (Jb rfl) (dl rfl) (JM (Ew (by rw [Un191];rfl) rfl) (dl rfl) (Jg rfl (Jm (ZT _ _) (.cons rfl (.cons rfl (.nil))) (by first | exact dl rfl | decide) Jx fun u11_2 Lo fs hres=> ?_)))))))))))))))))
  obtain ⟨rfl,rfl,rfl⟩:=hres
  refine Je (Jf (Jv rfl rfl (Jp (Jf (Jc (Ja (JM (Jb rfl) (dl rfl) (JM (JC rfl) (dl rfl) (JM (Jh (o':=6) Un42 rfl ti3 rfl rfl) (dl rfl) (JM (Jj Un3 rfl rfl (Ji (Ji (Jn))) rfl) (dl rfl) (JM (JV rfl rfl (wr64 (by have:=ok.rc;have:=hdi.le;omega)) (c:=((D.got+1:Nat):Int))) (dl rfl) (JM (JC rfl) (dl rfl) (JM (Jh (o':=6) Un42 rfl ti3 rfl rfl) (dl rfl) (Jg rfl (JJ ti3 rfl rfl rfl (.s (.s (.s (.s (.s (.s (.z))))))) (.s (.s (.z))) (Je (Jf (Jc ?_))))))))))))))))))
  refine YQ (JI _ _ [11] (.c 0 0 (.c 1 0 (.c 2 0 (.c 3 0 (.c 4 0 (.c 5 0 (.c 6 0 (.c 7 0 (.c 8 0 (.c 9 0 (.c 10 0 (.c 11 3 .nil)))))))))))) mixed (fun _ _ _ _ h=>h) (Sk (Sk (Sk (Sk (Sk (Sk (Sk (Sk (Sk (Sk (Sk (Sk (Sr))))))))))))) (fun _ h=>h) (by kernel_rfl) (by first | exact dl rfl | decide) fun ws Z0=>JQ rfl (Jb rfl) (dl rfl) (JQ rfl (Jb rfl) (dl rfl) (JQ rfl (JC rfl) (dl rfl) (JQ rfl (Jh (o':=8) Un42 rfl Em rfl rfl) (dl rfl) (JQ rfl (Yb (o':=8+o.c.toNat) Un39 ti3 rfl rfl (by omega) (by omega) (by omega)) (dl rfl) ?_)))))
  refine JQ rfl (Jj (v:= .int .i64 (D.put.getD o.c.toNat 0)) Un3 rfl rfl (Ji (Ji (Jn))) (dkput hpl (by omega))) (dl rfl) (JQ rfl (Jb rfl) (dl rfl) (JQ rfl (JV rfl rfl (wr64 (by have:=hpc;unfold putA at this;omega)) (c:=putA D o.c+Jw o)) (dl rfl) (JQ rfl (JC rfl) (dl rfl) (JQ rfl (Jh (o':=8) Un42 rfl Em rfl rfl) (dl rfl) (JQ rfl (Yb (o':=8+o.c.toNat) Un39 ti3 rfl rfl (by omega) (by omega) (by omega)) (dl rfl) (JL (J8 rfl rfl (K9 ti3 rfl rfl rfl (dklc hpl (by omega)) (.s (.s (.z))) ?_))))))))
  rw [dksetc hpl (by omega)]
  refine JK (Jf (Jc (Jc (Ja (JM (Jh (o':=0) Un52 rfl KY rfl rfl) (dl rfl) (JM (Jh (o':=2) Un49 rfl YE rfl rfl) (dl rfl) (JM (Jj Un47 rfl rfl (Ji (Jn)) rfl) (dl rfl) (JM (Kg rfl rfl) (dl rfl) (Je (Jf (JE [(117,_),(7,_),(4,_),(0,_)] (.cons rfl (.cons rfl (.cons rfl (.cons rfl (.nil _))))) (Jz rfl (fun h117=> ?_) (fun h117=> ?_)))))))))))))
  ·have hek:(putF D.H D.got o).2.1.kind=1:=by simpa using h117
   have heo:=hta.tk.app (by rw [hek];decide)
   have hR:Right D.X.length (putF D.H D.got o).2.1:=⟨heo.ck, .inl hek⟩
   have hown:=hR.own (by omega)
   have hwd:=hta.wd hek
   have hei:=hR.ins hek
   have hxt:=hta.tk.text
   have hxr:=hta.tk.rs
   refine YQ (JI _ _ [12] (.c 0 0 (.c 1 0 (.c 2 0 (.c 3 0 (.c 4 0 (.c 5 0 (.c 6 2 (.c 7 0 (.c 8 0 (.c 9 1 (.c 10 0 (.c 11 0 (.c 12 3 .nil))))))))))))) mixed (fun _ _ _ _ h=>h) (Sk (Sk (Sk (Sk (Sk (Sk (Sk (Sk (Sk (Sk (Sk (Sk (Sr))))))))))))) (fun _ h=>h) (by kernel_rfl) (by first | exact dl rfl | decide) fun ws Z0=>JQ rfl (Jb rfl) (dl rfl) (JQ rfl (Jb rfl) (dl rfl) (JQ rfl (JC rfl) (dl rfl) (JQ rfl (Jh (o':=17) Un42 rfl ti3 rfl rfl) (dl rfl) (JQ rfl (Jj Un3 rfl rfl (Ji (Ji (Jn))) (dk17 (by rw [List.length_set];exact hpl))) (dl rfl) ?_)))))
   refine JQ rfl (Jt (vs:= [_,_,_,_,_,_,_,_,_]) Un52 rfl JB rfl (Ji (Jn)) rfl rfl) (dl rfl) (Jy rfl rfl (Jm (Hv D.gap (putF D.H D.got o).2.1 Ae ce2 ⟨by omega,by omega,by omega,by omega⟩ hown hek (by omega) (by omega)) (.cons rfl (.cons rfl (.nil))) (by first | exact dl rfl | decide) (Jl Mm10 (Jl Mm2 Jx)) fun u16_6 Lo fs hres=> ?_))
   obtain ⟨rfl,rfl,rfl⟩:=hres
   refine ⟨⟨(Sk (Sk (Sk (Sk (Sk (Sk (Sk (Sk (Sk (Sk (Sk (Sk (Sr))))))))))))),Mm0⟩,?_⟩
   refine JQ rfl (Jb rfl) (dl rfl) (JQ rfl (Jk (vs:= [_,_]) rfl rfl) (dl rfl) (Y5 rfl (Jk (vs:= [_,_]) rfl rfl) (dl rfl) (JQ rfl (JC rfl) (dl rfl) (JQ rfl (Jh (o':=17) Un42 rfl ti3 rfl rfl) (dl rfl) (JL (J8 rfl rfl (K9 ti3 rfl rfl rfl (dkl17 (by rw [List.length_set];exact hpl)) (.s (.s (.z))) ?_)))))))
   rw [dkset17 (by rw [List.length_set];exact hpl)]
   refine JK (Jf (Jc (Ja (Jg rfl (JJ Ym rfl rfl rfl (.z) (.s (.s (.s (.s (.s (.s (.s (.z)))))))) (Je (Jf (Jo ?_))))))))
   refine ⟨_,[_,_,_,_,_,_,_,_],[_,_,_],fun Z w hs=>KI hs Un54 rfl rfl (Ji (Ji (Ji (Ji (Ji (Ji (Ji (Jn)))))))) rfl (.nil),?_,fun Z w hs=>hs.out (Sd (Sd (Sk (Sk (Sk (Sk (Sk (Sd (Sd (Sk (Sk (Sk (Sr))))))))))))) (Jl Mm3 (Jl Mm4 (Jl Mm5 Tt10)))⟩
   have hgc:((KZ D o).gap:Int)=if (putF D.H D.got o).2.1.at_<(D.gap:Int) then (D.gap:Int)+Jw (putF D.H D.got o).2.1 else (D.gap:Int):=by
    show (((if (putF D.H D.got o).2.1.kind=1∧(putF D.H D.got o).2.1.at_<D.gap then _ else _):Nat):Int)=_
    by_cases h:(putF D.H D.got o).2.1.at_<(D.gap:Int)
    ·rw [if_pos ⟨hek,h⟩,if_pos h];omega
    ·rw [if_neg (fun h2=>h h2.2),if_neg h]
   have hge:(KZ D o).gap≤(JS (putF D.H D.got o).2.1 D.X).length:=by split at hgc<;>omega
   have hok2:DkOk ⟨M.d,M.h,M.m,M.b,M.s,A2,cap2,B2,t2,L2,M.vu,M.vr,M.pu,M.pr⟩ (KZ D o):=ok.mk_ hr2 wt2 hX2 ok.hU ok.hR (by show DI (putF D.H D.got o).1.ops.length _ _;rw [hta.nl];exact hta.di) rfl ⟨rfl,rfl,rfl⟩ (by show (D.put.set _ _).length=9;rw [List.length_set];exact hpl) (V1 ok.p0 (by omega)) hge (by show D.got+1≤(putF D.H D.got o).1.ops.length;have:=ok.rc;have:=hta.nl;omega) ok.md ok.sl
   refine ⟨⟨M.d,M.h,M.m,M.b,M.s,A2,cap2,B2,t2,L2,M.vu,M.vr,M.pu,M.pr⟩,?_,hok2,rfl,?_,rfl⟩
   ·rfl
   ·show _=KA ⟨M.d,M.h,M.m,M.b,M.s,A2,cap2,B2,t2,L2,M.vu,M.vr,M.pu,M.pr⟩ (KZ D o)
    unfold KA dkB
    rw [hgc]
    rfl
  ·have hek: ¬(putF D.H D.got o).2.1.kind=1:=by simpa using h117
   refine Jp (Jf (Jc (Ja (Jg rfl (JJ Ym rfl rfl rfl (.z) (.s (.s (.s (.s (.s (.s (.s (.z)))))))) (Je (Jf (Jo ?_))))))))
   refine ⟨_,[_,_,_,_,_,_,_,_],[_,_,_],fun Z w hs=>KI hs Un54 rfl rfl (Ji (Ji (Ji (Ji (Ji (Ji (Ji (Jn)))))))) rfl (.nil),?_,fun Z w hs=>hs.out (Sd (Sd (Sk (Sk (Sk (Sk (Sk (Sd (Sd (Sk (Sk (Sk (Sr))))))))))))) (Jl Mm2 (Jl Mm3 (Jl Mm4 Tt9)))⟩
   have hgc:((KZ D o).gap:Int)=D.gap:=by
    show (((if (putF D.H D.got o).2.1.kind=1∧(putF D.H D.got o).2.1.at_<D.gap then _ else _):Nat):Int)=_
    rw [if_neg (fun h2=>hek h2.1)]
   have hge:(KZ D o).gap≤(JS (putF D.H D.got o).2.1 D.X).length:=by omega
   have hok2:DkOk ⟨M.d,M.h,M.m,M.b,M.s,A2,cap2,B2,t2,L2,M.vu,M.vr,M.pu,M.pr⟩ (KZ D o):=ok.mk_ hr2 wt2 hX2 ok.hU ok.hR (by show DI (putF D.H D.got o).1.ops.length _ _;rw [hta.nl];exact hta.di) rfl ⟨rfl,rfl,rfl⟩ (by show (D.put.set _ _).length=9;rw [List.length_set];exact hpl) (V1 ok.p0 (by omega)) hge (by show D.got+1≤(putF D.H D.got o).1.ops.length;have:=ok.rc;have:=hta.nl;omega) ok.md ok.sl
   refine ⟨⟨M.d,M.h,M.m,M.b,M.s,A2,cap2,B2,t2,L2,M.vu,M.vr,M.pu,M.pr⟩,?_,hok2,rfl,?_,rfl⟩
   ·rfl
   ·show _=KA ⟨M.d,M.h,M.m,M.b,M.s,A2,cap2,B2,t2,L2,M.vu,M.vr,M.pu,M.pr⟩ (KZ D o)
    unfold KA dkB
    rw [hgc]
    rfl
 ·refine Jy rfl rfl (Ju (cs:= [_,_,_,_,_,_,_,_,_]) JB rfl (by first | exact dl rfl | decide) fun b7=> ?_)
  refine ⟨⟨(Sd (Sk (Sd (Sd (Sd (Sd (Sk (Sk (Sk (Sk (Sk (Sr)))))))))))),Mm0⟩,?_⟩
  refine Jy rfl rfl (J5 (XV M.d M.h M.m M.b _ _ D.H M.L M.A M.cap M.B M.t D.H.ops.length D.X D.got o Ao co (putF D.H D.got o).1 (putF D.H D.got o).2.1 hr hwt hrow hdi hta.tk) (.cons rfl (.cons rfl (.cons rfl (.nil)))) (by first | exact dl rfl | decide) (.cons (.s (.z)) (.cons (.s (.z)) (.cons (.s (.z)) (.cons (.s (.z)) (.cons (.s (.z)) .nil))))) (Jl Mm4 (Jl Mm5 (Jl Mm6 (Jl Mm7 (Jl Mm8 Jx))))) fun u9_8 Lo fs hres=> ?_)
  obtain ⟨L2,A2,cap2,B2,t2,Ae,ce2,rfl,hr2,wt2,hX2,rfl,rfl⟩:=hres
  refine ⟨⟨(Sk (Sd (Sd (Sd (Sd (Sd (Sk (Sk (Sk (Sk (Sk (Sr)))))))))))),Mm4⟩,?_⟩
  refine JQ rfl (Jb rfl) (dl rfl) (JQ rfl (Jk (vs:= [_,_]) rfl rfl) (dl rfl) (Y5 rfl (Jk (vs:= [_,_]) rfl rfl) (dl rfl) (JL (J8 rfl rfl (Jq (cs':= [_,_,_,_,_,_,_,_,_]) (vs:= [_,_,_,_,_,_,_,_,_]) JB rfl rfl rfl rfl rfl (Nat.le_of_ble_eq_true rfl) (.s (.s (.s (.s (.s (.z)))))) (YR rfl (Jd rfl) (dl rfl) (JK (Jf (Jc (Ja (Jg rfl (Ju (cs:= [_]) Ja8 rfl (by first | exact dl rfl | decide) fun b9=>Je (Jf (Jc (Jc (Ja (JM (Jb rfl) (dl rfl) ?_)))))))))))))))))
  refine JM (Ew (by rw [Un191];rfl) rfl) (dl rfl) (Jg rfl (Jm (ZT _ _) (.cons rfl (.cons rfl (.nil))) (by first | exact dl rfl | decide) Jx fun u11_2 Lo fs hres=> ?_))
  obtain ⟨rfl,rfl,rfl⟩:=hres
  refine Je (Jf (Jv rfl rfl (Jp (Jf (Jc (Ja (JM (Jb rfl) (dl rfl) (JM (JC rfl) (dl rfl) (JM (Jh (o':=6) Un42 rfl ti3 rfl rfl) (dl rfl) (JM (Jj Un3 rfl rfl (Ji (Jn)) rfl) (dl rfl) (JM (JV rfl rfl (wr64 (by have:=ok.rc;have:=hdi.le;omega)) (c:=((D.got+1:Nat):Int))) (dl rfl) (JM (JC rfl) (dl rfl) (JM (Jh (o':=6) Un42 rfl ti3 rfl rfl) (dl rfl) (Jg rfl (JJ ti3 rfl rfl rfl (.s (.s (.s (.s (.s (.s (.z))))))) (.s (.z)) (Je (Jf (Jc ?_))))))))))))))))))
  refine YQ (JI _ _ [11] (.c 0 0 (.c 1 0 (.c 2 0 (.c 3 0 (.c 4 0 (.c 5 0 (.c 6 0 (.c 7 0 (.c 8 0 (.c 9 0 (.c 10 0 (.c 11 3 .nil)))))))))))) mixed (fun _ _ _ _ h=>h) (Sk (Sk (Sk (Sk (Sk (Sk (Sk (Sk (Sk (Sk (Sk (Sk (Sr))))))))))))) (fun _ h=>h) (by kernel_rfl) (by first | exact dl rfl | decide) fun ws Z0=>JQ rfl (Jb rfl) (dl rfl) (JQ rfl (Jb rfl) (dl rfl) (JQ rfl (JC rfl) (dl rfl) (JQ rfl (Jh (o':=8) Un42 rfl Em rfl rfl) (dl rfl) (JQ rfl (Yb (o':=8+o.c.toNat) Un39 ti3 rfl rfl (by omega) (by omega) (by omega)) (dl rfl) ?_)))))
  refine JQ rfl (Jj (v:= .int .i64 (D.put.getD o.c.toNat 0)) Un3 rfl rfl (Ji (Jn)) (dkput hpl (by omega))) (dl rfl) (JQ rfl (Jb rfl) (dl rfl) (JQ rfl (JV rfl rfl (wr64 (by have:=hpc;unfold putA at this;omega)) (c:=putA D o.c+Jw o)) (dl rfl) (JQ rfl (JC rfl) (dl rfl) (JQ rfl (Jh (o':=8) Un42 rfl Em rfl rfl) (dl rfl) (JQ rfl (Yb (o':=8+o.c.toNat) Un39 ti3 rfl rfl (by omega) (by omega) (by omega)) (dl rfl) (JL (J8 rfl rfl (K9 ti3 rfl rfl rfl (dklc hpl (by omega)) (.s (.z)) ?_))))))))
  rw [dksetc hpl (by omega)]
  refine JK (Jf (Jc (Jc (Ja (JM (Jh (o':=0) Un52 rfl KY rfl rfl) (dl rfl) (JM (Jh (o':=2) Un49 rfl YE rfl rfl) (dl rfl) (JM (Jj Un47 rfl rfl (Ji (Ji (Ji (Ji (Ji (Ji (Jn))))))) rfl) (dl rfl) (JM (Kg rfl rfl) (dl rfl) (Je (Jf (JE [(117,_),(7,_),(4,_),(0,_)] (.cons rfl (.cons rfl (.cons rfl (.cons rfl (.nil _))))) (Jz rfl (fun h117=> ?_) (fun h117=> ?_)))))))))))))
  ·have hek:(putF D.H D.got o).2.1.kind=1:=by simpa using h117
   have heo:=hta.tk.app (by rw [hek];decide)
   have hR:Right D.X.length (putF D.H D.got o).2.1:=⟨heo.ck, .inl hek⟩
   have hown:=hR.own (by omega)
   have hwd:=hta.wd hek
   have hei:=hR.ins hek
   have hxt:=hta.tk.text
   have hxr:=hta.tk.rs
   refine YQ (JI _ _ [12] (.c 0 0 (.c 1 0 (.c 2 0 (.c 3 0 (.c 4 0 (.c 5 0 (.c 6 2 (.c 7 0 (.c 8 0 (.c 9 1 (.c 10 0 (.c 11 0 (.c 12 3 .nil))))))))))))) mixed (fun _ _ _ _ h=>h) (Sk (Sk (Sk (Sk (Sk (Sk (Sk (Sk (Sk (Sk (Sk (Sk (Sr))))))))))))) (fun _ h=>h) (by kernel_rfl) (by first | exact dl rfl | decide) fun ws Z0=>JQ rfl (Jb rfl) (dl rfl) (JQ rfl (Jb rfl) (dl rfl) (JQ rfl (JC rfl) (dl rfl) (JQ rfl (Jh (o':=17) Un42 rfl ti3 rfl rfl) (dl rfl) (JQ rfl (Jj Un3 rfl rfl (Ji (Jn)) (dk17 (by rw [List.length_set];exact hpl))) (dl rfl) ?_)))))
   refine JQ rfl (Jt (vs:= [_,_,_,_,_,_,_,_,_]) Un52 rfl JB rfl (Ji (Ji (Ji (Ji (Ji (Ji (Jn))))))) rfl rfl) (dl rfl) (Jy rfl rfl (Jm (Hv D.gap (putF D.H D.got o).2.1 Ae ce2 ⟨by omega,by omega,by omega,by omega⟩ hown hek (by omega) (by omega)) (.cons rfl (.cons rfl (.nil))) (by first | exact dl rfl | decide) (Jl Mm10 (Jl Mm2 Jx)) fun u16_6 Lo fs hres=> ?_))
   obtain ⟨rfl,rfl,rfl⟩:=hres
   refine ⟨⟨(Sk (Sk (Sk (Sk (Sk (Sk (Sk (Sk (Sk (Sk (Sk (Sk (Sr))))))))))))),Mm0⟩,?_⟩
   refine JQ rfl (Jb rfl) (dl rfl) (JQ rfl (Jk (vs:= [_,_]) rfl rfl) (dl rfl) (Y5 rfl (Jk (vs:= [_,_]) rfl rfl) (dl rfl) (JQ rfl (JC rfl) (dl rfl) (JQ rfl (Jh (o':=17) Un42 rfl ti3 rfl rfl) (dl rfl) (JL (J8 rfl rfl (K9 ti3 rfl rfl rfl (dkl17 (by rw [List.length_set];exact hpl)) (.s (.z)) ?_)))))))
   rw [dkset17 (by rw [List.length_set];exact hpl)]
   refine JK (Jf (Jc (Ja (Jg rfl (JJ Ym rfl rfl rfl (.z) (.s (.s (.s (.s (.s (.s (.s (.z)))))))) (Je (Jf (Jo ?_))))))))
   refine ⟨_,[_,_,_,_,_,_,_,_],[_,_,_],fun Z w hs=>KI hs Un54 rfl rfl (Ji (Ji (Ji (Ji (Ji (Ji (Ji (Jn)))))))) rfl (.nil),?_,fun Z w hs=>hs.out (Sd (Sk (Sk (Sk (Sk (Sk (Sd (Sd (Sd (Sk (Sk (Sk (Sr))))))))))))) (Jl Mm3 (Jl Mm4 (Jl Mm5 Tt10)))⟩
   have hgc:((KZ D o).gap:Int)=if (putF D.H D.got o).2.1.at_<(D.gap:Int) then (D.gap:Int)+Jw (putF D.H D.got o).2.1 else (D.gap:Int):=by
    show (((if (putF D.H D.got o).2.1.kind=1∧(putF D.H D.got o).2.1.at_<D.gap then _ else _):Nat):Int)=_
    by_cases h:(putF D.H D.got o).2.1.at_<(D.gap:Int)
    ·rw [if_pos ⟨hek,h⟩,if_pos h];omega
    ·rw [if_neg (fun h2=>h h2.2),if_neg h]
   have hge:(KZ D o).gap≤(JS (putF D.H D.got o).2.1 D.X).length:=by split at hgc<;>omega
   have hok2:DkOk ⟨M.d,M.h,M.m,M.b,M.s,A2,cap2,B2,t2,L2,M.vu,M.vr,M.pu,M.pr⟩ (KZ D o):=ok.mk_ hr2 wt2 hX2 ok.hU ok.hR (by show DI (putF D.H D.got o).1.ops.length _ _;rw [hta.nl];exact hta.di) rfl ⟨rfl,rfl,rfl⟩ (by show (D.put.set _ _).length=9;rw [List.length_set];exact hpl) (V1 ok.p0 (by omega)) hge (by show D.got+1≤(putF D.H D.got o).1.ops.length;have:=ok.rc;have:=hta.nl;omega) ok.md ok.sl
   refine ⟨⟨M.d,M.h,M.m,M.b,M.s,A2,cap2,B2,t2,L2,M.vu,M.vr,M.pu,M.pr⟩,?_,hok2,rfl,?_,rfl⟩
   ·rfl
   ·show _=KA ⟨M.d,M.h,M.m,M.b,M.s,A2,cap2,B2,t2,L2,M.vu,M.vr,M.pu,M.pr⟩ (KZ D o)
    unfold KA dkB
    rw [hgc]
    rfl
  ·have hek: ¬(putF D.H D.got o).2.1.kind=1:=by simpa using h117
   refine Jp (Jf (Jc (Ja (Jg rfl (JJ Ym rfl rfl rfl (.z) (.s (.s (.s (.s (.s (.s (.s (.z)))))))) (Je (Jf (Jo ?_))))))))
   refine ⟨_,[_,_,_,_,_,_,_,_],[_,_,_],fun Z w hs=>KI hs Un54 rfl rfl (Ji (Ji (Ji (Ji (Ji (Ji (Ji (Jn)))))))) rfl (.nil),?_,fun Z w hs=>hs.out (Sd (Sk (Sk (Sk (Sk (Sk (Sd (Sd (Sd (Sk (Sk (Sk (Sr))))))))))))) (Jl Mm2 (Jl Mm3 (Jl Mm4 Tt9)))⟩
   have hgc:((KZ D o).gap:Int)=D.gap:=by
    show (((if (putF D.H D.got o).2.1.kind=1∧(putF D.H D.got o).2.1.at_<D.gap then _ else _):Nat):Int)=_
    rw [if_neg (fun h2=>hek h2.1)]
   have hge:(KZ D o).gap≤(JS (putF D.H D.got o).2.1 D.X).length:=by omega
   have hok2:DkOk ⟨M.d,M.h,M.m,M.b,M.s,A2,cap2,B2,t2,L2,M.vu,M.vr,M.pu,M.pr⟩ (KZ D o):=ok.mk_ hr2 wt2 hX2 ok.hU ok.hR (by show DI (putF D.H D.got o).1.ops.length _ _;rw [hta.nl];exact hta.di) rfl ⟨rfl,rfl,rfl⟩ (by show (D.put.set _ _).length=9;rw [List.length_set];exact hpl) (V1 ok.p0 (by omega)) hge (by show D.got+1≤(putF D.H D.got o).1.ops.length;have:=ok.rc;have:=hta.nl;omega) ok.md ok.sl
   refine ⟨⟨M.d,M.h,M.m,M.b,M.s,A2,cap2,B2,t2,L2,M.vu,M.vr,M.pu,M.pr⟩,?_,hok2,rfl,?_,rfl⟩
   ·rfl
   ·show _=KA ⟨M.d,M.h,M.m,M.b,M.s,A2,cap2,B2,t2,L2,M.vu,M.vr,M.pu,M.pr⟩ (KZ D o)
    unfold KA dkB
    rw [hgc]
    rfl
theorem hops_k (h m cap:Nat) (A:Option Addr) (H:Hist) (L:List MR) (hr:HR H L) (lo hi:Nat) (h1:lo≤hi) (h2:hi≤H.ents.length):Sp Tryz.prog 66 [.pointer (some ⟨h,0,none⟩), .int .i64 lo, .int .i64 hi] [hdP h A H.ops.length cap m H.total,mpP m L,mkP L] [RdF opD A cap H.ops] (fun v Lo fs=> ∃(A':Option Addr) (c':Nat),v= .tuple #[.slice A' ((H.ops.take hi).drop lo).length c', .int .i64 0] ∧Lo= [hdP h A H.ops.length cap m H.total,mpP m L,mkP L] ∧fs= [RdF opD A' c' ((H.ops.take hi).drop lo)]):=by
 refine (Jbn h m cap A H L hr lo hi).mono ?_
 rintro v Lo fs ⟨A',c',rfl,⟨hb,_,_⟩ | ⟨_,rfl,rfl⟩⟩
 ·omega
 ·exact ⟨A',c',rfl,rfl,rfl⟩
set_option maxRecDepth 10000 in
theorem HS (d b:Nat) (cs:List Value) (T:TypeId) (h:Nat) (B:Option Addr) (t:Tr) (wt:Wf t):Sp Tryz.prog 38 [.pointer (some ⟨d,0,none⟩)] [[(d,JA (.pointer (some ⟨h,0,none⟩):: .pointer (some ⟨b,0,none⟩)::cs) T)],rpP b B] [TrF B t] (fun v Lo fs=>v= .int .i64 t.row.length∧Lo= [[(d,JA (.pointer (some ⟨h,0,none⟩):: .pointer (some ⟨b,0,none⟩)::cs) T)],rpP b B] ∧fs= []):=by
 refine Sp.of (n:=8) ⟨_,Tryz.func38,rfl,rfl,rfl,rfl⟩ (Nat.le_of_ble_eq_true rfl) fun Ps As=>Jc (Ja (Lq (Jd rfl) (Je (Jf (Jc (Ja (Lq (Jb rfl) (Lq (JC rfl) (Lq (Jh (o':=1) Un36 rfl GY rfl rfl) (Lq (Jj Un34 rfl rfl Jn rfl) (Jg rfl (JU (Y9 b B t wt) (.cons rfl (.nil)) (by decide) (.s (.z)) (Jl Mm0 Jx) fun u1_4 Lo fs hres=> ?_))))))))))))
 obtain ⟨rfl,rfl,rfl⟩:=hres
 refine Lq (Jd rfl) (Je (Jf (Jo ?_)))
 refine ⟨_,[_,_],[],fun Z w hs=> .tmp rfl (.nil),?_,fun Z w hs=>((hs.pick (.z)).pick (.s (.z))).out (Sk (Sk (Sr))) (fun _ h=>h)⟩
 exact ⟨rfl,rfl,rfl⟩
set_option maxRecDepth 10000 in
theorem Jbr (M:DM) (D:DS) (ok:DkOk M D):Sp Tryz.prog 26 [.pointer (some ⟨M.d,0,none⟩)] (KA M D) [] (fun v Lo fs=>v= .int .i64 D.gap∧Lo=KA M D∧fs= []):=by
 have hpl:=ok.pl
 refine Sp.of (n:=7) ⟨_,Tryz.func26,rfl,rfl,rfl,rfl⟩ (Nat.le_of_ble_eq_true rfl) fun Ps As=>Jc (Ja (Lq (Jd rfl) (Je (Jf (Jc (Ja (Lq (Jb rfl) (Lq (JC rfl) (Lq (Jh (o':=17) Un42 rfl ti3 rfl rfl) (Lq (Jj Un3 rfl rfl Jn (dk17 hpl)) (Lq (Jd rfl) (Je (Jf (Jo ?_))))))))))))))
 refine ⟨_,[_,_,_,_,_,_,_,_],[],fun Z w hs=> .tmp rfl (.nil),?_,fun Z w hs=>hs.out (Sk (Sk (Sk (Sk (Sk (Sk (Sk (Sk (Sr))))))))) (fun _ h=>h)⟩
 exact ⟨rfl,rfl,rfl⟩
set_option maxRecDepth 10000 in
theorem Ga (M:DM) (D:DS) (ok:DkOk M D):Sp Tryz.prog 15 [.pointer (some ⟨M.d,0,none⟩)] (KA M D) (barF::KV M D) (fun v Lo fs=>v= .int .i64 (J3 (D.X.take D.gap):Nat)∧Lo=KA M D∧fs= []):=by
 have hvl:=Kl M.t.row
 have hwt:=ok.wt
 have htl:=ok.tl
 have hrow:=ok.row
 have hpl:=ok.pl
 have hgp:=ok.gp
 refine Sp.of (n:=19) ⟨_,Tryz.func15,rfl,rfl,rfl,rfl⟩ (Nat.le_of_ble_eq_true rfl) fun Ps As=>Jc (Ja (Lq (Jd rfl) (Je (Jf (Jc (JI _ _ [] (.c 0 0 (.c 1 0 (.c 2 0 (.c 3 0 (.c 4 0 (.c 5 0 (.c 6 0 (.c 7 0 (.c 8 0 (.c 9 2 (.c 10 0 (.c 11 0 (.c 12 0 (.c 13 0 (.c 14 0 .nil))))))))))))))) mixed (fun _ _ _ _ h=>h) (Sk (Sk (Sk (Sk (Sd (Sk (Sk (Sk (Sr))))))))) (fun _ h=>h) (by kernel_rfl) (by decide) fun ws Z0=>Qe rfl (Jb rfl) (Qe rfl (JC rfl) (Qe rfl (Jh (o':=0) Un42 rfl Yn rfl rfl) (Qe rfl (Jh (o':=1) Un36 rfl GY rfl rfl) (Qe rfl (Jj Un34 rfl rfl Jn rfl) ?_))))))))))
 refine Qe rfl (Jb rfl) (Qe rfl (JC rfl) (Qe rfl (Jh (o':=17) Un42 rfl ti3 rfl rfl) (Qe rfl (Jj Un3 rfl rfl Jn (dk17 hpl)) (Jy rfl rfl (JU (Gs M.b M.B M.t hwt (by omega) D.gap (by rw [hrow];exact hgp)) (.cons rfl (.cons rfl (.nil))) (by decide) (.s (.s (.s (.s (.z))))) (Jl Mm4 Jx) fun u1_9 Lo fs hres=> ?_)))))
 obtain ⟨rfl,rfl,rfl⟩:=hres
 refine ⟨⟨(Sd (Sk (Sk (Sk (Sk (Sk (Sk (Sk (Sr))))))))),Mm0⟩,?_⟩
 refine Qe rfl (Jb rfl) (Qe rfl (Jk (vs:= [_,_]) rfl rfl) (Qe rfl (Jk (vs:= [_,_]) rfl rfl) (Qe rfl (Jd rfl) (Qe rfl (Jd rfl) (JL (JK (Jf (Jc (Ja (Lq (Jb rfl) (Lq (Jd rfl) (Je (Jf (Jo ?_))))))))))))))
 refine ⟨_,[_,_,_,_,_,_,_,_],[],fun Z w hs=> .tmp rfl (.nil),?_,fun Z w hs=>((((((((hs.pick (.s (.s (.s (.s (.s (.s (.s (.z))))))))).pick (.s (.s (.s (.s (.s (.s (.s (.z))))))))).pick (.s (.s (.s (.s (.s (.s (.s (.z))))))))).pick (.s (.s (.s (.z))))).pick (.s (.s (.s (.s (.s (.s (.s (.z))))))))).pick (.s (.s (.s (.s (.s (.s (.s (.z))))))))).pick (.s (.s (.s (.s (.s (.s (.s (.z))))))))).pick (.s (.s (.s (.s (.s (.s (.s (.z))))))))).out (Sk (Sk (Sk (Sk (Sk (Sk (Sk (Sk (Sr))))))))) Tt1⟩
 exact ⟨by rw [hrow];rfl,rfl,rfl⟩
set_option maxRecDepth 10000 in
theorem E7 (M:DM) (D:DS) (ok:DkOk M D):Sp Tryz.prog 30 [.pointer (some ⟨M.d,0,none⟩)] (KA M D) (barF::KV M D) (fun v Lo fs=> ∃(A':Option Addr) (c':Nat),v= .slice A' (D.H.ops.drop D.got).length c'∧Lo=KA M D∧fs= [RdF opD A' c' (D.H.ops.drop D.got)]):=by
 have hvl:=Kl M.t.row
 have hwt:=ok.wt
 have htl:=ok.tl
 have hrow:=ok.row
 have hpl:=ok.pl
 have hr:=ok.hr
 have hn:=ok.n
 have hrc:=ok.rc
 refine Sp.of (n:=25) ⟨_,Tryz.func30,rfl,rfl,rfl,rfl⟩ (Nat.le_of_ble_eq_true rfl) fun Ps As=>Jc (Ja (Lq (Jd rfl) (Je (Jf (Jc (JI _ _ [] (.c 0 0 (.c 1 0 (.c 2 0 (.c 3 0 (.c 4 0 (.c 5 0 (.c 6 0 (.c 7 0 (.c 8 0 (.c 9 0 (.c 10 0 (.c 11 0 (.c 12 0 (.c 13 0 (.c 14 2 (.c 15 2 (.c 16 0 (.c 17 0 (.c 18 0 (.c 19 0 (.c 20 0 .nil))))))))))))))))))))) mixed (fun _ _ _ _ h=>h) (Sk (Sd (Sd (Sd (Sk (Sk (Sk (Sk (Sr))))))))) (fun _ h=>h) (by kernel_rfl) (by decide) fun ws Z0=>Qe rfl (Jb rfl) (Qe rfl (JC rfl) (Qe rfl (Jh (o':=0) Un42 rfl Yn rfl rfl) (Qe rfl (Jh (o':=0) Un36 rfl VX rfl rfl) ?_)))))))))
 refine Qe rfl (Jj Un33 rfl rfl Jn rfl) (Qe rfl (Jb rfl) (Qe rfl (JC rfl) (Qe rfl (Jh (o':=6) Un42 rfl ti3 rfl rfl) (Qe rfl (Jj Un3 rfl rfl Jn rfl) (Qe rfl (Jb rfl) (Qe rfl (JC rfl) (Qe rfl (Jh (o':=0) Un42 rfl Yn rfl rfl) (Qe rfl (Jh (o':=0) Un36 rfl VX rfl rfl) (Qe rfl (Jj Un33 rfl rfl Jn rfl) ?_)))))))))
 refine Jy rfl rfl (JU (E5 M.h M.m D.H.ops.length M.cap M.A D.H.total) (.cons rfl (.nil)) (by decide) (.s (.z)) Jx fun u1_14 Lo fs hres=> ?_)
 obtain ⟨rfl,rfl,rfl⟩:=hres
 refine ⟨⟨(Sd (Sk (Sd (Sd (Sk (Sk (Sk (Sk (Sr))))))))),Mm0⟩,?_⟩
 refine Jy rfl rfl (KE (hops_k M.h M.m M.cap M.A D.H M.L hr D.got D.H.ops.length hrc (by omega)) (.cons rfl (.cons rfl (.cons rfl (.nil)))) (by decide) (.z) (.s (.z)) (.s (.z)) (Jl Mm2 Jx) fun u1_15 Lo fs hres=> ?_)
 obtain ⟨A9,c9,rfl,rfl,rfl⟩:=hres
 rw [List.take_length]
 refine ⟨⟨(Sd (Sd (Sd (Sk (Sk (Sk (Sk (Sk (Sr))))))))),Mm1⟩,?_⟩
 refine Qe rfl (Jb rfl) (Qe rfl (Jk (vs:= [_,_]) rfl rfl) (Qe rfl (Jk (vs:= [_,_]) rfl rfl) (Qe rfl (Jd rfl) (Qe rfl (Jd rfl) (JL (JK (Jf (Jc (Ja (Lq (Jb rfl) (Lq (Jd rfl) (Je (Jf (Jo ?_))))))))))))))
 refine ⟨_,[_,_,_,_,_,_,_,_],[_],fun Z w hs=> .tmp rfl (.nil),?_,fun Z w hs=>((((((((hs.pick (.s (.s (.s (.s (.s (.s (.s (.z))))))))).pick (.s (.s (.s (.s (.s (.s (.s (.z))))))))).pick (.s (.s (.s (.s (.s (.s (.s (.z))))))))).pick (.s (.s (.s (.s (.s (.s (.s (.z))))))))).pick (.s (.s (.s (.s (.s (.s (.z)))))))).pick (.s (.s (.s (.s (.s (.s (.z)))))))).pick (.s (.s (.s (.s (.s (.s (.z)))))))).pick (.s (.s (.s (.s (.s (.s (.s (.z))))))))).out (Sk (Sk (Sk (Sk (Sk (Sk (Sk (Sk (Sr))))))))) (Jl Mm0 Tt2)⟩
 exact ⟨A9,c9,rfl,rfl,rfl⟩
def confD (D:DS):DS:= { D with got:=D.got+1 }
set_option maxRecDepth 10000 in
theorem confirm_0 (M:DM) (D:DS) (ok:DkOk M D) (i0 i1:Int) (hg:D.got<D.H.ents.length) (hi0:D.H.ents[D.got].op.c=i0) (hi1:D.H.ents[D.got].op.n=i1):Sp Tryz.prog 77 [.pointer (some ⟨M.d,0,none⟩), .agg #[.int .i64 i0, .int .i64 i1]] (KA M D) (barF::KV M D) (fun v Lo fs=>DkOk M (confD D)∧v= .nilIface∧Lo=KA M (confD D)∧fs= []):=by
 have hvl:=Kl M.t.row
 have hwt:=ok.wt
 have htl:=ok.tl
 have hrow:=ok.row
 have hpl:=ok.pl
 have hr:=ok.hr
 have hn:=ok.n
 have hdi:=ok.di
 have hle:=hdi.le
 have hen:(entE D.H.ents[D.got]).c=i0∧(entE D.H.ents[D.got]).n=i1:=by
  unfold entE
  split
  ·exact ⟨hi0,hi1⟩
  ·exact ⟨hi0,hi1⟩
 refine Sp.ofD (n:=43) ⟨_,Tryz.func77,rfl,rfl,rfl,rfl⟩ (Nat.le_of_ble_eq_true rfl) fun Ps As=>Ja (Jg rfl (J7 (cs:= [_,_]) rfl rfl (by decide) fun b3=>Jg rfl (Ju (cs:= [_]) Ym rfl (by decide) fun b4=>Je ?_)))
 refine ⟨rfl,_,_,_,_,_,catch_Confirm b4,DefReg.mk (.cons rfl (.nil)) (by decide),?_⟩
 refine Jc (Jc (JD (.s (.s (.s (.z)))) (JD (.s (.s (.s (.z)))) (YQ (JI _ _ [] (.c 0 0 (.c 1 0 (.c 2 0 (.c 3 0 (.c 4 0 (.c 5 0 (.c 6 0 (.c 7 2 (.c 8 0 .nil))))))))) mixed (fun _ _ _ _ h=>h) (Sk (Sd (Sk (Sk (Sk (Sk (Sk (Sk (Sk (Sk (Sr))))))))))) (fun _ h=>h) (by kernel_rfl) (by first | exact dl rfl | decide) fun ws Z0=>JQ rfl (Jb rfl) (dl rfl) (JQ rfl (JC rfl) (dl rfl) (JQ rfl (Jh (o':=6) Un42 rfl ti3 rfl rfl) (dl rfl) (JQ rfl (Jj Un3 rfl rfl Jn rfl) (dl rfl) (JQ rfl (Jb rfl) (dl rfl) ?_)))))))))
 refine JQ rfl (JC rfl) (dl rfl) (JQ rfl (Jh (o':=0) Un42 rfl Yn rfl rfl) (dl rfl) (Jy rfl rfl (Kp (G0 M.d M.h M.m M.b D.H.ops.length M.cap _ _ M.A D.H.total) (.cons rfl (.nil)) (by first | exact dl rfl | decide) (.z) (.z) Jx fun u2_7 Lo fs hres=> ?_)))
 obtain ⟨rfl,rfl,rfl⟩:=hres
 refine ⟨⟨(Sk (Sd (Sk (Sk (Sk (Sk (Sk (Sk (Sk (Sk (Sr))))))))))),Mm0⟩,?_⟩
 refine JQ rfl (Kg rfl rfl) (dl rfl) (JL (JK (Jf (Jv rfl (by simp;omega) (Jp (Jf (Jc (YQ (JI _ _ [14] (.c 0 0 (.c 1 0 (.c 2 0 (.c 3 0 (.c 4 0 (.c 5 0 (.c 6 0 (.c 7 0 (.c 8 0 (.b (.c 9 2 (.c 10 0 (.c 11 0 (.c 12 1 (.c 13 2 (.c 14 3 (.c 15 1 .nil))))))) (.c 13 2 (.c 9 2 (.c 10 0 (.c 11 0 (.c 12 1 (.c 14 3 (.c 15 1 .nil))))))))))))))))) mixed (fun _ _ _ _ h=>h) (Sk (Sd (Sk (Sk (Sd (Sd (Sk (Sk (Sk (Sk (Sr))))))))))) (fun _ h=>h) (by kernel_rfl) (by first | exact dl rfl | decide) fun ws Z0=>JQ rfl (Jb rfl) (dl rfl) (JQ rfl (JC rfl) (dl rfl) ?_))))))))))
 refine JQ rfl (Jh (o':=0) Un42 rfl Yn rfl rfl) (dl rfl) (JQ rfl (Jh (o':=0) Un36 rfl VX rfl rfl) (dl rfl) (JQ rfl (Jj Un33 rfl rfl Jn rfl) (dl rfl) (JQ rfl (Jb rfl) (dl rfl) (JQ rfl (JC rfl) (dl rfl) (JQ rfl (Jh (o':=6) Un42 rfl ti3 rfl rfl) (dl rfl) (JQ rfl (Jj Un3 rfl rfl Jn rfl) (dl rfl) (Yd ?_ ?_)))))))
 ·refine Jy rfl rfl (KE (XH M.h M.m M.cap M.A D.H M.L hr D.got) (.cons rfl (.cons rfl (.nil))) (by first | exact dl rfl | decide) (.s (.z)) (.s (.s (.s (.z)))) (.s (.s (.s (.z)))) (Jl Mm3 (Jl Mm4 Jx)) fun u4_9 Lo fs hres=> ?_)
  obtain ⟨A9,c9,rfl,rfl,rfl⟩:=hres
  rw [YA hg]
  refine ⟨⟨(Sd (Sd (Sd (Sk (Sk (Sk (Sk (Sk (Sk (Sk (Sr))))))))))),Mm1⟩,?_⟩
  refine JQ rfl (Jb rfl) (dl rfl) (JQ rfl (Jk (vs:= [_,_]) rfl rfl) (dl rfl) (Y5 rfl (Jk (vs:= [_,_]) rfl rfl) (dl rfl) (Jy rfl rfl (Ju (cs:= [_,_,_,_,_,_,_]) Vi rfl (by first | exact dl rfl | decide) fun b5=> ?_))))
  refine ⟨⟨(Sd (Sd (Sd (Sd (Sk (Sk (Sk (Sk (Sk (Sk (Sk (Sr)))))))))))),Mm1⟩,?_⟩
  refine JL (J8 rfl rfl (Jq (cs':= [_,_,_,_,_,_,_]) (vs:= [_,_,_,_,_,_,_]) Vi rfl rfl rfl rfl rfl (Nat.le_of_ble_eq_true rfl) (.z) (YR rfl (Jd rfl) (dl rfl) (JK (Jf (Jc (Jc (Ja (JM (Jh (o':=0) Un62 rfl JY rfl rfl) (dl rfl) (JM (Jt (vs:= [_,_]) Un46 rfl JY rfl Jn rfl rfl) (dl rfl) (JM (Jt (vs:= [_,_]) Un46 rfl JY rfl (Ji (Ji (Ji (Ji (Ji (Ji (Jn))))))) rfl rfl) (dl rfl) (JM (YH rfl rfl (eq46 _ _ _ _)) (dl rfl) (Je (Jf (Jv rfl (by simp [hen.1,hen.2]) ?_)))))))))))))))
  refine Jp (Jf (Jc (Ja (JM (Jb rfl) (dl rfl) (JM (JC rfl) (dl rfl) (JM (Jh (o':=6) Un42 rfl ti3 rfl rfl) (dl rfl) (JM (Jj Un3 rfl rfl (Ji (Ji (Ji (Ji (Jn))))) rfl) (dl rfl) (JM (JV rfl rfl (wr64 (by omega)) (c:=((D.got+1:Nat):Int))) (dl rfl) (JM (JC rfl) (dl rfl) (JM (Jh (o':=6) Un42 rfl ti3 rfl rfl) (dl rfl) (Jg rfl (JJ ti3 rfl rfl rfl (.s (.s (.s (.s (.s (.s (.z))))))) (.s (.s (.s (.s (.z))))) (Je (Jf (Jc (Ja ?_))))))))))))))))
  refine Jg rfl (JJ Ym rfl rfl rfl (.z) (.s (.s (.s (.s (.s (.z)))))) (Je (Jf (Jo ?_))))
  refine ⟨_,[_,_,_,_,_,_,_,_],[],fun Z w hs=>KI hs Un54 rfl rfl (Ji (Ji (Ji (Ji (Ji (Jn)))))) rfl (.nil),?_,fun Z w hs=>((((((((hs.pick (.s (.s (.s (.s (.s (.s (.s (.s (.s (.s (.z)))))))))))).pick (.s (.s (.s (.s (.s (.s (.s (.s (.s (.s (.z)))))))))))).pick (.s (.s (.s (.s (.s (.s (.s (.s (.s (.s (.z)))))))))))).pick (.s (.s (.s (.s (.s (.s (.s (.s (.s (.s (.z)))))))))))).pick (.s (.s (.s (.s (.s (.s (.s (.z))))))))).pick (.s (.s (.s (.s (.s (.s (.s (.z))))))))).pick (.s (.s (.s (.s (.s (.s (.s (.z))))))))).pick (.s (.s (.s (.s (.s (.s (.s (.s (.z)))))))))).out (Sk (Sk (Sk (Sk (Sk (Sk (Sk (Sk (Sd (Sd (Sd (Sr)))))))))))) Tt3⟩
  exact ⟨⟨ok.hr,ok.wt,ok.row,ok.hU,ok.hR,ok.di,ok.us,ok.pl,ok.p0,ok.lm,ok.gp,by show D.got+1≤D.H.ops.length;omega,ok.md,ok.sl⟩,rfl,rfl,rfl⟩
 ·refine Jy rfl rfl (Ju (cs:= [_,_,_,_,_,_,_]) Vi rfl (by first | exact dl rfl | decide) fun b5=> ?_)
  refine ⟨⟨(Sd (Sk (Sd (Sk (Sk (Sd (Sd (Sk (Sk (Sk (Sk (Sr)))))))))))),Mm0⟩,?_⟩
  refine Jy rfl rfl (KE (XH M.h M.m M.cap M.A D.H M.L hr D.got) (.cons rfl (.cons rfl (.nil))) (by first | exact dl rfl | decide) (.s (.s (.z))) (.s (.s (.s (.s (.z))))) (.s (.s (.s (.s (.z))))) (Jl Mm3 (Jl Mm4 Jx)) fun u4_9 Lo fs hres=> ?_)
  obtain ⟨A9,c9,rfl,rfl,rfl⟩:=hres
  rw [YA hg]
  refine ⟨⟨(Sd (Sd (Sd (Sd (Sk (Sk (Sk (Sk (Sk (Sk (Sk (Sr)))))))))))),Mm1⟩,?_⟩
  refine JQ rfl (Jb rfl) (dl rfl) (JQ rfl (Jk (vs:= [_,_]) rfl rfl) (dl rfl) (Y5 rfl (Jk (vs:= [_,_]) rfl rfl) (dl rfl) (JL (J8 rfl rfl (Jq (cs':= [_,_,_,_,_,_,_]) (vs:= [_,_,_,_,_,_,_]) Vi rfl rfl rfl rfl rfl (Nat.le_of_ble_eq_true rfl) (.s (.s (.s (.z)))) (YR rfl (Jd rfl) (dl rfl) (JK (Jf (Jc (Jc (Ja (JM (Jh (o':=0) Un62 rfl JY rfl rfl) (dl rfl) (JM (Jt (vs:= [_,_]) Un46 rfl JY rfl (Ji (Ji (Ji (Jn)))) rfl rfl) (dl rfl) (JM (Jt (vs:= [_,_]) Un46 rfl JY rfl (Ji (Ji (Ji (Ji (Ji (Ji (Jn))))))) rfl rfl) (dl rfl) ?_))))))))))))))
  refine JM (YH rfl rfl (eq46 _ _ _ _)) (dl rfl) (Je (Jf (Jv rfl (by simp [hen.1,hen.2]) (Jp (Jf (Jc (Ja (JM (Jb rfl) (dl rfl) (JM (JC rfl) (dl rfl) (JM (Jh (o':=6) Un42 rfl ti3 rfl rfl) (dl rfl) (JM (Jj Un3 rfl rfl (Ji (Ji (Ji (Ji (Jn))))) rfl) (dl rfl) (JM (JV rfl rfl (wr64 (by omega)) (c:=((D.got+1:Nat):Int))) (dl rfl) (JM (JC rfl) (dl rfl) ?_)))))))))))))
  refine JM (Jh (o':=6) Un42 rfl ti3 rfl rfl) (dl rfl) (Jg rfl (JJ ti3 rfl rfl rfl (.s (.s (.s (.s (.s (.s (.z))))))) (.s (.s (.s (.s (.z))))) (Je (Jf (Jc (Ja (Jg rfl (JJ Ym rfl rfl rfl (.z) (.s (.s (.s (.s (.s (.z)))))) (Je (Jf (Jo ?_)))))))))))
  refine ⟨_,[_,_,_,_,_,_,_,_],[],fun Z w hs=>KI hs Un54 rfl rfl (Ji (Ji (Ji (Ji (Ji (Jn)))))) rfl (.nil),?_,fun Z w hs=>((((((((hs.pick (.s (.s (.s (.s (.s (.s (.s (.s (.s (.s (.z)))))))))))).pick (.s (.s (.s (.s (.s (.s (.s (.s (.s (.s (.z)))))))))))).pick (.s (.s (.s (.s (.s (.s (.s (.s (.s (.s (.z)))))))))))).pick (.s (.s (.s (.s (.s (.s (.s (.s (.s (.s (.z)))))))))))).pick (.s (.s (.s (.s (.s (.s (.z)))))))).pick (.s (.s (.s (.s (.s (.s (.z)))))))).pick (.s (.s (.s (.s (.s (.s (.z)))))))).pick (.s (.s (.s (.s (.s (.s (.s (.s (.z)))))))))).out (Sk (Sk (Sk (Sk (Sk (Sk (Sk (Sk (Sd (Sd (Sd (Sr)))))))))))) Tt3⟩
  exact ⟨⟨ok.hr,ok.wt,ok.row,ok.hU,ok.hR,ok.di,ok.us,ok.pl,ok.p0,ok.lm,ok.gp,by show D.got+1≤D.H.ops.length;omega,ok.md,ok.sl⟩,rfl,rfl,rfl⟩
theorem bd36_0_1Xg17 (x0_:Option Addr) (x1_:Option Addr) (w:World):(Instr.build 36 #[(0, .pointer x0_),(1, .pointer x1_)]).run Tryz.prog w= .ok (.agg #[.pointer x0_, .pointer x1_]) w:=by kernel_rfl
set_option maxRecDepth 10000 in
theorem Zx:Sp Tryz.prog 33 [] [] [] (fun v Lo fs=> ∃d h m b:Nat,v= .pointer (some ⟨d,0,none⟩)∧Lo= [[(d,JA [.pointer (some ⟨h,0,none⟩), .pointer (some ⟨b,0,none⟩)] 36)],hdP h none 0 0 m 0,mpP m [],mkP [],rpP b none] ∧fs= [RdF opD none 0 [],AllF ([] :List MR) nowF,TrF none .nil]):=by
 refine Sp.of (n:=5) ⟨_,Tryz.func33,rfl,rfl,rfl,rfl⟩ (Nat.le_of_ble_eq_true rfl) fun Ps As=>Jc (Ja (Lq (Jd rfl) (Je (Jf (Jc (J9 (A:=TrF none .nil) (fun Z w _=>rfl) (Ja (Jg rfl (Jm (Jb1) (.nil) (by decide) Jx fun u1_0 Lo fs hres=> ?_)))))))))
 obtain ⟨h,m,rfl,rfl,rfl⟩:=hres
 refine Jg rfl (Jm (Jbi) (.nil) (by decide) Jx fun u1_1 Lo fs hres=> ?_)
 obtain ⟨b,rfl,rfl,rfl⟩:=hres
 refine Lq (J0 (.cons rfl (.cons rfl (.nil))) (bd36_0_1Xg17 _ _)) (Jg rfl (J7 (cs:= [_,_]) rfl rfl (by decide) fun b4=>Lq (Jd rfl) (Je (Jf (Jo ?_)))))
 refine ⟨_,[_,_,_,_,_],[_,_,_],fun Z w hs=> .tmp rfl (.nil),?_,fun Z w hs=>(((((hs.pick (.s (.z))).pick (.s (.s (.s (.s (.z)))))).pick (.s (.s (.s (.s (.z)))))).pick (.s (.s (.s (.s (.z)))))).pick (.s (.s (.s (.s (.z)))))).out (Sk (Sk (Sk (Sk (Sk (Sr)))))) (fun _ h=>h)⟩
 exact ⟨b4,h,m,b,rfl,rfl,rfl⟩
def zeroD (u cl ce op:Int):DS:=⟨u,cl,ce,op,⟨[],0⟩,[],0,0,List.replicate 9 0,0,[],[]⟩
theorem HR.zero:HR ⟨[],0⟩ [] where
 perm:=List.Perm.refl _
 ids:=List.nodup_nil
 fit:=fun e he=>by cases he
 wid:=fun e he=>by cases he
 now:=fun e he=>by cases he
 len:=Nat.zero_le _
 tot:=by decide
theorem DkOk.zero {u cl ce op:Int} (hu:1≤u∧u≤cl) (hc:cl≤8) (he:ce≤4096) (ho:op≤1024) (d h m b s:Nat):DkOk ⟨d,h,m,b,s,none,0,none, .nil,[], .slice none 0 0, .slice none 0 0,[],[]⟩ (zeroD u cl ce op):=
 ⟨HR.zero,wnilT,rfl,Row.nil _ _,Row.nil _ _,DI.zero,⟨hu.1,by show u≤8;omega⟩,rfl,fun x hx=>by have:=List.eq_of_mem_replicate hx;omega,⟨he,ho,by show 1≤cl;omega,hc⟩,Nat.zero_le _,Nat.zero_le _,Nat.zero_le _,Nat.zero_le _⟩
theorem bd42_0_1_2_7Xg18 (x0_0:Option Addr) (x0_1:Option Addr) (x1_:Int) (x2_0:Int) (x2_1:Int) (x2_2:Int) (x7_:Option Addr) (w:World):(Instr.build 42 #[(0, .agg #[.pointer x0_0, .pointer x0_1]),(1, .int .i64 x1_),(2, .agg #[.int .i64 x2_0, .int .i64 x2_1, .int .i64 x2_2]),(7, .pointer x7_)]).run Tryz.prog w= .ok (.agg #[.pointer x0_0, .pointer x0_1, .int .i64 x1_, .int .i64 x2_0, .int .i64 x2_1, .int .i64 x2_2, .int .i64 0, .int .i64 0, .int .i64 0, .int .i64 0, .int .i64 0, .int .i64 0, .int .i64 0, .int .i64 0, .int .i64 0, .int .i64 0, .int .i64 0, .int .i64 0, .pointer x7_]) w:=by kernel_rfl
set_option maxRecDepth 10000 in
theorem ZF (u cl ce op:Int) (hu:1≤u∧u≤cl) (hc:cl≤8) (he:1≤ce∧ce≤4096) (ho:1≤op∧op≤1024):Sp Tryz.prog 36 [.int .i64 u, .agg #[.int .i64 cl, .int .i64 ce, .int .i64 op]] [] [] (fun v Lo fs=> ∃M:DM,v= .tuple #[.pointer (some ⟨M.d,0,none⟩), .nilIface] ∧DkOk M (zeroD u cl ce op)∧Lo=KA M (zeroD u cl ce op)∧fs=KV M (zeroD u cl ce op)):=by
 refine Sp.of (n:=39) ⟨_,Tryz.func36,rfl,rfl,rfl,rfl⟩ (Nat.le_of_ble_eq_true rfl) fun Ps As=>Jc (Ja (Jg rfl (J7 (cs:= [_,_,_]) rfl rfl (by decide) fun b3=>Lq (Jd rfl) (Lq (Jd rfl) (Je (Jf (Jc (Jc (Ja (Lq (Jh (o':=0) Un38 rfl ti3 rfl rfl) (Lq (Jj Un3 rfl rfl Jn rfl) (Jg rfl (Jm (YF _ _ _) (.cons rfl (.cons rfl (.cons rfl (.nil)))) (by decide) Jx fun u1_2 Lo fs hres=> ?_)))))))))))))
 obtain ⟨rfl,rfl,rfl⟩:=hres
 refine Lq (KK rfl) (Lq (Jb rfl) (Lg rfl rfl rfl (by rw [decide_eq_true (by omega)];rfl) (Jh (o':=1) Un38 rfl ti3 rfl rfl) (Lg rfl rfl rfl (by rw [decide_eq_true (by omega)];rfl) (Jj Un3 rfl rfl Jn rfl) (Kv rfl rfl rfl (by rw [decide_eq_true (by omega)];rfl) (Jm (YF _ _ _) (.cons rfl (.cons rfl (.cons rfl (.nil)))) (by decide) Jx fun u1_7 Lo fs hres=> ?_)))))
 obtain ⟨rfl,rfl,rfl⟩:=hres
 refine Lg rfl rfl rfl (by rw [decide_eq_true (by omega)];rfl) (KK rfl) (Lq (JH rfl (by rw [decide_eq_true (by omega)];rfl) rfl) (Lq (Jb rfl) (Lg rfl rfl rfl (by rw [decide_eq_true (by omega)];rfl) (Jh (o':=2) Un38 rfl ti3 rfl rfl) (Lg rfl rfl rfl (by rw [decide_eq_true (by omega)];rfl) (Jj Un3 rfl rfl Jn rfl) (Kv rfl rfl rfl (by rw [decide_eq_true (by omega)];rfl) (Jm (YF _ _ _) (.cons rfl (.cons rfl (.cons rfl (.nil)))) (by decide) Jx fun u1_13 Lo fs hres=> ?_))))))
 obtain ⟨rfl,rfl,rfl⟩:=hres
 refine Lg rfl rfl rfl (by rw [decide_eq_true (by omega)];rfl) (KK rfl) (Lq (JH rfl (by rw [decide_eq_true (by omega)];rfl) rfl) (Je (Jf (Jv rfl (by rw [decide_eq_true (by omega)];rfl) (Jp (Jf (Jc (Jc (Ja (Lq (Jb rfl) (Lq (Jh (o':=0) Un38 rfl ti3 rfl rfl) (Lq (Jj Un3 rfl rfl Jn rfl) (Jg rfl (Jm (YF _ _ _) (.cons rfl (.cons rfl (.cons rfl (.nil)))) (by decide) Jx fun u3_3 Lo fs hres=> ?_))))))))))))))
 obtain ⟨rfl,rfl,rfl⟩:=hres
 refine Lq (KK rfl) (Je (Jf (Jv rfl (by rw [decide_eq_true (by omega)];rfl) (Jp (Jf (Jc (KD (KD (JI _ _ [] (.c 3 0 (.c 4 0 (.c 0 2 (.c 1 0 (.b (.c 2 2 (.c 5 2 (.c 6 0 (.c 7 2 (.c 8 0 (.c 9 0 .nil)))))) (.c 5 2 (.c 2 2 (.c 6 0 (.c 7 2 (.c 8 0 (.c 9 0 .nil))))))))))) mixed (fun _ _ _ _ h=>h) (Sk (Sk (Sk (Sr)))) (fun _ h=>h) (by kernel_rfl) (by decide) fun ws Z0=>Qe rfl (Jb rfl) (Qe rfl (Jt (vs:= [_,_,_]) Un38 rfl GX rfl (Ji (Ji (Jn))) rfl rfl) (Jy rfl rfl (Jm (Zx) (.nil) (by decide) Jx fun u5_0 Lo fs hres=> ?_))))))))))))
 obtain ⟨r,h,m,b,rfl,rfl,rfl⟩:=hres
 refine ⟨⟨(Sd (Sd (Sd (Sd (Sd (Sk (Sk (Sk (Sr))))))))),Mm3⟩,?_⟩
 refine Qe rfl (JC rfl) (Yd ?_ ?_)
 ·refine Jy rfl rfl (Vy (Jt (vs:= [_,_]) Un36 rfl Yn rfl Jn rfl rfl) (by decide) ?_)
  refine ⟨⟨(Sd (Sd (Sd (Sd (Sd (Sk (Sk (Sk (Sr))))))))),Mm3⟩,?_⟩
  refine Jy rfl rfl (Jm (Hm) (.nil) (by decide) Jx fun u5_5 Lo fs hres=> ?_)
  obtain ⟨s,rfl,rfl,rfl⟩:=hres
  refine ⟨⟨(Sd (Sd (Sd (Sd (Sd (Sd (Sk (Sk (Sk (Sr)))))))))),Mm3⟩,?_⟩
  refine Qe rfl (J0 (.cons rfl (.cons rfl (.cons rfl (.cons rfl (.nil))))) (bd42_0_1_2_7Xg18 _ _ _ _ _ _ _)) (Jy rfl rfl (J7 (cs:= [_,_,_,_,_,_,_,_,_,_,_,_,_,_,_,_,_,_,_]) rfl rfl (by decide) fun b38=> ?_))
  refine ⟨⟨(Sd (Sd (Sd (Sd (Sd (Sd (Sd (Sk (Sk (Sk (Sr))))))))))),Mm3⟩,?_⟩
  refine Qe rfl (Jd rfl) (Qe rfl (Jd rfl) (JL (JK (Jf (Jo ?_)))))
  refine ⟨_,[_,_,_,_,_,_,_,_],[_,_,_],fun Z w hs=> .tmp rfl (.tmp rfl (.nil)),?_,fun Z w hs=>((((((((hs.pick (.s (.s (.s (.s (.s (.s (.s (.s (.z)))))))))).pick (.s (.s (.s (.s (.s (.s (.s (.s (.z)))))))))).pick (.s (.s (.s (.z))))).pick (.s (.s (.s (.s (.s (.s (.s (.s (.z)))))))))).pick (.s (.s (.s (.s (.s (.s (.s (.s (.z)))))))))).pick (.s (.s (.s (.s (.s (.s (.s (.s (.z)))))))))).pick (.s (.s (.s (.s (.s (.s (.s (.s (.z)))))))))).pick (.s (.s (.s (.s (.s (.s (.s (.z))))))))).out (Sk (Sk (Sk (Sk (Sk (Sk (Sk (Sk (Sd (Sd (Sr))))))))))) (Jl Mm0 (Jl Mm1 (Jl Mm2 Tt4)))⟩
  exact ⟨⟨b38,h,m,b,s,none,0,none, .nil,[], .slice none 0 0, .slice none 0 0,[],[]⟩,rfl,DkOk.zero hu hc he.2 ho.2 _ _ _ _ _,rfl,rfl⟩
 ·refine Jy rfl rfl (Jm (Hm) (.nil) (by decide) Jx fun u5_5 Lo fs hres=> ?_)
  obtain ⟨s,rfl,rfl,rfl⟩:=hres
  refine ⟨⟨(Sd (Sd (Sd (Sd (Sd (Sd (Sk (Sk (Sk (Sr)))))))))),Mm3⟩,?_⟩
  refine Jy rfl rfl (Vy (Jt (vs:= [_,_]) Un36 rfl Yn rfl (Ji (Jn)) rfl rfl) (by decide) ?_)
  refine ⟨⟨(Sd (Sd (Sd (Sd (Sd (Sd (Sk (Sk (Sk (Sr)))))))))),Mm3⟩,?_⟩
  refine Qe rfl (J0 (.cons rfl (.cons rfl (.cons rfl (.cons rfl (.nil))))) (bd42_0_1_2_7Xg18 _ _ _ _ _ _ _)) (Jy rfl rfl (J7 (cs:= [_,_,_,_,_,_,_,_,_,_,_,_,_,_,_,_,_,_,_]) rfl rfl (by decide) fun b38=> ?_))
  refine ⟨⟨(Sd (Sd (Sd (Sd (Sd (Sd (Sd (Sk (Sk (Sk (Sr))))))))))),Mm3⟩,?_⟩
  refine Qe rfl (Jd rfl) (Qe rfl (Jd rfl) (JL (JK (Jf (Jo ?_)))))
  refine ⟨_,[_,_,_,_,_,_,_,_],[_,_,_],fun Z w hs=> .tmp rfl (.tmp rfl (.nil)),?_,fun Z w hs=>((((((((hs.pick (.s (.s (.s (.s (.s (.s (.s (.s (.z)))))))))).pick (.s (.s (.s (.s (.s (.s (.s (.s (.z)))))))))).pick (.s (.s (.s (.z))))).pick (.s (.s (.s (.s (.s (.s (.s (.s (.z)))))))))).pick (.s (.s (.s (.s (.s (.s (.s (.s (.z)))))))))).pick (.s (.s (.s (.s (.s (.s (.s (.s (.z)))))))))).pick (.s (.s (.s (.s (.s (.s (.s (.s (.z)))))))))).pick (.s (.s (.s (.s (.s (.s (.s (.z))))))))).out (Sk (Sk (Sk (Sk (Sk (Sk (Sk (Sk (Sd (Sd (Sr))))))))))) (Jl Mm0 (Jl Mm1 (Jl Mm2 Tt4)))⟩
  exact ⟨⟨b38,h,m,b,s,none,0,none, .nil,[], .slice none 0 0, .slice none 0 0,[],[]⟩,rfl,DkOk.zero hu hc he.2 ho.2 _ _ _ _ _,rfl,rfl⟩
def byC (c:Ce):List (UInt8×Int):=(bytesU (encI c.1)).map fun b=>(b,c.2)
def byR (X:List Ce):List (UInt8×Int):=X.flatMap byC
def ofRun (r:Rn):List (UInt8×Int):=r.1.data.toList.map fun b=>(b,r.2)
def spread (s:RS):List (UInt8×Int):=s.rs.flatMap ofRun++(bytesU s.bs).map fun b=>(b,s.hid)
theorem spread_flush (s:RS):spread (flushF s)=spread s:=by
 unfold flushF
 split
 ·rfl
 ·unfold spread
  simp [List.flatMap_append,ofRun,strOf,bytesU]
theorem spread_turn (s:RS) (hid:Int):spread (turnR s hid)=spread s:=by
 unfold turnR
 split
 ·rfl
 ·rw [←spread_flush s]
  unfold spread
  simp only [flush_bs];simp [bytesU]
theorem spread_cell (s:RS) (c:Ce):spread (cellF s c)=spread s++byC c:=by
 show spread { turnR s c.2 with bs:=(turnR s c.2).bs++ [c.1].flatMap encI } =_
 rw [←spread_turn s c.2]
 unfold spread
 have h:=turnR_hid s c.2
 simp [bytesU,byC,h]
theorem spread_row (X:List Ce): ∀s:RS,spread (X.foldl cellF s)=spread s++byR X:=by
 induction X with
 | nil=>intro s;simp [byR]
 | cons c X ih=>intro s;rw [List.foldl_cons,ih,spread_cell];simp [byR]
theorem runs_by (X:List Ce):(runsF X).flatMap ofRun=byR X:=by
 have h1:=spread_flush (rowF X)
 have h2:=spread_row X ⟨[],0,[]⟩
 have h3:spread (flushF (rowF X))=(runsF X).flatMap ofRun:=by
  unfold spread runsF;rw [flush_bs];simp [bytesU]
 rw [←h3,h1]
 unfold rowF
 rw [h2];simp [spread,bytesU]
theorem by_inj: ∀ {X Y:List Ce},X.map (·.1)=Y.map (·.1)→byR X=byR Y→X=Y
 | [],[],_,_=>rfl
 | [],y::Y,h,_=>by simp at h
 | x::X,[],h,_=>by simp at h
 | x::X,y::Y,h,e=>by
  simp only [List.map_cons,List.cons.injEq] at h
  have hl:=(Vt x.1).1
  unfold byR at e
  rw [List.flatMap_cons,List.flatMap_cons] at e
  have h1:(byC x).length=(byC y).length:=by unfold byC bytesU;simp [h.1]
  obtain ⟨e1,e2⟩:=List.append_inj e h1
  have h2:x.2=y.2:=by
   unfold byC bytesU at e1
   rw [h.1] at e1 hl
   cases hq:encI y.1 with
   | nil=>rw [hq] at hl;simp at hl
   | cons a r=>rw [hq] at e1;simp at e1;exact e1.1
  rw [by_inj h.2 e2,Prod.ext h.1 h2]
theorem runs_inj {X Y:List Ce} (h:X.map (·.1)=Y.map (·.1)) (e:runsF X=runsF Y):X=Y:=by
 refine by_inj h ?_
 rw [←runs_by,←runs_by,e]
theorem turn_apply (e:Ent) (on:Bool) (X:List Ce):JS (turnF e on) X=KL e.now (if (decide (e.op.kind=2)==on)=true then 1 else -1) X:=by
 unfold JS turnF
 dsimp only
 by_cases h:(decide (e.op.kind=2)==on)=true
 ·simp only [h,if_true];rfl
 ·simp only [h];rfl
theorem ZN {k:Int} {rs:List Rg} {X:List Ce} (h:Pls X.length rs):(KL rs k X).length=X.length:=(KR (k:=k) rs 0 X (Int.le_refl _) h.norm h.below).1
theorem Ha {k:Int} {rs:List Rg} {X:List Ce} (h:Pls X.length rs):(KL rs k X).map (·.1)=X.map (·.1):=by
 apply List.ext_getElem?
 intro q
 rw [List.getElem?_map,List.getElem?_map,(KR (k:=k) rs 0 X (Int.le_refl _) h.norm h.below).2 q,Option.map_map]
 congr 1;funext c;simp only [Function.comp];split<;>rfl
theorem GI {k:Int} {rs:List Rg} {X:List Ce} (h:Pls X.length rs):KL rs (-k) (KL rs k X)=X:=by
 have h2:Pls (KL rs k X).length rs:=by rw [ZN h];exact h
 apply List.ext_getElem?
 intro q
 rw [(KR (k:= -k) rs 0 _ (Int.le_refl _) h2.norm h2.below).2 q,(KR (k:=k) rs 0 X (Int.le_refl _) h.norm h.below).2 q,Option.map_map]
 cases X[q]? with
 | none=>rfl
 | some c=>
  simp only [Option.map_some,Function.comp]
  by_cases hb:inRb q rs=true
  ·simp only [hb,if_true];rw [Int.add_neg_cancel_right]
  ·simp only [hb];rfl
theorem Jau {k:Int} {rs:List Rg} {X:List Ce} (h:Pls X.length rs) (hk:k≠0) (hne:rs≠ []):KL rs k X≠X:=by
 intro e
 cases rs with
 | nil=>exact hne rfl
 | cons g rs=>
  have h1:=h.norm.1
  have h2:=h.norm.2.1
  have h3:=h.below g List.mem_cons_self
  have hq:g.lo.toNat<X.length:=by omega
  have h4:=(KR (k:=k) (g::rs) 0 X (Int.le_refl _) h.norm h.below).2 g.lo.toNat
  rw [e,List.getElem?_eq_getElem hq] at h4
  have h5:inRb (g.lo.toNat:Nat) (g::rs)=true:=K1.2 (KC.2 (.inl ⟨by omega,by omega⟩))
  rw [h5] at h4
  simp only [Option.map_some,if_true] at h4
  have:=congrArg (·.2) (Option.some.inj h4)
  simp only at this
  omega
theorem Made.edit {n:Nat} {H:Hist} {X:List Ce} (h:Made n H X):n≤1000→n=0∨ ∃x∈kindsOf H.ents,x≠2:=by
 induction h with
 | zero=>exact fun _=> .inl rfl
 | @step n H X i o h g ih=>
  intro hn
  obtain ⟨h1,h2,h3⟩:=h.inv (by omega)
  obtain ⟨es,nw,eff,p⟩:=put_good h1 g
  have hks:kindsOf (putF H i o).1.ents=insAt (kindsOf H.ents) i (kindN o):=p.noted kindN (fun a b hs=>by unfold kindN;rw [hs.kind]) h1 g
  refine .inr ?_
  have hm: ∀x,x=kindN o∨x∈kindsOf H.ents→x∈kindsOf (putF H i o).1.ents:=fun x hx=>by
   rw [hks];unfold insAt
   rw [List.mem_append,List.mem_cons]
   rcases hx with hx | hx
   ·exact .inr (.inl hx)
   ·rw [←List.take_append_drop i (kindsOf H.ents),List.mem_append] at hx
    exact hx.imp id .inr
  by_cases hk:o.kind=4
  ·obtain ⟨k,hk1,hk2,e,he,hek⟩:=g.target hk
   refine ⟨kindN e.op,hm _ (.inr (List.mem_map.2 ⟨e,List.mem_of_getElem? he,rfl⟩)),?_⟩
   unfold kindN;rw [if_neg hek];split<;>decide
  ·refine ⟨kindN o,hm _ (.inl rfl),?_⟩
   unfold kindN;rw [if_neg hk];split<;>decide
def turnO (x tc tn:Int) (on:Bool):GOp:= { zeroOp with c:=8,n:=x+1,kind:=4,tc:=tc,tn:=tn,on:=on }
theorem HI {N:Int} {n:Nat} {H:Hist} {X:List Ce} {nx:List Int} (hV:VI N n H X nx) (hN:N≤1000) {j:Nat} {e1:Ent} (hj:H.ents[j]? =some e1) (hk:e1.op.kind≠4) {x:Int} (hx:nx[8]? =some x):
  Good H n (turnO x e1.op.c e1.op.n e1.off)∧ ∃H2,Tk H X n n (turnO x e1.op.c e1.op.n e1.off) H2 (turnF e1 e1.off)∧H2.ents[j]? =some (offE e1 (!e1.off)):=by
 have hjl:j<H.ents.length:=by
  rcases Nat.lt_or_ge j H.ents.length with h | h
  ·exact h
  ·rw [List.getElem?_eq_none h] at hj;cases hj
 have hje:H.ents[j] =e1:=by rw [List.getElem?_eq_getElem hjl] at hj;exact Option.some.inj hj
 have hx0:=hV.nx0 x (List.mem_of_getElem? hx)
 have hlen:=hV.len
 have hfr:JZ H.ents 8 (x+1)=none:=hV.fresh (c:=8) hx (by omega) (by omega)
 have hg:Good H n (turnO x e1.op.c e1.op.n e1.off):=by
  have:=good_status hV (Nat.le_refl n) hfr (by unfold rightF;simp;omega) hjl (by omega) (by rw [hje];exact hk) e1.off
  rw [hje] at this;exact this
 obtain ⟨H2,eff,T⟩:=take_facts hV hg
 obtain ⟨es,nw,eff',p⟩:=put_good hV.hv hg
 have hst:=p.status rfl
 have hwh:JZ H.ents e1.op.c e1.op.n=some j:=by
  have:=YZ hV.hv.ids hjl
  rwa [hje] at this
 have htd:turnedF H n (turnO x e1.op.c e1.op.n e1.off)=(H.ents.set j (offE e1 (!e1.off)),turnF e1 e1.off):=by
  unfold turnedF
  rw [List.drop_of_length_le (by omega)]
  show (if Ye [] e1.op.c e1.op.n=true then _ else match JZ H.ents e1.op.c e1.op.n with | none=>_ | some k=>_)=_
  rw [hwh]
  simp [Ye,hj,turnO]
 have hput:=p.put
 rw [T.put] at hput
 have e1':H2=_:=congrArg (·.1) hput
 have e2':eff=eff':=congrArg (·.2.1) hput
 have e3:eff=turnF e1 e1.off:=by rw [e2',hst.2.2,htd]
 subst e3
 refine ⟨hg,H2,T,?_⟩
 rw [e1']
 show (newEnts n _ nw es _)[j]? =_
 unfold newEnts
 have hes:es=H.ents.set j (offE e1 (!e1.off)):=by rw [hst.1,htd]
 rw [hes,List.getElem?_append_left (by rw [List.length_take,List.length_set];omega),List.getElem?_take,if_pos (by omega),List.getElem?_set_self hjl]
structure TuI (n j:Nat) (e:Ent) (X:List Ce) (kk:Nat) (H1:Hist) (X1:List Ce) (nx1:List Int):Prop where
 le:kk≤2
 vi:VI ((n+kk:Nat):Int) (n+kk) H1 X1 nx1
 ent: ∃e1,H1.ents[j]? =some e1∧e1.op.c=e.op.c∧e1.op.n=e.op.n∧e1.op.kind=e.op.kind∧e1.now=e.now∧e1.off=(if kk=1 then !e.off else e.off)
 row:X1=if kk=1 then JS (turnF e e.off) X else X
structure TuS (n j:Nat) (e:Ent) (en:GEn) (X:List Ce) (kk:Nat) (H1:Hist) (X1:List Ce) (nx1:List Int) (x:Int) (H2:Hist) (eff:GOp):Prop where
 hx:nx1[8]? =some x
 xb:0≤x∧x≤100
 good:Good H1 H1.ents.length (turnO x e.op.c e.op.n (en.on==((kk:Int)==1)))
 tk:Tk H1 X1 (n+kk) H1.ents.length (turnO x e.op.c e.op.n (en.on==((kk:Int)==1))) H2 eff
 rs:eff.rs=e.now
 k0:eff.kind≠0
 kd:(eff.kind==(turnF e e.off).kind)=((kk:Int)==0)
 en2: ∃e2,H2.ents[j]? =some e2∧(entE e2).on=(en.on==((kk:Int)==1))
 runs:decide (runsF (JS eff X1)=runsF X)=((kk:Int)==1)
 next:TuI n j e X (kk+1) H2 (JS eff X1) (nxF nx1 8 (x+1))
theorem EN {e e1:Ent} (hk:e1.op.kind=e.op.kind) (hn:e1.now=e.now) (on:Bool):turnF e1 on=turnF e on:=by unfold turnF;rw [hk,hn]
theorem Hi (e:Ent) (on:Bool):(turnF e on).kind=2∨(turnF e on).kind=3:=by unfold turnF;dsimp only;split<;>simp
theorem HJ (e:Ent) (on:Bool):((turnF e (!on)).kind==(turnF e on).kind)=false:=by
 unfold turnF;dsimp only
 cases decide (e.op.kind=2)<;>cases on<;>decide
theorem TuI.step {n j:Nat} {e:Ent} {en:GEn} {X:List Ce} {kk:Nat} {H1:Hist} {X1:List Ce} {nx1:List Int} (h:TuI n j e X kk H1 X1 nx1) (hkk:kk<2) (hn:n≤20) (hk:e.op.kind≠4) (hp:Pls X.length e.now) (hne:e.now≠ []) (hon:en.on= !e.off): ∃x H2 eff,TuS n j e en X kk H1 X1 nx1 x H2 eff:=by
 obtain ⟨e1,g1,g2,g3,g4,g5,g6⟩:=h.ent
 have hnl:=h.vi.nxl
 obtain ⟨x,hx⟩: ∃x,nx1[8]? =some x:=⟨_,List.getElem?_eq_getElem (by omega)⟩
 have hx0:=h.vi.nx0 x (List.mem_of_getElem? hx)
 obtain ⟨t1,H2,t2,t3⟩:=HI h.vi (by omega) g1 (by rw [g4];exact hk) hx
 have hne1:offE e1 (!e1.off)=⟨e1.op,e1.now, !e1.off⟩:=rfl
 have e2on:(entE (offE e1 (!e1.off))).on=e1.off:=by
  unfold entE
  rw [if_neg (show (offE e1 (!e1.off)).op.kind≠4 by show e1.op.kind≠4;rw [g4];exact hk)]
  show (!(!e1.off))=_
  simp
 have hoff:e1.off=(en.on==((kk:Int)==1)):=by
  rw [g6,hon]
  have:kk=0∨kk=1:=by omega
  rcases this with rfl | rfl<;>cases e.off<;>rfl
 have hvi:=h.vi.step t1 (by omega) (N':=((n+(kk+1):Nat):Int)) (by omega) (by show x+1≤_;omega)
 rw [t2.put] at hvi
 have hT:=EN g4 g5 e1.off
 have hrw: ∀(k:Int) (Y:List Ce),Pls Y.length e.now→(KL e.now k Y).map (·.1)=Y.map (·.1):=fun k Y hY=>Ha hY
 have hkd:=Hi e e1.off
 refine ⟨x,H2,turnF e1 e1.off,hx,by omega,by rw [h.vi.len,←g2,←g3,←hoff];exact t1,by rw [h.vi.len,←g2,←g3,←hoff];exact t2,g5,by rw [hT];omega,?_,⟨_,t3,by rw [e2on];exact hoff⟩,?_,?_⟩
 ·rw [hT,g6]
  have:kk=0∨kk=1:=by omega
  rcases this with rfl | rfl
  ·simp
  ·simp only [if_pos];rw [HJ];rfl
 ·rw [hT,h.row,g6]
  have:kk=0∨kk=1:=by omega
  rcases this with rfl | rfl
  ·simp only [show ¬((0:Nat)=1) by decide,if_false]
   rw [turn_apply]
   refine (decide_eq_false fun hh=> ?_).trans rfl
   refine Jau hp ?_ hne (runs_inj (hrw _ _ hp) hh)
   split<;>decide
  ·simp only [if_pos]
   rw [turn_apply,turn_apply]
   refine (decide_eq_true ?_).trans rfl
   have:(if (decide (e.op.kind=2)== !e.off)=true then (1:Int) else -1)= -(if (decide (e.op.kind=2)==e.off)=true then (1:Int) else -1):=by
    cases decide (e.op.kind=2)<;>cases e.off<;>decide
   rw [this,GI hp]
 ·refine ⟨by omega,hvi,⟨_,t3,g2,g3,g4,g5,?_⟩,?_⟩
  ·show (!e1.off)=_
   rw [g6]
   have:kk=0∨kk=1:=by omega
   rcases this with rfl | rfl
   ·rfl
   ·cases e.off<;>rfl
  ·rw [hT,h.row,g6]
   have:kk=0∨kk=1:=by omega
   rcases this with rfl | rfl
   ·rfl
   ·simp only [if_pos,show ¬((1:Nat)+1=1) by decide,if_false]
    rw [turn_apply,turn_apply]
    have:(if (decide (e.op.kind=2)== !e.off)=true then (1:Int) else -1)= -(if (decide (e.op.kind=2)==e.off)=true then (1:Int) else -1):=by
     cases decide (e.op.kind=2)<;>cases e.off<;>decide
    rw [this,GI hp]
theorem KQ (H:Hist):H.ops.length=H.ents.length:=by unfold Hist.ops;rw [List.length_map]
theorem drop_ops (H:Hist):H.ops.drop H.ents.length= [] :=List.drop_of_length_le (by rw [KQ];exact Nat.le_refl _)
theorem H9 (xs:List GOp):zipE xs [] = [] :=by cases xs<;>rfl
theorem newEnts_end {H:Hist} {o:GOp} {nw:List Rg} {es:List Ent} {later:List GOp} (h:es.length=H.ents.length):newEnts H.ents.length o nw es later=es++ [⟨o,nw,false⟩] :=by
 unfold newEnts
 rw [List.take_of_length_le (by omega),List.drop_of_length_le (by omega),H9]
theorem end_ins {H:Hist} (hv:HV H) {o:GOp} (g:Good H H.ents.length o) (hk:o.kind=1):(putF H H.ents.length o).2.1= { effF o with at_:=o.at_,text:=o.text } ∧(putF H H.ents.length o).1.ents=H.ents.map (shiftE o.at_ (Jw o))++ [⟨o,[⟨o.at_,o.at_+Jw o⟩],false⟩] :=by
 obtain ⟨es,nw,eff,p⟩:=put_good hv g
 have h1:=p.ins hk
 rw [drop_ops] at h1
 have hp:=p.put
 rw [hp]
 refine ⟨h1.2.2,?_⟩
 show newEnts _ _ _ _ _=_
 rw [newEnts_end (p.len g),h1.1,h1.2.1]
 rfl
theorem end_hide {H:Hist} (hv:HV H) {o:GOp} (g:Good H H.ents.length o) (hk:o.kind=2):(putF H H.ents.length o).2.1= { effF o with rs:=o.rs } ∧(putF H H.ents.length o).1.ents=H.ents++ [⟨o,o.rs,false⟩] :=by
 obtain ⟨es,nw,eff,p⟩:=put_good hv g
 have h1:=p.hide hk
 rw [drop_ops] at h1
 have hp:=p.put
 rw [hp]
 refine ⟨h1.2.2,?_⟩
 show newEnts _ _ _ _ _=_
 rw [newEnts_end (p.len g),h1.1,h1.2.1]
 rfl
theorem end_stat {H:Hist} (hv:HV H) {o:GOp} (g:Good H H.ents.length o) (hk:o.kind=4) {k:Nat} (hkl:k<H.ents.length) (hw:JZ H.ents o.tc o.tn=some k) (hoff:H.ents[k].off=o.on):
  (putF H H.ents.length o).2.1=turnF H.ents[k] o.on∧(putF H H.ents.length o).1.ents=H.ents.set k (offE H.ents[k] (!o.on))++ [⟨o,[],false⟩] :=by
 obtain ⟨es,nw,eff,p⟩:=put_good hv g
 have h1:=p.status hk
 have htd:turnedF H H.ents.length o=(H.ents.set k (offE H.ents[k] (!o.on)),turnF H.ents[k] o.on):=by
  unfold turnedF
  rw [List.drop_of_length_le (Nat.le_refl _),hw]
  have e:(H.ents[k].off= !o.on)=False:=by rw [hoff];cases o.on<;>simp
  simp only [Ye,List.any_nil,Bool.false_eq_true,if_false,List.getElem?_eq_getElem hkl,e]
 rw [htd] at h1
 have hp:=p.put
 rw [hp]
 refine ⟨h1.2.2,?_⟩
 show newEnts _ _ _ _ _=_
 rw [newEnts_end (p.len g),h1.1,h1.2.1]
theorem put_total {H:Hist} (hv:HV H) {i:Nat} {o:GOp} (g:Good H i o):(putF H i o).1.total=H.total+Jw o:=by
 obtain ⟨es,nw,eff,p⟩:=put_good hv g
 rw [p.put]
theorem Good.mkd {D:DS} {o:GOp} (hdi:DI D.H.ops.length D.H D.X) (g:Good D.H D.H.ops.length o) (hn:D.H.ops.length<900):MkD D o:=by
 obtain ⟨H2,eff,T⟩:=hdi.take g
 have e1:mkH D o=H2:=by unfold mkH;rw [T.put]
 have e2:mkE D o=eff:=by unfold mkE;rw [T.put]
 have hd:=T.next hn
 have h0:=hdi.row
 have h1:=hd.row
 have h2:=put_total hdi.hv g
 have e3:(putF D.H (D.H.ops.length:Nat) o).1=H2:=e1
 rw [e3] at h2
 have hw:=g.right.width
 have ho:=hdi.ops g
 rw [e3,List.take_length,List.drop_length,GG] at ho
 exact ⟨by rw [e1,e2];exact T,by rw [e1,ho];rfl,by rw [e2];omega,by rw [e1,e2];exact hd⟩
theorem Good.tad {D:DS} {o:GOp} (hdi:DI D.H.ops.length D.H D.X) (g:Good D.H D.got o) (hn:D.H.ops.length<900):TaD D o:=by
 obtain ⟨H2,eff,T⟩:=hdi.take g
 have e1:(putF D.H D.got o).1=H2:=by rw [T.put]
 have e2:(putF D.H D.got o).2.1=eff:=by rw [T.put]
 have hd:=T.next hn
 have h0:=hdi.row
 have h1:=hd.row
 have h2:=put_total hdi.hv g
 rw [e1] at h2
 have hw:=g.right.width
 refine ⟨by rw [e1,e2];exact T,by rw [e1,KQ,T.len],by rw [e2];omega,fun hk=> ?_,⟨hw.1,hw.2.1⟩,by rw [e1,e2];exact hd⟩
 obtain ⟨es,nw,eff',p⟩:=put_good hdi.hv g
 have hp:=p.put
 rw [hp] at hk ⊢
 show Jw eff'=Jw o
 have hk':eff'.kind=1:=hk
 rcases g.right.kind with h | h | h
 ·rw [(p.ins h).2.2]
  unfold Jw effF
  simp only [h]
 ·rw [(p.hide h).2.2] at hk'
  exfalso
  have:o.kind=1:=hk'
  omega
 ·rw [(p.status h).2.2] at hk'
  exfalso
  rcases turned_cases D.H D.got o with e | ⟨k,e,_,_,_,_,h5⟩
  ·rw [e] at hk';exact absurd (show (0:Int)=1 from hk') (by decide)
  ·rw [h5] at hk'
   rcases Hi e o.on with h | h
   ·rw [show (turnF e o.on).kind=1 from hk'] at h;exact absurd h (by decide)
   ·rw [show (turnF e o.on).kind=1 from hk'] at h;exact absurd h (by decide)
structure DV (D:DS):Prop where
 us:1≤D.u∧D.u≤8
 own: ∀o∈D.H.ops,o.c=D.u→o.n≤D.made
 sid: ∀x∈D.U++D.R,x.2≤D.made
 pb: ∀x∈D.put,0≤x∧x≤5*D.H.ops.length
 wb: ∀o∈D.H.ops,Jw o≤5
 di:DI D.H.ops.length D.H D.X
 pl:D.put.length=9
theorem Hl: ∀ {l:List GOp},(∀o∈l,Jw o≤5)→sumO l≤5*l.length
 | [],_=>by simp [sumO]
 | o::l,h=>by
  have h1:=h o List.mem_cons_self
  have h2:=Hl fun x hx=>h x (List.mem_cons_of_mem _ hx)
  simp only [sumO,List.length_cons];omega
theorem DV.total {D:DS} (h:DV D):D.H.total≤5*D.H.ops.length:=by rw [h.di.hv.tot];exact Hl h.wb
theorem before_all (H:Hist) (hv:HV H):KN H H.ops.length=H.total:=by
 rw [before_ops,List.take_length,hv.tot]
theorem DV.fresh {D:DS} (h:DV D):JZ D.H.ents D.u ((D.made:Int)+1)=none:=by
 cases hw:JZ D.H.ents D.u ((D.made:Int)+1) with
 | none=>rfl
 | some j=>
  obtain ⟨hj,h1,h2⟩:=KB hw
  have:=h.own D.H.ents[j].op (List.mem_map.2 ⟨_,List.getElem_mem hj,rfl⟩) h1
  omega
theorem DV.idr {D:DS} (h:DV D) (hm:D.made<1024):rightF D.u ((D.made:Int)+1)=true:=by
 have:=h.us
 unfold rightF;simp;omega
theorem DV.ins {D:DS} (h:DV D) (hm:D.made<1024) (hn:D.H.ops.length<900) {k:Nat} (hk:k≤D.X.length) {text:ByteArray} (hu:(utF text).2.2=0) (hu1:1≤(utF text).1∧(utF text).1≤256):Good D.H D.H.ops.length (insO D k text):=by
 have ht:=h.total
 have hr:=h.di.row
 have h0:=h.di.tot0
 refine ⟨by rw [KQ];exact Nat.le_refl _,⟨?_, .inl rfl⟩,h.fresh,h.idr hm,fun e=>(by cases e),?_⟩
 ·rw [before_all _ h.di.hv]
  exact (check_ins rfl (by omega)).2 ⟨good_head (by show 1≤(1:Int)∧(1:Int)≤4;omega) (h.idr hm) (by simp [extraF,insO,zeroOp]),Yu.2 ⟨hu,hu1,⟨by show 0≤(k:Int);omega,by show (k:Int)≤_;omega⟩,by show D.H.total+(utF text).1≤_;omega⟩⟩
 ·have:Jw (insO D k text)=(utF text).1:=by unfold Jw;rw [if_pos (show (insO D k text).kind=1 from rfl)];rfl
  rw [this];omega
theorem DV.hide {D:DS} (h:DV D) (hm:D.made<1024) (hn:D.H.ops.length<900) {rs:List Rg} (hp:Pls D.X.length rs) (hne:rs≠ []):Good D.H D.H.ops.length (hideO D rs):=by
 have ht:=h.total
 have hr:=h.di.row
 have h0:=h.di.tot0
 rw [hr] at hp
 refine ⟨by rw [KQ];exact Nat.le_refl _,⟨?_, .inr (.inl rfl)⟩,h.fresh,h.idr hm,fun e=>(by cases e),?_⟩
 ·rw [before_all _ h.di.hv]
  exact (check_cov (.inl rfl) (by omega)).2 ⟨good_head (by show 1≤(2:Int)∧(2:Int)≤4;omega) (h.idr hm) (by simp [extraF,hideO,zeroOp,emptyB]),(YN (by omega)).2 ⟨hne,hp⟩⟩
 ·have:Jw (hideO D rs)=0:=by unfold Jw;rw [if_neg (show ¬(hideO D rs).kind=1 by show ¬(2:Int)=1;decide)]
  rw [this];omega
theorem DV.stat {D:DS} (h:DV D) (hm:D.made<1024) (hn:D.H.ops.length<900) {i0 i1:Int} {k:Nat} (hw:JZ D.H.ents i0 i1=some k) (hk:k<D.H.ents.length) (hk4:D.H.ents[k].op.kind≠4) (on:Bool):Good D.H D.H.ops.length (statO D (i0,i1) on):=by
 have ht:=h.total
 have hr:=h.di.row
 have h0:=h.di.tot0
 have hne: ¬(D.H.ents[k].op.c=D.u∧D.H.ents[k].op.n=(D.made:Int)+1):=K2 h.fresh _ (List.getElem_mem hk)
 obtain ⟨_,g1,g2⟩:=KB hw
 refine ⟨by rw [KQ];exact Nat.le_refl _,⟨?_, .inr (.inr rfl)⟩,h.fresh,h.idr hm,fun _=>⟨k,hw,by rw [KQ];exact hk,_,List.getElem?_eq_getElem hk,hk4⟩,?_⟩
 ·rw [before_all _ h.di.hv]
  have hid:=h.di.hv.idr _ (List.getElem_mem hk)
  rw [g1,g2] at hid
  exact (check_st rfl (by omega)).2 ⟨good_head (by show 1≤(4:Int)∧(4:Int)≤4;omega) (h.idr hm) (by simp [extraF,statO,zeroOp,emptyB]),hid,fun e=>hne ⟨g1.trans e.1,g2.trans e.2⟩⟩
 ·have:Jw (statO D (i0,i1) on)=0:=by unfold Jw;rw [if_neg (show ¬(statO D (i0,i1) on).kind=1 by show ¬(4:Int)=1;decide)]
  rw [this];omega
theorem Ey: ∀ {b:Int} {xs:List Rg},NormB b xs→ ∀r∈xs,b≤r.lo∧r.lo<r.hi
 | _,[],_,r,hr=>by cases hr
 | b,x::xs,h,r,hr=>by
  rcases List.mem_cons.1 hr with rfl | hr
  ·exact ⟨h.1,h.2.1⟩
  ·have h1:=Ey h.2.2 r hr
   have h2:=h.1
   have h3:=h.2.1
   omega
theorem DV.tud {D:DS} (h:DV D) (hm:D.made<1024) (hn:D.H.ops.length<900) {i0 i1:Int} {k:Nat} (hw:JZ D.H.ents i0 i1=some k) (hk:k<D.H.ents.length) (hk4:D.H.ents[k].op.kind≠4) (on:Bool) (hoff:D.H.ents[k].off=on):TuD D i0 i1 on k:=by
 have g:=h.stat hm hn hw hk hk4 on
 have M:=g.mkd h.di hn
 have ho:=KQ D.H
 have he:=(end_stat h.di.hv (o:=statO D (i0,i1) on) (by rw [←ho];exact g) rfl hk hw hoff).2
 rw [←ho] at he
 have he2:(mkH D (statO D (i0,i1) on)).ents=D.H.ents.set k (offE D.H.ents[k] (!on))++ [⟨statO D (i0,i1) on,[],false⟩] :=he
 have hj:k<(mkH D (statO D (i0,i1) on)).ents.length:=by rw [he2];simp;omega
 have hek:(mkH D (statO D (i0,i1) on)).ents[k] =offE D.H.ents[k] (!on):=by
  simp only [he2]
  rw [List.getElem_append_left (by simpa using hk),List.getElem_set_self]
 have hrs:(entE ((mkH D (statO D (i0,i1) on)).ents[k])).rs=D.H.ents[k].now:=by
  rw [hek];unfold entE offE;rw [if_neg hk4]
 have hpl:=h.di.hv.pls _ (List.getElem_mem hk)
 have h0:=h.di.tot0
 have hlen:=hpl.len h0.1
 have hml:=M.len
 have hr:=h.di.row
 obtain ⟨_,g1,g2⟩:=KB hw
 refine ⟨M,hj,?_,?_,?_,?_⟩
 ·have:=YZ M.di.hv.ids hj
  rw [hek,show (offE D.H.ents[k] (!on)).op.c=i0 from g1,show (offE D.H.ents[k] (!on)).op.n=i1 from g2] at this
  exact this
 ·rw [hrs];exact fun e=>hk4 ((h.di.hv.edit _ (List.getElem_mem hk)).2 e)
 ·rw [hrs];omega
 ·rw [hrs]
  intro r hr2
  have:=Ey hpl.norm r hr2
  have:=hpl.below r hr2
  omega
structure Acted (D D2:DS):Prop where
 u:D2.u=D.u
 lm:D2.cl=D.cl∧D2.ce=D.ce∧D2.op=D.op
 got:D2.got=D.got
 cm:(D2.H=D.H∧D2.X=D.X∧D2.made=D.made)∨ ∃o,o.c=D.u∧o.n=(D.made:Int)+1∧D2.H.ops=D.H.ops++ [o] ∧D2.made=D.made+1
theorem Acted.rfl' (D:DS):Acted D D:=⟨rfl,⟨rfl,rfl,rfl⟩,rfl, .inl ⟨rfl,rfl,rfl⟩⟩
theorem EB {l:List Int} {b:Int} (h: ∀x∈l,0≤x∧x≤b) (hb:0≤b) (c:Nat):0≤l.getD c 0∧l.getD c 0≤b:=by
 rw [List.getD_eq_getElem?_getD]
 cases hc:l[c]? with
 | none=>exact ⟨Int.le_refl _,hb⟩
 | some x=>exact h x (List.mem_of_getElem? hc)
theorem DV.put_ {D:DS} (h:DV D) (c:Int):0≤putA D c∧putA D c≤5*D.H.ops.length:=EB h.pb (by omega) c.toNat
theorem DV.step {D D2:DS} (h:DV D) {o:GOp} (M:MkD D o) (hc:o.c=D.u) (hn:o.n=(D.made:Int)+1) (hw:0≤Jw o∧Jw o≤5) (hu:D2.u=D.u) (hH:D2.H=mkH D o) (hX:D2.X=JS (mkE D o) D.X) (hm:D2.made=D.made+1) (hp:D2.put=D.put∨D2.put=D.put.set D.u.toNat (putA D D.u+Jw o)) (hs: ∀x∈D2.U++D2.R,x.2≤D2.made):DV D2:=by
 have hl:D2.H.ops.length=D.H.ops.length+1:=by rw [hH,M.ops];simp
 have hpu:=h.put_ D.u
 refine ⟨hu ▸ h.us,fun x hx hxc=> ?_,hs,fun x hx=> ?_,fun x hx=> ?_,?_,?_⟩
 ·rw [hH,M.ops] at hx
  rw [hm]
  rcases List.mem_append.1 hx with hx | hx
  ·have:=h.own x hx (hxc.trans hu);omega
  ·have:=List.mem_singleton.1 hx;subst this;omega
 ·rw [hl]
  rcases hp with hp | hp
  ·rw [hp] at hx
   have:=h.pb x hx;omega
  ·rw [hp] at hx
   rcases List.mem_or_eq_of_mem_set hx with hx | rfl
   ·have:=h.pb x hx;omega
   ·omega
 ·rw [hH,M.ops] at hx
  rcases List.mem_append.1 hx with hx | hx
  ·exact h.wb x hx
  ·have:=List.mem_singleton.1 hx;subst this;exact hw.2
 ·rw [hl,hH,hX];exact M.di
 ·rcases hp with hp | hp
  ·rw [hp];exact h.pl
  ·rw [hp,List.length_set];exact h.pl
theorem DV.turned {D D2:DS} (h:DV D) (hu:D2.u=D.u) (hH:D2.H=D.H) (hX:D2.X=D.X) (hm:D2.made=D.made) (hp:D2.put=D.put) (hs: ∀x∈D2.U++D2.R,x∈D.U++D.R):DV D2:=
 ⟨hu ▸ h.us,by rw [hH,hu,hm];exact h.own,fun x hx=>by rw [hm];exact h.sid x (hs x hx),by rw [hp,hH];exact h.pb,by rw [hH];exact h.wb,by rw [hH,hX];exact h.di,by rw [hp];exact h.pl⟩
theorem VA {ok:Id2→Bool} {U R:List Id2} {x:Id2} (hx:x∈(upF ok U R).2.1∨x∈(upF ok U R).2.2):x∈U∨x∈R:=by
 unfold upF at hx
 cases hp:pickF ok U with
 | none=>rw [hp] at hx;exact hx
 | some kx=>
  obtain ⟨h1,h2⟩:=Y4 (ok:=ok) (l:=U) (k:=kx.1) (x:=kx.2) hp
  rw [hp] at hx
  rcases hx with hx | hx
  ·exact .inl (List.mem_of_mem_eraseIdx hx)
  ·rcases List.mem_append.1 hx with hx | hx
   ·exact .inr hx
   ·have:=List.mem_singleton.1 hx
    subst this
    exact .inl (List.mem_of_getElem? h1)
theorem Zd {ok:Id2→Bool} {U R:List Id2} {x:Id2} (hx:(upF ok U R).1=some x):ok x=true:=by
 unfold upF at hx
 cases hp:pickF ok U with
 | none=>rw [hp] at hx;cases hx
 | some kx=>
  rw [hp] at hx
  have h2:=Y4 (ok:=ok) (l:=U) (k:=kx.1) (x:=kx.2) hp
  obtain rfl:kx.2=x:=Option.some.inj hx
  exact h2.2
theorem stand_true {H:Hist} {on:Bool} {id:Id2} (h:JX H on id=true): ∃k,JZ H.ents id.1 id.2=some k∧ ∃hk:k<H.ents.length,H.ents[k].op.kind≠4∧H.ents[k].off= !on:=by
 cases hw:JZ H.ents id.1 id.2 with
 | none=>rw [XQ hw] at h;cases h
 | some k=>
  obtain ⟨hk,_,_⟩:=KB hw
  rw [QU hw hk] at h
  simp only [Bool.and_eq_true,decide_eq_true_eq] at h
  refine ⟨k,rfl,hk,h.1,?_⟩
  have:=h.2
  cases ho:H.ents[k].off<;>cases on<;>simp_all
theorem ins_row {D:DS} (hdi:DI D.H.ops.length D.H D.X) {k:Nat} {text:ByteArray} (g:Good D.H D.H.ops.length (insO D k text)):JS (mkE D (insO D k text)) D.X=D.X.take k++(cellsOf (JW text) 0++D.X.drop k):=by
 have ho:=KQ D.H
 have he:=(end_ins hdi.hv (o:=insO D k text) (by rw [←ho];exact g) rfl).1
 rw [←ho] at he
 have he2:mkE D (insO D k text)= { effF (insO D k text) with at_:=(insO D k text).at_,text:=(insO D k text).text } :=he
 rw [he2]
 unfold JS
 rw [if_pos (show (effF (insO D k text)).kind=1 from rfl)]
 show D.X.take ((k:Int).toNat)++(cellsOf (JW text) 0++D.X.drop ((k:Int).toNat))=_
 rw [Int.toNat_natCast]
theorem hide_row {D:DS} (hdi:DI D.H.ops.length D.H D.X) {rs:List Rg} (g:Good D.H D.H.ops.length (hideO D rs)):JS (mkE D (hideO D rs)) D.X=KL rs 1 D.X:=by
 have ho:=KQ D.H
 have he:=(end_hide hdi.hv (o:=hideO D rs) (by rw [←ho];exact g) rfl).1
 rw [←ho] at he
 have he2:mkE D (hideO D rs)= { effF (hideO D rs) with rs:=(hideO D rs).rs } :=he
 rw [he2]
 unfold JS
 rw [if_neg (show ¬(effF (hideO D rs)).kind=1 by show ¬(2:Int)=1;decide),if_pos (show (effF (hideO D rs)).kind=2 from rfl)]
 rfl
theorem stat_row {D:DS} (hdi:DI D.H.ops.length D.H D.X) {i0 i1:Int} {on:Bool} (g:Good D.H D.H.ops.length (statO D (i0,i1) on)) {k:Nat} (hk:k<D.H.ents.length) (hw:JZ D.H.ents i0 i1=some k) (hoff:D.H.ents[k].off=on):JS (mkE D (statO D (i0,i1) on)) D.X=KL D.H.ents[k].now (if (decide (D.H.ents[k].op.kind=2)==on)=true then 1 else -1) D.X:=by
 have ho:=KQ D.H
 have he:=(end_stat hdi.hv (o:=statO D (i0,i1) on) (by rw [←ho];exact g) rfl hk hw hoff).1
 rw [←ho] at he
 have he2:mkE D (statO D (i0,i1) on)=turnF D.H.ents[k] on:=he
 rw [he2,turn_apply]
theorem Zb {X:List Ce} {p k:Nat} (h:Pth X p k) (rs:List Int):Kh (X.take k++(cellsOf rs 0++X.drop k))=(Kh X).take p++(rs++(Kh X).drop p):=by
 have e:Kh X=Kh (X.take k)++Kh (X.drop k):=by rw [←Yh,List.take_append_drop]
 have hl:(Kh (X.take k)).length=p:=by rw [Ku,h.ct]
 rw [Yh,Yh,QT,e,List.take_left' hl,List.drop_left' hl]
theorem Za {X:List Ce} {p k:Nat} (h:Pth X p k) (rs:List Int):J3 ((X.take k++(cellsOf rs 0++X.drop k)).take (k+rs.length))=p+rs.length:=by
 have hl:(X.take k).length=k:=by rw [List.length_take];have:=h.le;omega
 conv=>lhs;rw [show k+rs.length=(X.take k).length+(cellsOf rs 0).length by rw [hl,Jr]]
 rw [List.take_length_add_append,List.take_left,Ki,h.ct,Yc]
theorem mem_visPf: ∀(X:List Ce) (a q:Int),q∈visPf a X↔a≤q∧ ∃r,X[(q-a).toNat]? =some (r,0)
 | [],a,q=>by simp [visPf]
 | c::X,a,q=>by
  have ih:=mem_visPf X (a+1) q
  have key:(q=a∧c.2=0)∨q∈visPf (a+1) X↔a≤q∧ ∃r,(c::X)[(q-a).toNat]? =some (r,0):=by
   rw [ih]
   rcases Int.lt_trichotomy q a with h | h | h
   ·constructor
    ·rintro (⟨h1,_⟩ | ⟨h1,_⟩)<;>omega
    ·rintro ⟨h1,_⟩;omega
   ·subst h
    rw [Int.sub_self]
    constructor
    ·rintro (⟨_,h1⟩ | ⟨h1,_⟩)
     ·exact ⟨Int.le_refl _,c.1,by show some c=some (c.1,0);rw [←h1]⟩
     ·omega
    ·rintro ⟨_,r,h1⟩
     have:=Option.some.inj h1
     exact .inl ⟨rfl,by rw [this]⟩
   ·have e:(q-a).toNat=(q-(a+1)).toNat +1:=by omega
    rw [e,List.getElem?_cons_succ]
    constructor
    ·rintro (⟨h1,_⟩ | ⟨_,h2⟩)
     ·omega
     ·exact ⟨by omega,h2⟩
    ·rintro ⟨_,h2⟩;exact .inr ⟨by omega,h2⟩
  rw [←key]
  simp only [visPf]
  split
  ·rename_i h;rw [List.mem_cons];simp [h]
  ·rename_i h;simp [h]
theorem mem_visP {X:List Ce} {q:Int} :q∈visP X↔0≤q∧ ∃r,X[q.toNat]? =some (r,0):=by
 have:=mem_visPf X 0 q
 rwa [Int.sub_zero] at this
theorem visPf_sorted: ∀(X:List Ce) (a:Int),(visPf a X).Pairwise (· < ·)
 | [],a=>List.Pairwise.nil
 | c::X,a=>by
  have ih:=visPf_sorted X (a+1)
  simp only [visPf]
  split
  ·refine List.Pairwise.cons (fun q hq=> ?_) ih
   have:=((mem_visPf X (a+1) q).1 hq).1
   omega
  ·exact ih
def runeA (X:List Ce) (q:Int):Int:=((X[q.toNat]?).map (·.1)).getD 0
theorem XN: ∀(X Y:List Ce) (a:Nat),Y.drop a=X→Kh X=(visPf a X).map (runeA Y)
 | [],Y,a,_=>rfl
 | c::X,Y,a,h=>by
  have hc:Y[a]? =some c:=by
   have:=congrArg (fun l=>l[0]?) h
   simpa using this
  have hd:Y.drop (a+1)=X:=by
   have:=congrArg (fun l=>l.drop 1) h
   simpa [List.drop_drop] using this
  have ih:=XN X Y (a+1) hd
  have e:((a:Int)+1)=((a+1:Nat):Int):=by omega
  unfold Kh at ih ⊢
  simp only [visPf,e]
  by_cases h0:c.2=0
  ·rw [List.filter_cons_of_pos (by simpa using h0),if_pos h0,List.map_cons,List.map_cons,ih]
   congr 1
   unfold runeA
   rw [Int.toNat_natCast,hc];rfl
  ·rw [List.filter_cons_of_neg (by simpa using h0),if_neg h0,ih]
theorem Gt (X:List Ce):Kh X=(visP X).map (runeA X):=XN X X 0 rfl
theorem runeA_bump {X:List Ce} {xs:List Rg} {k:Int} (h:Pls X.length xs) (q:Int):runeA (KL xs k X) q=runeA X q:=by
 have h1:=(KR (k:=k) xs 0 X (Int.le_refl _) h.norm h.below).2 q.toNat
 unfold runeA
 rw [h1]
 cases X[q.toNat]? with
 | none=>rfl
 | some c=>simp only [Option.map_some,Option.getD_some];split<;>rfl
theorem visP_hide {X:List Ce} {p n:Nat} {xs:List Rg} (h:VisR p n X xs) (h0: ∀c∈X,0≤c.2):visP (KL xs 1 X)=(visP X).take p++(visP X).drop (p+n):=by
 have hb:=KR (k:=1) xs 0 X (Int.le_refl _) h.pls.norm h.pls.below
 have hs:=visPf_sorted X 0
 have hsp:visP X=(visP X).take p++(((visP X).drop p).take n++(visP X).drop (p+n)):=by
  conv=>lhs;rw [←List.take_append_drop p (visP X),←List.take_append_drop n ((visP X).drop p),List.drop_drop]
 have hs2:((visP X).take p++(((visP X).drop p).take n++(visP X).drop (p+n))).Pairwise (· < ·):=by rw [←hsp];exact hs
 obtain ⟨s1,s2,s3⟩:=List.pairwise_append.1 hs2
 obtain ⟨s4,s5,s6⟩:=List.pairwise_append.1 s2
 refine QV (visPf_sorted _ 0) (List.pairwise_append.2 ⟨s1,s5,fun x hx y hy=>s3 x hx y (List.mem_append_right _ hy)⟩) fun q=> ?_
 have hq:q∈visP X↔q∈(visP X).take p∨q∈Kd xs∨q∈(visP X).drop (p+n):=by
  rw [h.pl]
  conv=>lhs;rw [hsp]
  simp only [List.mem_append]
 have hno:q∈Kd xs→ ¬(q∈(visP X).take p∨q∈(visP X).drop (p+n)):=by
  rw [h.pl]
  rintro h1 (h2 | h2)
  ·have:=s3 q h2 q (List.mem_append_left _ h1);omega
  ·have:=s6 q h1 q h2;omega
 have hin:q∈visP (KL xs 1 X)↔q∈visP X∧q∉Kd xs:=by
  rw [mem_visP,mem_visP,hb.2 q.toNat,mem_places]
  constructor
  ·rintro ⟨g0,r,g1⟩
   have e:((q.toNat:Nat):Int)=q:=by omega
   rw [e] at g1
   cases hx:X[q.toNat]? with
   | none=>rw [hx] at g1;cases g1
   | some c=>
    rw [hx] at g1
    simp only [Option.map_some,Option.some.injEq] at g1
    have hc:=h0 c (List.mem_of_getElem? hx)
    by_cases hr:inRb q xs=true
    ·rw [if_pos hr] at g1
     have:=congrArg (·.2) g1
     simp only at this;omega
    ·rw [if_neg hr] at g1
     exact ⟨⟨g0,r,by rw [g1]⟩,fun hm=>hr (K1.2 hm)⟩
  ·rintro ⟨⟨g0,r,g1⟩,g2⟩
   have e:((q.toNat:Nat):Int)=q:=by omega
   rw [e]
   refine ⟨g0,r,?_⟩
   rw [g1,Option.map_some,if_neg (fun hr=>g2 (K1.1 hr))]
 show q∈visP (KL xs 1 X)↔_
 rw [hin,hq,List.mem_append]
 constructor
 ·rintro ⟨h1 | h1 | h1,h2⟩
  ·exact .inl h1
  ·exact absurd h1 h2
  ·exact .inr h1
 ·intro h1
  refine ⟨h1.elim .inl (fun h=> .inr (.inr h)),fun h2=>hno h2 h1⟩
theorem HC {X:List Ce} {p n:Nat} {xs:List Rg} (h:VisR p n X xs) (h0: ∀c∈X,0≤c.2):Kh (KL xs 1 X)=(Kh X).take p++(Kh X).drop (p+n):=by
 rw [Gt (KL xs 1 X),visP_hide h h0,Gt X,List.map_append,List.map_take,List.map_drop]
 have e: ∀l:List Int,l.map (runeA (KL xs 1 X))=l.map (runeA X):=fun l=>List.map_congr_left fun q _=>runeA_bump h.pls q
 rw [e]
theorem Rule.nn {H:Hist} {X:List Ce} (h:Rule H X): ∀c∈X,0≤c.2:=fun c hc=>by
 obtain ⟨q,hq⟩:=List.mem_iff_getElem?.1 hc
 rw [h.cnt q c hq];omega
theorem VisR.ne {p n:Nat} {X:List Ce} {xs:List Rg} (h:VisR p n X xs) (hn:0<n) (hv:p+n≤J3 X):xs≠ [] :=fun e=>by
 have:=h.left
 rw [e] at this
 simp only [Kd,List.flatMap_nil,List.length_nil] at this
 omega
theorem DV.hideM {D:DS} (h:DV D) (hm:D.made<1024) (hn:D.H.ops.length<900) {p n:Nat} (hn0:0<n) (hv:p+n≤J3 D.X) {xs:List Rg} (hV:VisR p n D.X xs):MkD D (hideO D xs)∧Kh (JS (mkE D (hideO D xs)) D.X)=(Kh D.X).take p++(Kh D.X).drop (p+n):=by
 have g:=h.hide hm hn hV.pls (hV.ne hn0 hv)
 refine ⟨g.mkd h.di hn,?_⟩
 rw [hide_row h.di g,HC hV h.di.rule.nn]
theorem DV.insM {D:DS} (h:DV D) (hm:D.made<1024) (hn:D.H.ops.length<900) {p k:Nat} (hk:Pth D.X p k) {text:ByteArray} (hu:(utF text).2.2=0) (hu1:1≤(utF text).1∧(utF text).1≤256):MkD D (insO D k text)∧Kh (JS (mkE D (insO D k text)) D.X)=(Kh D.X).take p++(JW text++(Kh D.X).drop p)∧J3 ((JS (mkE D (insO D k text)) D.X).take (k+(utF text).1.toNat))=p+(utF text).1.toNat:=by
 have g:=h.ins hm hn hk.le hu hu1
 refine ⟨g.mkd h.di hn,?_,?_⟩
 ·rw [ins_row h.di g,Zb hk]
 ·have:=Y0 hu
  rw [ins_row h.di g,show (utF text).1.toNat=(JW text).length by omega,Za hk]
theorem Ya {s:ByteArray} {p k:Nat} {r w:Nat} (hp:p<s.size) (hd:Utf8.decode s p=(r,w)) (hb:begF s p r=true) (hl:letF r=true):utAt s p k=utAt s (p+w) (k+1):=by
 rw [utAt_next hp (by rw [hd];simp [hb]) (by rw [hd];simp [hl]),hd]
theorem XE {s:ByteArray} {p:Nat} {r w:Nat} (hp:p<s.size) (hd:Utf8.decode s p=(r,w)):runesAt s p=(r:Int)::runesAt s (p+w):=by
 rw [runesAt,dif_pos hp,hd]
def wordsL:List ByteArray:= [⟨#[97]⟩,⟨#[98,99]⟩,⟨#[195,169]⟩,⟨#[120,226,130,172,121]⟩,⟨#[240,159,152,128,122]⟩,⟨#[100,101,102,103,104]⟩]
def wordsC:List Value:=wordsL.map .string
abbrev wordsF:Fact:=FzA 0 0 wordsC
def wordA (k:Nat):ByteArray:=wordsL.getD k ⟨#[]⟩
theorem Xx {k:Nat} (h:k<6):wordsC[k]? =some (.string (wordA k)):=by
 unfold wordsC wordA wordsL
 match k,h with
 | 0,_=>rfl
 | 1,_=>rfl
 | 2,_=>rfl
 | 3,_=>rfl
 | 4,_=>rfl
 | 5,_=>rfl
structure WordOk (s:ByteArray):Prop where
 u:(utF s).2.2=0
 n:1≤(utF s).1∧(utF s).1≤5
 z:s.size≤100
structure GAct where
 who:Int
 kind:Int
 a:Int
 b:Int
 text:ByteArray
 on:Bool
def actC (x:GAct):List Value:= [.int .i64 x.who, .int .i64 x.kind, .int .i64 x.a, .int .i64 x.b, .string x.text, .bool x.on]
def actV (x:GAct):Value:= .agg (actC x).toArray
def actD:De GAct where
 sz:=6
 rep _ _ x cs:=cs=actC x
 len h:=by subst h;rfl
 one h:=by subst h;rfl
 stable _ _ _ _ _ h:=h
theorem act_open (u:GAct): ∀Z w cs,actD.rep Z w u cs→ ∃y:Unit,cs=actC u∧ ∀B∈([] :List Fact),B.holds Z w:=fun _ _ _ h=>⟨(),h,fun _ h=>by cases h⟩
set_option maxRecDepth 20000 in
theorem VU {k:Nat} (h:k<6):WordOk (wordA k):=by
 match k,h with
 | 0,_=>
  have e:utF (wordA 0)=(1,0,0):=by
   show utAt ⟨#[97]⟩ 0 0=_
   rw [Ya (r:=97) (w:=1) (by decide) (by decide) (by decide) (by decide),utAt_end (by decide)];rfl
  exact ⟨by rw [e],by rw [e];decide,by decide⟩
 | 1,_=>
  have e:utF (wordA 1)=(2,0,0):=by
   show utAt ⟨#[98,99]⟩ 0 0=_
   rw [Ya (r:=98) (w:=1) (by decide) (by decide) (by decide) (by decide),Ya (r:=99) (w:=1) (by decide) (by decide) (by decide) (by decide),utAt_end (by decide)];rfl
  exact ⟨by rw [e],by rw [e];decide,by decide⟩
 | 2,_=>
  have e:utF (wordA 2)=(1,0,0):=by
   show utAt ⟨#[195,169]⟩ 0 0=_
   rw [Ya (r:=233) (w:=2) (by decide) (by decide) (by decide) (by decide),utAt_end (by decide)];rfl
  exact ⟨by rw [e],by rw [e];decide,by decide⟩
 | 3,_=>
  have e:utF (wordA 3)=(3,0,0):=by
   show utAt ⟨#[120,226,130,172,121]⟩ 0 0=_
   rw [Ya (r:=120) (w:=1) (by decide) (by decide) (by decide) (by decide),Ya (r:=8364) (w:=3) (by decide) (by decide) (by decide) (by decide),Ya (r:=121) (w:=1) (by decide) (by decide) (by decide) (by decide),utAt_end (by decide)];rfl
  exact ⟨by rw [e],by rw [e];decide,by decide⟩
 | 4,_=>
  have e:utF (wordA 4)=(2,0,0):=by
   show utAt ⟨#[240,159,152,128,122]⟩ 0 0=_
   rw [Ya (r:=128512) (w:=4) (by decide) (by decide) (by decide) (by decide),Ya (r:=122) (w:=1) (by decide) (by decide) (by decide) (by decide),utAt_end (by decide)];rfl
  exact ⟨by rw [e],by rw [e];decide,by decide⟩
 | 5,_=>
  have e:utF (wordA 5)=(5,0,0):=by
   show utAt ⟨#[100,101,102,103,104]⟩ 0 0=_
   rw [Ya (r:=100) (w:=1) (by decide) (by decide) (by decide) (by decide),Ya (r:=101) (w:=1) (by decide) (by decide) (by decide) (by decide),Ya (r:=102) (w:=1) (by decide) (by decide) (by decide) (by decide),Ya (r:=103) (w:=1) (by decide) (by decide) (by decide) (by decide),Ya (r:=104) (w:=1) (by decide) (by decide) (by decide) (by decide),utAt_end (by decide)];rfl
  exact ⟨by rw [e],by rw [e];decide,by decide⟩
open Go Go.GW Go.ChangeShapes Go.WideShapes Go.ChangeAt Go.RowKit
theorem gBars : Tryz.prog.globalNamed "redraft/utext.bars" = some 1 := by kernel_rfl
theorem gBarsT:(Tryz.prog.globals[1]?).map (·.type)=some 196:=by kernel_rfl
theorem gWords : Tryz.prog.globalNamed "redraft/redraftlaw08.words" = some 0 := by kernel_rfl
theorem gWordsT:(Tryz.prog.globals[0]?).map (·.type)=some 43:=by kernel_rfl
theorem cells43:Tryz.prog.cellsOf 43=6:=by kernel_rfl
theorem cells9:Tryz.prog.cellsOf 9=1:=by kernel_rfl
theorem cells196:Tryz.prog.cellsOf 196=10:=by kernel_rfl
theorem cells195:Tryz.prog.cellsOf 195=2:=by kernel_rfl
theorem cells21:Tryz.prog.cellsOf 21=1:=by kernel_rfl
section
variable {H:Type} {enc:TypeId×Value→H} {w:World} {base:Nat} {sp:Nat→Bool} {held:Bool} {fuel:Nat}
theorem Jax {cs:List Value} {x:DataW H×List MemPlace} {lo hi:Int} (h:DataW.trod enc Tryz.prog w base sp held fuel 195 cs=some x) (hx:x.1= .agg [.lit (.int .i32 lo), .lit (.int .i32 hi)]):cs= [.int .i32 lo, .int .i32 hi] :=by
 obtain ⟨y0,y1,n,rfl,hl,h0,h1⟩:=trod_struct2 Un195 h
 rw [cells195] at hl
 obtain ⟨n0,e0,rfl,_⟩:=DataW.trod_int Un21 h0
 obtain ⟨n1,e1,rfl,_⟩:=DataW.trod_int Un21 h1
 simp only [DataW.agg.injEq,List.cons.injEq,DataW.lit.injEq,Lit.int.injEq,true_and,and_true] at hx
 obtain ⟨rfl,rfl⟩:=hx
 rw [cells21] at e0 e1
 clear h h0 h1
 rcases cs with _ | ⟨a,_ | ⟨b,_ | ⟨c,cs⟩⟩⟩
 ·cases hl
 ·cases hl
 ·have a0: [a] = [Value.int .i32 n0] :=e0
  have a1: [b] = [Value.int .i32 n1] :=e1
  rw [List.singleton_inj.1 a0,List.singleton_inj.1 a1]
 ·simp at hl
theorem bars_cells {cs:List Value} {p:List MemPlace} (h:DataW.trod enc Tryz.prog w base sp held fuel 196 cs=some (Rows.laid_redraft_utext_bars,p)):cs=barC:=by
 cases fuel with
 | zero=>simp [DataW.trod] at h
 | succ fuel=>
  simp only [DataW.trod,Un196,cells196,cells195] at h
  split at h
  ·rename_i hl
   obtain ⟨xs,hm,hx⟩:=Option.map_eq_some_iff.1 h
   have hxs:xs.map (·.1)= [.agg [.lit (.int .i32 0), .lit (.int .i32 8)], .agg [.lit (.int .i32 11), .lit (.int .i32 31)], .agg [.lit (.int .i32 127), .lit (.int .i32 159)], .agg [.lit (.int .i32 64976), .lit (.int .i32 65007)], .agg [.lit (.int .i32 65279), .lit (.int .i32 65279)]] :=by
    have:=congrArg Prod.fst hx
    simpa [Rows.laid_redraft_utext_bars] using this
   have key: ∀(i:Nat) (hi:i<5) (lo hi':Int),(xs.map (·.1))[i]? =some (.agg [.lit (.int .i32 lo), .lit (.int .i32 hi')])→(cs.drop (i*2)).take 2= [.int .i32 lo, .int .i32 hi'] :=by
    intro i hi lo hi' he
    obtain ⟨b,hb,hf⟩:=Lib.mapM_at hm i i (by simp [hi])
    rw [List.getElem?_map,hb] at he
    exact Jax hf (Option.some.inj he)
   have k0:=key 0 (by decide) 0 8 (by rw [hxs];rfl)
   have k1:=key 1 (by decide) 11 31 (by rw [hxs];rfl)
   have k2:=key 2 (by decide) 127 159 (by rw [hxs];rfl)
   have k3:=key 3 (by decide) 64976 65007 (by rw [hxs];rfl)
   have k4:=key 4 (by decide) 65279 65279 (by rw [hxs];rfl)
   clear h hm hx hxs key
   revert k0 k1 k2 k3 k4
   match cs,hl with
   | [c0,c1,c2,c3,c4,c5,c6,c7,c8,c9],_=>
    intro k0 k1 k2 k3 k4
    simp at k0 k1 k2 k3 k4
    obtain ⟨rfl,rfl⟩:=k0
    obtain ⟨rfl,rfl⟩:=k1
    obtain ⟨rfl,rfl⟩:=k2
    obtain ⟨rfl,rfl⟩:=k3
    obtain ⟨rfl,rfl⟩:=k4
    rfl
  ·cases h
theorem words_cells {cs:List Value} {p:List MemPlace} (h:DataW.trod enc Tryz.prog w base sp held fuel 43 cs=some (Rows.laid_redraft_redraftlaw08_words,p)):cs=wordsC:=by
 cases fuel with
 | zero=>simp [DataW.trod] at h
 | succ fuel=>
  simp only [DataW.trod,Un43,cells43,cells9] at h
  split at h
  ·rename_i hl
   obtain ⟨xs,hm,hx⟩:=Option.map_eq_some_iff.1 h
   have hxs:xs.map (·.1)=wordsL.map fun s=> .lit (.string s.data.toList):=by
    have:=congrArg Prod.fst hx
    simpa [Rows.laid_redraft_redraftlaw08_words,wordsL] using this
   have key: ∀(i:Nat) (hi:i<6),(cs.drop (i*1)).take 1= [.string (wordA i)] :=by
    intro i hi
    obtain ⟨b,hb,hf⟩:=Lib.mapM_at hm i i (by simp [hi])
    obtain ⟨s,hs,hbx,_⟩:=DataW.trod_string Un9 hf
    have e:(xs.map (·.1))[i]? =some (.lit (.string s.data.toList)):=by rw [List.getElem?_map,hb,hbx];rfl
    have hwl:i<wordsL.length:=hi
    rw [hxs,List.getElem?_map,List.getElem?_eq_getElem hwl] at e
    have e2:wordsL[i].data.toList=s.data.toList:=by simpa using e
    have e3:wordsL[i] =s:=by
     have:wordsL[i].data=s.data:=Array.ext' e2
     cases hq:wordsL[i];cases s;simp_all
    rw [hs,←e3]
    have:wordA i=wordsL[i] :=by unfold wordA;rw [List.getD_eq_getElem?_getD,List.getElem?_eq_getElem hwl];rfl
    rw [this]
   have k0:=key 0 (by decide)
   have k1:=key 1 (by decide)
   have k2:=key 2 (by decide)
   have k3:=key 3 (by decide)
   have k4:=key 4 (by decide)
   have k5:=key 5 (by decide)
   clear h hm hx hxs key
   revert k0 k1 k2 k3 k4 k5
   match cs,hl with
   | [c0,c1,c2,c3,c4,c5],_=>
    intro k0 k1 k2 k3 k4 k5
    simp at k0 k1 k2 k3 k4 k5
    rw [k0,k1,k2,k3,k4,k5]
    rfl
  ·cases h
end
theorem EJ {W:World} {g:Nat} {n:String} {cs:Array Value} (hg:Tryz.prog.globalNamed n=some g) (hvar:W.var? Tryz.prog n=some cs) {C:List Value} (hc:cs.toList=C) {v0:Value} (hC:C[0]? =some v0):CellsAt W g 0 C∧g<W.heap.size:=by
 have hcell: ∀j v,C[j]? =some v→W.cell? ⟨g,j,none⟩=some v:=fun j v hj=>by
  have h1:=World.var?_cell hg hvar j
  rw [h1]
  rw [←hc] at hj
  simpa using hj
 have h0:=hcell 0 _ hC
 unfold World.cell? at h0
 cases hb:W.heap[g]? with
 | none=>rw [hb] at h0;cases h0
 | some o=>
  refine ⟨?_,(Array.getElem?_eq_some_iff.1 hb).1⟩
  cases o with
  | cells c T fr=>
   refine ⟨c,T,fr,hb,fun j v hj=> ?_⟩
   have:=hcell j v hj
   unfold World.cell? at this
   rw [hb] at this
   simpa using this
  | _=>rw [hb] at h0;cases h0
theorem Jao {W : World} (h : laidMetH Tryz.prog [("errors.errorType", Rows.laid_errors_errorType), ("redraft/utext.bars", Rows.laid_redraft_utext_bars), ("redraft/redraftlaw08.words", Rows.laid_redraft_redraftlaw08_words)] W) : (CellsAt W 1 0 barC ∧ 1 < W.heap.size) ∧ CellsAt W 0 0 wordsC ∧ 0 < W.heap.size := by
 have h' : laidMet Tryz.prog [("redraft/utext.bars", Rows.laid_redraft_utext_bars), ("redraft/redraftlaw08.words", Rows.laid_redraft_redraftlaw08_words)] W ∧ handlesMet Tryz.prog [("errors.errorType", Rows.laid_errors_errorType)] W := h
 obtain ⟨ps,⟨g',t',cs,fuel,p,q,hg',ht',hvar,hd,⟨g2,t2,cs2,fuel2,p2,q2,hg2,ht2,hvar2,hd2,_,_⟩,_⟩,_⟩:=h'.1
 obtain rfl:=Option.some.inj (gBars.symm.trans hg')
 obtain rfl:=Option.some.inj (gBarsT.symm.trans ht')
 obtain rfl:=Option.some.inj (gWords.symm.trans hg2)
 obtain rfl:=Option.some.inj (gWordsT.symm.trans ht2)
 exact ⟨EJ gBars hvar (bars_cells hd) rfl,EJ gWords hvar2 (words_cells hd2) rfl⟩
theorem Jap {W W':World} {Z':Nat→Prop} (h:(NearF W (fun b=>b<W.heap.size)).holds Z' W') (may:MemPlace→Prop):W.keptBut W' may:=by
 refine ⟨h.2.1,h.2.2.2,fun i hi=> ?_⟩
 rw [(h.1 i hi).2]
 cases W.heap[i]? with
 | none=>rfl
 | some o=>cases o<;>first | rfl | exact ⟨rfl,rfl,rfl,fun _ _=>rfl⟩ | exact .inr ⟨rfl,rfl⟩
theorem Jbx {W:World} {As:List Fact} (h: ∀A∈As,A.holds (fun b=>b<W.heap.size) W):St (fun b=>b<W.heap.size) W [] (As++ [NearF W (fun b=>b<W.heap.size)]):=
 ⟨fun _ h=>h,by simp,by simp,fun A hA=>by
  rcases List.mem_append.1 hA with hA | hA
  ·exact h A hA
  ·rw [List.mem_singleton.1 hA];exact ⟨fun b hb=>⟨hb,rfl⟩,rfl,rfl,rfl⟩⟩
theorem post_plain {H:Type} {enc:TypeId×Value→H} {P:Program} {f:Func} {s:ChangeSpec} {apart fresh handsOn:Bool} {W W':World} {args:Array Value} {v:Value} {ds gs:List (DataW H)} {before pa pv:List MemPlace}
  (hW:DataW.Whole enc P f.params.toList s.vars apart W args.toList ds gs before)
  (hres: ∀(b:Nat) (sp:Nat→Bool) (hd:Bool),DataW.TrodAll enc P W' b sp hd f.resultTypes.toList (v.resultList f.resultTypes.size) (s.fn H (ds++gs)).results [])
  (hargs: ∀sp:Nat→Bool,(∀p∈before,sp p.block=true)→DataW.TrodAll enc P W' 0 sp true f.params.toList args.toList (s.fn H (ds++gs)).args pa)
  (hvars: ∀sp:Nat→Bool,(∀p∈before,sp p.block=true)→DataW.TrodVars enc P W' sp s.vars (s.fn H (ds++gs)).vars pv)
  (hps:before=pa++pv) (hk:W.keptBut W' (· ∈before)):s.post enc P f apart fresh handsOn false W args v W':=by
 have hold: ∀p∈before,(fun b=>decide (b<W.heap.size)) p.block=true:=fun p hp=>by simpa using hW.lt p hp
 refine ⟨ds,gs,before,[],pa,pv,hW,hres _ _ _,hargs _ hold,hvars _ hold,World.keptBut_mono (fun p hp=>⟨hp,?_⟩) hk,fun h=>by cases h⟩
 rw [hps,List.mem_append] at hp
 exact Or.inr hp
end Go.Proofs.YtgedhdmpiciikaaGreatDoor
