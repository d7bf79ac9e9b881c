/- Part of the proof that this claim's law answers true, whatever its arguments. Condition: the laid variables hold what their initialisers lay (the card ties that to the program's text). -/
import Derived.Test.YtgedhdmpiciikaaGreatDoorQF
set_option linter.unusedVariables false
set_option linter.unusedSimpArgs false
open Go.Proofs.Tryz renaming underlying1→Un1,underlying3→Un3,underlying4→Un4,underlying9→Un9,underlying20→Un20,underlying21→Un21,underlying22→Un22,underlying24→Un24,underlying25→Un25,underlying29→Un29,underlying30→Un30,underlying33→Un33,underlying34→Un34,underlying36→Un36,underlying38→Un38,underlying39→Un39,underlying40→Un40,underlying42→Un42,underlying43→Un43,underlying46→Un46,underlying47→Un47,underlying49→Un49,underlying50→Un50,underlying52→Un52,underlying54→Un54,underlying62→Un62,underlying67→Un67,underlying71→Un71,underlying74→Un74,underlying78→Un78,underlying93→Un93,underlying98→Un98,underlying116→Un116,underlying118→Un118,underlying121→Un121,underlying141→Un141,underlying143→Un143,underlying145→Un145,underlying149→Un149,underlying152→Un152,underlying154→Un154,underlying156→Un156,underlying157→Un157,underlying159→Un159,underlying160→Un160,underlying162→Un162,underlying167→Un167,underlying168→Un168,underlying170→Un170,underlying178→Un178,underlying188→Un188,underlying191→Un191,underlying195→Un195,underlying196→Un196,underlying198→Un198,underlying201→Un201,underlying213→Un213,underlying219→Un219
namespace Go.Proofs.YtgedhdmpiciikaaGreatDoor
open Go Go.GW
theorem bd46Xg9 (w:World):(Instr.build 46 #[]).run Tryz.prog w= .ok (.agg #[.int .i64 0, .int .i64 0]) w:=by kernel_rfl
set_option maxRecDepth 10000 in
theorem pick_f (h m cap:Nat) (A:Option Addr) (H:Hist) (L:List MR) (hr:HR H L) (bh bo:Nat) (on:Bool) (A1:Option Addr) (c1:Nat) (xs:List Id2) (hl:xs.length≤1000000):Sp Tryz.prog 142 [.slice A1 xs.length c1, .func (.func 144) #[] #[.pointer (some ⟨bh,0,none⟩), .pointer (some ⟨bo,0,none⟩)]] [chP bh h,cbP bo on,hdP h A H.ops.length cap m H.total,mpP m L,mkP L] [RdF idD A1 c1 xs,RdF opD A cap H.ops,AllF L nowF] (fun u Lo fs=>u=pkV (pickF (JY H on) xs)∧Lo= [chP bh h,cbP bo on,hdP h A H.ops.length cap m H.total,mpP m L,mkP L] ∧fs= []):=by
 refine Sp.of (n:=30) ⟨_,Tryz.func142,O,O,O,O⟩ (Nat.le_of_ble_eq_true O) fun Ps As=>Jc (Ja (Jg O (Ju (cs:= [_,_]) JW O (by decide) fun b4=>Lq (Jd O) (Lq (Jd O) (Je (Jf (Jc (Jc (Ja (Lq (Jb O) (Lq (Jb8 Un188 O) (Je (Jf (Jv O O (Jp (Jf (Jc (Jc (Ja (Lq (Jb O) ?_))))))))))))))))))))
 refine Lq (J3 Un152 O) (Lq (KP O O (wr64 (by omega))) (Lq (Jd O) (Je (Jf (JE (JA .z5 (JA .z5 (JA .z5 (JA .z5 (JA .z5 ?_))))))))))
 refine Kf (α:=Nat) (fun k=>k)
  (fun k=> [(0, .slice A1 xs.length c1),(1, .func (.func 144) #[] #[.pointer (some ⟨bh,0,none⟩), .pointer (some ⟨bo,0,none⟩)]),(4, .pointer (some ⟨b4,0,none⟩)),(7, .int .i64 ((k:Int)-1))])
  (fun k=>(chP bh h::cbP bo on::hdP h A H.ops.length cap m H.total::mpP m L::mkP L:: [(b4,JB [.int .i64 0, .int .i64 0] 46)] ::Ps))
  (fun k=>(RdF idD A1 c1 xs::RdF opD A cap H.ops::AllF L nowF::As))
  (fun k=>k≤xs.length∧ ∀j (hj:j<xs.length),k≤j→JY H on xs[j] =false)
  xs.length ?_ (.m4 rfl rfl rfl rfl) (Sk (Sk (Sk (Sk (Sk (Sk (Sr))))))) (fun _ h=>h) ?_
 ·exact ⟨Nat.le_refl _,fun j hj h=>by omega⟩
 ·rintro k hI
  have hle:=hI.1
  refine Jc (Jc (Ja (Lq (Jb O) (Lq (Yz O O) (Je (Jf (Jy O (fun h15=> ?_) (fun h15=> ?_))))))))
  ·obtain ⟨j,rfl⟩: ∃j,k=j+1:=⟨k-1,by simp only [decide_eq_true_eq] at h15;omega⟩
   have hkj:(((j+1:Nat):Int)-1)=(j:Nat):=by omega
   rw [hkj]
   have hj:j<xs.length:=by omega
   refine Jp (Jf (Jc (JE (Jc (Kd (k:=j) Mm0 (List.getElem?_eq_getElem hj) (id_open _) fun b6 q6 y6 e6=> ?_)))))
   cases e6
   refine JA .z4 (JA .z4 (JA .z4 (JA .z4 (JA .z4 (Ja (Lq (Jb O) (Lq (Jb O) (Lq (Jb O) (Lq (J7 Un152 JW O O (by omega) (by omega)) ?_)))))))))
   refine Lq (Kq (k:=0) (vs:= [_,_]) Un46 O JW O Mm0 O O O) (Jg O (Qv (caps:= [_,_]) O (ZJ h m cap A H L hr bh bo on xs[j].1 xs[j].2) (.n1 O) (by decide) (List.Perm.refl _) (Jl Mm2 (Jl Mm3 Jw)) fun u6 Lo fs hres=> ?_))
   obtain ⟨rfl,rfl,rfl⟩:=hres
   refine Je (Jf (Jy O (fun h23=> ?_) (fun h23=> ?_)))
   ·refine Jc (Ja (Lq (Jb O) (Lq (Jb O) (Lq (J7 Un152 JW O O (by omega) (by omega)) (Lq (Kq (k:=0) (vs:= [_,_]) Un46 O JW O Mm0 O O O) (Lq (Jb O) (Jg O (Jq (cs':= [_,_]) (vs:= [_,_]) JW O O O O O (Nat.le_of_ble_eq_true O) .z5 (Lq (Jd O) (Lq (Jd O) (Je (Jf (Jo (JG (Js (Js (JG (Js ?_))))))))))))))))))
    refine ⟨_,[_,_,_,_,_],[],fun Z w hs=>JV hs Un46 O JW O (Ji (Ji (Ji (Ji (Ji (Jn)))))) O (.tmp O (.tmp O .nil)),?_,fun Z w hs=>hs.out (Sk (Sk (Sk (Sk (Sk (Sd (Sr))))))) Tt1⟩
    exact ⟨by rw [Gm hj h23 (fun i hi hji=>hI.2 i hi hji)];rfl,O,O⟩
   ·refine Jp (Ka (Jf (Ja (Lq (Jb O) (Lq (KP O O (wr64 (by omega))) (Lq (Jd O) (Je (Kp ?_))))))))
    refine ⟨j,?_,(.m4 O O O O),(Sk (Sk (Sk (Sk (Sk (Sk (Sr))))))),Tt1⟩
    refine ⟨by show j<j+1;omega,by omega,fun i hi hji=> ?_⟩
    rcases Nat.lt_or_eq_of_le hji with hlt | rfl
    ·exact hI.2 i hi hlt
    ·exact h23
  ·refine Kk (JL (JL (Kc (Jf (Jc (Ja (Lq (JZ .nil (bd46Xg9)) (Jg O (Jq (cs':= [_,_]) (vs:= [_,_]) JW O O O O O (Nat.le_of_ble_eq_true O) .z5 (Lq (Jd O) (Lq (Jd O) (Je (Jf (Jo ?_))))))))))))))
   refine ⟨_,[_,_,_,_,_],[],fun Z w hs=>JV hs Un46 O JW O (Ji (Ji (Ji (Ji (Ji (Jn)))))) O (.tmp O (.tmp O .nil)),?_,fun Z w hs=>hs.out (Sk (Sk (Sk (Sk (Sk (Sd (Sr))))))) (fun _ h=>h)⟩
   have h0:k=0:=by simp only [decide_eq_false_iff_not] at h15;omega
   subst h0
   exact ⟨by rw [VW fun y hy=>by obtain ⟨i,hi,rfl⟩:=List.mem_iff_getElem.1 hy;exact hI.2 i hi (Nat.zero_le _)];rfl,rfl,rfl⟩
theorem Eq (h m cap:Nat) (A:Option Addr) (H:Hist) (L:List MR) (hr:HR H L) (bh bo:Nat) (on:Bool) (v:Value) (p:Part) (xs:List Id2) (hx:Row 46 2 v xs.length (Kg idC xs) p) (hl:xs.length≤1000000):Sp Tryz.prog 142 [v, .func (.func 144) #[] #[.pointer (some ⟨bh,0,none⟩), .pointer (some ⟨bo,0,none⟩)]] (p:: [chP bh h,cbP bo on,hdP h A H.ops.length cap m H.total,mpP m L,mkP L]) [RdF opD A cap H.ops,AllF L nowF] (fun u Lo fs=>u=pkV (pickF (JY H on) xs)∧Lo=p:: [chP bh h,cbP bo on,hdP h A H.ops.length cap m H.total,mpP m L,mkP L] ∧fs= []):=by
 refine (Sp.thawRow (e:=idD) (f:=idC) (res:=(fun u Lo fs=>u=pkV (pickF (JY H on) xs)∧Lo= [chP bh h,cbP bo on,hdP h A H.ops.length cap m H.total,mpP m L,mkP L] ∧fs= [])) (fun _ _ _=>O) hx (fun A2 c2 hv=> ?_) (fun _ _ _ h=>h.2.2)).mono ?_
 ·subst hv;exact pick_f h m cap A H L hr bh bo on A2 c2 xs hl
 ·rintro u Lo fs ⟨Lo',⟨rfl,rfl,_⟩,rfl,rfl⟩
  exact ⟨O,O,O⟩
abbrev stP (s:Nat) (vu vr:Value):Part:= [(s,JB [vu,vr] 154)]
set_option maxRecDepth 10000 in
theorem moveu_n (h m cap:Nat) (A:Option Addr) (H:Hist) (L:List MR) (hr:HR H L) (bh bo:Nat) (on:Bool) (s:Nat) (vu vr:Value) (pu pr:Part) (U R:List Id2) (hU:Row 46 2 vu U.length (Kg idC U) pu) (hR:Row 46 2 vr R.length (Kg idC R) pr) (hlU:U.length≤100000) (hlR:R.length≤100000) (hpk:pickF (JY H on) U=none):Sp Tryz.prog 110 [.pointer (some ⟨s,0,none⟩), .pointer (some ⟨s,1,none⟩), .func (.func 144) #[] #[.pointer (some ⟨bh,0,none⟩), .pointer (some ⟨bo,0,none⟩)]] [stP s vu vr,pu,pr,chP bh h,cbP bo on,hdP h A H.ops.length cap m H.total,mpP m L,mkP L] [RdF opD A cap H.ops,AllF L nowF] (fun u Lo fs=> ∃vu2 pu2 vr2 pr2,Row 46 2 vu2 (upF (JY H on) U R).2.1.length (Kg idC (upF (JY H on) U R).2.1) pu2∧Row 46 2 vr2 (upF (JY H on) U R).2.2.length (Kg idC (upF (JY H on) U R).2.2) pr2∧u=upV (upF (JY H on) U R).1∧Lo= [stP s vu2 vr2,pu2,pr2,chP bh h,cbP bo on,hdP h A H.ops.length cap m H.total,mpP m L,mkP L] ∧fs= []):=by
 obtain ⟨Au,cu,rfl⟩:=hU.slice
 obtain ⟨Ar,cr,rfl⟩:=hR.slice
 refine Sp.of (n:=42) ⟨_,Tryz.func110,O,O,O,O⟩ (Nat.le_of_ble_eq_true O) fun Ps As=>Jc (Ja (Jg O (Ju (cs:= [_,_]) JW O (by decide) fun b6=>Lq (Jd O) (Je (Jf (Jc (Ja (Lq (Jb O) (Lq (JC O) (Lq (Jj Un152 O O (Ji (Jn)) O) (Lq (Jb O) (Jg O (J6 (Eq h m cap A H L hr bh bo on _ _ U hU (by omega)) (.n2 O O) (by decide) (.n6 .z2 .z3 .z3 .z3 .z3 .z3) (Jl Mm0 (Jl Mm1 Jw)) fun u1_4 Lo fs hres=> ?_)))))))))))))
 obtain ⟨rfl,rfl,rfl⟩:=hres
 rw [hpk]
 refine Lq (Jb O) (Lq (Jk (vs:= [_,_,_]) O O) (Lq (Jk (vs:= [_,_,_]) O O) (Lq (Jk (vs:= [_,_,_]) O O) (Jg O (Ju (cs:= [_,_]) JW O (by decide) fun b8=>Jg O (Jq (cs':= [_,_]) (vs:= [_,_]) JW O O O O O (Nat.le_of_ble_eq_true O) .z (Lq (Jd O) (Lq (Jd O) (Je (Jf (Jc (Jc (Ja (Lq (Jb O) ?_))))))))))))))
 refine Lq (Kz O O) (Je (Jf (J1 O O (Jc (Ja (Lq (JZ .nil (bd46Xg9)) (Lq (Jb O) (Jg O (Jq (cs':= [_,_]) (vs:= [_,_]) JW O O O O O (Nat.le_of_ble_eq_true O) .z7 (Lq (Jd O) (Je (Jf (Jo (Js ?_))))))))))))))
 refine ⟨_,[_,_,_,_,_,_,_,_],[],fun Z w hs=>JV hs Un46 O JW O (Ji (Ji (Ji (Ji (Ji (Ji (Ji (Jn)))))))) O (.tmp O .nil),?_,fun Z w hs=>((((((((hs.pick .z6).pick .z6).pick .z6).pick .z6).pick .z6).pick .z9).pick .z7).pick .z9).out (Sk (Sk (Sk (Sk (Sk (Sk (Sk (Sk (Sd (Sd (Sr))))))))))) (fun _ h=>h)⟩
 have e:(upF (JY H on) U R)=(none,U,R):=by unfold upF;rw [hpk]
 rw [e]
 exact ⟨_,pu,_,pr,hU,hR,O,O,O⟩
set_option maxRecDepth 10000 in
theorem Ja8 (h m cap:Nat) (A:Option Addr) (H:Hist) (L:List MR) (hr:HR H L) (bh bo:Nat) (on:Bool) (s:Nat) (vu vr:Value) (pu pr:Part) (U R:List Id2) (hU:Row 46 2 vu U.length (Kg idC U) pu) (hR:Row 46 2 vr R.length (Kg idC R) pr) (hlU:U.length≤100000) (hlR:R.length≤100000) (k:Nat) (x:Id2) (hpk:pickF (JY H on) U=some (k,x)):Sp Tryz.prog 110 [.pointer (some ⟨s,0,none⟩), .pointer (some ⟨s,1,none⟩), .func (.func 144) #[] #[.pointer (some ⟨bh,0,none⟩), .pointer (some ⟨bo,0,none⟩)]] [stP s vu vr,pu,pr,chP bh h,cbP bo on,hdP h A H.ops.length cap m H.total,mpP m L,mkP L] [RdF opD A cap H.ops,AllF L nowF] (fun u Lo fs=> ∃vu2 pu2 vr2 pr2,Row 46 2 vu2 (upF (JY H on) U R).2.1.length (Kg idC (upF (JY H on) U R).2.1) pu2∧Row 46 2 vr2 (upF (JY H on) U R).2.2.length (Kg idC (upF (JY H on) U R).2.2) pr2∧u=upV (upF (JY H on) U R).1∧Lo= [stP s vu2 vr2,pu2,pr2,chP bh h,cbP bo on,hdP h A H.ops.length cap m H.total,mpP m L,mkP L] ∧fs= []):=by
 obtain ⟨hx1,hx2⟩:=Y5 hpk
 have hk:k<U.length:=by
  rcases Nat.lt_or_ge k U.length with h | h
  ·exact h
  ·rw [List.getElem?_eq_none h] at hx1;cases hx1
 obtain ⟨At,ct,rfl⟩:=hR.slice
 have hf0:=hU
 obtain ⟨hfl,⟨_,h0,_⟩ | ⟨b,cp,jk,rfl,rfl,h1,h2,h3⟩⟩:=hU
 ·omega
 refine Sp.of (n:=42) ⟨_,Tryz.func110,O,O,O,O⟩ (Nat.le_of_ble_eq_true O) fun Ps As=>Jc (Ja (Jg O (Ju (cs:= [_,_]) JW O (by decide) fun b6=>Lq (Jd O) (Je (Jf (Jc (Ja (Lq (Jb O) (Lq (JC O) (Lq (Jj Un152 O O (Ji (Jn)) O) (Lq (Jb O) (Jg O (J6 (Eq h m cap A H L hr bh bo on _ _ U hf0 (by omega)) (.n2 O O) (by decide) (.n6 .z2 .z3 .z3 .z3 .z3 .z3) (Jl Mm0 (Jl Mm1 Jw)) fun u1_4 Lo fs hres=> ?_)))))))))))))
 obtain ⟨rfl,rfl,rfl⟩:=hres
 rw [hpk]
 refine Lq (Jb O) (Lq (Jk (vs:= [_,_,_]) O O) (Lq (Jk (vs:= [_,_,_]) O O) (Lq (Jk (vs:= [_,_,_]) O O) (Jg O (Ju (cs:= [_,_]) JW O (by decide) fun b8=>Jg O (Jq (cs':= [_,_]) (vs:= [_,_]) JW O O O O O (Nat.le_of_ble_eq_true O) .z (Lq (Jd O) (Lq (Jd O) (Je (Jf (Jc (Jc (Ja (Lq (Jb O) ?_))))))))))))))
 refine Lq (Kz O O) (Je (Jf (Jv O O (Jp (Jf (Jc (Ja (Lq (Jb O) (Lq (Jb O) (Lq (JC O) (Lq (Jj Un152 O O (Ji (Ji (Ji (Ji (Ji (Ji (Ji (Ji (Jn))))))))) O) (Lq (Jb O) (Lq (Jb O) (Lq (JU O O (wr64 (by omega)) (c:=((k+1:Nat):Int))) (Jg O (JR (Jbz b cp k U jk hk h2 h3 h1 (by omega)) (.n3 O O O) (by decide) .z1 Jw fun u4_7 Lo fs hres=> ?_))))))))))))))))
 obtain ⟨jk2,rfl,hjk2,rfl,rfl⟩:=hres
 refine Lq (JC O) (Jg O (JJ Qj O O O .z .z8 (Je (Jf (Jc (JI _ _ [8] (.c 0 0 (.c 1 0 (.c 2 0 (.c 3 0 (.c 4 0 (.c 5 2 (.c 6 2 (.c 7 0 (.c 8 3 .nil))))))))) mixed (fun _ _ _ _ h=>h) (Sk (Sk (Sk (Sk (Sk (Sk (Sk (Sk (Sk (Sd (Sr))))))))))) (fun _ h=>h) (by kernel_rfl) (by decide) fun ws Z0=>Qe O (Jb O) (Qe O (Jb O) (Qe O (JC O) (Qe O (Jj Un152 O O (Ji (Ji (Ji (Ji (Ji (Ji (Ji (Ji (Jn))))))))) O) (Qe O (Jt (vs:= [_,_]) Un46 O JW O (Ji (Jn)) O O) ?_))))))))))
 refine Jz O O (KF (cs:= [_,_]) Un152 JW (by decide) (by decide) O O O O (by decide) fun b38=> ?_)
 refine ⟨⟨(Sd (Sk (Sk (Sk (Sk (Sk (Sk (Sk (Sk (Sk (Sd (Sr)))))))))))),Mm0⟩,?_⟩
 refine Jz O O (KH (news:= [_,_]) Un152 JW O (by decide) O O hR Jn O O (by omega) (by unfold maxLen;omega) (by decide) (DelAt.perm .z10) fun v39 p39 hr39=> ?_)
 obtain ⟨As39,cs39,es39⟩:=hr39.slice
 subst es39
 refine ⟨⟨(Sd (Sd (Sk (Sk (Sk (Sk (Sk (Sk (Sk (Sk (Sk (Sr)))))))))))),Mm0⟩,?_⟩
 refine Qe O (JC O) (JN (J8 O O (JJ Qj O O O .z1 .z10 (JM (Jf (Jc (Ja (Lq (Jt (vs:= [_,_]) Un46 O JW O (Ji (Ji (Ji (Jn)))) O O) (Jg O (Jq (cs':= [_,_]) (vs:= [_,_]) JW O O O O O (Nat.le_of_ble_eq_true O) .z9 (Lq (Jd O) (Je (Jf (Jo ?_))))))))))))))
 refine ⟨_,[_,_,_,_,_,_,_,_],[],fun Z w hs=>JV hs Un46 O JW O (Ji (Ji (Ji (Ji (Ji (Ji (Ji (Ji (Ji (Jn)))))))))) O (.tmp O .nil),?_,fun Z w hs=>((((((((hs.pick .z8).pick .z8).pick .z8).pick .z8).pick .z8).pick .z5).pick .z7).pick .z10).out (Sk (Sk (Sk (Sk (Sk (Sk (Sk (Sk (Sd (Sd (Sd (Sr)))))))))))) Tt1⟩
 have e:(upF (JY H on) U R)=(some x,U.eraseIdx k,R++ [x]):=by unfold upF;rw [hpk]
 rw [e]
 have hrow1:Row 46 2 (.slice (some ⟨b,0,none⟩) (U.eraseIdx k).length cp) (U.eraseIdx k).length (Kg idC (U.eraseIdx k)) [(b,JB (Kg idC (U.eraseIdx k)++jk2) 46)] :=⟨Qg, .inr ⟨b,cp,jk2,rfl,rfl,hjk2,by rw [List.length_eraseIdx_of_lt hk];omega,h3⟩⟩
 have hrow2:Row 46 2 (.slice As39 (R.length+1) cs39) (R++ [x]).length (Kg idC (R++ [x])) p39:=by rw [YF,VJ,List.length_append];exact hr39
 exact ⟨_,_,_,_,hrow1,hrow2,O,O,O⟩
theorem moveu_m (h m cap:Nat) (A:Option Addr) (H:Hist) (L:List MR) (hr:HR H L) (bh bo:Nat) (on:Bool) (s:Nat) (vu vr:Value) (pu pr:Part) (U R:List Id2) (hU:Row 46 2 vu U.length (Kg idC U) pu) (hR:Row 46 2 vr R.length (Kg idC R) pr) (hlU:U.length≤100000) (hlR:R.length≤100000):Sp Tryz.prog 110 [.pointer (some ⟨s,0,none⟩), .pointer (some ⟨s,1,none⟩), .func (.func 144) #[] #[.pointer (some ⟨bh,0,none⟩), .pointer (some ⟨bo,0,none⟩)]] [stP s vu vr,pu,pr,chP bh h,cbP bo on,hdP h A H.ops.length cap m H.total,mpP m L,mkP L] [RdF opD A cap H.ops,AllF L nowF] (fun u Lo fs=> ∃vu2 pu2 vr2 pr2,Row 46 2 vu2 (upF (JY H on) U R).2.1.length (Kg idC (upF (JY H on) U R).2.1) pu2∧Row 46 2 vr2 (upF (JY H on) U R).2.2.length (Kg idC (upF (JY H on) U R).2.2) pr2∧u=upV (upF (JY H on) U R).1∧Lo= [stP s vu2 vr2,pu2,pr2,chP bh h,cbP bo on,hdP h A H.ops.length cap m H.total,mpP m L,mkP L] ∧fs= []):=by
 cases hpk:pickF (JY H on) U with
 | none=>exact moveu_n h m cap A H L hr bh bo on s vu vr pu pr U R hU hR hlU hlR hpk
 | some kx=>exact Ja8 h m cap A H L hr bh bo on s vu vr pu pr U R hU hR hlU hlR kx.1 kx.2 hpk
set_option maxRecDepth 10000 in
theorem mover_n (h m cap:Nat) (A:Option Addr) (H:Hist) (L:List MR) (hr:HR H L) (bh bo:Nat) (on:Bool) (s:Nat) (vu vr:Value) (pu pr:Part) (U R:List Id2) (hU:Row 46 2 vu U.length (Kg idC U) pu) (hR:Row 46 2 vr R.length (Kg idC R) pr) (hlU:U.length≤100000) (hlR:R.length≤100000) (hpk:pickF (JY H on) R=none):Sp Tryz.prog 110 [.pointer (some ⟨s,1,none⟩), .pointer (some ⟨s,0,none⟩), .func (.func 144) #[] #[.pointer (some ⟨bh,0,none⟩), .pointer (some ⟨bo,0,none⟩)]] [stP s vu vr,pu,pr,chP bh h,cbP bo on,hdP h A H.ops.length cap m H.total,mpP m L,mkP L] [RdF opD A cap H.ops,AllF L nowF] (fun u Lo fs=> ∃vu2 pu2 vr2 pr2,Row 46 2 vu2 (upF (JY H on) R U).2.2.length (Kg idC (upF (JY H on) R U).2.2) pu2∧Row 46 2 vr2 (upF (JY H on) R U).2.1.length (Kg idC (upF (JY H on) R U).2.1) pr2∧u=upV (upF (JY H on) R U).1∧Lo= [stP s vu2 vr2,pu2,pr2,chP bh h,cbP bo on,hdP h A H.ops.length cap m H.total,mpP m L,mkP L] ∧fs= []):=by
 obtain ⟨Au,cu,rfl⟩:=hU.slice
 obtain ⟨Ar,cr,rfl⟩:=hR.slice
 refine Sp.of (n:=42) ⟨_,Tryz.func110,O,O,O,O⟩ (Nat.le_of_ble_eq_true O) fun Ps As=>Jc (Ja (Jg O (Ju (cs:= [_,_]) JW O (by decide) fun b6=>Lq (Jd O) (Je (Jf (Jc (Ja (Lq (Jb O) (Lq (JC O) (Lq (Jj Un152 O O (Ji (Jn)) O) (Lq (Jb O) (Jg O (J6 (Eq h m cap A H L hr bh bo on _ _ R hR (by omega)) (.n2 O O) (by decide) (.n6 .z3 .z3 .z3 .z3 .z3 .z3) (Jl Mm0 (Jl Mm1 Jw)) fun u1_4 Lo fs hres=> ?_)))))))))))))
 obtain ⟨rfl,rfl,rfl⟩:=hres
 rw [hpk]
 refine Lq (Jb O) (Lq (Jk (vs:= [_,_,_]) O O) (Lq (Jk (vs:= [_,_,_]) O O) (Lq (Jk (vs:= [_,_,_]) O O) (Jg O (Ju (cs:= [_,_]) JW O (by decide) fun b8=>Jg O (Jq (cs':= [_,_]) (vs:= [_,_]) JW O O O O O (Nat.le_of_ble_eq_true O) .z (Lq (Jd O) (Lq (Jd O) (Je (Jf (Jc (Jc (Ja (Lq (Jb O) ?_))))))))))))))
 refine Lq (Kz O O) (Je (Jf (J1 O O (Jc (Ja (Lq (JZ .nil (bd46Xg9)) (Lq (Jb O) (Jg O (Jq (cs':= [_,_]) (vs:= [_,_]) JW O O O O O (Nat.le_of_ble_eq_true O) .z7 (Lq (Jd O) (Je (Jf (Jo (Js ?_))))))))))))))
 refine ⟨_,[_,_,_,_,_,_,_,_],[],fun Z w hs=>JV hs Un46 O JW O (Ji (Ji (Ji (Ji (Ji (Ji (Ji (Jn)))))))) O (.tmp O .nil),?_,fun Z w hs=>((((((((hs.pick .z6).pick .z6).pick .z6).pick .z6).pick .z6).pick .z6).pick .z9).pick .z9).out (Sk (Sk (Sk (Sk (Sk (Sk (Sk (Sk (Sd (Sd (Sr))))))))))) (fun _ h=>h)⟩
 have e:(upF (JY H on) R U)=(none,R,U):=by unfold upF;rw [hpk]
 rw [e]
 exact ⟨_,pu,_,pr,hU,hR,O,O,O⟩
set_option maxRecDepth 10000 in
theorem Ja9 (h m cap:Nat) (A:Option Addr) (H:Hist) (L:List MR) (hr:HR H L) (bh bo:Nat) (on:Bool) (s:Nat) (vu vr:Value) (pu pr:Part) (U R:List Id2) (hU:Row 46 2 vu U.length (Kg idC U) pu) (hR:Row 46 2 vr R.length (Kg idC R) pr) (hlU:U.length≤100000) (hlR:R.length≤100000) (k:Nat) (x:Id2) (hpk:pickF (JY H on) R=some (k,x)):Sp Tryz.prog 110 [.pointer (some ⟨s,1,none⟩), .pointer (some ⟨s,0,none⟩), .func (.func 144) #[] #[.pointer (some ⟨bh,0,none⟩), .pointer (some ⟨bo,0,none⟩)]] [stP s vu vr,pu,pr,chP bh h,cbP bo on,hdP h A H.ops.length cap m H.total,mpP m L,mkP L] [RdF opD A cap H.ops,AllF L nowF] (fun u Lo fs=> ∃vu2 pu2 vr2 pr2,Row 46 2 vu2 (upF (JY H on) R U).2.2.length (Kg idC (upF (JY H on) R U).2.2) pu2∧Row 46 2 vr2 (upF (JY H on) R U).2.1.length (Kg idC (upF (JY H on) R U).2.1) pr2∧u=upV (upF (JY H on) R U).1∧Lo= [stP s vu2 vr2,pu2,pr2,chP bh h,cbP bo on,hdP h A H.ops.length cap m H.total,mpP m L,mkP L] ∧fs= []):=by
 obtain ⟨hx1,hx2⟩:=Y5 hpk
 have hk:k<R.length:=by
  rcases Nat.lt_or_ge k R.length with h | h
  ·exact h
  ·rw [List.getElem?_eq_none h] at hx1;cases hx1
 obtain ⟨At,ct,rfl⟩:=hU.slice
 have hf0:=hR
 obtain ⟨hfl,⟨_,h0,_⟩ | ⟨b,cp,jk,rfl,rfl,h1,h2,h3⟩⟩:=hR
 ·omega
 refine Sp.of (n:=42) ⟨_,Tryz.func110,O,O,O,O⟩ (Nat.le_of_ble_eq_true O) fun Ps As=>Jc (Ja (Jg O (Ju (cs:= [_,_]) JW O (by decide) fun b6=>Lq (Jd O) (Je (Jf (Jc (Ja (Lq (Jb O) (Lq (JC O) (Lq (Jj Un152 O O (Ji (Jn)) O) (Lq (Jb O) (Jg O (J6 (Eq h m cap A H L hr bh bo on _ _ R hf0 (by omega)) (.n2 O O) (by decide) (.n6 .z3 .z3 .z3 .z3 .z3 .z3) (Jl Mm0 (Jl Mm1 Jw)) fun u1_4 Lo fs hres=> ?_)))))))))))))
 obtain ⟨rfl,rfl,rfl⟩:=hres
 rw [hpk]
 refine Lq (Jb O) (Lq (Jk (vs:= [_,_,_]) O O) (Lq (Jk (vs:= [_,_,_]) O O) (Lq (Jk (vs:= [_,_,_]) O O) (Jg O (Ju (cs:= [_,_]) JW O (by decide) fun b8=>Jg O (Jq (cs':= [_,_]) (vs:= [_,_]) JW O O O O O (Nat.le_of_ble_eq_true O) .z (Lq (Jd O) (Lq (Jd O) (Je (Jf (Jc (Jc (Ja (Lq (Jb O) ?_))))))))))))))
 refine Lq (Kz O O) (Je (Jf (Jv O O (Jp (Jf (Jc (Ja (Lq (Jb O) (Lq (Jb O) (Lq (JC O) (Lq (Jj Un152 O O (Ji (Ji (Ji (Ji (Ji (Ji (Ji (Ji (Jn))))))))) O) (Lq (Jb O) (Lq (Jb O) (Lq (JU O O (wr64 (by omega)) (c:=((k+1:Nat):Int))) (Jg O (JR (Jbz b cp k R jk hk h2 h3 h1 (by omega)) (.n3 O O O) (by decide) .z1 Jw fun u4_7 Lo fs hres=> ?_))))))))))))))))
 obtain ⟨jk2,rfl,hjk2,rfl,rfl⟩:=hres
 refine Lq (JC O) (Jg O (JJ Qj O O O .z1 .z8 (Je (Jf (Jc (JI _ _ [8] (.c 0 0 (.c 1 0 (.c 2 0 (.c 3 0 (.c 4 0 (.c 5 2 (.c 6 2 (.c 7 0 (.c 8 3 .nil))))))))) mixed (fun _ _ _ _ h=>h) (Sk (Sk (Sk (Sk (Sk (Sk (Sk (Sk (Sk (Sd (Sr))))))))))) (fun _ h=>h) (by kernel_rfl) (by decide) fun ws Z0=>Qe O (Jb O) (Qe O (Jb O) (Qe O (JC O) (Qe O (Jj Un152 O O (Ji (Ji (Ji (Ji (Ji (Ji (Ji (Ji (Jn))))))))) O) (Qe O (Jt (vs:= [_,_]) Un46 O JW O (Ji (Jn)) O O) ?_))))))))))
 refine Jz O O (KF (cs:= [_,_]) Un152 JW (by decide) (by decide) O O O O (by decide) fun b38=> ?_)
 refine ⟨⟨(Sd (Sk (Sk (Sk (Sk (Sk (Sk (Sk (Sk (Sk (Sd (Sr)))))))))))),Mm0⟩,?_⟩
 refine Jz O O (KH (news:= [_,_]) Un152 JW O (by decide) O O hU Jn O O (by omega) (by unfold maxLen;omega) (by decide) (DelAt.perm .z10) fun v39 p39 hr39=> ?_)
 obtain ⟨As39,cs39,es39⟩:=hr39.slice
 subst es39
 refine ⟨⟨(Sd (Sd (Sk (Sk (Sk (Sk (Sk (Sk (Sk (Sk (Sk (Sr)))))))))))),Mm0⟩,?_⟩
 refine Qe O (JC O) (JN (J8 O O (JJ Qj O O O .z .z10 (JM (Jf (Jc (Ja (Lq (Jt (vs:= [_,_]) Un46 O JW O (Ji (Ji (Ji (Jn)))) O O) (Jg O (Jq (cs':= [_,_]) (vs:= [_,_]) JW O O O O O (Nat.le_of_ble_eq_true O) .z9 (Lq (Jd O) (Je (Jf (Jo ?_))))))))))))))
 refine ⟨_,[_,_,_,_,_,_,_,_],[],fun Z w hs=>JV hs Un46 O JW O (Ji (Ji (Ji (Ji (Ji (Ji (Ji (Ji (Ji (Jn)))))))))) O (.tmp O .nil),?_,fun Z w hs=>((((((((hs.pick .z8).pick .z8).pick .z8).pick .z8).pick .z8).pick .z7).pick .z6).pick .z10).out (Sk (Sk (Sk (Sk (Sk (Sk (Sk (Sk (Sd (Sd (Sd (Sr)))))))))))) Tt1⟩
 have e:(upF (JY H on) R U)=(some x,R.eraseIdx k,U++ [x]):=by unfold upF;rw [hpk]
 rw [e]
 have hrow1:Row 46 2 (.slice (some ⟨b,0,none⟩) (R.eraseIdx k).length cp) (R.eraseIdx k).length (Kg idC (R.eraseIdx k)) [(b,JB (Kg idC (R.eraseIdx k)++jk2) 46)] :=⟨Qg, .inr ⟨b,cp,jk2,rfl,rfl,hjk2,by rw [List.length_eraseIdx_of_lt hk];omega,h3⟩⟩
 have hrow2:Row 46 2 (.slice As39 (U.length+1) cs39) (U++ [x]).length (Kg idC (U++ [x])) p39:=by rw [YF,VJ,List.length_append];exact hr39
 exact ⟨_,_,_,_,hrow2,hrow1,O,O,O⟩
theorem mover_m (h m cap:Nat) (A:Option Addr) (H:Hist) (L:List MR) (hr:HR H L) (bh bo:Nat) (on:Bool) (s:Nat) (vu vr:Value) (pu pr:Part) (U R:List Id2) (hU:Row 46 2 vu U.length (Kg idC U) pu) (hR:Row 46 2 vr R.length (Kg idC R) pr) (hlU:U.length≤100000) (hlR:R.length≤100000):Sp Tryz.prog 110 [.pointer (some ⟨s,1,none⟩), .pointer (some ⟨s,0,none⟩), .func (.func 144) #[] #[.pointer (some ⟨bh,0,none⟩), .pointer (some ⟨bo,0,none⟩)]] [stP s vu vr,pu,pr,chP bh h,cbP bo on,hdP h A H.ops.length cap m H.total,mpP m L,mkP L] [RdF opD A cap H.ops,AllF L nowF] (fun u Lo fs=> ∃vu2 pu2 vr2 pr2,Row 46 2 vu2 (upF (JY H on) R U).2.2.length (Kg idC (upF (JY H on) R U).2.2) pu2∧Row 46 2 vr2 (upF (JY H on) R U).2.1.length (Kg idC (upF (JY H on) R U).2.1) pr2∧u=upV (upF (JY H on) R U).1∧Lo= [stP s vu2 vr2,pu2,pr2,chP bh h,cbP bo on,hdP h A H.ops.length cap m H.total,mpP m L,mkP L] ∧fs= []):=by
 cases hpk:pickF (JY H on) R with
 | none=>exact mover_n h m cap A H L hr bh bo on s vu vr pu pr U R hU hR hlU hlR hpk
 | some kx=>exact Ja9 h m cap A H L hr bh bo on s vu vr pu pr U R hU hR hlU hlR kx.1 kx.2 hpk
set_option maxRecDepth 10000 in
theorem GQ (h:Nat) (on:Bool):Sp Tryz.prog 111 [.pointer (some ⟨h,0,none⟩), .bool on] [] [] (fun u Lo fs=> ∃bh bo:Nat,u= .func (.func 144) #[] #[.pointer (some ⟨bh,0,none⟩), .pointer (some ⟨bo,0,none⟩)] ∧Lo= [chP bh h,cbP bo on] ∧fs= []):=by
 refine Sp.of (n:=6) ⟨_,Tryz.func111,O,O,O,O⟩ (Nat.le_of_ble_eq_true O) fun Ps As=>Jc (Ja (Jg O (J9 (cs:= [_]) O O (by decide) fun b2=>Jg O (J9 (cs:= [_]) O O (by decide) fun b3=>Lq (Jd O) (Je (Jf (Jc (Ja (Lq (QY (.n2 O O)) (Lq (Jd O) (Je (Jf (Jo ?_)))))))))))))
 refine ⟨_,[_,_],[],fun Z w hs=> .tmp O .nil,?_,fun Z w hs=>((hs.pick .z).pick .z1).out (Sk (Sk (Sr))) (fun _ h=>h)⟩
 exact ⟨b2,b3,O,O,O⟩
set_option maxRecDepth 10000 in
theorem XP (h m cap:Nat) (A:Option Addr) (H:Hist) (L:List MR) (hr:HR H L) (s:Nat) (vu vr:Value) (pu pr:Part) (U R:List Id2) (hU:Row 46 2 vu U.length (Kg idC U) pu) (hR:Row 46 2 vr R.length (Kg idC R) pr) (hlU:U.length≤100000) (hlR:R.length≤100000):Sp Tryz.prog 76 [.pointer (some ⟨s,0,none⟩), .pointer (some ⟨h,0,none⟩)] [stP s vu vr,pu,pr,hdP h A H.ops.length cap m H.total,mpP m L,mkP L] [RdF opD A cap H.ops,AllF L nowF] (fun u Lo fs=> ∃vu2 pu2 vr2 pr2,Row 46 2 vu2 (upF (JY H true) U R).2.1.length (Kg idC (upF (JY H true) U R).2.1) pu2∧Row 46 2 vr2 (upF (JY H true) U R).2.2.length (Kg idC (upF (JY H true) U R).2.2) pr2∧u=upV (upF (JY H true) U R).1∧Lo= [stP s vu2 vr2,pu2,pr2,hdP h A H.ops.length cap m H.total,mpP m L,mkP L] ∧fs= []):=by
 refine Sp.of (n:=20) ⟨_,Tryz.func76,O,O,O,O⟩ (Nat.le_of_ble_eq_true O) fun Ps As=>Jc (Ja (Jg O (Ju (cs:= [_,_]) JW O (by decide) fun b4=>Lq (Jd O) (Je (Jf (Jc (Jc (Ja (Lq (Jb O) (Lq (KN Un33 O O (by simp)) (Je (Jf (Jv O O (Jp (Jf (Jc (JI _ _ [11] (.c 0 0 (.c 1 0 (.c 2 0 (.c 3 0 (.c 4 0 (.c 5 0 (.c 6 0 (.c 7 2 (.c 8 2 (.c 9 0 (.c 10 0 (.c 11 3 (.c 12 1 .nil))))))))))))) mixed (fun _ _ _ _ h=>h) (Sd (Sd (Sd (Sd (Sk (Sk (Sk (Sr)))))))) (fun _ h=>h) (by kernel_rfl) (by decide) fun ws Z0=>Qe O (Jb O) ?_)))))))))))))))))
 refine Qe O (JC O) (Qe O (Jh (o':=0) Un154 O Qj O O) (Qe O (Jb O) (Qe O (JC O) (Qe O (Jh (o':=1) Un154 O Qj O O) (Qe O (Jb O) (Jz O O (Jm (GQ h true) (.n2 O O) (by decide) Jw fun u3_7 Lo fs hres=> ?_)))))))
 obtain ⟨bh,bo,rfl,rfl,rfl⟩:=hres
 refine ⟨⟨(Sd (Sd (Sd (Sd (Sd (Sd (Sk (Sk (Sk (Sr)))))))))),Mm0⟩,?_⟩
 refine Jz O O (J6 (moveu_m h m cap A H L hr bh bo true s vu vr pu pr U R hU hR hlU hlR) (.n3 O O O) (by decide) (.n8 .z3 .z3 .z3 .z .z .z1 .z1 .z1) (Jl Mm1 (Jl Mm2 Jw)) fun u3_8 Lo fs hres=> ?_)
 obtain ⟨vu2,pu2,vr2,pr2,hU2,hR2,rfl,rfl,rfl⟩:=hres
 refine ⟨⟨(Sd (Sd (Sd (Sd (Sd (Sk (Sk (Sk (Sd (Sr)))))))))),Mm0⟩,?_⟩
 refine Qe O (Jk (vs:= [_,_]) O O) (Qe O (Jk (vs:= [_,_]) O O) (JN (J8 O O (Jq (cs':= [_,_]) (vs:= [_,_]) JW O O O O O (Nat.le_of_ble_eq_true O) .z8 (YH O (Jd O) (by decide) (JM (Jf (Jo ?_))))))))
 refine ⟨_,[_,_,_,_,_,_],[],fun Z w hs=>JV hs Un46 O JW O (Ji (Ji (Ji (Ji (Ji (Ji (Ji (Ji (Jn))))))))) O (.tmp O .nil),?_,fun Z w hs=>hs.out (Sk (Sk (Sk (Sd (Sd (Sk (Sk (Sk (Sd (Sr)))))))))) Tt1⟩
 exact ⟨vu2,pu2,vr2,pr2,hU2,hR2,O,O,O⟩
set_option maxRecDepth 10000 in
theorem XQ (h m cap:Nat) (A:Option Addr) (H:Hist) (L:List MR) (hr:HR H L) (s:Nat) (vu vr:Value) (pu pr:Part) (U R:List Id2) (hU:Row 46 2 vu U.length (Kg idC U) pu) (hR:Row 46 2 vr R.length (Kg idC R) pr) (hlU:U.length≤100000) (hlR:R.length≤100000):Sp Tryz.prog 117 [.pointer (some ⟨s,0,none⟩), .pointer (some ⟨h,0,none⟩)] [stP s vu vr,pu,pr,hdP h A H.ops.length cap m H.total,mpP m L,mkP L] [RdF opD A cap H.ops,AllF L nowF] (fun u Lo fs=> ∃vu2 pu2 vr2 pr2,Row 46 2 vu2 (upF (JY H false) R U).2.2.length (Kg idC (upF (JY H false) R U).2.2) pu2∧Row 46 2 vr2 (upF (JY H false) R U).2.1.length (Kg idC (upF (JY H false) R U).2.1) pr2∧u=upV (upF (JY H false) R U).1∧Lo= [stP s vu2 vr2,pu2,pr2,hdP h A H.ops.length cap m H.total,mpP m L,mkP L] ∧fs= []):=by
 refine Sp.of (n:=20) ⟨_,Tryz.func117,O,O,O,O⟩ (Nat.le_of_ble_eq_true O) fun Ps As=>Jc (Ja (Jg O (Ju (cs:= [_,_]) JW O (by decide) fun b4=>Lq (Jd O) (Je (Jf (Jc (Jc (Ja (Lq (Jb O) (Lq (KN Un33 O O (by simp)) (Je (Jf (Jv O O (Jp (Jf (Jc (JI _ _ [11] (.c 0 0 (.c 1 0 (.c 2 0 (.c 3 0 (.c 4 0 (.c 5 0 (.c 6 0 (.c 7 2 (.c 8 2 (.c 9 0 (.c 10 0 (.c 11 3 (.c 12 1 .nil))))))))))))) mixed (fun _ _ _ _ h=>h) (Sd (Sd (Sd (Sd (Sk (Sk (Sk (Sr)))))))) (fun _ h=>h) (by kernel_rfl) (by decide) fun ws Z0=>Qe O (Jb O) ?_)))))))))))))))))
 refine Qe O (JC O) (Qe O (Jh (o':=1) Un154 O Qj O O) (Qe O (Jb O) (Qe O (JC O) (Qe O (Jh (o':=0) Un154 O Qj O O) (Qe O (Jb O) (Jz O O (Jm (GQ h false) (.n2 O O) (by decide) Jw fun u3_7 Lo fs hres=> ?_)))))))
 obtain ⟨bh,bo,rfl,rfl,rfl⟩:=hres
 refine ⟨⟨(Sd (Sd (Sd (Sd (Sd (Sd (Sk (Sk (Sk (Sr)))))))))),Mm0⟩,?_⟩
 refine Jz O O (J6 (mover_m h m cap A H L hr bh bo false s vu vr pu pr U R hU hR hlU hlR) (.n3 O O O) (by decide) (.n8 .z3 .z3 .z3 .z .z .z1 .z1 .z1) (Jl Mm1 (Jl Mm2 Jw)) fun u3_8 Lo fs hres=> ?_)
 obtain ⟨vu2,pu2,vr2,pr2,hU2,hR2,rfl,rfl,rfl⟩:=hres
 refine ⟨⟨(Sd (Sd (Sd (Sd (Sd (Sk (Sk (Sk (Sd (Sr)))))))))),Mm0⟩,?_⟩
 refine Qe O (Jk (vs:= [_,_]) O O) (Qe O (Jk (vs:= [_,_]) O O) (JN (J8 O O (Jq (cs':= [_,_]) (vs:= [_,_]) JW O O O O O (Nat.le_of_ble_eq_true O) .z8 (YH O (Jd O) (by decide) (JM (Jf (Jo ?_))))))))
 refine ⟨_,[_,_,_,_,_,_],[],fun Z w hs=>JV hs Un46 O JW O (Ji (Ji (Ji (Ji (Ji (Ji (Ji (Ji (Jn))))))))) O (.tmp O .nil),?_,fun Z w hs=>hs.out (Sk (Sk (Sk (Sd (Sd (Sk (Sk (Sk (Sd (Sr)))))))))) Tt1⟩
 exact ⟨vu2,pu2,vr2,pr2,hU2,hR2,O,O,O⟩
set_option maxRecDepth 10000 in
theorem Jby (s:Nat) (vu vr:Value) (pu pr:Part) (U R:List Id2) (hU:Row 46 2 vu U.length (Kg idC U) pu) (hR:Row 46 2 vr R.length (Kg idC R) pr) (hlU:U.length≤1000000) (hlR:R.length≤1000000) (i0 i1:Int) (hi:1≤i0∧i0≤8∧1≤i1∧i1≤1024) (hnU:(i0,i1)∉U) (hnR:(i0,i1)∉R):Sp Tryz.prog 51 [.pointer (some ⟨s,0,none⟩), .agg #[.int .i64 i0, .int .i64 i1]] [stP s vu vr,pu,pr] [] (fun u Lo fs=> ∃vu2 pu2,Row 46 2 vu2 (U++ [(i0,i1)]).length (Kg idC (U++ [(i0,i1)])) pu2∧u= .int .i64 0∧Lo= [stP s vu2 (.slice none 0 0),pu2,[]] ∧fs= []):=by
 obtain ⟨Au,cu,rfl⟩:=hU.slice
 obtain ⟨Ar,cr,rfl⟩:=hR.slice
 refine Sp.of (n:=50) ⟨_,Tryz.func51,O,O,O,O⟩ (Nat.le_of_ble_eq_true O) fun Ps As=>Jc (Ja (Jg O (J9 (cs:= [_,_]) O O (by decide) fun b3=>Lq (Jd O) (Je (Jf (Jc (Jc (Ja (Lq (Yf (o':=0) Un46 ti3 O O (by decide) (by decide) O) (Lq (Jj Un3 O O Jn O) (Lq (Km O O) (Lq (Jb O) (Lg O O O (decide_eq_false (by omega)) (Yf (o':=0) Un46 ti3 O O (by decide) (by decide) O) ?_)))))))))))))
 refine Lg O O O (decide_eq_false (by omega)) (Jj Un3 O O Jn O) (Lg O O O (decide_eq_false (by omega)) (Kl O O) (Lq (JH O (decide_eq_false (by omega)) O) (Lq (Jb O) (Lg O O O (decide_eq_false (by omega)) (Yf (o':=1) Un46 ti3 O O (by decide) (by decide) O) (Lg O O O (decide_eq_false (by omega)) (Jj Un3 O O Jn O) (Lg O O O (decide_eq_false (by omega)) (Km O O) (Lq (JH O (decide_eq_false (by omega)) O) (Lq (Jb O) (Lg O O O (decide_eq_false (by omega)) (Yf (o':=1) Un46 ti3 O O (by decide) (by decide) O) ?_)))))))))
 refine Lg O O O (decide_eq_false (by omega)) (Jj Un3 O O Jn O) (Lg O O O (decide_eq_false (by omega)) (Kl O O) (Lq (JH O (decide_eq_false (by omega)) O) (Je (Jf (Jv O (decide_eq_false (by omega)) (Jp (Jf (Jc (Jc (JI _ _ [] (.c 0 0 (.c 1 0 (.c 2 0 (.c 3 0 (.c 4 0 (.c 5 2 (.c 6 0 (.c 7 0 (.c 8 0 (.c 9 0 (.c 10 0 (.c 11 0 (.c 12 2 (.c 13 0 .nil)))))))))))))) mixed (fun _ _ _ _ h=>h) (Sk (Sk (Sd (Sd (Sr))))) (fun _ h=>h) (by kernel_rfl) (by decide) fun ws Z0=>Qe O (Jb O) (Qe O (JC O) (Qe O (Jh (o':=0) Un154 O Qj O O) ?_))))))))))))
 refine Qe O (Jj Un152 O O (Ji (Jn)) O) (Qe O (Jt (vs:= [_,_]) Un46 O JW O Jn O O) (Jz O O (JR (Jb0 _ _ U hU hlU i0 i1) (.n2 O O) (by decide) .z2 Jw fun u3_5 Lo fs hres=> ?_)))
 obtain ⟨rfl,rfl,rfl⟩:=hres
 rw [decide_eq_false hnU]
 refine ⟨⟨(Sd (Sk (Sk (Sd (Sr))))),Mm0⟩,?_⟩
 refine Qe O (Jb O) (Ki O O O O O (Jb O) (by decide) (Ki O O O O O (JC O) (by decide) (Ki O O O O O (Jh (o':=1) Un154 O Qj O O) (by decide) (Ki O O O O O (Jj Un152 O O (Ji (Jn)) O) (by decide) (Ki O O O O O (Jt (vs:= [_,_]) Un46 O JW O Jn O O) (by decide) (YK O O O O O O (JR (Jb0 _ _ R hR hlR i0 i1) (.n2 O O) (by decide) .z3 Jw fun u3_12 Lo fs hres=> ?_)))))))
 obtain ⟨rfl,rfl,rfl⟩:=hres
 rw [decide_eq_false hnR]
 refine ⟨⟨(Sd (Sd (Sk (Sk (Sr))))),Mm0⟩,?_⟩
 refine Qe O (JH O O O) (JN (JM (Jf (Jv O O (Jp (Jf (Jc (JI _ _ [10] (.c 0 0 (.c 1 0 (.c 2 0 (.c 3 0 (.c 4 0 (.c 5 0 (.c 6 2 (.c 7 2 (.c 8 0 (.c 9 0 (.c 10 3 .nil))))))))))) mixed (fun _ _ _ _ h=>h) (Sk (Sd (Sk (Sk (Sr))))) (fun _ h=>h) (by kernel_rfl) (by decide) fun ws Z0=>Qe O (Jb O) (Qe O (Jb O) (Qe O (JC O) (Qe O (Jh (o':=0) Un154 O Qj O O) (Qe O (Jj Un152 O O (Ji (Ji (Jn))) O) (Qe O (Jt (vs:= [_,_]) Un46 O JW O (Ji (Jn)) O O) ?_)))))))))))))
 refine Jz O O (KF (cs:= [_,_]) Un152 JW (by decide) (by decide) O O O O (by decide) fun b43=> ?_)
 refine ⟨⟨(Sd (Sk (Sd (Sk (Sk (Sr)))))),Mm0⟩,?_⟩
 refine Jz O O (KH (news:= [_,_]) Un152 JW O (by decide) O O hU Jn O O (by omega) (by unfold maxLen;omega) (by decide) (DelAt.perm .z2) fun v9 p9 hr9=> ?_)
 obtain ⟨As9,cs9,es9⟩:=hr9.slice
 subst es9
 refine ⟨⟨(Sd (Sd (Sk (Sk (Sk (Sr)))))),Mm0⟩,?_⟩
 refine Qe O (JC O) (Qe O (Jh (o':=0) Un154 O Qj O O) (JN (J8 O O (JJ Qj O O O .z .z4 (JM (Jf (Jc (Ja (Lq (Jb O) (Lq (JC O) (Lq (Jh (o':=1) Un154 O Qj O O) (Jg O (JJ Qj O O O .z1 .z4 (Je (Jf (Jc ?_))))))))))))))))
 refine Ky (Ja (Lq (Jd O) (Je (Jf (Jo ?_)))))
 refine ⟨_,[_,_,_],[],fun Z w hs=> .tmp O .nil,?_,fun Z w hs=>(((hs.pick .z).pick .z1).pick .z5).out (Sk (Sk (Sk (Sd (Sd (Sd (Sr))))))) Tt2⟩
 have hrow:Row 46 2 (.slice As9 (U.length+1) cs9) (U++ [(i0,i1)]).length (Kg idC (U++ [(i0,i1)])) p9:=by rw [YF,VJ,List.length_append];exact hr9
 exact ⟨_,p9,hrow,O,O,O⟩
theorem bd154Xg10 (w:World):(Instr.build 154 #[]).run Tryz.prog w= .ok (.agg #[.slice none 0 0, .slice none 0 0]) w:=by kernel_rfl
set_option maxRecDepth 10000 in
theorem HG:Sp Tryz.prog 73 [] [] [] (fun u Lo fs=> ∃s:Nat,u= .pointer (some ⟨s,0,none⟩)∧Lo= [stP s (.slice none 0 0) (.slice none 0 0)] ∧fs= []):=by
 refine Sp.of (n:=3) ⟨_,Tryz.func73,O,O,O,O⟩ (Nat.le_of_ble_eq_true O) fun Ps As=>Jc (Ja (Lq (Jd O) (Je (Jf (Jc (Ja (Lq (JZ .nil (bd154Xg10)) (Jg O (J9 (cs:= [_,_]) O O (by decide) fun b2=>Lq (Jd O) (Je (Jf (Jo ?_))))))))))))
 refine ⟨_,[_],[],fun Z w hs=> .tmp O .nil,?_,fun Z w hs=>hs.out (Sk (Sr)) (fun _ h=>h)⟩
 exact ⟨b2,O,O,O⟩
structure DM where
 d:Nat
 h:Nat
 m:Nat
 b:Nat
 s:Nat
 A:Option Addr
 cap:Nat
 B:Option Addr
 t:Tr
 L:List MR
 vu:Value
 vr:Value
 pu:Part
 pr:Part
structure DS where
 u:Int
 cl:Int
 ce:Int
 op:Int
 H:Hist
 X:List Ce
 got:Nat
 made:Nat
 put:List Int
 gap:Nat
 U:List Id2
 R:List Id2
abbrev dkB (M:DM) (D:DS):Part:=dkP M.d M.h M.b D.u D.cl D.ce D.op D.got D.made D.put D.gap M.s
abbrev KC (M:DM) (D:DS):List Part:= [dkB M D,hdP M.h M.A D.H.ops.length M.cap M.m D.H.total,mpP M.m M.L,mkP M.L,rpP M.b M.B,stP M.s M.vu M.vr,M.pu,M.pr]
abbrev KY (M:DM) (D:DS):List Fact:= [RdF opD M.A M.cap D.H.ops,AllF M.L nowF,TrF M.B M.t]
structure DkOk (M:DM) (D:DS):Prop where
 hr:HR D.H M.L
 wt:Wf M.t
 row:M.t.row=D.X
 hU:Row 46 2 M.vu D.U.length (Kg idC D.U) M.pu
 hR:Row 46 2 M.vr D.R.length (Kg idC D.R) M.pr
 di:DI D.H.ops.length D.H D.X
 us:1≤D.u∧D.u≤8
 pl:D.put.length=9
 p0: ∀x∈D.put,0≤x∧x≤4096
 lm:D.ce≤4096∧D.op≤1024∧1≤D.cl∧D.cl≤8
 gp:D.gap≤D.X.length
 rc:D.got≤D.H.ops.length
 md:D.made≤1024
 sl:D.U.length+D.R.length≤D.made
theorem DkOk.xl {M:DM} {D:DS} (ok:DkOk M D):D.X.length≤60000:=by
 have h1:=ok.di.row
 have h2:=ok.di.tot0
 omega
theorem DkOk.tl {M:DM} {D:DS} (ok:DkOk M D):M.t.row.length≤60000:=by rw [ok.row];exact ok.xl
theorem DkOk.n {M:DM} {D:DS} (ok:DkOk M D):D.H.ents.length=D.H.ops.length:=ok.di.len
def DkR (M:DM) (D:DS) (u:Value):Value→List Part→List Fact→Prop:=fun v Lo fs=> ∃M2:DM,M2.d=M.d∧DkOk M2 D∧v=u∧Lo=KC M2 D∧fs=KY M2 D
structure Beh (X:List Ce) (p k:Nat):Prop where
 le:k≤X.length
 ct:J5 (X.take k)=p
 z:p=0→k=0
 at_:0<p→ ∃r,X[k-1]? =some (r,0)
def mkH (D:DS) (o:GOp):Hist:=(putF D.H D.H.ops.length o).1
def mkE (D:DS) (o:GOp):GOp:=(putF D.H D.H.ops.length o).2.1
structure MkD (D:DS) (o:GOp):Prop where
 tk:TkD D.H D.X D.H.ops.length D.H.ops.length o (mkH D o) (mkE D o)
 ops:(mkH D o).ops=D.H.ops++ [o]
 len:(JT (mkE D o) D.X).length=D.X.length+(Jx o).toNat
 di:DI (D.H.ops.length+1) (mkH D o) (JT (mkE D o) D.X)
def putA (D:DS) (c:Int):Int:=D.put.getD c.toNat 0
def insO (D:DS) (k:Nat) (text:ByteArray):GOp:= { zeroOp with c:=D.u,n:=D.made+1,kind:=1,at_:=k,text:=text }
def insD (D:DS) (k:Nat) (text:ByteArray):DS:= { D with H:=mkH D (insO D k text),X:=JT (mkE D (insO D k text)) D.X,made:=D.made+1,put:=D.put.set D.u.toNat (putA D D.u+(utF text).1),gap:=k+(utF text).1.toNat,U:=D.U++ [(D.u,(D.made:Int)+1)],R:= [] }
def hideO (D:DS) (rs:List Rg):GOp:= { zeroOp with c:=D.u,n:=D.made+1,kind:=2,rs:=rs }
def hideD (D:DS) (rs:List Rg) (k:Nat):DS:= { D with H:=mkH D (hideO D rs),X:=JT (mkE D (hideO D rs)) D.X,made:=D.made+1,gap:=k,U:=D.U++ [(D.u,(D.made:Int)+1)],R:= [] }
def statO (D:DS) (id:Id2) (on:Bool):GOp:= { zeroOp with c:=D.u,n:=D.made+1,kind:=4,tc:=id.1,tn:=id.2,on:=on }
def turnGap (gap:Nat) (e:GEn) (on:Bool):Nat:=match e.rs,e.rs.getLast? with
 | r::_,some l=>if (on==(e.kind==1))=true then l.hi.toNat else r.lo.toNat
 | _,_=>gap
def statD (D:DS) (id:Id2) (on:Bool) (j:Nat):DS:= { D with H:=mkH D (statO D id on),X:=JT (mkE D (statO D id on)) D.X,made:=D.made+1,gap:=turnGap D.gap (entryF (mkH D (statO D id on)) j).1 on }
def K0 (D:DS) (o:GOp):DS:= { D with H:=(putF D.H D.got o).1,X:=JT (putF D.H D.got o).2.1 D.X,got:=D.got+1,put:=D.put.set o.c.toNat (putA D o.c+Jx o),gap:=if (putF D.H D.got o).2.1.kind=1∧(putF D.H D.got o).2.1.at_<D.gap then D.gap+(Jx (putF D.H D.got o).2.1).toNat else D.gap }
theorem Beh.zero (X:List Ce):Beh X 0 0:=⟨Nat.zero_le _,by simp [J5],fun _=>rfl,fun h=>absurd h (Nat.lt_irrefl _)⟩
theorem Pth.beh {X:List Ce} {p k:Nat} (h:Pth X p k) (hp:p<J5 X):Beh X (p+1) (k+1):=by
 obtain ⟨r,hr⟩:=h.at_ hp
 have hk:k<X.length:=by
  rcases Nat.lt_or_ge k X.length with h | h
  ·exact h
  ·rw [List.getElem?_eq_none h] at hr;cases hr
 have e:=List.getElem?_eq_getElem hk
 rw [e] at hr
 refine ⟨hk,?_,fun h=>by omega,fun _=>⟨r,by rw [Nat.add_sub_cancel,e,hr]⟩⟩
 rw [List.take_succ_eq_append_getElem hk,Ko,h.ct,Option.some.inj hr]
 rfl
set_option maxRecDepth 10000 in
theorem behind_0 (M:DM) (D:DS) (ok:DkOk M D) (p:Nat) (hp:p=0):Sp Tryz.prog 57 [.pointer (some ⟨M.d,0,none⟩), .int .i64 p] [dkB M D,rpP M.b M.B] [TrF M.B M.t] (fun v Lo fs=> ∃k:Nat,Beh D.X p k∧v= .int .i64 k∧Lo= [dkB M D,rpP M.b M.B] ∧fs= []):=by
 have hvl:=KA M.t.row
 have hwt:=ok.wt
 have htl:=ok.tl
 have hrow:=ok.row
 have hpl:=ok.pl
 refine Sp.of (n:=22) ⟨_,Tryz.func57,O,O,O,O⟩ (Nat.le_of_ble_eq_true O) fun Ps As=>Jc (Ja (Lq (Jd O) (Je (Jf (Jc (Jc (Ja (Lq (Jb O) (Lq (Kh O O) (Je (Jf (J1 O (by simp;omega) (Jc (Ja (Lq (Jd O) ?_)))))))))))))))
 refine Je (Jf (Jo (Js ?_)))
 refine ⟨_,[_,_],[],fun Z w hs=> .tmp O .nil,?_,fun Z w hs=>hs.out (Sk (Sk (Sr))) (fun _ h=>h)⟩
 subst hp
 exact ⟨0,Beh.zero _,O,O,O⟩
set_option maxRecDepth 10000 in
theorem behind_1 (M:DM) (D:DS) (ok:DkOk M D) (q p:Nat) (hq:p=q+1) (hp:p≤J5 D.X):Sp Tryz.prog 57 [.pointer (some ⟨M.d,0,none⟩), .int .i64 p] [dkB M D,rpP M.b M.B] [TrF M.B M.t] (fun v Lo fs=> ∃k:Nat,Beh D.X p k∧v= .int .i64 k∧Lo= [dkB M D,rpP M.b M.B] ∧fs= []):=by
 have hvl:=KA M.t.row
 have hwt:=ok.wt
 have htl:=ok.tl
 have hrow:=ok.row
 have hpl:=ok.pl
 have hvx:J5 M.t.row=J5 D.X:=by rw [hrow]
 refine Sp.of (n:=22) ⟨_,Tryz.func57,O,O,O,O⟩ (Nat.le_of_ble_eq_true O) fun Ps As=>Jc (Ja (Lq (Jd O) (Je (Jf (Jc (Jc (Ja (Lq (Jb O) (Lq (Kh O O) (Je (Jf (Jv O (by simp;omega) (Jp (Jf (Jc (Ja (Lq (Jb O) ?_)))))))))))))))))
 refine Lq (JC O) (Lq (Jh (o':=0) Un42 O Yk O O) (Lq (Jh (o':=1) Un36 O GM O O) (Lq (Jj Un34 O O Jn O) (Lq (Jb O) (Lq (KP O O (by rw [wr64 (by omega)];omega) (c:=((q:Nat):Int))) (Jg O (JR (totalOf_g M.b M.B M.t hwt (by omega) q (by omega)) (.n2 O O) (by decide) .z1 (Jl Mm0 Jw) fun u3_7 Lo fs hres=> ?_)))))))
 obtain ⟨k,hk,rfl,rfl,rfl⟩:=hres
 have hkl:=hk.le
 refine Lq (Jb O) (Lq (Jk (vs:= [_,_]) O O) (Lq (Jk (vs:= [_,_]) O O) (Lq (Jd O) (Lq (Jd O) (Je (Jf (Jc (Ja (Lq (Jb O) (Lq (JU O O (wr64 (by omega)) (c:=((k+1:Nat):Int))) (Lq (Jd O) (Je (Jf (Jo ?_))))))))))))))
 refine ⟨_,[_,_],[],fun Z w hs=> .tmp O .nil,?_,fun Z w hs=>((hs.pick .z).pick .z1).out (Sk (Sk (Sr))) (fun _ h=>h)⟩
 rw [hrow] at hk
 exact ⟨k+1,by subst hq;exact hk.beh (by omega),O,O,O⟩
theorem E7 (M:DM) (D:DS) (ok:DkOk M D) (p:Nat) (hp:p≤J5 D.X):Sp Tryz.prog 57 [.pointer (some ⟨M.d,0,none⟩), .int .i64 p] [dkB M D,rpP M.b M.B] [TrF M.B M.t] (fun v Lo fs=> ∃k:Nat,Beh D.X p k∧v= .int .i64 k∧Lo= [dkB M D,rpP M.b M.B] ∧fs= []):=by
 cases p with
 | zero=>exact behind_0 M D ok 0 rfl
 | succ q=>exact behind_1 M D ok q (q+1) rfl hp
theorem dkl17 {a b u cl ce op rec made x y:Value} {put:List Int} (h:put.length=9):17<(a::b::u::cl::ce::op::rec::made::(ints .i64 put++ [x,y])).length:=by
 have:(ints .i64 put).length=9:=by unfold ints;rw [List.length_map];exact h
 simp [this]
def gapD (D:DS) (k:Nat):DS:= { D with gap:=k }
theorem DkOk.gap {M:DM} {D:DS} (ok:DkOk M D) {k:Nat} (h:k≤D.X.length):DkOk M (gapD D k):=⟨ok.hr,ok.wt,ok.row,ok.hU,ok.hR,ok.di,ok.us,ok.pl,ok.p0,ok.lm,h,ok.rc,ok.md,ok.sl⟩
def RefO (M:DM) (D:DS):Value→List Part→List Fact→Prop:=fun v Lo fs=> ∃e,FltV e∧v= .tuple #[opV zeroOp none 0,e] ∧Lo=KC M D∧fs= []
set_option maxRecDepth 10000 in
theorem move_0 (M:DM) (D:DS) (ok:DkOk M D) (p:Nat) (hp:p≤J5 D.X):Sp Tryz.prog 81 [.pointer (some ⟨M.d,0,none⟩), .int .i64 p] (KC M D) (barF::KY M D) (fun v Lo fs=> ∃k,Beh D.X p k∧DkOk M (gapD D k)∧v= .nilIface∧Lo=KC M (gapD D k)∧fs= []):=by
 have hvl:=KA M.t.row
 have hwt:=ok.wt
 have htl:=ok.tl
 have hrow:=ok.row
 have hpl:=ok.pl
 refine Sp.ofD (n:=15) ⟨_,Tryz.func81,O,O,O,O⟩ (Nat.le_of_ble_eq_true O) fun Ps As=>Ja (Jg O (Ju (cs:= [_]) Yw O (by decide) fun b4=>Je ?_))
 refine ⟨O,_,_,_,_,_,catch_Move b4,DefReg.mk (.n1 O) (by decide),?_⟩
 refine Jc (Ja (JQ (Jb O) (dl O) (JQ (Jb O) (dl O) (Jg O (Kv (place_0 M.d M.h M.b _ _ _ _ _ _ _ _ _ M.B M.t hwt _ p (by rw [hrow];omega)) (.n3 O O O) (by first | exact dl O | decide) .z1 .z4 (Jl Mm3 Jw) fun u2_2 Lo fs hres=> ?_)))))
 obtain ⟨rfl,rfl,rfl⟩:=hres
 refine Je (Jf (Jc (Ja (JQ (Jb O) (dl O) (JQ (Jb O) (dl O) (JQ (Jb O) (dl O) (Jg O (Kv (E7 M D ok p hp) (.n2 O O) (by first | exact dl O | decide) .z .z (Jl Mm3 Jw) fun u3_3 Lo fs hres=> ?_))))))))
 obtain ⟨k,hk,rfl,rfl,rfl⟩:=hres
 refine JQ (JC O) (dl O) (JQ (Jh (o':=17) Un42 O ti3 O O) (dl O) (Jg O (K2 ti3 O O O (dkl17 hpl) .z ?_)))
 rw [dkset17 hpl]
 refine Je (Jf (Jc (Ja (Jg O (JJ Yw O O O .z .z2 (Je (Jf (Jo ?_))))))))
 refine ⟨_,[_,_,_,_,_,_,_,_],[],fun Z w hs=>KR hs Un54 O O (Ji (Ji (Jn))) O .nil,?_,fun Z w hs=>((((((((hs.pick .z8).pick .z8).pick .z8).pick .z4).pick .z8).pick .z8).pick .z8).pick .z7).out (Sk (Sk (Sk (Sk (Sk (Sk (Sk (Sk (Sd (Sr)))))))))) (fun _ h=>h)⟩
 exact ⟨k,hk,ok.gap hk.le,O,O,O⟩
theorem Gq (put:List Int):(ints .i64 put).length=put.length:=by unfold ints;rw [List.length_map]
theorem dkput {a b u cl ce op rec made x y:Value} {put:List Int} {c:Nat} (h:put.length=9) (hc:c<9):(a::b::u::cl::ce::op::rec::made::(ints .i64 put++ [x,y]))[8+c]? =some (.int .i64 (put.getD c 0)):=by
 have e:(a::b::u::cl::ce::op::rec::made::(ints .i64 put++ [x,y]))[8+c]? =(ints .i64 put++ [x,y])[c]? :=by rw [Nat.add_comm];rfl
 rw [e,List.getElem?_append_left (by rw [Gq];omega)]
 unfold ints
 rw [List.getElem?_map,List.getD_eq_getElem?_getD,List.getElem?_eq_getElem (by omega)];rfl
theorem dklc {a b u cl ce op rec made x y:Value} {put:List Int} {c:Nat} (h:put.length=9) (hc:c<9):8+c<(a::b::u::cl::ce::op::rec::made::(ints .i64 put++ [x,y])).length:=by
 have:=Gq put
 simp [this];omega
theorem dksetc {a b u cl ce op rec made x y:Value} {put:List Int} {c:Nat} {v:Int} (h:put.length=9) (hc:c<9):(a::b::u::cl::ce::op::rec::made::(ints .i64 put++ [x,y])).set (8+c) (.int .i64 v)=a::b::u::cl::ce::op::rec::made::(ints .i64 (put.set c v)++ [x,y]):=by
 have e:(a::b::u::cl::ce::op::rec::made::(ints .i64 put++ [x,y])).set (8+c) (.int .i64 v)=a::b::u::cl::ce::op::rec::made::(ints .i64 put++ [x,y]).set c (.int .i64 v):=by rw [Nat.add_comm];rfl
 rw [e,List.set_append_left _ _ (by rw [Gq];omega)]
 unfold ints;rw [List.map_set]
theorem DkOk.mk_ {M M2:DM} {D D2:DS} (ok:DkOk M D) (hr:HR D2.H M2.L) (wt:Wf M2.t) (row:M2.t.row=D2.X) (hU:Row 46 2 M2.vu D2.U.length (Kg idC D2.U) M2.pu) (hR:Row 46 2 M2.vr D2.R.length (Kg idC D2.R) M2.pr) (di:DI D2.H.ops.length D2.H D2.X) (us:D2.u=D.u) (lm:D2.ce=D.ce∧D2.op=D.op∧D2.cl=D.cl) (pl:D2.put.length=9) (p0: ∀x∈D2.put,0≤x∧x≤4096) (gp:D2.gap≤D2.X.length) (rc:D2.got≤D2.H.ops.length) (md:D2.made≤1024) (sl:D2.U.length+D2.R.length≤D2.made):DkOk M2 D2:=
 ⟨hr,wt,row,hU,hR,di,us ▸ ok.us,pl,p0,by rw [lm.1,lm.2.1,lm.2.2];exact ok.lm,gp,rc,md,sl⟩
theorem V6 {D:DS} {c:Nat} {v:Int} (h0: ∀x∈D.put,0≤x∧x≤4096) (hv:0≤v∧v≤4096): ∀x∈D.put.set c v,0≤x∧x≤4096:=fun x hx=>by
 rcases List.mem_or_eq_of_mem_set hx with hx | rfl
 ·exact h0 x hx
 ·exact hv
theorem bd49_1Xg12 (x1_:Int) (w:World):(Instr.build 49 #[(1, .int .i64 x1_)]).run Tryz.prog w= .ok (.agg #[.int .i64 0, .int .i64 0, .int .i64 x1_]) w:=by kernel_rfl
theorem bd52_0_1_2Xg12 (x0_0a0:Int) (x0_0a1:Int) (x0_1:Int) (x1_:Int) (x2_:ByteArray) (w:World):(Instr.build 52 #[(0, .agg #[.int .i64 x0_0a0, .int .i64 x0_0a1, .int .i64 x0_1]),(1, .int .i64 x1_),(2, .string x2_)]).run Tryz.prog w= .ok (.agg #[.int .i64 x0_0a0, .int .i64 x0_0a1, .int .i64 x0_1, .int .i64 x1_, .string x2_, .slice none 0 0, .int .i64 0, .int .i64 0, .bool false]) w:=by kernel_rfl
set_option maxRecDepth 10000 in
theorem insert_0 (M:DM) (D:DS) (ok:DkOk M D) (p:Nat) (hp:p≤J5 D.X) (text:ByteArray) (hts:text.size≤1048576) (hu:(utF text).2.2=0) (hu1:1≤(utF text).1∧(utF text).1≤256) (hmd:(D.made:Int)<D.op) (hce:putA D D.u+(utF text).1≤D.ce) (hmk: ∀k,Pth D.X p k→MkD D (insO D k text)) (hnU:(D.u,(D.made:Int)+1)∉D.U) (hnR:(D.u,(D.made:Int)+1)∉D.R):Sp Tryz.prog 13 [.pointer (some ⟨M.d,0,none⟩), .int .i64 p, .string text] (KC M D) (barF::KY M D) (fun v Lo fs=> ∃(k:Nat) (M2:DM),Pth D.X p k∧M2.d=M.d∧DkOk M2 (insD D k text)∧v= .tuple #[opV (insO D k text) none 0, .nilIface] ∧Lo=KC M2 (insD D k text)∧fs=KY M2 (insD D k text)):=by
 have hvl:=KA M.t.row
 have hwt:=ok.wt
 have htl:=ok.tl
 have hrow:=ok.row
 have hpl:=ok.pl
 have hr:=ok.hr
 have hdi:=ok.di
 have hus:=ok.us
 have hlm:=ok.lm
 have hmd2:=ok.md
 have hsl:=ok.sl
 have hxl:=ok.xl
 have hpu:0≤putA D D.u∧putA D D.u≤4096:=by
  unfold putA
  rw [List.getD_eq_getElem?_getD,List.getElem?_eq_getElem (by omega)]
  exact ok.p0 _ (List.getElem_mem _)
 refine Sp.ofD (n:=105) ⟨_,Tryz.func13,O,O,O,O⟩ (Nat.le_of_ble_eq_true O) fun Ps As=>Ja (Jg O (Ju (cs:= [_,_,_,_,_,_,_,_,_]) JD O (by decide) fun b6=>Jg O (Ju (cs:= [_]) Yw O (by decide) fun b7=>Je ?_)))
 refine ⟨O,_,_,_,_,_,catch_Insert b6 b7,DefReg.mk (.n2 O O) (by decide),?_⟩
 refine Jc (Ja (JQ (Jb O) (dl O) (JQ (Jb O) (dl O) (Jg O (Kv (place_0 M.d M.h M.b _ _ _ _ _ _ _ _ _ M.B M.t hwt _ p (by rw [hrow];omega)) (.n3 O O O) (by first | exact dl O | decide) .z2 .z5 (Jl Mm3 Jw) fun u2_2 Lo fs hres=> ?_)))))
 obtain ⟨rfl,rfl,rfl⟩:=hres
 refine Je (Jf (Jc (Ja (JQ (Jb O) (dl O) (Jg O (Jm (VC text (by omega)) (.n1 O) (by first | exact dl O | decide) (Jl Mm0 Jw) fun u3_1 Lo fs hres=> ?_))))))
 obtain ⟨rfl,rfl,rfl⟩:=hres
 rw [hu]
 refine JQ (Jb O) (dl O) (JQ (Jk (vs:= [_,_,_]) O O) (dl O) (JQ (Jk (vs:= [_,_,_]) O O) (dl O) (JQ (Jk (vs:= [_,_,_]) O O) (dl O) (JQ (Jd O) (dl O) (JQ (Jd O) (dl O) (JQ (Jd O) (dl O) (Je (Jf (Jc (Ja (JQ (Jb O) (dl O) (JQ (Jb O) (dl O) ?_))))))))))))
 refine Jg O (Jm (give_0 _ _) (.n3 O O O) (by first | exact dl O | decide) Jw fun u4_2 Lo fs hres=> ?_)
 obtain ⟨rfl,rfl,rfl⟩:=hres
 refine Je (Jf (Jc (JE (Jc (Ja (JQ (Jb O) (dl O) (JQ (Kh O O) (dl O) (JQ (Jd O) (dl O) (Je (Jf (Jv O (by simp;omega) (Jc (Ja (JQ (Jb O) (dl O) (JQ (Kl O O) (dl O) (JQ (Jd O) (dl O) ?_))))))))))))))))
 refine Je (Jf (Jv O (by simp;omega) (Jp (Ka (Jf (Jc (Ja (JQ (Jb O) (dl O) (JQ (Jb O) (dl O) (Jg O (JR (room_0 M.d M.h M.b _ _ _ _ _ _ _ _ _ _ p hmd) (.n3 O O O) (by first | exact dl O | decide) .z Jw fun u9_2 Lo fs hres=> ?_)))))))))))
 obtain ⟨rfl,rfl,rfl⟩:=hres
 refine Je (Jf (Jc (Jc (YL (JI _ _ [] (.c 0 0 (.c 1 0 (.c 2 0 (.c 3 0 (.c 4 0 (.c 5 0 (.c 6 0 (.c 7 0 (.c 8 0 (.c 9 0 (.c 10 0 (.c 11 0 (.c 12 0 (.c 13 0 (.c 14 0 (.c 15 0 (.c 16 0 .nil))))))))))))))))) mixed (fun _ _ _ _ h=>h) (Sk (Sk (Sk (Sk (Sk (Sk (Sk (Sk (Sk (Sk (Sr))))))))))) (fun _ h=>h) (by kernel_rfl) (by first | exact dl O | decide) fun ws Z0=>JO O (Jb O) (dl O) (JO O (Jb O) (dl O) (JO O (JC O) (dl O) (JO O (Jh (o':=2) Un42 O ti3 O O) (dl O) (JO O (Jj Un3 O O Jn O) (dl O) (JO O (JC O) (dl O) ?_))))))))))
 refine JO O (Jh (o':=8) Un42 O EG O O) (dl O) (JO O (Yf (o':=8+D.u.toNat) Un39 ti3 O O (by omega) (by omega) (by omega)) (dl O) (JO O (Jj (v:= .int .i64 (D.put.getD D.u.toNat 0)) Un3 O O Jn (dkput hpl (by omega))) (dl O) (JO O (Jb O) (dl O) (JO O (JU O O (wr64 (by have:=hpu;unfold putA at this;omega))) (dl O) (JO O (Jb O) (dl O) (JO O (JC O) (dl O) (JO O (Jh (o':=3) Un42 O Ek O O) (dl O) (JO O (Jh (o':=4) Un38 O ti3 O O) (dl O) (JO O (Jj Un3 O O Jn O) (dl O) ?_)))))))))
 refine JO O (Kl O O) (dl O) (JN (JM (Jf (Jv O (by simp;exact hce) (Jp (Jf (Jc (Ja (JQ (Jb O) (dl O) (JQ (JC O) (dl O) (JQ (Jh (o':=0) Un42 O Yk O O) (dl O) (JQ (Jh (o':=1) Un36 O GM O O) (dl O) (JQ (Jj Un34 O O Jn O) (dl O) ?_)))))))))))))
 refine JQ (Jb O) (dl O) (Jg O (JR (totalOf_g M.b M.B M.t hwt (by omega) p (by rw [hrow];exact hp)) (.n2 O O) (by first | exact dl O | decide) .z1 (Jl Mm4 Jw) fun u12_6 Lo fs hres=> ?_))
 obtain ⟨k,hk,rfl,rfl,rfl⟩:=hres
 rw [hrow] at hk
 replace hmk:=hmk k hk
 have hkl:=hk.le
 refine JQ (Jb O) (dl O) (JQ (Jk (vs:= [_,_]) O O) (dl O) (JQ (Jk (vs:= [_,_]) O O) (dl O) (JQ (Jd O) (dl O) (JQ (Jd O) (dl O) (Je (Jf (Jc (Ja (JQ (Jb O) (dl O) (JQ (Jb O) (dl O) (Jg O (Jm (give_0 _ _) (.n3 O O O) (by first | exact dl O | decide) Jw fun u13_2 Lo fs hres=> ?_))))))))))))
 obtain ⟨rfl,rfl,rfl⟩:=hres
 refine Je (Jf (Jc (Ke (A:=RdF rgD none 0 []) (fun Z w _=>RdS.nil _ Z w) (Ja (JQ (Jb O) (dl O) (JQ (JZ (.n1 O) (bd49_1Xg12 _)) (dl O) (JQ (Jb O) (dl O) (JQ (Jb O) (dl O) (JQ (JZ (.n3 O O O) (bd52_0_1_2Xg12 _ _ _ _ _)) (dl O) ?_)))))))))
 refine Jg rfl (J6 (Et M.d M.h M.m M.b _ _ _ _ _ _ _ _ _ D.H M.L M.A M.cap M.B M.t D.H.ops.length D.X { zeroOp with kind:=1,at_:=k,text:=text } none 0 (mkH D (insO D k text)) (mkE D (insO D k text)) hr hwt hrow hdi hmk.tk (by omega)) (.n2 rfl rfl) (by first | exact dl rfl | decide) (.n5 .z1 .z3 .z3 .z3 .z) (Jl Mm2 (Jl Mm3 (Jl Mm4 (Jl Mm5 (Jl Mm0 Jw))))) fun u14_5 Lo fs hres=> ?_)
 obtain ⟨L2,A2,cap2,B2,t2,rfl,hr2,wt2,hX2,rfl,rfl⟩:=hres
 have hn2:(mkH D (insO D k text)).ops.length=D.H.ops.length+1:=by rw [hmk.ops];simp
 refine Jg O (Jq (cs':= [_,_,_,_,_,_,_,_,_]) (vs:= [_,_,_,_,_,_,_,_,_]) JD O O O O O (Nat.le_of_ble_eq_true O) .z6 (Je (Jf (Jc (YL (JI _ _ [14] (.c 0 0 (.c 1 0 (.c 2 0 (.c 3 0 (.c 4 0 (.c 5 0 (.c 6 0 (.c 7 0 (.c 8 0 (.c 9 0 (.c 10 0 (.c 11 0 (.c 12 0 (.c 13 0 (.c 14 3 .nil))))))))))))))) mixed (fun _ _ _ _ h=>h) (Sk (Sk (Sk (Sk (Sk (Sk (Sk (Sk (Sk (Sk (Sr))))))))))) (fun _ h=>h) (by kernel_rfl) (by first | exact dl O | decide) fun ws Z0=>JO O (Jb O) (dl O) (JO O (Jb O) (dl O) (JO O (JC O) (dl O) ?_))))))))
 refine JO O (Jh (o':=2) Un42 O ti3 O O) (dl O) (JO O (Jj Un3 O O Jn O) (dl O) (JO O (JC O) (dl O) (JO O (Jh (o':=8) Un42 O EG O O) (dl O) (JO O (Yf (o':=8+D.u.toNat) Un39 ti3 O O (by omega) (by omega) (by omega)) (dl O) (JO O (Jj (v:= .int .i64 (D.put.getD D.u.toNat 0)) Un3 O O Jn (dkput hpl (by omega))) (dl O) (JO O (Jb O) (dl O) (JO O (JU O O (wr64 (by have:=hpu;unfold putA at this;omega)) (c:=putA D D.u+(utF text).1)) (dl O) (JO O (JC O) (dl O) (JO O (Jh (o':=8) Un42 O EG O O) (dl O) ?_)))))))))
 refine JO O (Yf (o':=8+D.u.toNat) Un39 ti3 O O (by omega) (by omega) (by omega)) (dl O) (JN (J8 O O (K2 ti3 O O O (dklc hpl (by omega)) .z ?_)))
 rw [dksetc hpl (by omega)]
 refine JM (Jf (Jc (YL (JI _ _ [] (.c 0 0 (.c 1 0 (.c 2 0 (.c 3 0 (.c 4 0 (.c 5 0 (.c 6 0 (.c 7 2 .nil)))))))) mixed (fun _ _ _ _ h=>h) (Sk (Sk (Sk (Sk (Sk (Sk (Sk (Sd (Sd (Sd (Sr))))))))))) (fun _ h=>h) (by kernel_rfl) (by first | exact dl O | decide) fun ws Z0=>JO O (Jb O) (dl O) (JO O (JC O) (dl O) (JO O (Jh (o':=18) Un42 O Zc O O) (dl O) (JO O (Jj Un40 O O Jn (dk18 (by rw [List.length_set];exact hpl))) (dl O) (JO O (Jh (o':=0) Un52 O KW O O) (dl O) ?_))))))))
 refine JO O (Jh (o':=0) Un49 O JW O O) (dl O) (JO O (Jt (vs:= [_,_]) Un46 O JW O (Ji (Ji (Ji (Ji (Ji (Ji (Jn))))))) O O) (dl O) (Jz O O (KB (Jby M.s M.vu M.vr M.pu M.pr D.U D.R ok.hU ok.hR (by omega) (by omega) D.u ((D.made:Int)+1) (by omega) hnU hnR) (.n2 O O) (by first | exact dl O | decide) .z7 .z7 .z7 Jw fun u16_7 Lo fs hres=> ?_)))
 obtain ⟨vu2,pu2,hU2,rfl,rfl,rfl⟩:=hres
 refine ⟨⟨(Sd (Sd (Sd (Sk (Sk (Sk (Sk (Sk (Sk (Sk (Sr))))))))))),Mm0⟩,?_⟩
 refine JN (JM (Jf (Jc (Ja (JQ (Jb O) (dl O) (JQ (Jb O) (dl O) (JQ (Jb O) (dl O) (JQ (JU O O (by rw [wr64 (by omega)];omega) (c:=((k+(utF text).1.toNat:Nat):Int))) (dl O) (JQ (JC O) (dl O) (JQ (Jh (o':=17) Un42 O ti3 O O) (dl O) (Jg O (K2 ti3 O O O (dkl17 (by rw [List.length_set];exact hpl)) .z3 ?_))))))))))))
 rw [dkset17 (by rw [List.length_set];exact hpl)]
 refine Je (Jf (JF [(7,_),(6,_)] (.m2 O O) (Jc (Ja (JQ (Jt (vs:= [_,_,_,_,_,_,_,_,_]) Un52 O JD O (Ji (Ji (Ji (Ji (Ji (Ji (Ji (Ji (Ji (Jn)))))))))) O O) (dl O) (Jg O (Jq (cs':= [_,_,_,_,_,_,_,_,_]) (vs:= [_,_,_,_,_,_,_,_,_]) JD O O O O O (Nat.le_of_ble_eq_true O) .z9 (Jg O (JJ Yw O O O .z .z8 (Je (Jf (Jo ?_))))))))))))
 refine ⟨_,[_,_,_,_,_,_,_,_],[_,_,_],fun Z w hs=>JV hs Un52 O JD O (Ji (Ji (Ji (Ji (Ji (Ji (Ji (Ji (Ji (Jn)))))))))) O (KR hs Un54 O O (Ji (Ji (Ji (Ji (Ji (Ji (Ji (Ji (Jn))))))))) O .nil),?_,fun Z w hs=>((((((((hs.pick .z2).pick .z2).pick .z2).pick .z7).pick .z7).pick .z7).pick .z7).pick .z7).out (Sk (Sk (Sk (Sk (Sk (Sk (Sk (Sk (Sd (Sd (Sr))))))))))) (Jl Mm2 (Jl Mm3 (Jl Mm4 Tt7)))⟩
 have hw:(Jx (insO D k text)).toNat=(utF text).1.toNat:=by unfold Jx;rw [if_pos (show (insO D k text).kind=1 from rfl)];rfl
 have hlen:=hmk.len
 have hok2:DkOk ⟨M.d,M.h,M.m,M.b,M.s,A2,cap2,B2,t2,L2,vu2, .slice none 0 0,pu2,[]⟩ (insD D k text):=ok.mk_ hr2 wt2 hX2 hU2 (Row.nil _ _) (by show DI (mkH D (insO D k text)).ops.length _ _;rw [hn2];exact hmk.di) rfl ⟨rfl,rfl,rfl⟩ (by show (D.put.set _ _).length=9;rw [List.length_set];exact hpl) (V6 ok.p0 (by omega)) (by show k+_≤(JT (mkE D (insO D k text)) D.X).length;omega) (by show D.got≤(mkH D (insO D k text)).ops.length;have:=ok.rc;omega) (by show D.made+1≤1024;omega) (by show (D.U++ [_]).length+0≤D.made+1;simp;omega)
 refine ⟨k,_,hk,?_,hok2,O,O,O⟩
 rfl
theorem bd49_1Xg13 (x1_:Int) (w:World):(Instr.build 49 #[(1, .int .i64 x1_)]).run Tryz.prog w= .ok (.agg #[.int .i64 0, .int .i64 0, .int .i64 x1_]) w:=by kernel_rfl
theorem bd52_0_3Xg13 (x0_0a0:Int) (x0_0a1:Int) (x0_1:Int) (x3_A:Option Addr) (x3_n x3_c:Nat) (w:World):(Instr.build 52 #[(0, .agg #[.int .i64 x0_0a0, .int .i64 x0_0a1, .int .i64 x0_1]),(3, .slice x3_A x3_n x3_c)]).run Tryz.prog w= .ok (.agg #[.int .i64 x0_0a0, .int .i64 x0_0a1, .int .i64 x0_1, .int .i64 0, .string ⟨#[]⟩, .slice x3_A x3_n x3_c, .int .i64 0, .int .i64 0, .bool false]) w:=by kernel_rfl
set_option maxRecDepth 10000 in
theorem delete_0 (M:DM) (D:DS) (ok:DkOk M D) (p n:Nat) (hn0:0<n) (hpn:p+n≤J5 D.X) (hmd:(D.made:Int)<D.op) (hmk: ∀xs,VisR p n D.X xs→MkD D (hideO D xs)∧p≤J5 (JT (mkE D (hideO D xs)) D.X)) (hnU:(D.u,(D.made:Int)+1)∉D.U) (hnR:(D.u,(D.made:Int)+1)∉D.R):Sp Tryz.prog 17 [.pointer (some ⟨M.d,0,none⟩), .int .i64 p, .int .i64 n] (KC M D) (barF::KY M D) (fun v Lo fs=> ∃(xs:List Rg) (k:Nat) (M2:DM) (A9:Option Addr) (c9:Nat),VisR p n D.X xs∧Beh (JT (mkE D (hideO D xs)) D.X) p k∧M2.d=M.d∧DkOk M2 (hideD D xs k)∧v= .tuple #[opV (hideO D xs) A9 c9, .nilIface] ∧Lo=KC M2 (hideD D xs k)∧fs=KY M2 (hideD D xs k)++ [RdF rgD A9 c9 xs]):=by
 have hvl:=KA M.t.row
 have hwt:=ok.wt
 have htl:=ok.tl
 have hrow:=ok.row
 have hpl:=ok.pl
 have hr:=ok.hr
 have hdi:=ok.di
 have hus:=ok.us
 have hlm:=ok.lm
 have hmd2:=ok.md
 have hsl:=ok.sl
 have hxl:=ok.xl
 have hpu:0≤putA D D.u∧putA D D.u≤4096:=by
  unfold putA
  rw [List.getD_eq_getElem?_getD,List.getElem?_eq_getElem (by omega)]
  exact ok.p0 _ (List.getElem_mem _)
 have hvx:=KA D.X
 refine Sp.ofD (n:=68) ⟨_,Tryz.func17,O,O,O,O⟩ (Nat.le_of_ble_eq_true O) fun Ps As=>Ja (Jg O (Ju (cs:= [_,_,_,_,_,_,_,_,_]) JD O (by decide) fun b6=>Jg O (Ju (cs:= [_]) Yw O (by decide) fun b7=>Je ?_)))
 refine ⟨O,_,_,_,_,_,catch_Delete b6 b7,DefReg.mk (.n2 O O) (by decide),?_⟩
 refine Jc (Ja (JQ (Jb O) (dl O) (JQ (Jb O) (dl O) (Jg O (Kv (place_0 M.d M.h M.b _ _ _ _ _ _ _ _ _ M.B M.t hwt _ p (by rw [hrow];omega)) (.n3 O O O) (by first | exact dl O | decide) .z2 .z5 (Jl Mm3 Jw) fun u2_2 Lo fs hres=> ?_)))))
 obtain ⟨rfl,rfl,rfl⟩:=hres
 refine Je (Jf (Jc (Jc (Ja (JQ (Jb O) (dl O) (JQ (Jb O) (dl O) (JQ (JC O) (dl O) (JQ (Jh (o':=0) Un42 O Yk O O) (dl O) (Jg O (Kv (Xk M.d M.h M.b _ _ M.B M.t hwt) (.n1 O) (by first | exact dl O | decide) .z .z (Jl Mm3 Jw) fun u3_4 Lo fs hres=> ?_))))))))))
 obtain ⟨rfl,rfl,rfl⟩:=hres
 refine JQ (Jb O) (dl O) (JQ (KP O O (wr64 (by rw [hrow];omega)) (c:=(J5 M.t.row:Int)-p)) (dl O) (Jg O (Jm (Qh _ _ _) (.n3 O O O) (by first | exact dl O | decide) Jw fun u3_7 Lo fs hres=> ?_)))
 obtain ⟨rfl,rfl,rfl⟩:=hres
 refine JQ (KL O) (dl O) (Je (Jf (Jv O (by rw [hrow,decide_eq_true (by omega)];rfl) (Jp (Jf (Jc (Jc (Ja (JQ (Jb O) (dl O) (JQ (Kh O O) (dl O) (Je (Jf (Jv O (by simp;omega) (Jp (Jf (Jc (Ja (JQ (Jb O) (dl O) ?_))))))))))))))))))
 refine JQ (Jb O) (dl O) (Jg O (JR (room_0 M.d M.h M.b _ _ _ _ _ _ _ _ _ _ p hmd) (.n3 O O O) (by first | exact dl O | decide) .z Jw fun u7_2 Lo fs hres=> ?_))
 obtain ⟨rfl,rfl,rfl⟩:=hres
 refine Je (Jf (Jc (Ja (JQ (Jb O) (dl O) (JQ (JC O) (dl O) (JQ (Jh (o':=0) Un42 O Yk O O) (dl O) (JQ (Jh (o':=1) Un36 O GM O O) (dl O) (JQ (Jj Un34 O O Jn O) (dl O) (JQ (Jb O) (dl O) (JQ (Jb O) (dl O) (JQ (Jb O) (dl O) (JQ (JU O O (wr64 (by omega)) (c:=((p+n:Nat):Int))) (dl O) ?_))))))))))))
 refine Jg O (JR (H0 M.b M.B M.t hwt htl p n (by rw [hrow];exact hpn)) (.n3 O O O) (by first | exact dl O | decide) .z1 (Jl Mm3 Jw) fun u8_9 Lo fs hres=> ?_)
 obtain ⟨A9,c9,xs,hV,rfl,rfl,rfl⟩:=hres
 rw [hrow] at hV
 obtain ⟨hmk,hp2⟩:=hmk xs hV
 refine JQ (Jb O) (dl O) (JQ (Jk (vs:= [_,_]) O O) (dl O) (JQ (Jk (vs:= [_,_]) O O) (dl O) (JQ (Jd O) (dl O) (JQ (Jd O) (dl O) (Je (Jf (Jc (Ja (JQ (Jb O) (dl O) (JQ (Jb O) (dl O) (Jg O (Jm (give_0 _ _) (.n3 O O O) (by first | exact dl O | decide) Jw fun u9_2 Lo fs hres=> ?_))))))))))))
 obtain ⟨rfl,rfl,rfl⟩:=hres
 refine Je (Jf (Jc (Ja (JQ (Jb rfl) (dl rfl) (JQ (JZ (.n1 rfl) (bd49_1Xg13 _)) (dl rfl) (JQ (Jb rfl) (dl rfl) (JQ (JZ (.n2 rfl rfl) (bd52_0_3Xg13 _ _ _ _ _ _)) (dl rfl) (Jg rfl (J6 (Et M.d M.h M.m M.b _ _ _ _ _ _ _ _ _ D.H M.L M.A M.cap M.B M.t D.H.ops.length D.X { zeroOp with kind:=2,rs:=xs } A9 c9 (mkH D (hideO D xs)) (mkE D (hideO D xs)) hr hwt hrow hdi hmk.tk (by omega)) (.n2 rfl rfl) (by first | exact dl rfl | decide) (.n5 .z1 .z3 .z3 .z3 .z) (Jl Mm1 (Jl Mm2 (Jl Mm3 (Jl Mm4 (Jl Mm0 Jw))))) fun u10_4 Lo fs hres=> ?_)))))))))
 obtain ⟨L2,A2,cap2,B2,t2,rfl,hr2,wt2,hX2,rfl,rfl⟩:=hres
 have hn2:(mkH D (hideO D xs)).ops.length=D.H.ops.length+1:=by rw [hmk.ops];simp
 refine Jg O (Jq (cs':= [_,_,_,_,_,_,_,_,_]) (vs:= [_,_,_,_,_,_,_,_,_]) JD O O O O O (Nat.le_of_ble_eq_true O) .z6 (Je (Jf (Jc (YL (JI _ _ [] (.c 0 0 (.c 1 0 (.c 2 0 (.c 3 0 (.c 4 0 (.c 5 0 (.c 6 0 (.c 7 2 .nil)))))))) mixed (fun _ _ _ _ h=>h) (Sk (Sk (Sk (Sk (Sk (Sk (Sk (Sd (Sd (Sd (Sr))))))))))) (fun _ h=>h) (by kernel_rfl) (by first | exact dl O | decide) fun ws Z0=>JO O (Jb O) (dl O) (JO O (JC O) (dl O) (JO O (Jh (o':=18) Un42 O Zc O O) (dl O) ?_))))))))
 refine JO O (Jj Un40 O O Jn (dk18 hpl)) (dl O) (JO O (Jh (o':=0) Un52 O KW O O) (dl O) (JO O (Jh (o':=0) Un49 O JW O O) (dl O) (JO O (Jt (vs:= [_,_]) Un46 O JW O (Ji (Ji (Ji (Ji (Ji (Ji (Jn))))))) O O) (dl O) (Jz O O (KB (Jby M.s M.vu M.vr M.pu M.pr D.U D.R ok.hU ok.hR (by omega) (by omega) D.u ((D.made:Int)+1) (by omega) hnU hnR) (.n2 O O) (by first | exact dl O | decide) .z7 .z7 .z7 Jw fun u11_7 Lo fs hres=> ?_)))))
 obtain ⟨vu2,pu2,hU2,rfl,rfl,rfl⟩:=hres
 refine ⟨⟨(Sd (Sd (Sd (Sk (Sk (Sk (Sk (Sk (Sk (Sk (Sr))))))))))),Mm0⟩,?_⟩
 refine JN (JM (Jf (Jc ?_)))
 have hw:(Jx (hideO D xs)).toNat=0:=by unfold Jx;rw [if_neg (show ¬(hideO D xs).kind=1 by show ¬(2:Int)=1;decide)];rfl
 have hlen:=hmk.len
 have hgp:=ok.gp
 have hok2:DkOk ⟨M.d,M.h,M.m,M.b,M.s,A2,cap2,B2,t2,L2,vu2, .slice none 0 0,pu2,[]⟩ (hideD D xs D.gap):=ok.mk_ hr2 wt2 hX2 hU2 (Row.nil _ _) (by show DI (mkH D (hideO D xs)).ops.length _ _;rw [hn2];exact hmk.di) rfl ⟨rfl,rfl,rfl⟩ hpl ok.p0 (by show D.gap≤(JT (mkE D (hideO D xs)) D.X).length;omega) (by show D.got≤(mkH D (hideO D xs)).ops.length;have:=ok.rc;omega) (by show D.made+1≤1024;omega) (by show (D.U++ [_]).length+0≤D.made+1;simp;omega)
 refine Ja (JQ (Jb O) (dl O) (JQ (Jb O) (dl O) (JQ (Jb O) (dl O) (Jg O (Kv (E7 _ _ hok2 p hp2) (.n2 O O) (by first | exact dl O | decide) .z3 .z6 (Jl Mm3 Jw) fun u12_3 Lo fs hres=> ?_)))))
 obtain ⟨k,hk,rfl,rfl,rfl⟩:=hres
 refine JQ (JC O) (dl O) (JQ (Jh (o':=17) Un42 O ti3 O O) (dl O) (Jg O (K2 ti3 O O O (dkl17 hpl) .z ?_)))
 rw [dkset17 hpl]
 refine Je (Jf (Jc (Ja (JQ (Jt (vs:= [_,_,_,_,_,_,_,_,_]) Un52 O JD O (Ji (Ji (Ji (Ji (Ji (Ji (Ji (Ji (Ji (Jn)))))))))) O O) (dl O) (Jg O (Jq (cs':= [_,_,_,_,_,_,_,_,_]) (vs:= [_,_,_,_,_,_,_,_,_]) JD O O O O O (Nat.le_of_ble_eq_true O) .z9 (Jg O (JJ Yw O O O .z .z8 (Je (Jf (Jo ?_)))))))))))
 refine ⟨_,[_,_,_,_,_,_,_,_],[_,_,_,_],fun Z w hs=>JV hs Un52 O JD O (Ji (Ji (Ji (Ji (Ji (Ji (Ji (Ji (Ji (Jn)))))))))) O (KR hs Un54 O O (Ji (Ji (Ji (Ji (Ji (Ji (Ji (Ji (Jn))))))))) O .nil),?_,fun Z w hs=>((((((((hs.pick .z4).pick .z4).pick .z4).pick .z4).pick .z7).pick .z7).pick .z7).pick .z7).out (Sk (Sk (Sk (Sk (Sk (Sk (Sk (Sk (Sd (Sd (Sr))))))))))) Tt1⟩
 refine ⟨xs,k,_,_,_,hV,hk,?_,hok2.gap hk.le,O,O,O⟩
 rfl
theorem bd49_1Xg14 (x1_:Int) (w:World):(Instr.build 49 #[(1, .int .i64 x1_)]).run Tryz.prog w= .ok (.agg #[.int .i64 0, .int .i64 0, .int .i64 x1_]) w:=by kernel_rfl
theorem bd52_0_4_5Xg14 (x0_0a0:Int) (x0_0a1:Int) (x0_1:Int) (x4_a0:Int) (x4_a1:Int) (x5_:Bool) (w:World):(Instr.build 52 #[(0, .agg #[.int .i64 x0_0a0, .int .i64 x0_0a1, .int .i64 x0_1]),(4, .agg #[.int .i64 x4_a0, .int .i64 x4_a1]),(5, .bool x5_)]).run Tryz.prog w= .ok (.agg #[.int .i64 x0_0a0, .int .i64 x0_0a1, .int .i64 x0_1, .int .i64 0, .string ⟨#[]⟩, .slice none 0 0, .int .i64 x4_a0, .int .i64 x4_a1, .bool x5_]) w:=by kernel_rfl
set_option maxRecDepth 10000 in
theorem VE (M:DM) (D:DS) (ok:DkOk M D) (i0 i1:Int) (on:Bool) (j:Nat) (hmd:(D.made:Int)<D.op) (hmk:MkD D (statO D (i0,i1) on)) (hj:j<(mkH D (statO D (i0,i1) on)).ents.length) (hw2:JX (mkH D (statO D (i0,i1) on)).ents i0 i1=some j) (hne:(entE ((mkH D (statO D (i0,i1) on)).ents[j])).rs≠ []) (hrl:(entE ((mkH D (statO D (i0,i1) on)).ents[j])).rs.length≤100000) (hrs: ∀r∈(entE ((mkH D (statO D (i0,i1) on)).ents[j])).rs,0≤r.lo∧r.lo<r.hi∧r.hi≤(JT (mkE D (statO D (i0,i1) on)) D.X).length):Sp Tryz.prog 63 [.pointer (some ⟨M.d,0,none⟩), .agg #[.int .i64 i0, .int .i64 i1], .bool on] (KC M D) (barF::KY M D) (fun v Lo fs=> ∃(M2:DM),M2.d=M.d∧DkOk M2 (statD D (i0,i1) on j)∧v=opV (statO D (i0,i1) on) none 0∧Lo=KC M2 (statD D (i0,i1) on j)∧fs=KY M2 (statD D (i0,i1) on j)):=by
 have hvl:=KA M.t.row
 have hwt:=ok.wt
 have htl:=ok.tl
 have hrow:=ok.row
 have hpl:=ok.pl
 have hr:=ok.hr
 have hdi:=ok.di
 have hus:=ok.us
 have hlm:=ok.lm
 have hmd2:=ok.md
 have hsl:=ok.sl
 have hxl:=ok.xl
 have hpu:0≤putA D D.u∧putA D D.u≤4096:=by
  unfold putA
  rw [List.getD_eq_getElem?_getD,List.getElem?_eq_getElem (by omega)]
  exact ok.p0 _ (List.getElem_mem _)
 refine Sp.of (n:=68) ⟨_,Tryz.func63,O,O,O,O⟩ (Nat.le_of_ble_eq_true O) fun Ps As=>Jc (Ja (Jg O (J9 (cs:= [_,_]) O O (by decide) fun b4=>Jg O (Ju (cs:= [_,_,_,_,_,_,_,_,_]) JD O (by decide) fun b6=>Je (Jf (Jc (Ke (A:=RdF rgD none 0 []) (fun Z w _=>RdS.nil _ Z w) (Ja (Lq (Jb O) (Lq (JZ (.n1 O) (bd49_1Xg14 _)) (Lq (Jt (vs:= [_,_]) Un46 O JW O (Ji (Jn)) O O) ?_)))))))))))
 refine Lq (Jb rfl) (Lq (JZ (.n3 rfl rfl rfl) (bd52_0_4_5Xg14 _ _ _ _ _ _)) (Jg rfl (J6 (Et M.d M.h M.m M.b _ _ _ _ _ _ _ _ _ D.H M.L M.A M.cap M.B M.t D.H.ops.length D.X { zeroOp with kind:=4,tc:=i0,tn:=i1,on:=on } none 0 (mkH D (statO D (i0,i1) on)) (mkE D (statO D (i0,i1) on)) hr hwt hrow hdi hmk.tk (by omega)) (.n2 rfl rfl) (by decide) (.n5 .z2 .z2 .z2 .z2 .z2) (Jl Mm1 (Jl Mm2 (Jl Mm3 (Jl Mm4 (Jl Mm0 Jw))))) fun u1_5 Lo fs hres=> ?_)))
 obtain ⟨L2,A2,cap2,B2,t2,rfl,hr2,wt2,hX2,rfl,rfl⟩:=hres
 have hn2:(mkH D (statO D (i0,i1) on)).ops.length=D.H.ops.length+1:=by rw [hmk.ops];simp
 refine Jg O (Ju (cs:= [_,_,_,_,_,_,_,_,_]) JD O (by decide) fun b7=>Jg O (Jq (cs':= [_,_,_,_,_,_,_,_,_]) (vs:= [_,_,_,_,_,_,_,_,_]) JD O O O O O (Nat.le_of_ble_eq_true O) .z (Je (Jf (Jc (JI _ _ [] (.c 0 0 (.c 1 0 (.c 2 0 (.c 3 0 (.c 4 0 (.c 5 0 (.c 6 2 (.c 7 0 (.c 8 0 (.c 9 0 (.c 10 0 (.c 11 0 .nil)))))))))))) mixed (fun _ _ _ _ h=>h) (Sk (Sk (Sd (Sd (Sd (Sk (Sk (Sk (Sk (Sk (Sk (Sr)))))))))))) (fun _ h=>h) (by kernel_rfl) (by decide) fun ws Z0=>Qe O (Jb O) (Qe O (JC O) (Qe O (Jh (o':=0) Un42 O Yk O O) ?_))))))))
 refine Qe O (Jh (o':=0) Un36 O VM O O) (Qe O (Jj Un33 O O (Ji (Jn)) O) (Qe O (Jt (vs:= [_,_]) Un46 O JW O (Ji (Ji (Ji (Ji (Jn))))) O O) (Jz O O (KB (Z9 M.h M.m cap2 A2 (mkH D (statO D (i0,i1) on)) L2 hr2 i0 i1 j hw2) (.n2 O O) (by decide) .z2 .z2 .z2 Jw fun u2_6 Lo fs hres=> ?_))))
 obtain ⟨rfl,rfl,rfl⟩:=hres
 refine ⟨⟨(Sd (Sd (Sd (Sk (Sk (Sk (Sk (Sk (Sk (Sk (Sk (Sr)))))))))))),Mm0⟩,?_⟩
 refine Qe O (Jb O) (Qe O (Jk (vs:= [_,_]) O O) (Qe O (Jk (vs:= [_,_]) O O) (Qe O (Jd O) (Qe O (Jd O) (JN (JM (Jf (Jc (Ja (Lq (Jb O) (Lq (JC O) (Lq (Jh (o':=0) Un42 O Yk O O) ?_))))))))))))
 refine Lq (Jh (o':=0) Un36 O VM O O) (Lq (Jj Un33 O O (Ji (Ji (Ji (Ji (Jn))))) O) (Lq (Jb O) (Jg O (KB (V9 M.h M.m cap2 A2 (mkH D (statO D (i0,i1) on)) L2 hr2 j) (.n2 O O) (by decide) .z .z .z (Jl Mm1 (Jl Mm2 Jw)) fun u3_6 Lo fs hres=> ?_))))
 obtain ⟨A1,c1,rfl,rfl,rfl⟩:=hres
 rw [Yh hj]
 generalize hen:entE ((mkH D (statO D (i0,i1) on)).ents[j])=en at hne hrl hrs ⊢
 dsimp only
 refine Lq (Jb O) (Lq (Jk (vs:= [_,_]) O O) (Lq (Jk (vs:= [_,_]) O O) (Jg O (Ju (cs:= [_,_,_,_,_,_,_]) Y3 O (by decide) fun b10=>Jg O (Jq (cs':= [_,_,_,_,_,_,_]) (vs:= [_,_,_,_,_,_,_]) Y3 O O O O O (Nat.le_of_ble_eq_true O) .z (Lq (Jd O) (Je (Jf (Jc (Jc (Ja (Lq (Jh (o':=4) Un62 O Ya O O) (Lq (Jj Un50 O O Jn O) (Lq (J3 Un50 O) ?_))))))))))))))
 refine Lq (Jd O) (Je (Jf (Jc (Ja (Lq (Jb O) (Lq (Kl O O) (Je (Jf (J1 O (by have:=List.length_pos_iff.2 hne;simp;omega) (Jc (Ja (Lq (Jb O) (Lq (Jh (o':=2) Un62 O Yt O O) (Lq (Jj Un47 O O Jn O) ?_))))))))))))))
 refine Lq (Kh O O) (Lq (q_beql' Un4 O O) (Je (Jf (Jy O (fun h48=> ?_) (fun h48=> ?_)))))
 ·have hlp:=List.length_pos_iff.2 hne
  have hkl:en.rs.length-1<en.rs.length:=by omega
  have hlast:=hrs _ (List.getElem_mem hkl)
  refine Kd (k:=(en.rs.length-1)) Mm0 (List.getElem?_eq_getElem hkl) (rg_open _) fun b7 q7 y7 e7=> ?_
  cases e7
  refine Ja (Lq (Jb O) (Lq (Jh (o':=4) Un62 O Ya O O) (Lq (Jj Un50 O O Jn O) (Lq (Jb O) (Lq (KP O O (by rw [wr64 (by have:=hlp;omega)];omega) (c:=((en.rs.length-1:Nat):Int))) (Lq (J7 Un50 KZ O O (by omega) (by omega)) (Lq (Jh (o':=_+1) Un74 O ti3 O O) (Lq (Kb (j:=1) Un3 O O Mm0 O O) (Lq (JC O) ?_)))))))))
  refine Lq (Jh (o':=17) Un42 O ti3 O O) (Jg O (K2 ti3 O O O (dkl17 hpl) .z5 ?_))
  rw [dkset17 hpl]
  refine Je (Jf (Jc (Ja (Lq (Jt (vs:= [_,_,_,_,_,_,_,_,_]) Un52 O JD O (Ji (Ji (Ji (Ji (Jn))))) O O) (Jg O (Jq (cs':= [_,_,_,_,_,_,_,_,_]) (vs:= [_,_,_,_,_,_,_,_,_]) JD O O O O O (Nat.le_of_ble_eq_true O) .z7 (Je (Jf (Jo ?_)))))))))
  refine ⟨_,[_,_,_,_,_,_,_,_],[_,_,_],fun Z w hs=>JV hs Un52 O JD O (Ji (Ji (Ji (Ji (Ji (Ji (Ji (Jn)))))))) O .nil,?_,fun Z w hs=>((((((((hs.pick .z11).pick .z11).pick .z11).pick .z9).pick .z7).pick .z7).pick .z7).pick .z9).out (Sk (Sk (Sk (Sk (Sk (Sk (Sk (Sk (Sd (Sd (Sd (Sd (Sr))))))))))))) (Jl Mm3 (Jl Mm4 (Jl Mm5 Tt7)))⟩
  have hg:turnGap D.gap (entryF (mkH D (statO D (i0,i1) on)) j).1 on=(en.rs[en.rs.length-1].hi).toNat:=by
   rw [Yh hj,hen]
   unfold turnGap
   obtain ⟨r0,rest,er⟩:=List.exists_cons_of_ne_nil hne
   have el:en.rs.getLast? =some en.rs[en.rs.length-1] :=by rw [List.getLast?_eq_getElem?,List.getElem?_eq_getElem]
   have e0:en.rs[0] =r0:=by simp only [er,List.getElem_cons_zero]
   rw [el]
   simp only [h48,if_true,er]
   try simp
  have hgt:((turnGap D.gap (entryF (mkH D (statO D (i0,i1) on)) j).1 on:Nat):Int)=en.rs[en.rs.length-1].hi:=by rw [hg];omega
  have hok2:DkOk ⟨M.d,M.h,M.m,M.b,M.s,A2,cap2,B2,t2,L2,M.vu,M.vr,M.pu,M.pr⟩ (statD D (i0,i1) on j):=ok.mk_ hr2 wt2 hX2 ok.hU ok.hR (by show DI (mkH D (statO D (i0,i1) on)).ops.length _ _;rw [hn2];exact hmk.di) rfl ⟨rfl,rfl,rfl⟩ hpl ok.p0 (by show turnGap D.gap (entryF (mkH D (statO D (i0,i1) on)) j).1 on≤(JT (mkE D (statO D (i0,i1) on)) D.X).length;omega) (by show D.got≤(mkH D (statO D (i0,i1) on)).ops.length;have:=ok.rc;omega) (by show D.made+1≤1024;omega) (by show D.U.length+D.R.length≤D.made+1;omega)
  refine ⟨_,?_,hok2,O,?_,O⟩
  ·rfl
  ·show _=KC ⟨M.d,M.h,M.m,M.b,M.s,A2,cap2,B2,t2,L2,M.vu,M.vr,M.pu,M.pr⟩ (statD D (i0,i1) on j)
   rw [←hgt]
   rfl
 ·have hlp:=List.length_pos_iff.2 hne
  have hfirst:=hrs _ (List.getElem_mem hlp)
  refine Kd (k:=0) Mm0 (List.getElem?_eq_getElem hlp) (rg_open _) fun b8 q8 y8 e8=> ?_
  cases e8
  refine Ja (Lq (Jb O) (Lq (Jh (o':=4) Un62 O Ya O O) (Lq (Jj Un50 O O Jn O) (Lq (J7 Un50 KZ O O (by omega) (by omega)) (Lq (Jh (o':=_+0) Un74 O ti3 O O) (Lq (Kb (j:=0) Un3 O O Mm0 O O) (Lq (JC O) (Lq (Jh (o':=17) Un42 O ti3 O O) (Jg O (K2 ti3 O O O (dkl17 hpl) .z5 ?_))))))))))
  rw [dkset17 hpl]
  refine Je (Jf (Jc (Ja (Lq (Jt (vs:= [_,_,_,_,_,_,_,_,_]) Un52 O JD O (Ji (Ji (Ji (Ji (Jn))))) O O) (Jg O (Jq (cs':= [_,_,_,_,_,_,_,_,_]) (vs:= [_,_,_,_,_,_,_,_,_]) JD O O O O O (Nat.le_of_ble_eq_true O) .z7 (Je (Jf (Jo ?_)))))))))
  refine ⟨_,[_,_,_,_,_,_,_,_],[_,_,_],fun Z w hs=>JV hs Un52 O JD O (Ji (Ji (Ji (Ji (Ji (Ji (Ji (Jn)))))))) O .nil,?_,fun Z w hs=>((((((((hs.pick .z11).pick .z11).pick .z11).pick .z9).pick .z7).pick .z7).pick .z7).pick .z9).out (Sk (Sk (Sk (Sk (Sk (Sk (Sk (Sk (Sd (Sd (Sd (Sd (Sr))))))))))))) (Jl Mm3 (Jl Mm4 (Jl Mm5 Tt7)))⟩
  have hg:turnGap D.gap (entryF (mkH D (statO D (i0,i1) on)) j).1 on=(en.rs[0].lo).toNat:=by
   rw [Yh hj,hen]
   unfold turnGap
   obtain ⟨r0,rest,er⟩:=List.exists_cons_of_ne_nil hne
   have el:en.rs.getLast? =some en.rs[en.rs.length-1] :=by rw [List.getLast?_eq_getElem?,List.getElem?_eq_getElem]
   have e0:en.rs[0] =r0:=by simp only [er,List.getElem_cons_zero]
   rw [el]
   simp only [h48,Bool.false_eq_true,if_false,er]
   try simp
  have hgt:((turnGap D.gap (entryF (mkH D (statO D (i0,i1) on)) j).1 on:Nat):Int)=en.rs[0].lo:=by rw [hg];omega
  have hok2:DkOk ⟨M.d,M.h,M.m,M.b,M.s,A2,cap2,B2,t2,L2,M.vu,M.vr,M.pu,M.pr⟩ (statD D (i0,i1) on j):=ok.mk_ hr2 wt2 hX2 ok.hU ok.hR (by show DI (mkH D (statO D (i0,i1) on)).ops.length _ _;rw [hn2];exact hmk.di) rfl ⟨rfl,rfl,rfl⟩ hpl ok.p0 (by show turnGap D.gap (entryF (mkH D (statO D (i0,i1) on)) j).1 on≤(JT (mkE D (statO D (i0,i1) on)) D.X).length;omega) (by show D.got≤(mkH D (statO D (i0,i1) on)).ops.length;have:=ok.rc;omega) (by show D.made+1≤1024;omega) (by show D.U.length+D.R.length≤D.made+1;omega)
  refine ⟨_,?_,hok2,O,?_,O⟩
  ·rfl
  ·show _=KC ⟨M.d,M.h,M.m,M.b,M.s,A2,cap2,B2,t2,L2,M.vu,M.vr,M.pu,M.pr⟩ (statD D (i0,i1) on j)
   rw [←hgt]
   rfl
theorem effect_y (h m cap:Nat) (A:Option Addr) (H:Hist) (L:List MR) (hr:HR H L) (i0 i1:Int) (k:Nat) (hw:JX H.ents i0 i1=some k) (hk:k<H.ents.length) (hk4:H.ents[k].op.kind≠4) (on:Bool) (hoff:H.ents[k].off=on):Sp Tryz.prog 62 [.pointer (some ⟨h,0,none⟩), .agg #[.int .i64 i0, .int .i64 i1], .bool on] [hdP h A H.ops.length cap m H.total,mpP m L,mkP L] [RdF opD A cap H.ops,AllF L nowF] (fun u Lo fs=> ∃Ae ce,u= .tuple #[opV (turnF H.ents[k] on) Ae ce, .int .i64 0] ∧Lo= [hdP h A H.ops.length cap m H.total,mpP m L,mkP L] ∧fs= [RdF rgD Ae ce (turnF H.ents[k] on).rs]):=by
 refine (EW h m cap A H L hr i0 i1 k hw (fun e he=>by rw [List.getElem?_eq_getElem hk] at he;rw [←Option.some.inj he];exact hk4) on).mono ?_
 rintro u Lo fs ⟨_,Ae,ce,rfl,⟨_,rfl,rfl⟩ | ⟨hne,_,_⟩⟩
 ·exact ⟨Ae,ce,O,O,O⟩
 ·exact absurd hoff hne
theorem effect_x (h m cap:Nat) (A:Option Addr) (H:Hist) (L:List MR) (hr:HR H L) (i0 i1:Int) (on:Bool) (he:effE H (i0,i1) on≠0):Sp Tryz.prog 62 [.pointer (some ⟨h,0,none⟩), .agg #[.int .i64 i0, .int .i64 i1], .bool on] [hdP h A H.ops.length cap m H.total,mpP m L,mkP L] [RdF opD A cap H.ops,AllF L nowF] (fun u Lo fs=>u= .tuple #[opV zeroOp none 0, .int .i64 (effE H (i0,i1) on)] ∧Lo= [hdP h A H.ops.length cap m H.total,mpP m L,mkP L] ∧fs= []):=by
 cases hw:JX H.ents i0 i1 with
 | none=>
  have e:effE H (i0,i1) on=60:=by unfold effE;rw [hw]
  rw [e];exact effect_n h m cap A H L hr i0 i1 hw on
 | some k=>
  obtain ⟨hk,_,_⟩:=KD hw
  have e0:effE H (i0,i1) on=if H.ents[k].op.kind=4 then 63 else if H.ents[k].off=on then 0 else 62:=by unfold effE;rw [hw];simp only [List.getElem?_eq_getElem hk]
  by_cases h4:H.ents[k].op.kind=4
  ·rw [e0,if_pos h4]
   exact effect_4 h m cap A H L hr i0 i1 k hw (fun e he=>by rw [List.getElem?_eq_getElem hk] at he;rw [←Option.some.inj he];exact h4) on
  ·rw [e0,if_neg h4] at he ⊢
   by_cases ho:H.ents[k].off=on
   ·rw [if_pos ho] at he;exact absurd rfl he
   ·rw [if_neg ho]
    refine (EW h m cap A H L hr i0 i1 k hw (fun e he=>by rw [List.getElem?_eq_getElem hk] at he;rw [←Option.some.inj he];exact h4) on).mono ?_
    rintro u Lo fs ⟨_,Ae,ce,rfl,⟨hy,_,_⟩ | ⟨_,rfl,rfl⟩⟩
    ·exact absurd hy ho
    ·exact ⟨O,O,O⟩
structure TuD (D:DS) (i0 i1:Int) (on:Bool) (j:Nat):Prop where
 mkd:MkD D (statO D (i0,i1) on)
 hj:j<(mkH D (statO D (i0,i1) on)).ents.length
 hw:JX (mkH D (statO D (i0,i1) on)).ents i0 i1=some j
 ne:(entE ((mkH D (statO D (i0,i1) on)).ents[j])).rs≠ []
 rl:(entE ((mkH D (statO D (i0,i1) on)).ents[j])).rs.length≤100000
 rs: ∀r∈(entE ((mkH D (statO D (i0,i1) on)).ents[j])).rs,0≤r.lo∧r.lo<r.hi∧r.hi≤(JT (mkE D (statO D (i0,i1) on)) D.X).length
def undoD (D:DS):DS:= { D with U:=(upF (JY D.H true) D.U D.R).2.1,R:=(upF (JY D.H true) D.U D.R).2.2 }
def redoD (D:DS):DS:= { D with R:=(upF (JY D.H false) D.R D.U).2.1,U:=(upF (JY D.H false) D.R D.U).2.2 }
theorem XM (ok:Id2→Bool) (U R:List Id2):(upF ok U R).2.1.length+(upF ok U R).2.2.length=U.length+R.length:=by
 unfold upF
 cases hp:pickF ok U with
 | none=>rfl
 | some kx=>
  obtain ⟨hx,_⟩:=Y5 (ok:=ok) (l:=U) (k:=kx.1) (x:=kx.2) hp
  have hk:kx.1<U.length:=by
   rcases Nat.lt_or_ge kx.1 U.length with h | h
   ·exact h
   ·rw [List.getElem?_eq_none h] at hx;cases hx
  simp only [List.length_eraseIdx_of_lt hk,List.length_append,List.length_cons,List.length_nil]
  omega
theorem EE {ok:Id2→Bool} {U R:List Id2} (h:(upF ok U R).1=none):upF ok U R=(none,U,R):=by
 unfold upF at h ⊢
 cases hp:pickF ok U with
 | none=>rfl
 | some kx=>rw [hp] at h;cases h
def RefN (M:DM) (D:DS) (u:Value→Value):Value→List Part→List Fact→Prop:=fun v Lo fs=> ∃(e:Value) (M2:DM),FltV e∧M2.d=M.d∧DkOk M2 D∧v=u e∧Lo=KC M2 D∧fs=KY M2 D
set_option maxRecDepth 10000 in
theorem undo_n (M:DM) (D:DS) (ok:DkOk M D) (hmd:(D.made:Int)<D.op) (hx:(upF (JY D.H true) D.U D.R).1=none):Sp Tryz.prog 39 [.pointer (some ⟨M.d,0,none⟩)] (KC M D) (barF::KY M D) (RefN M D fun e=> .tuple #[opV zeroOp none 0,e]):=by
 have hvl:=KA M.t.row
 have hwt:=ok.wt
 have htl:=ok.tl
 have hrow:=ok.row
 have hpl:=ok.pl
 have hr:=ok.hr
 have hdi:=ok.di
 have hus:=ok.us
 have hlm:=ok.lm
 have hmd2:=ok.md
 have hsl:=ok.sl
 have hxl:=ok.xl
 have hpu:0≤putA D D.u∧putA D D.u≤4096:=by
  unfold putA
  rw [List.getD_eq_getElem?_getD,List.getElem?_eq_getElem (by omega)]
  exact ok.p0 _ (List.getElem_mem _)
 have hlen:=XM (JY D.H true) D.U D.R
 have hun:=EE hx
 refine Sp.ofD (n:=27) ⟨_,Tryz.func39,O,O,O,O⟩ (Nat.le_of_ble_eq_true O) fun Ps As=>Ja (Jg O (Ju (cs:= [_,_,_,_,_,_,_,_,_]) JD O (by decide) fun b2=>Jg O (Ju (cs:= [_]) Yw O (by decide) fun b3=>Je ?_)))
 refine ⟨O,_,_,_,_,_,catch_Undo b2 b3,DefReg.mk (.n2 O O) (by decide),?_⟩
 refine Jc (Ja (JQ (Jb O) (dl O) (Jg O (JR (room_0 M.d M.h M.b _ _ _ _ _ _ _ _ _ _ 0 hmd) (.n3 O O O) (by first | exact dl O | decide) .z2 Jw fun u2_1 Lo fs hres=> ?_))))
 obtain ⟨rfl,rfl,rfl⟩:=hres
 refine Je (Jf (Jc (YL (JI _ _ [14] (.c 0 0 (.c 1 0 (.c 2 0 (.c 3 0 (.c 4 0 (.c 5 0 (.c 6 0 (.c 7 0 (.c 8 0 (.b (.c 9 2 (.c 10 0 (.c 11 0 (.c 12 1 (.c 13 2 (.c 14 3 (.c 15 1 .nil))))))) (.c 13 2 (.c 9 2 (.c 10 0 (.c 11 0 (.c 12 1 (.c 14 3 (.c 15 1 .nil))))))))))))))))) mixed (fun _ _ _ _ h=>h) (Sk (Sk (Sk (Sd (Sd (Sd (Sk (Sd (Sd (Sd (Sr))))))))))) (fun _ h=>h) (by kernel_rfl) (by first | exact dl O | decide) fun ws Z0=>JO O (Jb O) (dl O) (JO O (JC O) (dl O) (JO O (Jh (o':=18) Un42 O Zc O O) (dl O) (JO O (Jj Un40 O O Jn (dk18 hpl)) (dl O) (JO O (Jb O) (dl O) ?_))))))))
 refine JO O (JC O) (dl O) (JO O (Jh (o':=0) Un42 O Yk O O) (dl O) (JO O (Jh (o':=0) Un36 O VM O O) (dl O) (JO O (Jj Un33 O O Jn O) (dl O) (Yd ?_ ?_))))
 ·refine Jz O O (J6 (XP M.h M.m M.cap M.A D.H M.L hr M.s M.vu M.vr M.pu M.pr D.U D.R ok.hU ok.hR (by omega) (by omega)) (.n2 O O) (by first | exact dl O | decide) (.n6 .z7 .z7 .z7 .z3 .z3 .z3) (Jl Mm2 (Jl Mm3 Jw)) fun u3_9 Lo fs hres=> ?_)
  obtain ⟨vu2,pu2,vr2,pr2,hU2,hR2,rfl,rfl,rfl⟩:=hres
  rw [hx]
  refine ⟨⟨(Sd (Sd (Sd (Sd (Sd (Sd (Sk (Sk (Sk (Sk (Sr))))))))))),Mm0⟩,?_⟩
  refine JO O (Jb O) (dl O) (JO O (Jk (vs:= [_,_]) O O) (dl O) (YZ O (Jk (vs:= [_,_]) O O) (dl O) (Jz O O (Ju (cs:= [_,_]) JW O (by first | exact dl O | decide) fun b4=> ?_))))
  refine ⟨⟨(Sd (Sd (Sd (Sd (Sd (Sd (Sd (Sk (Sk (Sk (Sk (Sr)))))))))))),Mm0⟩,?_⟩
  refine JN (J8 O O (Jq (cs':= [_,_]) (vs:= [_,_]) JW O O O O O (Nat.le_of_ble_eq_true O) .z (YH O (Jd O) (dl O) (JM (Jf (Jc (Ja (JQ (Jb O) (dl O) (Jg O (YS (give_e _ _ 70 (by first | exact dl O | decide)) (.n3 O O O) Jw fun u4_1 Lo fs hres=> ?_))))))))))
  obtain ⟨hv,rfl,rfl⟩:=hres
  refine Xs ?_
  rw [hun] at hU2 hR2
  refine ⟨_,_,_,_,[_,_,_,_,_,_,_,_],[_,_,_],O,hv,⟨_,_,_,_,_,_,_,_,_,_,O⟩,fun Z w hs=>((hs.pick .z8).pick .z9),fun Z w hs=>JV hs Un52 O JD O Jn O (KR hs Un54 O O (Ji Jn) O .nil),?_,fun Z w hs=>((((((((hs.pick .z5).pick .z5).pick .z5).pick .z10).pick .z9).pick .z9).pick .z9).pick .z10).out (Sk (Sk (Sk (Sk (Sk (Sk (Sk (Sk (Sd (Sd (Sd (Sr)))))))))))) (Jl Mm2 (Jl Mm3 (Jl Mm4 Tt1)))⟩
  refine ⟨_,⟨M.d,M.h,M.m,M.b,M.s,M.A,M.cap,M.B,M.t,M.L,vu2,vr2,pu2,pr2⟩,hv,O,ok.mk_ hr hwt hrow hU2 hR2 hdi O ⟨O,O,O⟩ hpl ok.p0 ok.gp ok.rc ok.md ok.sl,O,O,O⟩
 ·refine Jz O O (Ju (cs:= [_,_]) JW O (by first | exact dl O | decide) fun b4=> ?_)
  refine ⟨⟨(Sd (Sk (Sk (Sk (Sd (Sd (Sd (Sk (Sd (Sd (Sd (Sr)))))))))))),Mm0⟩,?_⟩
  refine Jz O O (J6 (XP M.h M.m M.cap M.A D.H M.L hr M.s M.vu M.vr M.pu M.pr D.U D.R ok.hU ok.hR (by omega) (by omega)) (.n2 O O) (by first | exact dl O | decide) (.n6 .z8 .z8 .z8 .z4 .z4 .z4) (Jl Mm2 (Jl Mm3 Jw)) fun u3_9 Lo fs hres=> ?_)
  obtain ⟨vu2,pu2,vr2,pr2,hU2,hR2,rfl,rfl,rfl⟩:=hres
  rw [hx]
  refine ⟨⟨(Sd (Sd (Sd (Sd (Sd (Sd (Sd (Sk (Sk (Sk (Sk (Sr)))))))))))),Mm0⟩,?_⟩
  refine JO O (Jb O) (dl O) (JO O (Jk (vs:= [_,_]) O O) (dl O) (YZ O (Jk (vs:= [_,_]) O O) (dl O) (JN (J8 O O (Jq (cs':= [_,_]) (vs:= [_,_]) JW O O O O O (Nat.le_of_ble_eq_true O) .z6 (YH O (Jd O) (dl O) (JM (Jf (Jc (Ja (JQ (Jb O) (dl O) (Jg O (YS (give_e _ _ 70 (by first | exact dl O | decide)) (.n3 O O O) Jw fun u4_1 Lo fs hres=> ?_)))))))))))))
  obtain ⟨hv,rfl,rfl⟩:=hres
  refine Xs ?_
  rw [hun] at hU2 hR2
  refine ⟨_,_,_,_,[_,_,_,_,_,_,_,_],[_,_,_],O,hv,⟨_,_,_,_,_,_,_,_,_,_,O⟩,fun Z w hs=>((hs.pick .z8).pick .z9),fun Z w hs=>JV hs Un52 O JD O Jn O (KR hs Un54 O O (Ji Jn) O .nil),?_,fun Z w hs=>((((((((hs.pick .z4).pick .z4).pick .z4).pick .z10).pick .z8).pick .z8).pick .z8).pick .z10).out (Sk (Sk (Sk (Sk (Sk (Sk (Sk (Sk (Sd (Sd (Sd (Sr)))))))))))) (Jl Mm2 (Jl Mm3 (Jl Mm4 Tt1)))⟩
  refine ⟨_,⟨M.d,M.h,M.m,M.b,M.s,M.A,M.cap,M.B,M.t,M.L,vu2,vr2,pu2,pr2⟩,hv,O,ok.mk_ hr hwt hrow hU2 hR2 hdi O ⟨O,O,O⟩ hpl ok.p0 ok.gp ok.rc ok.md ok.sl,O,O,O⟩
set_option maxRecDepth 10000 in
theorem ZB (M:DM) (D:DS) (ok:DkOk M D) (hmd:(D.made:Int)<D.op) (i0 i1:Int) (j:Nat) (hx:(upF (JY D.H true) D.U D.R).1=some (i0,i1)) (htu:TuD (undoD D) i0 i1 false j):Sp Tryz.prog 39 [.pointer (some ⟨M.d,0,none⟩)] (KC M D) (barF::KY M D) (fun v Lo fs=> ∃(M2:DM),M2.d=M.d∧DkOk M2 (statD (undoD D) (i0,i1) false j)∧v= .tuple #[opV (statO (undoD D) (i0,i1) false) none 0, .nilIface] ∧Lo=KC M2 (statD (undoD D) (i0,i1) false j)∧fs=KY M2 (statD (undoD D) (i0,i1) false j)):=by
 have hvl:=KA M.t.row
 have hwt:=ok.wt
 have htl:=ok.tl
 have hrow:=ok.row
 have hpl:=ok.pl
 have hr:=ok.hr
 have hdi:=ok.di
 have hus:=ok.us
 have hlm:=ok.lm
 have hmd2:=ok.md
 have hsl:=ok.sl
 have hxl:=ok.xl
 have hpu:0≤putA D D.u∧putA D D.u≤4096:=by
  unfold putA
  rw [List.getD_eq_getElem?_getD,List.getElem?_eq_getElem (by omega)]
  exact ok.p0 _ (List.getElem_mem _)
 have hlen:=XM (JY D.H true) D.U D.R
 refine Sp.ofD (n:=27) ⟨_,Tryz.func39,O,O,O,O⟩ (Nat.le_of_ble_eq_true O) fun Ps As=>Ja (Jg O (Ju (cs:= [_,_,_,_,_,_,_,_,_]) JD O (by decide) fun b2=>Jg O (Ju (cs:= [_]) Yw O (by decide) fun b3=>Je ?_)))
 refine ⟨O,_,_,_,_,_,catch_Undo b2 b3,DefReg.mk (.n2 O O) (by decide),?_⟩
 refine Jc (Ja (JQ (Jb O) (dl O) (Jg O (JR (room_0 M.d M.h M.b _ _ _ _ _ _ _ _ _ _ 0 hmd) (.n3 O O O) (by first | exact dl O | decide) .z2 Jw fun u2_1 Lo fs hres=> ?_))))
 obtain ⟨rfl,rfl,rfl⟩:=hres
 refine Je (Jf (Jc (YL (JI _ _ [14] (.c 0 0 (.c 1 0 (.c 2 0 (.c 3 0 (.c 4 0 (.c 5 0 (.c 6 0 (.c 7 0 (.c 8 0 (.b (.c 9 2 (.c 10 0 (.c 11 0 (.c 12 1 (.c 13 2 (.c 14 3 (.c 15 1 .nil))))))) (.c 13 2 (.c 9 2 (.c 10 0 (.c 11 0 (.c 12 1 (.c 14 3 (.c 15 1 .nil))))))))))))))))) mixed (fun _ _ _ _ h=>h) (Sk (Sk (Sk (Sd (Sd (Sd (Sk (Sd (Sd (Sd (Sr))))))))))) (fun _ h=>h) (by kernel_rfl) (by first | exact dl O | decide) fun ws Z0=>JO O (Jb O) (dl O) (JO O (JC O) (dl O) (JO O (Jh (o':=18) Un42 O Zc O O) (dl O) (JO O (Jj Un40 O O Jn (dk18 hpl)) (dl O) (JO O (Jb O) (dl O) ?_))))))))
 refine JO O (JC O) (dl O) (JO O (Jh (o':=0) Un42 O Yk O O) (dl O) (JO O (Jh (o':=0) Un36 O VM O O) (dl O) (JO O (Jj Un33 O O Jn O) (dl O) (Yd ?_ ?_))))
 ·refine Jz O O (J6 (XP M.h M.m M.cap M.A D.H M.L hr M.s M.vu M.vr M.pu M.pr D.U D.R ok.hU ok.hR (by omega) (by omega)) (.n2 O O) (by first | exact dl O | decide) (.n6 .z7 .z7 .z7 .z3 .z3 .z3) (Jl Mm2 (Jl Mm3 Jw)) fun u3_9 Lo fs hres=> ?_)
  obtain ⟨vu2,pu2,vr2,pr2,hU2,hR2,rfl,rfl,rfl⟩:=hres
  rw [hx]
  refine ⟨⟨(Sd (Sd (Sd (Sd (Sd (Sd (Sk (Sk (Sk (Sk (Sr))))))))))),Mm0⟩,?_⟩
  refine JO O (Jb O) (dl O) (JO O (Jk (vs:= [_,_]) O O) (dl O) (YZ O (Jk (vs:= [_,_]) O O) (dl O) (Jz O O (Ju (cs:= [_,_]) JW O (by first | exact dl O | decide) fun b4=> ?_))))
  refine ⟨⟨(Sd (Sd (Sd (Sd (Sd (Sd (Sd (Sk (Sk (Sk (Sk (Sr)))))))))))),Mm0⟩,?_⟩
  refine JN (J8 O O (Jq (cs':= [_,_]) (vs:= [_,_]) JW O O O O O (Nat.le_of_ble_eq_true O) .z (YH O (Jd O) (dl O) (JM (Jf (Jc (Ja (JQ (Jb O) (dl O) (Jg O (Jm (give_0 _ _) (.n3 O O O) (by first | exact dl O | decide) Jw fun u4_1 Lo fs hres=> ?_))))))))))
  obtain ⟨rfl,rfl,rfl⟩:=hres
  refine Je (Jf (Jc (JA .z3 (JA .z3 (JA .z3 (JA .z10 (JA .z7 (JA .z7 (JA .z7 (JA .z8 ?_))))))))))
  have hok1:DkOk ⟨M.d,M.h,M.m,M.b,M.s,M.A,M.cap,M.B,M.t,M.L,vu2,vr2,pu2,pr2⟩ (undoD D):=ok.mk_ hr hwt hrow hU2 hR2 hdi rfl ⟨rfl,rfl,rfl⟩ hpl ok.p0 ok.gp ok.rc ok.md (by show (upF (JY D.H true) D.U D.R).2.1.length+(upF (JY D.H true) D.U D.R).2.2.length≤D.made;omega)
  refine Ja (JQ (Jb O) (dl O) (JQ (Jt (vs:= [_,_]) Un46 O JW O (Ji (Ji (Ji (Ji (Ji (Ji (Ji (Ji (Jn))))))))) O O) (dl O) (Jg O (J6 (VE ⟨M.d,M.h,M.m,M.b,M.s,M.A,M.cap,M.B,M.t,M.L,vu2,vr2,pu2,pr2⟩ (undoD D) hok1 i0 i1 false j hmd htu.mkd htu.hj htu.hw htu.ne htu.rl htu.rs) (.n3 O O O) (by first | exact dl O | decide) (.n8 .z .z .z .z .z .z .z .z) (Jl Mm1 (Jl Mm2 (Jl Mm3 (Jl Mm4 Jw)))) fun u5_2 Lo fs hres=> ?_))))
  obtain ⟨M2,hd2,hok2,rfl,rfl,rfl⟩:=hres
  refine Jg O (Jq (cs':= [_,_,_,_,_,_,_,_,_]) (vs:= [_,_,_,_,_,_,_,_,_]) JD O O O O O (Nat.le_of_ble_eq_true O) .z10 (Jg O (JJ Yw O O O .z .z9 (Je (Jf (Jo ?_))))))
  refine ⟨_,[_,_,_,_,_,_,_,_],[_,_,_],fun Z w hs=>JV hs Un52 O JD O (Ji (Ji (Ji (Ji (Ji (Ji (Ji (Ji (Ji (Ji (Jn))))))))))) O (KR hs Un54 O O (Ji (Ji (Ji (Ji (Ji (Ji (Ji (Ji (Ji (Jn)))))))))) O .nil),?_,fun Z w hs=>hs.out (Sk (Sk (Sk (Sk (Sk (Sk (Sk (Sk (Sd (Sd (Sd (Sr)))))))))))) (Jl Mm0 (Jl Mm1 (Jl Mm2 Tt4)))⟩
  exact ⟨M2,hd2,hok2,O,O,O⟩
 ·refine Jz O O (Ju (cs:= [_,_]) JW O (by first | exact dl O | decide) fun b4=> ?_)
  refine ⟨⟨(Sd (Sk (Sk (Sk (Sd (Sd (Sd (Sk (Sd (Sd (Sd (Sr)))))))))))),Mm0⟩,?_⟩
  refine Jz O O (J6 (XP M.h M.m M.cap M.A D.H M.L hr M.s M.vu M.vr M.pu M.pr D.U D.R ok.hU ok.hR (by omega) (by omega)) (.n2 O O) (by first | exact dl O | decide) (.n6 .z8 .z8 .z8 .z4 .z4 .z4) (Jl Mm2 (Jl Mm3 Jw)) fun u3_9 Lo fs hres=> ?_)
  obtain ⟨vu2,pu2,vr2,pr2,hU2,hR2,rfl,rfl,rfl⟩:=hres
  rw [hx]
  refine ⟨⟨(Sd (Sd (Sd (Sd (Sd (Sd (Sd (Sk (Sk (Sk (Sk (Sr)))))))))))),Mm0⟩,?_⟩
  refine JO O (Jb O) (dl O) (JO O (Jk (vs:= [_,_]) O O) (dl O) (YZ O (Jk (vs:= [_,_]) O O) (dl O) (JN (J8 O O (Jq (cs':= [_,_]) (vs:= [_,_]) JW O O O O O (Nat.le_of_ble_eq_true O) .z6 (YH O (Jd O) (dl O) (JM (Jf (Jc (Ja (JQ (Jb O) (dl O) (Jg O (Jm (give_0 _ _) (.n3 O O O) (by first | exact dl O | decide) Jw fun u4_1 Lo fs hres=> ?_)))))))))))))
  obtain ⟨rfl,rfl,rfl⟩:=hres
  refine Je (Jf (Jc (JA .z2 (JA .z2 (JA .z2 (JA .z10 (JA .z6 (JA .z6 (JA .z6 (JA .z8 ?_))))))))))
  have hok1:DkOk ⟨M.d,M.h,M.m,M.b,M.s,M.A,M.cap,M.B,M.t,M.L,vu2,vr2,pu2,pr2⟩ (undoD D):=ok.mk_ hr hwt hrow hU2 hR2 hdi rfl ⟨rfl,rfl,rfl⟩ hpl ok.p0 ok.gp ok.rc ok.md (by show (upF (JY D.H true) D.U D.R).2.1.length+(upF (JY D.H true) D.U D.R).2.2.length≤D.made;omega)
  refine Ja (JQ (Jb O) (dl O) (JQ (Jt (vs:= [_,_]) Un46 O JW O (Ji (Ji (Ji (Ji (Ji (Ji (Ji (Ji (Jn))))))))) O O) (dl O) (Jg O (J6 (VE ⟨M.d,M.h,M.m,M.b,M.s,M.A,M.cap,M.B,M.t,M.L,vu2,vr2,pu2,pr2⟩ (undoD D) hok1 i0 i1 false j hmd htu.mkd htu.hj htu.hw htu.ne htu.rl htu.rs) (.n3 O O O) (by first | exact dl O | decide) (.n8 .z .z .z .z .z .z .z .z) (Jl Mm1 (Jl Mm2 (Jl Mm3 (Jl Mm4 Jw)))) fun u5_2 Lo fs hres=> ?_))))
  obtain ⟨M2,hd2,hok2,rfl,rfl,rfl⟩:=hres
  refine Jg O (Jq (cs':= [_,_,_,_,_,_,_,_,_]) (vs:= [_,_,_,_,_,_,_,_,_]) JD O O O O O (Nat.le_of_ble_eq_true O) .z10 (Jg O (JJ Yw O O O .z .z9 (Je (Jf (Jo ?_))))))
  refine ⟨_,[_,_,_,_,_,_,_,_],[_,_,_],fun Z w hs=>JV hs Un52 O JD O (Ji (Ji (Ji (Ji (Ji (Ji (Ji (Ji (Ji (Ji (Jn))))))))))) O (KR hs Un54 O O (Ji (Ji (Ji (Ji (Ji (Ji (Ji (Ji (Ji (Jn)))))))))) O .nil),?_,fun Z w hs=>hs.out (Sk (Sk (Sk (Sk (Sk (Sk (Sk (Sk (Sd (Sd (Sd (Sr)))))))))))) (Jl Mm0 (Jl Mm1 (Jl Mm2 Tt4)))⟩
  exact ⟨M2,hd2,hok2,O,O,O⟩
set_option maxRecDepth 10000 in
theorem redo_n (M:DM) (D:DS) (ok:DkOk M D) (hmd:(D.made:Int)<D.op) (hx:(upF (JY D.H false) D.R D.U).1=none):Sp Tryz.prog 80 [.pointer (some ⟨M.d,0,none⟩)] (KC M D) (barF::KY M D) (RefN M D fun e=> .tuple #[opV zeroOp none 0,e]):=by
 have hvl:=KA M.t.row
 have hwt:=ok.wt
 have htl:=ok.tl
 have hrow:=ok.row
 have hpl:=ok.pl
 have hr:=ok.hr
 have hdi:=ok.di
 have hus:=ok.us
 have hlm:=ok.lm
 have hmd2:=ok.md
 have hsl:=ok.sl
 have hxl:=ok.xl
 have hpu:0≤putA D D.u∧putA D D.u≤4096:=by
  unfold putA
  rw [List.getD_eq_getElem?_getD,List.getElem?_eq_getElem (by omega)]
  exact ok.p0 _ (List.getElem_mem _)
 have hlen:=XM (JY D.H false) D.R D.U
 have hun:=EE hx
 refine Sp.ofD (n:=27) ⟨_,Tryz.func80,O,O,O,O⟩ (Nat.le_of_ble_eq_true O) fun Ps As=>Ja (Jg O (Ju (cs:= [_,_,_,_,_,_,_,_,_]) JD O (by decide) fun b2=>Jg O (Ju (cs:= [_]) Yw O (by decide) fun b3=>Je ?_)))
 refine ⟨O,_,_,_,_,_,catch_Redo b2 b3,DefReg.mk (.n2 O O) (by decide),?_⟩
 refine Jc (Ja (JQ (Jb O) (dl O) (Jg O (JR (room_0 M.d M.h M.b _ _ _ _ _ _ _ _ _ _ 0 hmd) (.n3 O O O) (by first | exact dl O | decide) .z2 Jw fun u2_1 Lo fs hres=> ?_))))
 obtain ⟨rfl,rfl,rfl⟩:=hres
 refine Je (Jf (Jc (YL (JI _ _ [14] (.c 0 0 (.c 1 0 (.c 2 0 (.c 3 0 (.c 4 0 (.c 5 0 (.c 6 0 (.c 7 0 (.c 8 0 (.b (.c 9 2 (.c 10 0 (.c 11 0 (.c 12 1 (.c 13 2 (.c 14 3 (.c 15 1 .nil))))))) (.c 13 2 (.c 9 2 (.c 10 0 (.c 11 0 (.c 12 1 (.c 14 3 (.c 15 1 .nil))))))))))))))))) mixed (fun _ _ _ _ h=>h) (Sk (Sk (Sk (Sd (Sd (Sd (Sk (Sd (Sd (Sd (Sr))))))))))) (fun _ h=>h) (by kernel_rfl) (by first | exact dl O | decide) fun ws Z0=>JO O (Jb O) (dl O) (JO O (JC O) (dl O) (JO O (Jh (o':=18) Un42 O Zc O O) (dl O) (JO O (Jj Un40 O O Jn (dk18 hpl)) (dl O) (JO O (Jb O) (dl O) ?_))))))))
 refine JO O (JC O) (dl O) (JO O (Jh (o':=0) Un42 O Yk O O) (dl O) (JO O (Jh (o':=0) Un36 O VM O O) (dl O) (JO O (Jj Un33 O O Jn O) (dl O) (Yd ?_ ?_))))
 ·refine Jz O O (J6 (XQ M.h M.m M.cap M.A D.H M.L hr M.s M.vu M.vr M.pu M.pr D.U D.R ok.hU ok.hR (by omega) (by omega)) (.n2 O O) (by first | exact dl O | decide) (.n6 .z7 .z7 .z7 .z3 .z3 .z3) (Jl Mm2 (Jl Mm3 Jw)) fun u3_9 Lo fs hres=> ?_)
  obtain ⟨vu2,pu2,vr2,pr2,hU2,hR2,rfl,rfl,rfl⟩:=hres
  rw [hx]
  refine ⟨⟨(Sd (Sd (Sd (Sd (Sd (Sd (Sk (Sk (Sk (Sk (Sr))))))))))),Mm0⟩,?_⟩
  refine JO O (Jb O) (dl O) (JO O (Jk (vs:= [_,_]) O O) (dl O) (YZ O (Jk (vs:= [_,_]) O O) (dl O) (Jz O O (Ju (cs:= [_,_]) JW O (by first | exact dl O | decide) fun b4=> ?_))))
  refine ⟨⟨(Sd (Sd (Sd (Sd (Sd (Sd (Sd (Sk (Sk (Sk (Sk (Sr)))))))))))),Mm0⟩,?_⟩
  refine JN (J8 O O (Jq (cs':= [_,_]) (vs:= [_,_]) JW O O O O O (Nat.le_of_ble_eq_true O) .z (YH O (Jd O) (dl O) (JM (Jf (Jc (Ja (JQ (Jb O) (dl O) (Jg O (YS (give_e _ _ 70 (by first | exact dl O | decide)) (.n3 O O O) Jw fun u4_1 Lo fs hres=> ?_))))))))))
  obtain ⟨hv,rfl,rfl⟩:=hres
  refine Xs ?_
  rw [hun] at hU2 hR2
  refine ⟨_,_,_,_,[_,_,_,_,_,_,_,_],[_,_,_],O,hv,⟨_,_,_,_,_,_,_,_,_,_,O⟩,fun Z w hs=>((hs.pick .z8).pick .z9),fun Z w hs=>JV hs Un52 O JD O Jn O (KR hs Un54 O O (Ji Jn) O .nil),?_,fun Z w hs=>((((((((hs.pick .z5).pick .z5).pick .z5).pick .z10).pick .z9).pick .z9).pick .z9).pick .z10).out (Sk (Sk (Sk (Sk (Sk (Sk (Sk (Sk (Sd (Sd (Sd (Sr)))))))))))) (Jl Mm2 (Jl Mm3 (Jl Mm4 Tt1)))⟩
  refine ⟨_,⟨M.d,M.h,M.m,M.b,M.s,M.A,M.cap,M.B,M.t,M.L,vu2,vr2,pu2,pr2⟩,hv,O,ok.mk_ hr hwt hrow hU2 hR2 hdi O ⟨O,O,O⟩ hpl ok.p0 ok.gp ok.rc ok.md ok.sl,O,O,O⟩
 ·refine Jz O O (Ju (cs:= [_,_]) JW O (by first | exact dl O | decide) fun b4=> ?_)
  refine ⟨⟨(Sd (Sk (Sk (Sk (Sd (Sd (Sd (Sk (Sd (Sd (Sd (Sr)))))))))))),Mm0⟩,?_⟩
  refine Jz O O (J6 (XQ M.h M.m M.cap M.A D.H M.L hr M.s M.vu M.vr M.pu M.pr D.U D.R ok.hU ok.hR (by omega) (by omega)) (.n2 O O) (by first | exact dl O | decide) (.n6 .z8 .z8 .z8 .z4 .z4 .z4) (Jl Mm2 (Jl Mm3 Jw)) fun u3_9 Lo fs hres=> ?_)
  obtain ⟨vu2,pu2,vr2,pr2,hU2,hR2,rfl,rfl,rfl⟩:=hres
  rw [hx]
  refine ⟨⟨(Sd (Sd (Sd (Sd (Sd (Sd (Sd (Sk (Sk (Sk (Sk (Sr)))))))))))),Mm0⟩,?_⟩
  refine JO O (Jb O) (dl O) (JO O (Jk (vs:= [_,_]) O O) (dl O) (YZ O (Jk (vs:= [_,_]) O O) (dl O) (JN (J8 O O (Jq (cs':= [_,_]) (vs:= [_,_]) JW O O O O O (Nat.le_of_ble_eq_true O) .z6 (YH O (Jd O) (dl O) (JM (Jf (Jc (Ja (JQ (Jb O) (dl O) (Jg O (YS (give_e _ _ 70 (by first | exact dl O | decide)) (.n3 O O O) Jw fun u4_1 Lo fs hres=> ?_)))))))))))))
  obtain ⟨hv,rfl,rfl⟩:=hres
  refine Xs ?_
  rw [hun] at hU2 hR2
  refine ⟨_,_,_,_,[_,_,_,_,_,_,_,_],[_,_,_],O,hv,⟨_,_,_,_,_,_,_,_,_,_,O⟩,fun Z w hs=>((hs.pick .z8).pick .z9),fun Z w hs=>JV hs Un52 O JD O Jn O (KR hs Un54 O O (Ji Jn) O .nil),?_,fun Z w hs=>((((((((hs.pick .z4).pick .z4).pick .z4).pick .z10).pick .z8).pick .z8).pick .z8).pick .z10).out (Sk (Sk (Sk (Sk (Sk (Sk (Sk (Sk (Sd (Sd (Sd (Sr)))))))))))) (Jl Mm2 (Jl Mm3 (Jl Mm4 Tt1)))⟩
  refine ⟨_,⟨M.d,M.h,M.m,M.b,M.s,M.A,M.cap,M.B,M.t,M.L,vu2,vr2,pu2,pr2⟩,hv,O,ok.mk_ hr hwt hrow hU2 hR2 hdi O ⟨O,O,O⟩ hpl ok.p0 ok.gp ok.rc ok.md ok.sl,O,O,O⟩
set_option maxRecDepth 10000 in
theorem Jb7 (M:DM) (D:DS) (ok:DkOk M D) (hmd:(D.made:Int)<D.op) (i0 i1:Int) (j:Nat) (hx:(upF (JY D.H false) D.R D.U).1=some (i0,i1)) (htu:TuD (redoD D) i0 i1 true j):Sp Tryz.prog 80 [.pointer (some ⟨M.d,0,none⟩)] (KC M D) (barF::KY M D) (fun v Lo fs=> ∃(M2:DM),M2.d=M.d∧DkOk M2 (statD (redoD D) (i0,i1) true j)∧v= .tuple #[opV (statO (redoD D) (i0,i1) true) none 0, .nilIface] ∧Lo=KC M2 (statD (redoD D) (i0,i1) true j)∧fs=KY M2 (statD (redoD D) (i0,i1) true j)):=by
 have hvl:=KA M.t.row
 have hwt:=ok.wt
 have htl:=ok.tl
 have hrow:=ok.row
 have hpl:=ok.pl
 have hr:=ok.hr
 have hdi:=ok.di
 have hus:=ok.us
 have hlm:=ok.lm
 have hmd2:=ok.md
 have hsl:=ok.sl
 have hxl:=ok.xl
 have hpu:0≤putA D D.u∧putA D D.u≤4096:=by
  unfold putA
  rw [List.getD_eq_getElem?_getD,List.getElem?_eq_getElem (by omega)]
  exact ok.p0 _ (List.getElem_mem _)
 have hlen:=XM (JY D.H false) D.R D.U
 refine Sp.ofD (n:=27) ⟨_,Tryz.func80,O,O,O,O⟩ (Nat.le_of_ble_eq_true O) fun Ps As=>Ja (Jg O (Ju (cs:= [_,_,_,_,_,_,_,_,_]) JD O (by decide) fun b2=>Jg O (Ju (cs:= [_]) Yw O (by decide) fun b3=>Je ?_)))
 refine ⟨O,_,_,_,_,_,catch_Redo b2 b3,DefReg.mk (.n2 O O) (by decide),?_⟩
 refine Jc (Ja (JQ (Jb O) (dl O) (Jg O (JR (room_0 M.d M.h M.b _ _ _ _ _ _ _ _ _ _ 0 hmd) (.n3 O O O) (by first | exact dl O | decide) .z2 Jw fun u2_1 Lo fs hres=> ?_))))
 obtain ⟨rfl,rfl,rfl⟩:=hres
 refine Je (Jf (Jc (YL (JI _ _ [14] (.c 0 0 (.c 1 0 (.c 2 0 (.c 3 0 (.c 4 0 (.c 5 0 (.c 6 0 (.c 7 0 (.c 8 0 (.b (.c 9 2 (.c 10 0 (.c 11 0 (.c 12 1 (.c 13 2 (.c 14 3 (.c 15 1 .nil))))))) (.c 13 2 (.c 9 2 (.c 10 0 (.c 11 0 (.c 12 1 (.c 14 3 (.c 15 1 .nil))))))))))))))))) mixed (fun _ _ _ _ h=>h) (Sk (Sk (Sk (Sd (Sd (Sd (Sk (Sd (Sd (Sd (Sr))))))))))) (fun _ h=>h) (by kernel_rfl) (by first | exact dl O | decide) fun ws Z0=>JO O (Jb O) (dl O) (JO O (JC O) (dl O) (JO O (Jh (o':=18) Un42 O Zc O O) (dl O) (JO O (Jj Un40 O O Jn (dk18 hpl)) (dl O) (JO O (Jb O) (dl O) ?_))))))))
 refine JO O (JC O) (dl O) (JO O (Jh (o':=0) Un42 O Yk O O) (dl O) (JO O (Jh (o':=0) Un36 O VM O O) (dl O) (JO O (Jj Un33 O O Jn O) (dl O) (Yd ?_ ?_))))
 ·refine Jz O O (J6 (XQ M.h M.m M.cap M.A D.H M.L hr M.s M.vu M.vr M.pu M.pr D.U D.R ok.hU ok.hR (by omega) (by omega)) (.n2 O O) (by first | exact dl O | decide) (.n6 .z7 .z7 .z7 .z3 .z3 .z3) (Jl Mm2 (Jl Mm3 Jw)) fun u3_9 Lo fs hres=> ?_)
  obtain ⟨vu2,pu2,vr2,pr2,hU2,hR2,rfl,rfl,rfl⟩:=hres
  rw [hx]
  refine ⟨⟨(Sd (Sd (Sd (Sd (Sd (Sd (Sk (Sk (Sk (Sk (Sr))))))))))),Mm0⟩,?_⟩
  refine JO O (Jb O) (dl O) (JO O (Jk (vs:= [_,_]) O O) (dl O) (YZ O (Jk (vs:= [_,_]) O O) (dl O) (Jz O O (Ju (cs:= [_,_]) JW O (by first | exact dl O | decide) fun b4=> ?_))))
  refine ⟨⟨(Sd (Sd (Sd (Sd (Sd (Sd (Sd (Sk (Sk (Sk (Sk (Sr)))))))))))),Mm0⟩,?_⟩
  refine JN (J8 O O (Jq (cs':= [_,_]) (vs:= [_,_]) JW O O O O O (Nat.le_of_ble_eq_true O) .z (YH O (Jd O) (dl O) (JM (Jf (Jc (Ja (JQ (Jb O) (dl O) (Jg O (Jm (give_0 _ _) (.n3 O O O) (by first | exact dl O | decide) Jw fun u4_1 Lo fs hres=> ?_))))))))))
  obtain ⟨rfl,rfl,rfl⟩:=hres
  refine Je (Jf (Jc (JA .z3 (JA .z3 (JA .z3 (JA .z10 (JA .z7 (JA .z7 (JA .z7 (JA .z8 ?_))))))))))
  have hok1:DkOk ⟨M.d,M.h,M.m,M.b,M.s,M.A,M.cap,M.B,M.t,M.L,vu2,vr2,pu2,pr2⟩ (redoD D):=ok.mk_ hr hwt hrow hU2 hR2 hdi rfl ⟨rfl,rfl,rfl⟩ hpl ok.p0 ok.gp ok.rc ok.md (by show (upF (JY D.H false) D.R D.U).2.2.length+(upF (JY D.H false) D.R D.U).2.1.length≤D.made;omega)
  refine Ja (JQ (Jb O) (dl O) (JQ (Jt (vs:= [_,_]) Un46 O JW O (Ji (Ji (Ji (Ji (Ji (Ji (Ji (Ji (Jn))))))))) O O) (dl O) (Jg O (J6 (VE ⟨M.d,M.h,M.m,M.b,M.s,M.A,M.cap,M.B,M.t,M.L,vu2,vr2,pu2,pr2⟩ (redoD D) hok1 i0 i1 true j hmd htu.mkd htu.hj htu.hw htu.ne htu.rl htu.rs) (.n3 O O O) (by first | exact dl O | decide) (.n8 .z .z .z .z .z .z .z .z) (Jl Mm1 (Jl Mm2 (Jl Mm3 (Jl Mm4 Jw)))) fun u5_2 Lo fs hres=> ?_))))
  obtain ⟨M2,hd2,hok2,rfl,rfl,rfl⟩:=hres
  refine Jg O (Jq (cs':= [_,_,_,_,_,_,_,_,_]) (vs:= [_,_,_,_,_,_,_,_,_]) JD O O O O O (Nat.le_of_ble_eq_true O) .z10 (Jg O (JJ Yw O O O .z .z9 (Je (Jf (Jo ?_))))))
  refine ⟨_,[_,_,_,_,_,_,_,_],[_,_,_],fun Z w hs=>JV hs Un52 O JD O (Ji (Ji (Ji (Ji (Ji (Ji (Ji (Ji (Ji (Ji (Jn))))))))))) O (KR hs Un54 O O (Ji (Ji (Ji (Ji (Ji (Ji (Ji (Ji (Ji (Jn)))))))))) O .nil),?_,fun Z w hs=>hs.out (Sk (Sk (Sk (Sk (Sk (Sk (Sk (Sk (Sd (Sd (Sd (Sr)))))))))))) (Jl Mm0 (Jl Mm1 (Jl Mm2 Tt4)))⟩
  exact ⟨M2,hd2,hok2,O,O,O⟩
 ·refine Jz O O (Ju (cs:= [_,_]) JW O (by first | exact dl O | decide) fun b4=> ?_)
  refine ⟨⟨(Sd (Sk (Sk (Sk (Sd (Sd (Sd (Sk (Sd (Sd (Sd (Sr)))))))))))),Mm0⟩,?_⟩
  refine Jz O O (J6 (XQ M.h M.m M.cap M.A D.H M.L hr M.s M.vu M.vr M.pu M.pr D.U D.R ok.hU ok.hR (by omega) (by omega)) (.n2 O O) (by first | exact dl O | decide) (.n6 .z8 .z8 .z8 .z4 .z4 .z4) (Jl Mm2 (Jl Mm3 Jw)) fun u3_9 Lo fs hres=> ?_)
  obtain ⟨vu2,pu2,vr2,pr2,hU2,hR2,rfl,rfl,rfl⟩:=hres
  rw [hx]
  refine ⟨⟨(Sd (Sd (Sd (Sd (Sd (Sd (Sd (Sk (Sk (Sk (Sk (Sr)))))))))))),Mm0⟩,?_⟩
  refine JO O (Jb O) (dl O) (JO O (Jk (vs:= [_,_]) O O) (dl O) (YZ O (Jk (vs:= [_,_]) O O) (dl O) (JN (J8 O O (Jq (cs':= [_,_]) (vs:= [_,_]) JW O O O O O (Nat.le_of_ble_eq_true O) .z6 (YH O (Jd O) (dl O) (JM (Jf (Jc (Ja (JQ (Jb O) (dl O) (Jg O (Jm (give_0 _ _) (.n3 O O O) (by first | exact dl O | decide) Jw fun u4_1 Lo fs hres=> ?_)))))))))))))
  obtain ⟨rfl,rfl,rfl⟩:=hres
  refine Je (Jf (Jc (JA .z2 (JA .z2 (JA .z2 (JA .z10 (JA .z6 (JA .z6 (JA .z6 (JA .z8 ?_))))))))))
  have hok1:DkOk ⟨M.d,M.h,M.m,M.b,M.s,M.A,M.cap,M.B,M.t,M.L,vu2,vr2,pu2,pr2⟩ (redoD D):=ok.mk_ hr hwt hrow hU2 hR2 hdi rfl ⟨rfl,rfl,rfl⟩ hpl ok.p0 ok.gp ok.rc ok.md (by show (upF (JY D.H false) D.R D.U).2.2.length+(upF (JY D.H false) D.R D.U).2.1.length≤D.made;omega)
  refine Ja (JQ (Jb O) (dl O) (JQ (Jt (vs:= [_,_]) Un46 O JW O (Ji (Ji (Ji (Ji (Ji (Ji (Ji (Ji (Jn))))))))) O O) (dl O) (Jg O (J6 (VE ⟨M.d,M.h,M.m,M.b,M.s,M.A,M.cap,M.B,M.t,M.L,vu2,vr2,pu2,pr2⟩ (redoD D) hok1 i0 i1 true j hmd htu.mkd htu.hj htu.hw htu.ne htu.rl htu.rs) (.n3 O O O) (by first | exact dl O | decide) (.n8 .z .z .z .z .z .z .z .z) (Jl Mm1 (Jl Mm2 (Jl Mm3 (Jl Mm4 Jw)))) fun u5_2 Lo fs hres=> ?_))))
  obtain ⟨M2,hd2,hok2,rfl,rfl,rfl⟩:=hres
  refine Jg O (Jq (cs':= [_,_,_,_,_,_,_,_,_]) (vs:= [_,_,_,_,_,_,_,_,_]) JD O O O O O (Nat.le_of_ble_eq_true O) .z10 (Jg O (JJ Yw O O O .z .z9 (Je (Jf (Jo ?_))))))
  refine ⟨_,[_,_,_,_,_,_,_,_],[_,_,_],fun Z w hs=>JV hs Un52 O JD O (Ji (Ji (Ji (Ji (Ji (Ji (Ji (Ji (Ji (Ji (Jn))))))))))) O (KR hs Un54 O O (Ji (Ji (Ji (Ji (Ji (Ji (Ji (Ji (Ji (Jn)))))))))) O .nil),?_,fun Z w hs=>hs.out (Sk (Sk (Sk (Sk (Sk (Sk (Sk (Sk (Sd (Sd (Sd (Sr)))))))))))) (Jl Mm0 (Jl Mm1 (Jl Mm2 Tt4)))⟩
  exact ⟨M2,hd2,hok2,O,O,O⟩
set_option maxRecDepth 10000 in
theorem turn_e (M:DM) (D:DS) (ok:DkOk M D) (hmd:(D.made:Int)<D.op) (i0 i1:Int) (on:Bool) (he:effE D.H (i0,i1) on≠0):Sp Tryz.prog 20 [.pointer (some ⟨M.d,0,none⟩), .agg #[.int .i64 i0, .int .i64 i1], .bool on] (KC M D) (barF::KY M D) (RefO M D):=by
 have hvl:=KA M.t.row
 have hwt:=ok.wt
 have htl:=ok.tl
 have hrow:=ok.row
 have hpl:=ok.pl
 have hr:=ok.hr
 have hdi:=ok.di
 have hus:=ok.us
 have hlm:=ok.lm
 have hmd2:=ok.md
 have hsl:=ok.sl
 have hxl:=ok.xl
 have hpu:0≤putA D D.u∧putA D D.u≤4096:=by
  unfold putA
  rw [List.getD_eq_getElem?_getD,List.getElem?_eq_getElem (by omega)]
  exact ok.p0 _ (List.getElem_mem _)
 refine Sp.ofD (n:=30) ⟨_,Tryz.func20,O,O,O,O⟩ (Nat.le_of_ble_eq_true O) fun Ps As=>Ja (Jg O (J9 (cs:= [_,_]) O O (by decide) fun b4=>Jg O (Ju (cs:= [_,_,_,_,_,_,_,_,_]) JD O (by decide) fun b6=>Jg O (Ju (cs:= [_]) Yw O (by decide) fun b7=>Je ?_))))
 refine ⟨O,_,_,_,_,_,catch_Turn b6 b7,DefReg.mk (.n2 O O) (by decide),?_⟩
 refine Jc (Ja (JQ (Jb O) (dl O) (Jg O (JR (room_0 M.d M.h M.b _ _ _ _ _ _ _ _ _ _ 0 hmd) (.n3 O O O) (by first | exact dl O | decide) .z3 Jw fun u2_1 Lo fs hres=> ?_))))
 obtain ⟨rfl,rfl,rfl⟩:=hres
 refine Je (Jf (Jc (YL (JI _ _ [12] (.c 0 0 (.c 1 0 (.c 2 0 (.c 3 0 (.c 4 0 (.c 5 0 (.c 6 0 (.b (.c 7 2 (.c 8 0 (.c 9 0 (.c 10 1 (.c 11 2 (.c 12 3 (.c 13 1 .nil))))))) (.c 11 2 (.c 7 2 (.c 8 0 (.c 9 0 (.c 10 1 (.c 12 3 (.c 13 1 .nil))))))))))))))) mixed (fun _ _ _ _ h=>h) (Sk (Sk (Sk (Sk (Sd (Sd (Sd (Sk (Sk (Sk (Sk (Sr)))))))))))) (fun _ h=>h) (by kernel_rfl) (by first | exact dl O | decide) fun ws Z0=>JO O (Jb O) (dl O) (JO O (JC O) (dl O) (JO O (Jh (o':=0) Un42 O Yk O O) (dl O) (JO O (Jh (o':=0) Un36 O VM O O) (dl O) ?_)))))))
 refine JO O (Jj Un33 O O Jn O) (dl O) (JO O (Jt (vs:= [_,_]) Un46 O JW O (Ji (Ji (Ji (Jn)))) O O) (dl O) (JO O (Jb O) (dl O) (Yd ?_ ?_)))
 ·refine Jz O O (KB (effect_x M.h M.m M.cap M.A D.H M.L hr i0 i1 on he) (.n3 O O O) (by first | exact dl O | decide) .z4 .z4 .z4 (Jl Mm2 (Jl Mm3 Jw)) fun u3_7 Lo fs hres=> ?_)
  obtain ⟨rfl,rfl,rfl⟩:=hres
  refine ⟨⟨(Sd (Sd (Sd (Sk (Sk (Sk (Sk (Sk (Sk (Sk (Sk (Sr)))))))))))),Mm0⟩,?_⟩
  refine JO O (Jb O) (dl O) (JO O (Jk (vs:= [_,_]) O O) (dl O) (YZ O (Jk (vs:= [_,_]) O O) (dl O) (Jz O O (Ju (cs:= [_,_,_,_,_,_,_,_,_]) JD O (by first | exact dl O | decide) fun b8=> ?_))))
  refine ⟨⟨(Sd (Sd (Sd (Sd (Sk (Sk (Sk (Sk (Sk (Sk (Sk (Sk (Sr))))))))))))),Mm0⟩,?_⟩
  refine JN (J8 O O (Jq (cs':= [_,_,_,_,_,_,_,_,_]) (vs:= [_,_,_,_,_,_,_,_,_]) JD O O O O O (Nat.le_of_ble_eq_true O) .z (YH O (Jd O) (dl O) (JM (Jf (Jc (Ja (JQ (Jb O) (dl O) (Jg O (YS (give_e _ _ _ he) (.n3 O O O) Jw fun u4_1 Lo fs hres=> ?_))))))))))
  obtain ⟨hv,rfl,rfl⟩:=hres
  refine Xs ?_
  refine ⟨_,_,_,_,[_,_,_,_,_,_,_,_],[],O,hv,⟨_,_,_,_,_,_,_,_,_,_,O⟩,fun Z w hs=>((hs.pick .z5).pick .z6),fun Z w hs=>JV hs Un52 O JD O Jn O (KR hs Un54 O O (Ji Jn) O .nil),?_,fun Z w hs=>((((((((hs.pick .z11).pick .z11).pick .z11).pick .z11).pick .z9).pick .z9).pick .z9).pick .z10).out (Sk (Sk (Sk (Sk (Sk (Sk (Sk (Sk (Sd (Sd (Sd (Sd (Sr))))))))))))) Tt1⟩
  exact ⟨_,hv,O,O,O⟩
 ·refine Jz O O (Ju (cs:= [_,_,_,_,_,_,_,_,_]) JD O (by first | exact dl O | decide) fun b8=> ?_)
  refine ⟨⟨(Sd (Sk (Sk (Sk (Sk (Sd (Sd (Sd (Sk (Sk (Sk (Sk (Sr))))))))))))),Mm0⟩,?_⟩
  refine Jz O O (KB (effect_x M.h M.m M.cap M.A D.H M.L hr i0 i1 on he) (.n3 O O O) (by first | exact dl O | decide) .z5 .z5 .z5 (Jl Mm2 (Jl Mm3 Jw)) fun u3_7 Lo fs hres=> ?_)
  obtain ⟨rfl,rfl,rfl⟩:=hres
  refine ⟨⟨(Sd (Sd (Sd (Sd (Sk (Sk (Sk (Sk (Sk (Sk (Sk (Sk (Sr))))))))))))),Mm0⟩,?_⟩
  refine JO O (Jb O) (dl O) (JO O (Jk (vs:= [_,_]) O O) (dl O) (YZ O (Jk (vs:= [_,_]) O O) (dl O) (JN (J8 O O (Jq (cs':= [_,_,_,_,_,_,_,_,_]) (vs:= [_,_,_,_,_,_,_,_,_]) JD O O O O O (Nat.le_of_ble_eq_true O) .z3 (YH O (Jd O) (dl O) (JM (Jf (Jc (Ja (JQ (Jb O) (dl O) (Jg O (YS (give_e _ _ _ he) (.n3 O O O) Jw fun u4_1 Lo fs hres=> ?_)))))))))))))
  obtain ⟨hv,rfl,rfl⟩:=hres
  refine Xs ?_
  refine ⟨_,_,_,_,[_,_,_,_,_,_,_,_],[],O,hv,⟨_,_,_,_,_,_,_,_,_,_,O⟩,fun Z w hs=>((hs.pick .z5).pick .z6),fun Z w hs=>JV hs Un52 O JD O Jn O (KR hs Un54 O O (Ji Jn) O .nil),?_,fun Z w hs=>((((((((hs.pick .z11).pick .z11).pick .z11).pick .z11).pick .z8).pick .z8).pick .z8).pick .z10).out (Sk (Sk (Sk (Sk (Sk (Sk (Sk (Sk (Sd (Sd (Sd (Sd (Sr))))))))))))) Tt1⟩
  exact ⟨_,hv,O,O,O⟩
set_option maxRecDepth 10000 in
theorem turn_d (M:DM) (D:DS) (ok:DkOk M D) (hmd:(D.made:Int)<D.op) (i0 i1:Int) (on:Bool) (k j:Nat) (hw:JX D.H.ents i0 i1=some k) (hk:k<D.H.ents.length) (hk4:D.H.ents[k].op.kind≠4) (hoff:D.H.ents[k].off=on) (htu:TuD D i0 i1 on j):Sp Tryz.prog 20 [.pointer (some ⟨M.d,0,none⟩), .agg #[.int .i64 i0, .int .i64 i1], .bool on] (KC M D) (barF::KY M D) (fun v Lo fs=> ∃(M2:DM),M2.d=M.d∧DkOk M2 (statD D (i0,i1) on j)∧v= .tuple #[opV (statO D (i0,i1) on) none 0, .nilIface] ∧Lo=KC M2 (statD D (i0,i1) on j)∧fs=KY M2 (statD D (i0,i1) on j)):=by
 have hvl:=KA M.t.row
 have hwt:=ok.wt
 have htl:=ok.tl
 have hrow:=ok.row
 have hpl:=ok.pl
 have hr:=ok.hr
 have hdi:=ok.di
 have hus:=ok.us
 have hlm:=ok.lm
 have hmd2:=ok.md
 have hsl:=ok.sl
 have hxl:=ok.xl
 have hpu:0≤putA D D.u∧putA D D.u≤4096:=by
  unfold putA
  rw [List.getD_eq_getElem?_getD,List.getElem?_eq_getElem (by omega)]
  exact ok.p0 _ (List.getElem_mem _)
 refine Sp.ofD (n:=30) ⟨_,Tryz.func20,O,O,O,O⟩ (Nat.le_of_ble_eq_true O) fun Ps As=>Ja (Jg O (J9 (cs:= [_,_]) O O (by decide) fun b4=>Jg O (Ju (cs:= [_,_,_,_,_,_,_,_,_]) JD O (by decide) fun b6=>Jg O (Ju (cs:= [_]) Yw O (by decide) fun b7=>Je ?_))))
 refine ⟨O,_,_,_,_,_,catch_Turn b6 b7,DefReg.mk (.n2 O O) (by decide),?_⟩
 refine Jc (Ja (JQ (Jb O) (dl O) (Jg O (JR (room_0 M.d M.h M.b _ _ _ _ _ _ _ _ _ _ 0 hmd) (.n3 O O O) (by first | exact dl O | decide) .z3 Jw fun u2_1 Lo fs hres=> ?_))))
 obtain ⟨rfl,rfl,rfl⟩:=hres
 refine Je (Jf (Jc (YL (JI _ _ [12] (.c 0 0 (.c 1 0 (.c 2 0 (.c 3 0 (.c 4 0 (.c 5 0 (.c 6 0 (.b (.c 7 2 (.c 8 0 (.c 9 0 (.c 10 1 (.c 11 2 (.c 12 3 (.c 13 1 .nil))))))) (.c 11 2 (.c 7 2 (.c 8 0 (.c 9 0 (.c 10 1 (.c 12 3 (.c 13 1 .nil))))))))))))))) mixed (fun _ _ _ _ h=>h) (Sk (Sk (Sk (Sk (Sd (Sd (Sd (Sk (Sk (Sk (Sk (Sr)))))))))))) (fun _ h=>h) (by kernel_rfl) (by first | exact dl O | decide) fun ws Z0=>JO O (Jb O) (dl O) (JO O (JC O) (dl O) (JO O (Jh (o':=0) Un42 O Yk O O) (dl O) (JO O (Jh (o':=0) Un36 O VM O O) (dl O) ?_)))))))
 refine JO O (Jj Un33 O O Jn O) (dl O) (JO O (Jt (vs:= [_,_]) Un46 O JW O (Ji (Ji (Ji (Jn)))) O O) (dl O) (JO O (Jb O) (dl O) (Yd ?_ ?_)))
 ·refine Jz O O (KB (effect_y M.h M.m M.cap M.A D.H M.L hr i0 i1 k hw hk hk4 on hoff) (.n3 O O O) (by first | exact dl O | decide) .z4 .z4 .z4 (Jl Mm2 (Jl Mm3 Jw)) fun u3_7 Lo fs hres=> ?_)
  obtain ⟨Ae,ce,rfl,rfl,rfl⟩:=hres
  refine ⟨⟨(Sd (Sd (Sd (Sk (Sk (Sk (Sk (Sk (Sk (Sk (Sk (Sr)))))))))))),Mm1⟩,?_⟩
  refine JO O (Jb O) (dl O) (JO O (Jk (vs:= [_,_]) O O) (dl O) (YZ O (Jk (vs:= [_,_]) O O) (dl O) (Jz O O (Ju (cs:= [_,_,_,_,_,_,_,_,_]) JD O (by first | exact dl O | decide) fun b8=> ?_))))
  refine ⟨⟨(Sd (Sd (Sd (Sd (Sk (Sk (Sk (Sk (Sk (Sk (Sk (Sk (Sr))))))))))))),Mm1⟩,?_⟩
  refine JN (J8 O O (Jq (cs':= [_,_,_,_,_,_,_,_,_]) (vs:= [_,_,_,_,_,_,_,_,_]) JD O O O O O (Nat.le_of_ble_eq_true O) .z (YH O (Jd O) (dl O) (JM (Jf (Jc (Ja (JQ (Jb O) (dl O) (Jg O (Jm (give_0 _ _) (.n3 O O O) (by first | exact dl O | decide) Jw fun u4_1 Lo fs hres=> ?_))))))))))
  obtain ⟨rfl,rfl,rfl⟩:=hres
  refine Je (Jf (Jc (JA .z11 (JA .z11 (JA .z11 (JA .z11 (JA .z7 (JA .z7 (JA .z7 (JA .z8 (Ja ?_)))))))))))
  refine JQ (Jb O) (dl O) (JQ (Jt (vs:= [_,_]) Un46 O JW O (Ji (Ji (Ji (Ji (Ji (Ji (Ji (Ji (Ji (Ji (Ji (Jn)))))))))))) O O) (dl O) (JQ (Jb O) (dl O) (Jg O (J6 (VE M D ok i0 i1 on j hmd htu.mkd htu.hj htu.hw htu.ne htu.rl htu.rs) (.n3 O O O) (by first | exact dl O | decide) (.n8 .z .z .z .z .z .z .z .z) (Jl Mm2 (Jl Mm3 (Jl Mm4 (Jl Mm5 Jw)))) fun u5_3 Lo fs hres=> ?_))))
  obtain ⟨M2,hd2,hok2,rfl,rfl,rfl⟩:=hres
  refine Jg O (Jq (cs':= [_,_,_,_,_,_,_,_,_]) (vs:= [_,_,_,_,_,_,_,_,_]) JD O O O O O (Nat.le_of_ble_eq_true O) .z10 (Jg O (JJ Yw O O O .z .z9 (Je (Jf (Jo ?_))))))
  refine ⟨_,[_,_,_,_,_,_,_,_],[_,_,_],fun Z w hs=>JV hs Un52 O JD O (Ji (Ji (Ji (Ji (Ji (Ji (Ji (Ji (Ji (Ji (Jn))))))))))) O (KR hs Un54 O O (Ji (Ji (Ji (Ji (Ji (Ji (Ji (Ji (Ji (Jn)))))))))) O .nil),?_,fun Z w hs=>hs.out (Sk (Sk (Sk (Sk (Sk (Sk (Sk (Sk (Sd (Sd (Sd (Sd (Sr))))))))))))) (Jl Mm0 (Jl Mm1 (Jl Mm2 Tt5)))⟩
  exact ⟨M2,hd2,hok2,O,O,O⟩
 ·refine Jz O O (Ju (cs:= [_,_,_,_,_,_,_,_,_]) JD O (by first | exact dl O | decide) fun b8=> ?_)
  refine ⟨⟨(Sd (Sk (Sk (Sk (Sk (Sd (Sd (Sd (Sk (Sk (Sk (Sk (Sr))))))))))))),Mm0⟩,?_⟩
  refine Jz O O (KB (effect_y M.h M.m M.cap M.A D.H M.L hr i0 i1 k hw hk hk4 on hoff) (.n3 O O O) (by first | exact dl O | decide) .z5 .z5 .z5 (Jl Mm2 (Jl Mm3 Jw)) fun u3_7 Lo fs hres=> ?_)
  obtain ⟨Ae,ce,rfl,rfl,rfl⟩:=hres
  refine ⟨⟨(Sd (Sd (Sd (Sd (Sk (Sk (Sk (Sk (Sk (Sk (Sk (Sk (Sr))))))))))))),Mm1⟩,?_⟩
  refine JO O (Jb O) (dl O) (JO O (Jk (vs:= [_,_]) O O) (dl O) (YZ O (Jk (vs:= [_,_]) O O) (dl O) (JN (J8 O O (Jq (cs':= [_,_,_,_,_,_,_,_,_]) (vs:= [_,_,_,_,_,_,_,_,_]) JD O O O O O (Nat.le_of_ble_eq_true O) .z3 (YH O (Jd O) (dl O) (JM (Jf (Jc (Ja (JQ (Jb O) (dl O) (Jg O (Jm (give_0 _ _) (.n3 O O O) (by first | exact dl O | decide) Jw fun u4_1 Lo fs hres=> ?_)))))))))))))
  obtain ⟨rfl,rfl,rfl⟩:=hres
  refine Je (Jf (Jc (JA .z11 (JA .z11 (JA .z11 (JA .z11 (JA .z6 (JA .z6 (JA .z6 (JA .z8 (Ja ?_)))))))))))
  refine JQ (Jb O) (dl O) (JQ (Jt (vs:= [_,_]) Un46 O JW O (Ji (Ji (Ji (Ji (Ji (Ji (Ji (Ji (Ji (Ji (Ji (Jn)))))))))))) O O) (dl O) (JQ (Jb O) (dl O) (Jg O (J6 (VE M D ok i0 i1 on j hmd htu.mkd htu.hj htu.hw htu.ne htu.rl htu.rs) (.n3 O O O) (by first | exact dl O | decide) (.n8 .z .z .z .z .z .z .z .z) (Jl Mm2 (Jl Mm3 (Jl Mm4 (Jl Mm5 Jw)))) fun u5_3 Lo fs hres=> ?_))))
  obtain ⟨M2,hd2,hok2,rfl,rfl,rfl⟩:=hres
  refine Jg O (Jq (cs':= [_,_,_,_,_,_,_,_,_]) (vs:= [_,_,_,_,_,_,_,_,_]) JD O O O O O (Nat.le_of_ble_eq_true O) .z10 (Jg O (JJ Yw O O O .z .z9 (Je (Jf (Jo ?_))))))
  refine ⟨_,[_,_,_,_,_,_,_,_],[_,_,_],fun Z w hs=>JV hs Un52 O JD O (Ji (Ji (Ji (Ji (Ji (Ji (Ji (Ji (Ji (Ji (Jn))))))))))) O (KR hs Un54 O O (Ji (Ji (Ji (Ji (Ji (Ji (Ji (Ji (Ji (Jn)))))))))) O .nil),?_,fun Z w hs=>hs.out (Sk (Sk (Sk (Sk (Sk (Sk (Sk (Sk (Sd (Sd (Sd (Sd (Sr))))))))))))) (Jl Mm0 (Jl Mm1 (Jl Mm2 Tt5)))⟩
  exact ⟨M2,hd2,hok2,O,O,O⟩
set_option maxRecDepth 10000 in
theorem HT (c:Nat) (o:GOp) (A:Option Addr) (k:Nat) (hf:Fit o) (ho:ownF o=0) (hk:o.kind=1) (hc:c≤60000) (hw:0≤Jx o∧Jx o≤256):Sp Tryz.prog 115 [.int .i64 c,opV o A k] [] [barF,RdF rgD A k o.rs] (Is (.tuple #[.int .i64 (if o.at_<c then c+Jx o else c), .int .i64 0])):=by
 have hft:=hf.text
 refine Sp.of (n:=38) ⟨_,Tryz.func115,O,O,O,O⟩ (Nat.le_of_ble_eq_true O) fun Ps As=>Jc (Ja (Jg O (J9 (cs:= [_,_,_,_,_,_,_,_,_]) O O (by decide) fun b3=>Lq (Jd O) (Lq (Jd O) (Je (Jf (Jc (Jc (Ja (Lq (Jt (vs:= [_,_,_,_,_,_,_,_,_]) Un52 O JD O Jn O O) (Jg O (Jm (Jbx o A k hf) (.n1 O) (by decide) (Jl Mm0 (Jl Mm1 Jw)) fun u1_1 Lo fs hres=> ?_))))))))))))
 obtain ⟨rfl,rfl,rfl⟩:=hres
 rw [ho]
 refine Lq (Jd O) (Je (Jf (Jc (Ja (Lq (Jb O) (Lq (Kz O O) (Je (Jf (Jv O O (Jp (Jf (Jc (Jc (Ja (Lq (Jb O) (Lq (Km O O) (Lq (Jb O) (Lg O O O (decide_eq_false (by omega)) (Jb O) (Lg O O O (decide_eq_false (by omega)) (Kl O O) ?_)))))))))))))))))))
 refine Lq (JH O (decide_eq_false (by omega)) O) (Je (Jf (Jv O (decide_eq_false (by omega)) (Jp (Jf (Jc (Jc (Ja (Lq (Jh (o':=0) Un52 O KW O O) (Lq (Jh (o':=2) Un49 O Yt O O) (Lq (Jj Un47 O O Jn O) (Lq (Kz O O) (Lq (Jb O) (Lg O O O (by simpa using hk) (Jh (o':=3) Un52 O ti3 O O) ?_))))))))))))))
 refine Lg O O O (by simpa using hk) (Jj Un3 O O Jn O) (Lg O O O (by simpa using hk) (Jb O) (Lg O O O (by simpa using hk) (Yz O O) (Lq (JH O (by simpa using hk) O) (Je (Jf (Jy O (fun h27=> ?_) (fun h27=> ?_)))))))
 ·refine Jc (Ja (Lq (Jb O) (Lq (Jd O) (Lq (Jd O) (Je (Jf (Jo (Js ?_))))))))
  refine ⟨_,[],[],fun Z w hs=> .tmp O (.tmp O .nil),?_,fun Z w hs=>hs.out (Sd (Sr)) (fun _ h=>h)⟩
  exact ⟨by rw [if_neg (by have h:=h27;simp at h;omega)];rfl,O,O⟩
 ·refine Jp (Jf (Jc (Jc (Ja (Lq (Jb O) (Lq (Jt (vs:= [_,_,_,_,_,_,_,_,_]) Un52 O JD O Jn O O) (Jg O (Jm (YM o A k (by omega)) (.n1 O) (by decide) (Jl Mm0 Jw) fun u8_2 Lo fs hres=> ?_))))))))
  obtain ⟨rfl,rfl,rfl⟩:=hres
  refine Lq (JU O O (wr64 (by omega))) (Lq (Kl O O) (Je (Jf (Jv O (decide_eq_false (by omega)) (Jp (Jf (Jc (Ja (Lq (Jb O) (Lq (Jt (vs:= [_,_,_,_,_,_,_,_,_]) Un52 O JD O Jn O O) (Jg O (Jm (YM o A k (by omega)) (.n1 O) (by decide) (Jl Mm0 Jw) fun u10_2 Lo fs hres=> ?_))))))))))))
  obtain ⟨rfl,rfl,rfl⟩:=hres
  refine Lq (JU O O (wr64 (by omega))) (Lq (Jd O) (Lq (Jd O) (Je (Jf (Jo ?_)))))
  refine ⟨_,[],[],fun Z w hs=> .tmp O (.tmp O .nil),?_,fun Z w hs=>hs.out (Sd (Sr)) (fun _ h=>h)⟩
  exact ⟨by rw [if_pos (by have h:=h27;simp at h;omega)];rfl,O,O⟩
set_option maxRecDepth 10000 in
theorem Jar (t:TypeId) (x:Value):Sp Tryz.prog 114 [.nilIface, .iface t x] [] [] (Is (.bool false)):=by
 refine Sp.of (n:=42) ⟨_,Tryz.func114,O,O,O,O⟩ (Nat.le_of_ble_eq_true O) fun Ps As=>Jc (Ja (Lq (Jd O) (Je (Jf (Jc (Jc (Ja (Lq (Jb O) (Lq (QX Un54 O) (Je (Jf (J1 O O (Jc (Ja (Lq (Jd O) (Je (Jf (Jo (Js ?_)))))))))))))))))))
 refine ⟨_,[],[],fun Z w hs=> .tmp O .nil,?_,fun Z w hs=>hs.out (Sr) (fun _ h=>h)⟩
 exact ⟨O,O,O⟩
structure TaD (D:DS) (o:GOp):Prop where
 tk:TkD D.H D.X D.H.ops.length D.got o (putF D.H D.got o).1 (putF D.H D.got o).2.1
 nl:(putF D.H D.got o).1.ops.length=D.H.ops.length+1
 len:(JT (putF D.H D.got o).2.1 D.X).length=D.X.length+(Jx o).toNat
 wd:(putF D.H D.got o).2.1.kind=1→Jx (putF D.H D.got o).2.1=Jx o
 w0:0≤Jx o∧Jx o≤256
 di:DI (D.H.ops.length+1) (putF D.H D.got o).1 (JT (putF D.H D.got o).2.1 D.X)
set_option maxRecDepth 10000 in
theorem take_0 (M:DM) (D:DS) (ok:DkOk M D) (o:GOp) (Ao:Option Addr) (co:Nat) (hcu:o.c≠D.u) (hc:1≤o.c∧o.c≤D.cl) (hn:o.n≤D.op) (hts:o.text.size≤1048576) (hce:putA D o.c+Jx o≤D.ce) (hta:TaD D o):Sp Tryz.prog 78 [.pointer (some ⟨M.d,0,none⟩),opV o Ao co] (KC M D) (barF::KY M D++ [RdF rgD Ao co o.rs]) (DkR M (K0 D o) .nilIface):=by
 have hvl:=KA M.t.row
 have hwt:=ok.wt
 have htl:=ok.tl
 have hrow:=ok.row
 have hpl:=ok.pl
 have hr:=ok.hr
 have hdi:=ok.di
 have hus:=ok.us
 have hlm:=ok.lm
 have hmd2:=ok.md
 have hsl:=ok.sl
 have hxl:=ok.xl
 have hpu:0≤putA D D.u∧putA D D.u≤4096:=by
  unfold putA
  rw [List.getD_eq_getElem?_getD,List.getElem?_eq_getElem (by omega)]
  exact ok.p0 _ (List.getElem_mem _)
 have hgp:=ok.gp
 have hw0:=hta.w0
 have hln:=hta.len
 have hpc:0≤putA D o.c∧putA D o.c≤4096:=by
  unfold putA
  rw [List.getD_eq_getElem?_getD,List.getElem?_eq_getElem (by omega)]
  exact ok.p0 _ (List.getElem_mem _)
 refine Sp.ofD (n:=130) ⟨_,Tryz.func78,O,O,O,O⟩ (Nat.le_of_ble_eq_true O) fun Ps As=>Ja (Jg O (J9 (cs:= [_,_,_,_,_,_,_,_,_]) O O (by decide) fun b3=>Jg O (Ju (cs:= [_]) Yw O (by decide) fun b4=>Je ?_)))
 refine ⟨O,_,_,_,_,_,catch_Take b4,DefReg.mk (.n1 O) (by decide),?_⟩
 refine Jc (YL (JI _ _ [] (.c 0 0 (.c 1 0 (.c 2 0 (.c 3 0 (.c 4 0 (.c 5 2 (.c 6 0 (.c 7 0 .nil)))))))) mixed (fun _ _ _ _ h=>h) (Sk (Sk (Sk (Sk (Sk (Sk (Sk (Sk (Sk (Sk (Sr))))))))))) (fun _ h=>h) (by kernel_rfl) (by first | exact dl O | decide) fun ws Z0=>JO O (Jh (o':=0) Un52 O KW O O) (dl O) (JO O (Jh (o':=0) Un49 O JW O O) (dl O) (JO O (Yf (o':=0) Un46 ti3 O O (by first | exact dl O | decide) (by first | exact dl O | decide) O) (dl O) (JO O (Jj Un3 O O (Ji (Jn)) O) (dl O) ?_)))))
 refine JO O (Jt (vs:= [_,_,_,_,_,_,_,_,_]) Un52 O JD O (Ji (Jn)) O O) (dl O) (Jz O O (Jm (YM o Ao co (by omega)) (.n1 O) (by first | exact dl O | decide) (Jl Mm1 Jw) fun u2_5 Lo fs hres=> ?_))
 obtain ⟨rfl,rfl,rfl⟩:=hres
 refine ⟨⟨(Sk (Sk (Sk (Sk (Sk (Sk (Sk (Sk (Sk (Sk (Sr))))))))))),Mm0⟩,?_⟩
 refine JO O (Jd O) (dl O) (JO O (Jd O) (dl O) (JN (JM (Jf (Jc (Jc (Ja (JQ (Jb O) (dl O) (JQ (Jb O) (dl O) (JQ (JC O) (dl O) (JQ (Jh (o':=2) Un42 O ti3 O O) (dl O) (JQ (Jj Un3 O O (Ji (Ji (Jn))) O) (dl O) (JQ (Kh O O) (dl O) ?_)))))))))))))
 refine JQ (Jb O) (dl O) (XG O O O (by simpa using hcu) (Jb O) (dl O) (XG O O O (by simpa using hcu) (Jb O) (dl O) (XG O O O (by simpa using hcu) (JC O) (dl O) (XG O O O (by simpa using hcu) (Jh (o':=3) Un42 O Ek O O) (dl O) (XG O O O (by simpa using hcu) (Jh (o':=3) Un38 O ti3 O O) (dl O) (XG O O O (by simpa using hcu) (Jj Un3 O O (Ji (Ji (Jn))) O) (dl O) (Ks O O O (by simpa using hcu) (Jm (Qh _ _ _) (.n3 O O O) (by first | exact dl O | decide) Jw fun u3_13 Lo fs hres=> ?_))))))))
 obtain ⟨rfl,rfl,rfl⟩:=hres
 refine XG O O O (by simpa using hcu) (KL O) (dl O) (JQ (JH O (by simpa using hcu) O) (dl O) (Je (Jf (Jv O (by rw [decide_eq_true (by omega)];rfl) (Jp (Jf (Jc (Jc (YL (JI _ _ [] (.c 0 0 (.c 1 0 (.c 2 0 (.c 3 0 (.c 4 0 (.c 5 0 (.c 6 0 (.c 7 0 (.c 8 0 (.c 9 0 .nil)))))))))) mixed (fun _ _ _ _ h=>h) (Sk (Sk (Sk (Sk (Sk (Sk (Sk (Sk (Sk (Sk (Sr))))))))))) (fun _ h=>h) (by kernel_rfl) (by first | exact dl O | decide) fun ws Z0=>JO O (Jh (o':=0) Un52 O KW O O) (dl O) (JO O (Jh (o':=0) Un49 O JW O O) (dl O) ?_)))))))))))
 refine JO O (Yf (o':=1) Un46 ti3 O O (by first | exact dl O | decide) (by first | exact dl O | decide) O) (dl O) (JO O (Jj Un3 O O (Ji (Jn)) O) (dl O) (JO O (Jb O) (dl O) (JO O (JC O) (dl O) (JO O (Jh (o':=3) Un42 O Ek O O) (dl O) (JO O (Jh (o':=5) Un38 O ti3 O O) (dl O) (JO O (Jj Un3 O O (Ji (Ji (Jn))) O) (dl O) (JO O (Kl O O) (dl O) (JN (JM (Jf ?_))))))))))
 refine Jv O (decide_eq_false (by omega)) (Jp (Jf (Jc (Jc (YL (JI _ _ [] (.c 0 0 (.c 1 0 (.c 2 0 (.c 3 0 (.c 4 0 (.c 5 0 (.c 6 0 (.c 7 0 (.c 8 0 (.c 9 0 (.c 10 0 (.c 11 0 (.c 12 0 (.c 13 0 .nil)))))))))))))) mixed (fun _ _ _ _ h=>h) (Sk (Sk (Sk (Sk (Sk (Sk (Sk (Sk (Sk (Sk (Sr))))))))))) (fun _ h=>h) (by kernel_rfl) (by first | exact dl O | decide) fun ws Z0=>JO O (Jb O) (dl O) (JO O (Jb O) (dl O) (JO O (JC O) (dl O) (JO O (Jh (o':=8) Un42 O EG O O) (dl O) ?_)))))))))
 refine JO O (Yf (o':=8+o.c.toNat) Un39 ti3 O O (by omega) (by omega) (by omega)) (dl O) (JO O (Jj (v:= .int .i64 (D.put.getD o.c.toNat 0)) Un3 O O (Ji (Ji (Jn))) (dkput hpl (by omega))) (dl O) (JO O (Jb O) (dl O) (JO O (JU O O (wr64 (by have:=hpc;unfold putA at this;omega))) (dl O) (JO O (Jb O) (dl O) (JO O (JC O) (dl O) (JO O (Jh (o':=3) Un42 O Ek O O) (dl O) (JO O (Jh (o':=4) Un38 O ti3 O O) (dl O) (JO O (Jj Un3 O O (Ji (Ji (Jn))) O) (dl O) (JO O (Kl O O) (dl O) ?_)))))))))
 refine JN (JM (Jf (Jv O (decide_eq_false (by exact Int.not_lt.2 hce)) (Jp (Jf (Jc (JA .z6 (JA .z6 (JA .z6 (JA .z6 (JA .z6 (YL ?_))))))))))))
 refine JI _ _ [13] (.c 0 0 (.c 1 0 (.c 2 0 (.c 3 0 (.c 4 0 (.c 5 0 (.c 6 0 (.c 7 0 (.b (.c 8 2 (.c 9 0 (.c 10 0 (.c 11 1 (.c 12 2 (.c 13 3 (.c 14 1 .nil))))))) (.c 12 2 (.c 8 2 (.c 9 0 (.c 10 0 (.c 11 1 (.c 13 3 (.c 14 1 .nil)))))))))))))))) mixed (fun _ _ _ _ h=>h) (Sk (Sd (Sd (Sd (Sd (Sk (Sk (Sk (Sk (Sk (Sr))))))))))) (fun _ h=>h) (by kernel_rfl) (by first | exact dl O | decide) fun ws Z0=>JO O (Jb O) (dl O) (JO O (JC O) (dl O) (JO O (Jh (o':=0) Un42 O Yk O O) (dl O) (JO O (Jb O) (dl O) (JO O (JC O) (dl O) (JO O (Jh (o':=6) Un42 O ti3 O O) (dl O) ?_)))))
 refine JO O (Jj Un3 O O Jn O) (dl O) (JO O (Jt (vs:= [_,_,_,_,_,_,_,_,_]) Un52 O JD O (Ji (Ji (Jn))) O O) (dl O) (Yd ?_ ?_))
 ·refine Jz O O (J6 (Gc M.d M.h M.m M.b _ _ D.H M.L M.A M.cap M.B M.t D.H.ops.length D.X D.got o Ao co (putF D.H D.got o).1 (putF D.H D.got o).2.1 hr hwt hrow hdi hta.tk) (.n3 O O O) (by first | exact dl O | decide) (.n5 .z .z .z .z .z) (Jl Mm4 (Jl Mm5 (Jl Mm6 (Jl Mm7 (Jl Mm8 Jw))))) fun u9_8 Lo fs hres=> ?_)
  obtain ⟨L2,A2,cap2,B2,t2,Ae,ce2,rfl,hr2,wt2,hX2,rfl,rfl⟩:=hres
  refine ⟨⟨(Sk (Sd (Sd (Sd (Sd (Sk (Sk (Sk (Sk (Sk (Sr))))))))))),Mm4⟩,?_⟩
  refine JO O (Jb O) (dl O) (JO O (Jk (vs:= [_,_]) O O) (dl O) (YZ O (Jk (vs:= [_,_]) O O) (dl O) (Jz O O (Ju (cs:= [_,_,_,_,_,_,_,_,_]) JD O (by first | exact dl O | decide) fun b7=> ?_))))
  refine ⟨⟨(Sd (Sk (Sd (Sd (Sd (Sd (Sk (Sk (Sk (Sk (Sk (Sr)))))))))))),Mm4⟩,?_⟩
  refine JN (J8 O O (Jq (cs':= [_,_,_,_,_,_,_,_,_]) (vs:= [_,_,_,_,_,_,_,_,_]) JD O O O O O (Nat.le_of_ble_eq_true O) .z (YH O (Jd O) (dl O) (JM (Jf (Jc (Ja (Jg O (Ju (cs:= [_]) Jbu O (by first | exact dl O | decide) fun b9=>Je (Jf (Jc (Jc (Ja (JQ (Jb O) (dl O) (JQ (Gi (by rw [Un191];rfl) O) (dl O) (Jg O (Jm (Jar _ _) (.n2 O O) (by first | exact dl O | decide) Jw fun u11_2 Lo fs hres=> ?_)))))))))))))))))
  obtain ⟨rfl,rfl,rfl⟩:=hres
  refine Je (Jf (Jv O O (Jp (Jf (Jc (Ja (JQ (Jb O) (dl O) (JQ (JC O) (dl O) (JQ (Jh (o':=6) Un42 O ti3 O O) (dl O) (JQ (Jj Un3 O O (Ji (Ji (Jn))) O) (dl O) (JQ (JU O O (wr64 (by have:=ok.rc;have:=hdi.le;omega)) (c:=((D.got+1:Nat):Int))) (dl O) (JQ (JC O) (dl O) (JQ (Jh (o':=6) Un42 O ti3 O O) (dl O) (Jg O (JJ ti3 O O O .z6 .z2 (Je (Jf (Jc ?_))))))))))))))))))
  refine YL (JI _ _ [11] (.c 0 0 (.c 1 0 (.c 2 0 (.c 3 0 (.c 4 0 (.c 5 0 (.c 6 0 (.c 7 0 (.c 8 0 (.c 9 0 (.c 10 0 (.c 11 3 .nil)))))))))))) mixed (fun _ _ _ _ h=>h) (Sk (Sk (Sk (Sk (Sk (Sk (Sk (Sk (Sk (Sk (Sk (Sk (Sr))))))))))))) (fun _ h=>h) (by kernel_rfl) (by first | exact dl O | decide) fun ws Z0=>JO O (Jb O) (dl O) (JO O (Jb O) (dl O) (JO O (JC O) (dl O) (JO O (Jh (o':=8) Un42 O EG O O) (dl O) (JO O (Yf (o':=8+o.c.toNat) Un39 ti3 O O (by omega) (by omega) (by omega)) (dl O) ?_)))))
  refine JO O (Jj (v:= .int .i64 (D.put.getD o.c.toNat 0)) Un3 O O (Ji (Ji (Jn))) (dkput hpl (by omega))) (dl O) (JO O (Jb O) (dl O) (JO O (JU O O (wr64 (by have:=hpc;unfold putA at this;omega)) (c:=putA D o.c+Jx o)) (dl O) (JO O (JC O) (dl O) (JO O (Jh (o':=8) Un42 O EG O O) (dl O) (JO O (Yf (o':=8+o.c.toNat) Un39 ti3 O O (by omega) (by omega) (by omega)) (dl O) (JN (J8 O O (K2 ti3 O O O (dklc hpl (by omega)) .z2 ?_))))))))
  rw [dksetc hpl (by omega)]
  refine JM (Jf (Jc (Jc (Ja (JQ (Jh (o':=0) Un52 O KW O O) (dl O) (JQ (Jh (o':=2) Un49 O Yt O O) (dl O) (JQ (Jj Un47 O O (Ji (Jn)) O) (dl O) (JQ (Kh O O) (dl O) (Je (Jf (JF [(117,_),(7,_),(4,_),(0,_)] (.m4 O O O O) (Jy O (fun h117=> ?_) (fun h117=> ?_)))))))))))))
  ·have hek:(putF D.H D.got o).2.1.kind=1:=by simpa using h117
   have heo:=hta.tk.app (by rw [hek];decide)
   have hR:Right D.X.length (putF D.H D.got o).2.1:=⟨heo.ck, .inl hek⟩
   have hown:=hR.own (by omega)
   have hwd:=hta.wd hek
   have hei:=hR.ins hek
   have hxt:=hta.tk.text
   have hxr:=hta.tk.rs
   refine YL (JI _ _ [12] (.c 0 0 (.c 1 0 (.c 2 0 (.c 3 0 (.c 4 0 (.c 5 0 (.c 6 2 (.c 7 0 (.c 8 0 (.c 9 1 (.c 10 0 (.c 11 0 (.c 12 3 .nil))))))))))))) mixed (fun _ _ _ _ h=>h) (Sk (Sk (Sk (Sk (Sk (Sk (Sk (Sk (Sk (Sk (Sk (Sk (Sr))))))))))))) (fun _ h=>h) (by kernel_rfl) (by first | exact dl O | decide) fun ws Z0=>JO O (Jb O) (dl O) (JO O (Jb O) (dl O) (JO O (JC O) (dl O) (JO O (Jh (o':=17) Un42 O ti3 O O) (dl O) (JO O (Jj Un3 O O (Ji (Ji (Jn))) (dk17 (by rw [List.length_set];exact hpl))) (dl O) ?_)))))
   refine JO O (Jt (vs:= [_,_,_,_,_,_,_,_,_]) Un52 O JD O (Ji (Jn)) O O) (dl O) (Jz O O (Jm (HT D.gap (putF D.H D.got o).2.1 Ae ce2 ⟨by omega,by omega,by omega,by omega⟩ hown hek (by omega) (by omega)) (.n2 O O) (by first | exact dl O | decide) (Jl Mm10 (Jl Mm2 Jw)) fun u16_6 Lo fs hres=> ?_))
   obtain ⟨rfl,rfl,rfl⟩:=hres
   refine ⟨⟨(Sk (Sk (Sk (Sk (Sk (Sk (Sk (Sk (Sk (Sk (Sk (Sk (Sr))))))))))))),Mm0⟩,?_⟩
   refine JO O (Jb O) (dl O) (JO O (Jk (vs:= [_,_]) O O) (dl O) (YZ O (Jk (vs:= [_,_]) O O) (dl O) (JO O (JC O) (dl O) (JO O (Jh (o':=17) Un42 O ti3 O O) (dl O) (JN (J8 O O (K2 ti3 O O O (dkl17 (by rw [List.length_set];exact hpl)) .z2 ?_)))))))
   rw [dkset17 (by rw [List.length_set];exact hpl)]
   refine JM (Jf (Jc (Ja (Jg O (JJ Yw O O O .z .z7 (Je (Jf (Jo ?_))))))))
   refine ⟨_,[_,_,_,_,_,_,_,_],[_,_,_],fun Z w hs=>KR hs Un54 O O (Ji (Ji (Ji (Ji (Ji (Ji (Ji (Jn)))))))) O .nil,?_,fun Z w hs=>hs.out (Sd (Sd (Sk (Sk (Sk (Sk (Sk (Sd (Sd (Sk (Sk (Sk (Sr))))))))))))) (Jl Mm3 (Jl Mm4 (Jl Mm5 Tt10)))⟩
   have hgc:((K0 D o).gap:Int)=if (putF D.H D.got o).2.1.at_<(D.gap:Int) then (D.gap:Int)+Jx (putF D.H D.got o).2.1 else (D.gap:Int):=by
    show (((if (putF D.H D.got o).2.1.kind=1∧(putF D.H D.got o).2.1.at_<D.gap then _ else _):Nat):Int)=_
    by_cases h:(putF D.H D.got o).2.1.at_<(D.gap:Int)
    ·rw [if_pos ⟨hek,h⟩,if_pos h];omega
    ·rw [if_neg (fun h2=>h h2.2),if_neg h]
   have hge:(K0 D o).gap≤(JT (putF D.H D.got o).2.1 D.X).length:=by split at hgc<;>omega
   have hok2:DkOk ⟨M.d,M.h,M.m,M.b,M.s,A2,cap2,B2,t2,L2,M.vu,M.vr,M.pu,M.pr⟩ (K0 D o):=ok.mk_ hr2 wt2 hX2 ok.hU ok.hR (by show DI (putF D.H D.got o).1.ops.length _ _;rw [hta.nl];exact hta.di) rfl ⟨rfl,rfl,rfl⟩ (by show (D.put.set _ _).length=9;rw [List.length_set];exact hpl) (V6 ok.p0 (by omega)) hge (by show D.got+1≤(putF D.H D.got o).1.ops.length;have:=ok.rc;have:=hta.nl;omega) ok.md ok.sl
   refine ⟨⟨M.d,M.h,M.m,M.b,M.s,A2,cap2,B2,t2,L2,M.vu,M.vr,M.pu,M.pr⟩,?_,hok2,O,?_,O⟩
   ·rfl
   ·show _=KC ⟨M.d,M.h,M.m,M.b,M.s,A2,cap2,B2,t2,L2,M.vu,M.vr,M.pu,M.pr⟩ (K0 D o)
    unfold KC dkB
    rw [hgc]
    rfl
  ·have hek: ¬(putF D.H D.got o).2.1.kind=1:=by simpa using h117
   refine Jp (Jf (Jc (Ja (Jg O (JJ Yw O O O .z .z7 (Je (Jf (Jo ?_))))))))
   refine ⟨_,[_,_,_,_,_,_,_,_],[_,_,_],fun Z w hs=>KR hs Un54 O O (Ji (Ji (Ji (Ji (Ji (Ji (Ji (Jn)))))))) O .nil,?_,fun Z w hs=>hs.out (Sd (Sd (Sk (Sk (Sk (Sk (Sk (Sd (Sd (Sk (Sk (Sk (Sr))))))))))))) (Jl Mm2 (Jl Mm3 (Jl Mm4 Tt9)))⟩
   have hgc:((K0 D o).gap:Int)=D.gap:=by
    show (((if (putF D.H D.got o).2.1.kind=1∧(putF D.H D.got o).2.1.at_<D.gap then _ else _):Nat):Int)=_
    rw [if_neg (fun h2=>hek h2.1)]
   have hge:(K0 D o).gap≤(JT (putF D.H D.got o).2.1 D.X).length:=by omega
   have hok2:DkOk ⟨M.d,M.h,M.m,M.b,M.s,A2,cap2,B2,t2,L2,M.vu,M.vr,M.pu,M.pr⟩ (K0 D o):=ok.mk_ hr2 wt2 hX2 ok.hU ok.hR (by show DI (putF D.H D.got o).1.ops.length _ _;rw [hta.nl];exact hta.di) rfl ⟨rfl,rfl,rfl⟩ (by show (D.put.set _ _).length=9;rw [List.length_set];exact hpl) (V6 ok.p0 (by omega)) hge (by show D.got+1≤(putF D.H D.got o).1.ops.length;have:=ok.rc;have:=hta.nl;omega) ok.md ok.sl
   refine ⟨⟨M.d,M.h,M.m,M.b,M.s,A2,cap2,B2,t2,L2,M.vu,M.vr,M.pu,M.pr⟩,?_,hok2,O,?_,O⟩
   ·rfl
   ·show _=KC ⟨M.d,M.h,M.m,M.b,M.s,A2,cap2,B2,t2,L2,M.vu,M.vr,M.pu,M.pr⟩ (K0 D o)
    unfold KC dkB
    rw [hgc]
    rfl
 ·refine Jz O O (Ju (cs:= [_,_,_,_,_,_,_,_,_]) JD O (by first | exact dl O | decide) fun b7=> ?_)
  refine ⟨⟨(Sd (Sk (Sd (Sd (Sd (Sd (Sk (Sk (Sk (Sk (Sk (Sr)))))))))))),Mm0⟩,?_⟩
  refine Jz O O (J6 (Gc M.d M.h M.m M.b _ _ D.H M.L M.A M.cap M.B M.t D.H.ops.length D.X D.got o Ao co (putF D.H D.got o).1 (putF D.H D.got o).2.1 hr hwt hrow hdi hta.tk) (.n3 O O O) (by first | exact dl O | decide) (.n5 .z1 .z1 .z1 .z1 .z1) (Jl Mm4 (Jl Mm5 (Jl Mm6 (Jl Mm7 (Jl Mm8 Jw))))) fun u9_8 Lo fs hres=> ?_)
  obtain ⟨L2,A2,cap2,B2,t2,Ae,ce2,rfl,hr2,wt2,hX2,rfl,rfl⟩:=hres
  refine ⟨⟨(Sk (Sd (Sd (Sd (Sd (Sd (Sk (Sk (Sk (Sk (Sk (Sr)))))))))))),Mm4⟩,?_⟩
  refine JO O (Jb O) (dl O) (JO O (Jk (vs:= [_,_]) O O) (dl O) (YZ O (Jk (vs:= [_,_]) O O) (dl O) (JN (J8 O O (Jq (cs':= [_,_,_,_,_,_,_,_,_]) (vs:= [_,_,_,_,_,_,_,_,_]) JD O O O O O (Nat.le_of_ble_eq_true O) .z5 (YH O (Jd O) (dl O) (JM (Jf (Jc (Ja (Jg O (Ju (cs:= [_]) Jbu O (by first | exact dl O | decide) fun b9=>Je (Jf (Jc (Jc (Ja (JQ (Jb O) (dl O) ?_)))))))))))))))))
  refine JQ (Gi (by rw [Un191];rfl) O) (dl O) (Jg O (Jm (Jar _ _) (.n2 O O) (by first | exact dl O | decide) Jw fun u11_2 Lo fs hres=> ?_))
  obtain ⟨rfl,rfl,rfl⟩:=hres
  refine Je (Jf (Jv O O (Jp (Jf (Jc (Ja (JQ (Jb O) (dl O) (JQ (JC O) (dl O) (JQ (Jh (o':=6) Un42 O ti3 O O) (dl O) (JQ (Jj Un3 O O (Ji (Jn)) O) (dl O) (JQ (JU O O (wr64 (by have:=ok.rc;have:=hdi.le;omega)) (c:=((D.got+1:Nat):Int))) (dl O) (JQ (JC O) (dl O) (JQ (Jh (o':=6) Un42 O ti3 O O) (dl O) (Jg O (JJ ti3 O O O .z6 .z1 (Je (Jf (Jc ?_))))))))))))))))))
  refine YL (JI _ _ [11] (.c 0 0 (.c 1 0 (.c 2 0 (.c 3 0 (.c 4 0 (.c 5 0 (.c 6 0 (.c 7 0 (.c 8 0 (.c 9 0 (.c 10 0 (.c 11 3 .nil)))))))))))) mixed (fun _ _ _ _ h=>h) (Sk (Sk (Sk (Sk (Sk (Sk (Sk (Sk (Sk (Sk (Sk (Sk (Sr))))))))))))) (fun _ h=>h) (by kernel_rfl) (by first | exact dl O | decide) fun ws Z0=>JO O (Jb O) (dl O) (JO O (Jb O) (dl O) (JO O (JC O) (dl O) (JO O (Jh (o':=8) Un42 O EG O O) (dl O) (JO O (Yf (o':=8+o.c.toNat) Un39 ti3 O O (by omega) (by omega) (by omega)) (dl O) ?_)))))
  refine JO O (Jj (v:= .int .i64 (D.put.getD o.c.toNat 0)) Un3 O O (Ji (Jn)) (dkput hpl (by omega))) (dl O) (JO O (Jb O) (dl O) (JO O (JU O O (wr64 (by have:=hpc;unfold putA at this;omega)) (c:=putA D o.c+Jx o)) (dl O) (JO O (JC O) (dl O) (JO O (Jh (o':=8) Un42 O EG O O) (dl O) (JO O (Yf (o':=8+o.c.toNat) Un39 ti3 O O (by omega) (by omega) (by omega)) (dl O) (JN (J8 O O (K2 ti3 O O O (dklc hpl (by omega)) .z1 ?_))))))))
  rw [dksetc hpl (by omega)]
  refine JM (Jf (Jc (Jc (Ja (JQ (Jh (o':=0) Un52 O KW O O) (dl O) (JQ (Jh (o':=2) Un49 O Yt O O) (dl O) (JQ (Jj Un47 O O (Ji (Ji (Ji (Ji (Ji (Ji (Jn))))))) O) (dl O) (JQ (Kh O O) (dl O) (Je (Jf (JF [(117,_),(7,_),(4,_),(0,_)] (.m4 O O O O) (Jy O (fun h117=> ?_) (fun h117=> ?_)))))))))))))
  ·have hek:(putF D.H D.got o).2.1.kind=1:=by simpa using h117
   have heo:=hta.tk.app (by rw [hek];decide)
   have hR:Right D.X.length (putF D.H D.got o).2.1:=⟨heo.ck, .inl hek⟩
   have hown:=hR.own (by omega)
   have hwd:=hta.wd hek
   have hei:=hR.ins hek
   have hxt:=hta.tk.text
   have hxr:=hta.tk.rs
   refine YL (JI _ _ [12] (.c 0 0 (.c 1 0 (.c 2 0 (.c 3 0 (.c 4 0 (.c 5 0 (.c 6 2 (.c 7 0 (.c 8 0 (.c 9 1 (.c 10 0 (.c 11 0 (.c 12 3 .nil))))))))))))) mixed (fun _ _ _ _ h=>h) (Sk (Sk (Sk (Sk (Sk (Sk (Sk (Sk (Sk (Sk (Sk (Sk (Sr))))))))))))) (fun _ h=>h) (by kernel_rfl) (by first | exact dl O | decide) fun ws Z0=>JO O (Jb O) (dl O) (JO O (Jb O) (dl O) (JO O (JC O) (dl O) (JO O (Jh (o':=17) Un42 O ti3 O O) (dl O) (JO O (Jj Un3 O O (Ji (Jn)) (dk17 (by rw [List.length_set];exact hpl))) (dl O) ?_)))))
   refine JO O (Jt (vs:= [_,_,_,_,_,_,_,_,_]) Un52 O JD O (Ji (Ji (Ji (Ji (Ji (Ji (Jn))))))) O O) (dl O) (Jz O O (Jm (HT D.gap (putF D.H D.got o).2.1 Ae ce2 ⟨by omega,by omega,by omega,by omega⟩ hown hek (by omega) (by omega)) (.n2 O O) (by first | exact dl O | decide) (Jl Mm10 (Jl Mm2 Jw)) fun u16_6 Lo fs hres=> ?_))
   obtain ⟨rfl,rfl,rfl⟩:=hres
   refine ⟨⟨(Sk (Sk (Sk (Sk (Sk (Sk (Sk (Sk (Sk (Sk (Sk (Sk (Sr))))))))))))),Mm0⟩,?_⟩
   refine JO O (Jb O) (dl O) (JO O (Jk (vs:= [_,_]) O O) (dl O) (YZ O (Jk (vs:= [_,_]) O O) (dl O) (JO O (JC O) (dl O) (JO O (Jh (o':=17) Un42 O ti3 O O) (dl O) (JN (J8 O O (K2 ti3 O O O (dkl17 (by rw [List.length_set];exact hpl)) .z1 ?_)))))))
   rw [dkset17 (by rw [List.length_set];exact hpl)]
   refine JM (Jf (Jc (Ja (Jg O (JJ Yw O O O .z .z7 (Je (Jf (Jo ?_))))))))
   refine ⟨_,[_,_,_,_,_,_,_,_],[_,_,_],fun Z w hs=>KR hs Un54 O O (Ji (Ji (Ji (Ji (Ji (Ji (Ji (Jn)))))))) O .nil,?_,fun Z w hs=>hs.out (Sd (Sk (Sk (Sk (Sk (Sk (Sd (Sd (Sd (Sk (Sk (Sk (Sr))))))))))))) (Jl Mm3 (Jl Mm4 (Jl Mm5 Tt10)))⟩
   have hgc:((K0 D o).gap:Int)=if (putF D.H D.got o).2.1.at_<(D.gap:Int) then (D.gap:Int)+Jx (putF D.H D.got o).2.1 else (D.gap:Int):=by
    show (((if (putF D.H D.got o).2.1.kind=1∧(putF D.H D.got o).2.1.at_<D.gap then _ else _):Nat):Int)=_
    by_cases h:(putF D.H D.got o).2.1.at_<(D.gap:Int)
    ·rw [if_pos ⟨hek,h⟩,if_pos h];omega
    ·rw [if_neg (fun h2=>h h2.2),if_neg h]
   have hge:(K0 D o).gap≤(JT (putF D.H D.got o).2.1 D.X).length:=by split at hgc<;>omega
   have hok2:DkOk ⟨M.d,M.h,M.m,M.b,M.s,A2,cap2,B2,t2,L2,M.vu,M.vr,M.pu,M.pr⟩ (K0 D o):=ok.mk_ hr2 wt2 hX2 ok.hU ok.hR (by show DI (putF D.H D.got o).1.ops.length _ _;rw [hta.nl];exact hta.di) rfl ⟨rfl,rfl,rfl⟩ (by show (D.put.set _ _).length=9;rw [List.length_set];exact hpl) (V6 ok.p0 (by omega)) hge (by show D.got+1≤(putF D.H D.got o).1.ops.length;have:=ok.rc;have:=hta.nl;omega) ok.md ok.sl
   refine ⟨⟨M.d,M.h,M.m,M.b,M.s,A2,cap2,B2,t2,L2,M.vu,M.vr,M.pu,M.pr⟩,?_,hok2,O,?_,O⟩
   ·rfl
   ·show _=KC ⟨M.d,M.h,M.m,M.b,M.s,A2,cap2,B2,t2,L2,M.vu,M.vr,M.pu,M.pr⟩ (K0 D o)
    unfold KC dkB
    rw [hgc]
    rfl
  ·have hek: ¬(putF D.H D.got o).2.1.kind=1:=by simpa using h117
   refine Jp (Jf (Jc (Ja (Jg O (JJ Yw O O O .z .z7 (Je (Jf (Jo ?_))))))))
   refine ⟨_,[_,_,_,_,_,_,_,_],[_,_,_],fun Z w hs=>KR hs Un54 O O (Ji (Ji (Ji (Ji (Ji (Ji (Ji (Jn)))))))) O .nil,?_,fun Z w hs=>hs.out (Sd (Sk (Sk (Sk (Sk (Sk (Sd (Sd (Sd (Sk (Sk (Sk (Sr))))))))))))) (Jl Mm2 (Jl Mm3 (Jl Mm4 Tt9)))⟩
   have hgc:((K0 D o).gap:Int)=D.gap:=by
    show (((if (putF D.H D.got o).2.1.kind=1∧(putF D.H D.got o).2.1.at_<D.gap then _ else _):Nat):Int)=_
    rw [if_neg (fun h2=>hek h2.1)]
   have hge:(K0 D o).gap≤(JT (putF D.H D.got o).2.1 D.X).length:=by omega
   have hok2:DkOk ⟨M.d,M.h,M.m,M.b,M.s,A2,cap2,B2,t2,L2,M.vu,M.vr,M.pu,M.pr⟩ (K0 D o):=ok.mk_ hr2 wt2 hX2 ok.hU ok.hR (by show DI (putF D.H D.got o).1.ops.length _ _;rw [hta.nl];exact hta.di) rfl ⟨rfl,rfl,rfl⟩ (by show (D.put.set _ _).length=9;rw [List.length_set];exact hpl) (V6 ok.p0 (by omega)) hge (by show D.got+1≤(putF D.H D.got o).1.ops.length;have:=ok.rc;have:=hta.nl;omega) ok.md ok.sl
   refine ⟨⟨M.d,M.h,M.m,M.b,M.s,A2,cap2,B2,t2,L2,M.vu,M.vr,M.pu,M.pr⟩,?_,hok2,O,?_,O⟩
   ·rfl
   ·show _=KC ⟨M.d,M.h,M.m,M.b,M.s,A2,cap2,B2,t2,L2,M.vu,M.vr,M.pu,M.pr⟩ (K0 D o)
    unfold KC dkB
    rw [hgc]
    rfl
theorem runCb (bB bR bH bF:Nat):CbOk 100 [.pointer (some ⟨bH,0,none⟩), .pointer (some ⟨bF,0,none⟩), .pointer (some ⟨bB,0,none⟩)] (RunI bB bR bH bF) 2097152:=by
 rintro X q x rs hid A c ⟨ad,v,p,rv,rp,hs,rfl⟩ hne hl
 have h:=(Jcq bB bR bH bF (rowF X) ad v p rv rp hs X.length (XR X) (by omega) x rs hid A c (by omega)).flat
 refine h.mono ?_
 rintro u Lo fs ⟨Lo',⟨rfl,rfl,ad',v',p',rv',rp',hs',rfl⟩,rfl⟩
 refine ⟨O,O,_,O,ad',v',p',rv',rp',?_,?_⟩
 ·rw [Ge X hid hne];exact hs'
 ·rw [Ge X hid hne,VV]
theorem ZN (bB bR bH bF:Nat):RunI bB bR bH bF [] [blP bB none (.slice none 0 0),[],rcP bR (.slice none 0 0),[],hcP bH 0,fcP bF bB bR bH].flatten:=
 ⟨none,_,[],_,[],⟨.inl rfl,Row.nil _ _,Row.nil _ _⟩,rfl⟩
set_option maxRecDepth 10000 in
theorem Jb4 (b:Nat) (A:Option Addr) (t:Tr) (wt:Wf t) (hb:t.row.length≤1048576):Sp Tryz.prog 65 [.pointer (some ⟨b,0,none⟩)] [rpP b A] [TrF A t] (fun v Lo fs=> ∃A' c',v= .slice A' (runsF t.row).length c'∧Lo= [rpP b A] ∧fs= [RdF runD A' c' (runsF t.row)]):=by
 refine Sp.of (n:=17) ⟨_,Tryz.func65,O,O,O,O⟩ (Nat.le_of_ble_eq_true O) fun Ps As=>Jc (Ja (Lq (Jd O) (Je (Jf (Jc (Ja (Jg O (Ju (cs:= [_]) Jcm O (by decide) fun b3=>Je (Jf (Jc (Ja (Jg O (Ju (cs:= [_,_]) ZI O (by decide) fun b4=>Je (Jf (Jc (Ja (Jg O (Ju (cs:= [_]) ti3 O (by decide) fun b5=>Jg O (JJ ti3 O O O .z .z ?_)))))))))))))))))))
 refine Je (Jf (Jc (Ja (Lq (QY (.n3 O O O)) (Jg O (Ju (cs:= [_]) ti1 O (by decide) fun b6=>Jg O (JJ ti1 O O O .z .z (Je (Jf (Jc (JA .z (JA .z1 (JA .z3 (JA .z3 (Ky ?_)))))))))))))))
 refine Ky (JA .z5 (JA .z5 (JA .z2 (JA .z5 (JA .z4 (JA .z5 (Jbt (Qs:= [blP b4 none (.slice none 0 0),[],rcP b3 (.slice none 0 0),[],hcP b5 0,fcP b6 b4 b3 b5]) (Ja (Lq (Jb O) ?_)))))))))
 refine Lq (JC O) (Lq (Jh (o':=0) Un143 O YU O O) (Lq (Jj Un141 O O (Ji (Jn)) O) (Lq (QY (.n3 O O O)) (Jg O (JR (walk_n 100 _ _ 2097152 (by omega) (runCb b4 b3 b5 b6) t.size A t [] _ wt (Nat.le_refl _) (by simp;omega) (ZN b4 b3 b5 b6)) (.n4 O O O O) (by decide) .z (Jl Mm0 Jw) fun u5_5 Lo fs hres=> ?_)))))
 obtain ⟨rfl,rfl,q1,rfl,hI1⟩:=hres
 refine Je (Jf (Jc ?_))
 obtain ⟨ad,v,p,rv,rpp,hs,rfl⟩:=hI1
 refine Xp (Qs:= [blP b4 ad v,p,rcP b3 rv,rpp,hcP b5 (rowF ([] ++t.row)).hid,fcP b6 b4 b3 b5]) ?_
 simp only [List.cons_append,List.nil_append] at hs ⊢
 have hB:=XR t.row
 refine Ja (Lq (Jj Un1 O O (Ji (Ji (Ji (Ji (Ji (Jn)))))) O) (Jg O (Qv (caps:= [_,_,_]) O (HQ b4 b3 b5 (rowF t.row) ad v p rv rpp hs hB.by_ (by have:=hB.bl;omega) (by have:=hB.rl;omega)) .nil (by decide) (List.Perm.refl _) Jw fun u6 Lo fs hres=> ?_)))
 obtain ⟨rfl,rfl,rv2,rp2,hr2,rfl⟩:=hres
 refine Je (Jf (Jc ?_))
 obtain ⟨Ar,cr,rfl⟩:=hr2.slice
 refine Ke (A:=RepsF runD (runsF t.row) ((runsF t.row).map runC)) (fun Z w _=>HJ (fun _ _ _=>O) _ Z w) (KJ (e:=runD) (xs:=(runsF t.row)) (css:=((runsF t.row).map runC)) hr2 .z2 O Mm0 fun A9 c9 e9=> ?_)
 cases e9
 refine Ja (Lq (Jj Un67 O O (Ji (Jn)) O) (Lq (Jd O) (Je (Jf (Jo ?_)))))
 refine ⟨_,[_],[_],fun Z w hs=> .tmp O .nil,?_,fun Z w hs=>hs.out (Sd (Sd (Sd (Sd (Sk (Sr)))))) (Jl Mm0 Tt2)⟩
 exact ⟨_,_,O,O,O⟩
theorem hops_k (h m cap:Nat) (A:Option Addr) (H:Hist) (L:List MR) (hr:HR H L) (lo hi:Nat) (h1:lo≤hi) (h2:hi≤H.ents.length):Sp Tryz.prog 66 [.pointer (some ⟨h,0,none⟩), .int .i64 lo, .int .i64 hi] [hdP h A H.ops.length cap m H.total,mpP m L,mkP L] [RdF opD A cap H.ops] (fun v Lo fs=> ∃(A':Option Addr) (c':Nat),v= .tuple #[.slice A' ((H.ops.take hi).drop lo).length c', .int .i64 0] ∧Lo= [hdP h A H.ops.length cap m H.total,mpP m L,mkP L] ∧fs= [RdF opD A' c' ((H.ops.take hi).drop lo)]):=by
 refine (Jcc h m cap A H L hr lo hi).mono ?_
 rintro v Lo fs ⟨A',c',rfl,⟨hb,_,_⟩ | ⟨_,rfl,rfl⟩⟩
 ·omega
 ·exact ⟨A',c',O,O,O⟩
set_option maxRecDepth 10000 in
theorem GR (d b:Nat) (cs:List Value) (T:TypeId) (h m cap:Nat) (A:Option Addr) (H:Hist) (L:List MR) (hr:HR H L) (i:Nat) (hi:i<H.ents.length):Sp Tryz.prog 19 [.pointer (some ⟨d,0,none⟩), .int .i64 i] [[(d,JB (.pointer (some ⟨h,0,none⟩):: .pointer (some ⟨b,0,none⟩)::cs) T)],hdP h A H.ops.length cap m H.total,mpP m L,mkP L] [RdF opD A cap H.ops,AllF L nowF] (fun v Lo fs=> ∃(A':Option Addr) (c':Nat),v= .tuple #[enV (entE H.ents[i]) A' c', .nilIface] ∧Lo= [[(d,JB (.pointer (some ⟨h,0,none⟩):: .pointer (some ⟨b,0,none⟩)::cs) T)],hdP h A H.ops.length cap m H.total,mpP m L,mkP L] ∧fs= [RdF rgD A' c' (entE H.ents[i]).rs]):=by
 refine Sp.of (n:=21) ⟨_,Tryz.func19,O,O,O,O⟩ (Nat.le_of_ble_eq_true O) fun Ps As=>Jc (Ja (Jg O (Ju (cs:= [_,_,_,_,_,_,_]) Y3 O (by decide) fun b4=>Lq (Jd O) (Je (Jf (Jc (Ja (Lq (Jb O) (Lq (JC O) (Lq (Jh (o':=0) Un36 O VM O O) (Lq (Jj Un33 O O (Ji (Jn)) O) (Lq (Jb O) ?_))))))))))))
 refine Jg O (KB (V9 h m cap A H L hr i) (.n2 O O) (by decide) .z2 .z2 .z2 (Jl Mm0 (Jl Mm1 Jw)) fun u1_5 Lo fs hres=> ?_)
 obtain ⟨A9,c9,rfl,rfl,rfl⟩:=hres
 rw [Yh hi]
 refine Lq (Jb O) (Lq (Jk (vs:= [_,_]) O O) (Lq (Jk (vs:= [_,_]) O O) (Jg O (Ju (cs:= [_,_,_,_,_,_,_]) Y3 O (by decide) fun b6=>Jg O (Jq (cs':= [_,_,_,_,_,_,_]) (vs:= [_,_,_,_,_,_,_]) Y3 O O O O O (Nat.le_of_ble_eq_true O) .z (Lq (Jd O) (Je (Jf (Jc (JI _ _ [4] (.c 0 0 (.c 1 0 (.c 2 0 (.c 3 2 (.c 4 3 (.c 5 1 .nil)))))) mixed (fun _ _ _ _ h=>h) (Sk (Sk (Sk (Sk (Sk (Sk (Sr))))))) (fun _ h=>h) (by kernel_rfl) (by decide) fun ws Z0=>Qe O (Jt (vs:= [_,_,_,_,_,_,_]) Un62 O Y3 O Jn O O) (Qe O (Jb O) ?_)))))))))))
 refine Qe O (Jb O) (Jz O O (Jm (fault_0 _ _) (.n3 O O O) (by decide) Jw fun u2_3 Lo fs hres=> ?_))
 obtain ⟨rfl,rfl,rfl⟩:=hres
 refine ⟨⟨(Sk (Sk (Sk (Sk (Sk (Sk (Sr))))))),Mm0⟩,?_⟩
 refine JN (J8 O O (Jq (cs':= [_,_,_,_,_,_,_]) (vs:= [_,_,_,_,_,_,_]) Y3 O O O O O (Nat.le_of_ble_eq_true O) .z4 (YH O (Jd O) (by decide) (JM (Jf (Jo ?_))))))
 refine ⟨_,[_,_,_,_],[_],fun Z w hs=>JV hs Un62 O Y3 O (Ji (Ji (Ji (Ji (Jn))))) O (.tmp O .nil),?_,fun Z w hs=>((((hs.pick .z3).pick .z3).pick .z3).pick .z5).out (Sk (Sk (Sk (Sk (Sd (Sd (Sr))))))) Tt1⟩
 exact ⟨A9,c9,O,O,O⟩
set_option maxRecDepth 10000 in
theorem Zj (d b:Nat) (cs:List Value) (T:TypeId) (h:Nat) (B:Option Addr) (t:Tr) (wt:Wf t):Sp Tryz.prog 38 [.pointer (some ⟨d,0,none⟩)] [[(d,JB (.pointer (some ⟨h,0,none⟩):: .pointer (some ⟨b,0,none⟩)::cs) T)],rpP b B] [TrF B t] (fun v Lo fs=>v= .int .i64 t.row.length∧Lo= [[(d,JB (.pointer (some ⟨h,0,none⟩):: .pointer (some ⟨b,0,none⟩)::cs) T)],rpP b B] ∧fs= []):=by
 refine Sp.of (n:=8) ⟨_,Tryz.func38,O,O,O,O⟩ (Nat.le_of_ble_eq_true O) fun Ps As=>Jc (Ja (Lq (Jd O) (Je (Jf (Jc (Ja (Lq (Jb O) (Lq (JC O) (Lq (Jh (o':=1) Un36 O GM O O) (Lq (Jj Un34 O O Jn O) (Jg O (JR (Y9 b B t wt) (.n1 O) (by decide) .z1 (Jl Mm0 Jw) fun u1_4 Lo fs hres=> ?_))))))))))))
 obtain ⟨rfl,rfl,rfl⟩:=hres
 refine Lq (Jd O) (Je (Jf (Jo ?_)))
 refine ⟨_,[_,_],[],fun Z w hs=> .tmp O .nil,?_,fun Z w hs=>((hs.pick .z).pick .z1).out (Sk (Sk (Sr))) (fun _ h=>h)⟩
 exact ⟨O,O,O⟩
set_option maxRecDepth 10000 in
theorem Gd (d b:Nat) (cs:List Value) (T:TypeId) (h:Nat) (B:Option Addr) (t:Tr) (wt:Wf t) (hb:t.row.length≤1048576):Sp Tryz.prog 22 [.pointer (some ⟨d,0,none⟩)] [[(d,JB (.pointer (some ⟨h,0,none⟩):: .pointer (some ⟨b,0,none⟩)::cs) T)],rpP b B] [TrF B t] (fun v Lo fs=> ∃(A9:Option Addr) (c9:Nat),v= .slice A9 (runsF t.row).length c9∧Lo= [[(d,JB (.pointer (some ⟨h,0,none⟩):: .pointer (some ⟨b,0,none⟩)::cs) T)],rpP b B] ∧fs= [RdF runD A9 c9 (runsF t.row)]):=by
 refine Sp.of (n:=8) ⟨_,Tryz.func22,O,O,O,O⟩ (Nat.le_of_ble_eq_true O) fun Ps As=>Jc (Ja (Lq (Jd O) (Je (Jf (Jc (Ja (Lq (Jb O) (Lq (JC O) (Lq (Jh (o':=1) Un36 O GM O O) (Lq (Jj Un34 O O Jn O) (Jg O (JR (Jb4 b B t wt hb) (.n1 O) (by decide) .z1 (Jl Mm0 Jw) fun u1_4 Lo fs hres=> ?_))))))))))))
 obtain ⟨A9,c9,rfl,rfl,rfl⟩:=hres
 refine Lq (Jd O) (Je (Jf (Jo ?_)))
 refine ⟨_,[_,_],[_],fun Z w hs=> .tmp O .nil,?_,fun Z w hs=>((hs.pick .z).pick .z1).out (Sk (Sk (Sr))) (fun _ h=>h)⟩
 exact ⟨A9,c9,O,O,O⟩
set_option maxRecDepth 10000 in
theorem Hr (M:DM) (D:DS) (ok:DkOk M D):Sp Tryz.prog 26 [.pointer (some ⟨M.d,0,none⟩)] (KC M D) [] (fun v Lo fs=>v= .int .i64 D.gap∧Lo=KC M D∧fs= []):=by
 have hpl:=ok.pl
 refine Sp.of (n:=7) ⟨_,Tryz.func26,O,O,O,O⟩ (Nat.le_of_ble_eq_true O) fun Ps As=>Jc (Ja (Lq (Jd O) (Je (Jf (Jc (Ja (Lq (Jb O) (Lq (JC O) (Lq (Jh (o':=17) Un42 O ti3 O O) (Lq (Jj Un3 O O Jn (dk17 hpl)) (Lq (Jd O) (Je (Jf (Jo ?_))))))))))))))
 refine ⟨_,[_,_,_,_,_,_,_,_],[],fun Z w hs=> .tmp O .nil,?_,fun Z w hs=>hs.out (Sk (Sk (Sk (Sk (Sk (Sk (Sk (Sk (Sr))))))))) (fun _ h=>h)⟩
 exact ⟨O,O,O⟩
set_option maxRecDepth 10000 in
theorem Jae (M:DM) (D:DS) (ok:DkOk M D):Sp Tryz.prog 15 [.pointer (some ⟨M.d,0,none⟩)] (KC M D) (barF::KY M D) (fun v Lo fs=>v= .int .i64 (J5 (D.X.take D.gap):Nat)∧Lo=KC M D∧fs= []):=by
 have hvl:=KA M.t.row
 have hwt:=ok.wt
 have htl:=ok.tl
 have hrow:=ok.row
 have hpl:=ok.pl
 have hgp:=ok.gp
 refine Sp.of (n:=19) ⟨_,Tryz.func15,O,O,O,O⟩ (Nat.le_of_ble_eq_true O) fun Ps As=>Jc (Ja (Lq (Jd O) (Je (Jf (Jc (JI _ _ [] (.c 0 0 (.c 1 0 (.c 2 0 (.c 3 0 (.c 4 0 (.c 5 0 (.c 6 0 (.c 7 0 (.c 8 0 (.c 9 2 (.c 10 0 (.c 11 0 (.c 12 0 (.c 13 0 (.c 14 0 .nil))))))))))))))) mixed (fun _ _ _ _ h=>h) (Sk (Sk (Sk (Sk (Sd (Sk (Sk (Sk (Sr))))))))) (fun _ h=>h) (by kernel_rfl) (by decide) fun ws Z0=>Qe O (Jb O) (Qe O (JC O) (Qe O (Jh (o':=0) Un42 O Yk O O) (Qe O (Jh (o':=1) Un36 O GM O O) (Qe O (Jj Un34 O O Jn O) ?_))))))))))
 refine Qe O (Jb O) (Qe O (JC O) (Qe O (Jh (o':=17) Un42 O ti3 O O) (Qe O (Jj Un3 O O Jn (dk17 hpl)) (Jz O O (JR (GN M.b M.B M.t hwt (by omega) D.gap (by rw [hrow];exact hgp)) (.n2 O O) (by decide) .z4 (Jl Mm4 Jw) fun u1_9 Lo fs hres=> ?_)))))
 obtain ⟨rfl,rfl,rfl⟩:=hres
 refine ⟨⟨(Sd (Sk (Sk (Sk (Sk (Sk (Sk (Sk (Sr))))))))),Mm0⟩,?_⟩
 refine Qe O (Jb O) (Qe O (Jk (vs:= [_,_]) O O) (Qe O (Jk (vs:= [_,_]) O O) (Qe O (Jd O) (Qe O (Jd O) (JN (JM (Jf (Jc (Ja (Lq (Jb O) (Lq (Jd O) (Je (Jf (Jo ?_))))))))))))))
 refine ⟨_,[_,_,_,_,_,_,_,_],[],fun Z w hs=> .tmp O .nil,?_,fun Z w hs=>((((((((hs.pick .z7).pick .z7).pick .z7).pick .z3).pick .z7).pick .z7).pick .z7).pick .z7).out (Sk (Sk (Sk (Sk (Sk (Sk (Sk (Sk (Sr))))))))) Tt1⟩
 exact ⟨by rw [hrow];rfl,O,O⟩
set_option maxRecDepth 10000 in
theorem Hq (M:DM) (D:DS) (ok:DkOk M D):Sp Tryz.prog 30 [.pointer (some ⟨M.d,0,none⟩)] (KC M D) (barF::KY M D) (fun v Lo fs=> ∃(A':Option Addr) (c':Nat),v= .slice A' (D.H.ops.drop D.got).length c'∧Lo=KC M D∧fs= [RdF opD A' c' (D.H.ops.drop D.got)]):=by
 have hvl:=KA M.t.row
 have hwt:=ok.wt
 have htl:=ok.tl
 have hrow:=ok.row
 have hpl:=ok.pl
 have hr:=ok.hr
 have hn:=ok.n
 have hrc:=ok.rc
 refine Sp.of (n:=25) ⟨_,Tryz.func30,O,O,O,O⟩ (Nat.le_of_ble_eq_true O) fun Ps As=>Jc (Ja (Lq (Jd O) (Je (Jf (Jc (JI _ _ [] (.c 0 0 (.c 1 0 (.c 2 0 (.c 3 0 (.c 4 0 (.c 5 0 (.c 6 0 (.c 7 0 (.c 8 0 (.c 9 0 (.c 10 0 (.c 11 0 (.c 12 0 (.c 13 0 (.c 14 2 (.c 15 2 (.c 16 0 (.c 17 0 (.c 18 0 (.c 19 0 (.c 20 0 .nil))))))))))))))))))))) mixed (fun _ _ _ _ h=>h) (Sk (Sd (Sd (Sd (Sk (Sk (Sk (Sk (Sr))))))))) (fun _ h=>h) (by kernel_rfl) (by decide) fun ws Z0=>Qe O (Jb O) (Qe O (JC O) (Qe O (Jh (o':=0) Un42 O Yk O O) (Qe O (Jh (o':=0) Un36 O VM O O) ?_)))))))))
 refine Qe O (Jj Un33 O O Jn O) (Qe O (Jb O) (Qe O (JC O) (Qe O (Jh (o':=6) Un42 O ti3 O O) (Qe O (Jj Un3 O O Jn O) (Qe O (Jb O) (Qe O (JC O) (Qe O (Jh (o':=0) Un42 O Yk O O) (Qe O (Jh (o':=0) Un36 O VM O O) (Qe O (Jj Un33 O O Jn O) ?_)))))))))
 refine Jz O O (JR (Ho M.h M.m D.H.ops.length M.cap M.A D.H.total) (.n1 O) (by decide) .z1 Jw fun u1_14 Lo fs hres=> ?_)
 obtain ⟨rfl,rfl,rfl⟩:=hres
 refine ⟨⟨(Sd (Sk (Sd (Sd (Sk (Sk (Sk (Sk (Sr))))))))),Mm0⟩,?_⟩
 refine Jz O O (KB (hops_k M.h M.m M.cap M.A D.H M.L hr D.got D.H.ops.length hrc (by omega)) (.n3 O O O) (by decide) .z .z1 .z1 (Jl Mm2 Jw) fun u1_15 Lo fs hres=> ?_)
 obtain ⟨A9,c9,rfl,rfl,rfl⟩:=hres
 rw [List.take_length]
 refine ⟨⟨(Sd (Sd (Sd (Sk (Sk (Sk (Sk (Sk (Sr))))))))),Mm1⟩,?_⟩
 refine Qe O (Jb O) (Qe O (Jk (vs:= [_,_]) O O) (Qe O (Jk (vs:= [_,_]) O O) (Qe O (Jd O) (Qe O (Jd O) (JN (JM (Jf (Jc (Ja (Lq (Jb O) (Lq (Jd O) (Je (Jf (Jo ?_))))))))))))))
 refine ⟨_,[_,_,_,_,_,_,_,_],[_],fun Z w hs=> .tmp O .nil,?_,fun Z w hs=>((((((((hs.pick .z7).pick .z7).pick .z7).pick .z7).pick .z6).pick .z6).pick .z6).pick .z7).out (Sk (Sk (Sk (Sk (Sk (Sk (Sk (Sk (Sr))))))))) (Jl Mm0 Tt2)⟩
 exact ⟨A9,c9,O,O,O⟩
def confD (D:DS):DS:= { D with got:=D.got+1 }
set_option maxRecDepth 10000 in
theorem confirm_0 (M:DM) (D:DS) (ok:DkOk M D) (i0 i1:Int) (hg:D.got<D.H.ents.length) (hi0:D.H.ents[D.got].op.c=i0) (hi1:D.H.ents[D.got].op.n=i1):Sp Tryz.prog 77 [.pointer (some ⟨M.d,0,none⟩), .agg #[.int .i64 i0, .int .i64 i1]] (KC M D) (barF::KY M D) (fun v Lo fs=>DkOk M (confD D)∧v= .nilIface∧Lo=KC M (confD D)∧fs= []):=by
 have hvl:=KA M.t.row
 have hwt:=ok.wt
 have htl:=ok.tl
 have hrow:=ok.row
 have hpl:=ok.pl
 have hr:=ok.hr
 have hn:=ok.n
 have hdi:=ok.di
 have hle:=hdi.le
 have hen:(entE D.H.ents[D.got]).c=i0∧(entE D.H.ents[D.got]).n=i1:=by
  unfold entE
  split
  ·exact ⟨hi0,hi1⟩
  ·exact ⟨hi0,hi1⟩
 refine Sp.ofD (n:=43) ⟨_,Tryz.func77,O,O,O,O⟩ (Nat.le_of_ble_eq_true O) fun Ps As=>Ja (Jg O (J9 (cs:= [_,_]) O O (by decide) fun b3=>Jg O (Ju (cs:= [_]) Yw O (by decide) fun b4=>Je ?_)))
 refine ⟨O,_,_,_,_,_,catch_Confirm b4,DefReg.mk (.n1 O) (by decide),?_⟩
 refine Jc (Jc (JA .z3 (JA .z3 (YL (JI _ _ [] (.c 0 0 (.c 1 0 (.c 2 0 (.c 3 0 (.c 4 0 (.c 5 0 (.c 6 0 (.c 7 2 (.c 8 0 .nil))))))))) mixed (fun _ _ _ _ h=>h) (Sk (Sd (Sk (Sk (Sk (Sk (Sk (Sk (Sk (Sk (Sr))))))))))) (fun _ h=>h) (by kernel_rfl) (by first | exact dl O | decide) fun ws Z0=>JO O (Jb O) (dl O) (JO O (JC O) (dl O) (JO O (Jh (o':=6) Un42 O ti3 O O) (dl O) (JO O (Jj Un3 O O Jn O) (dl O) (JO O (Jb O) (dl O) ?_)))))))))
 refine JO O (JC O) (dl O) (JO O (Jh (o':=0) Un42 O Yk O O) (dl O) (Jz O O (Kv (V4 M.d M.h M.m M.b D.H.ops.length M.cap _ _ M.A D.H.total) (.n1 O) (by first | exact dl O | decide) .z .z Jw fun u2_7 Lo fs hres=> ?_)))
 obtain ⟨rfl,rfl,rfl⟩:=hres
 refine ⟨⟨(Sk (Sd (Sk (Sk (Sk (Sk (Sk (Sk (Sk (Sk (Sr))))))))))),Mm0⟩,?_⟩
 refine JO O (Kh O O) (dl O) (JN (JM (Jf (Jv O (by simp;omega) (Jp (Jf (Jc (YL (JI _ _ [14] (.c 0 0 (.c 1 0 (.c 2 0 (.c 3 0 (.c 4 0 (.c 5 0 (.c 6 0 (.c 7 0 (.c 8 0 (.b (.c 9 2 (.c 10 0 (.c 11 0 (.c 12 1 (.c 13 2 (.c 14 3 (.c 15 1 .nil))))))) (.c 13 2 (.c 9 2 (.c 10 0 (.c 11 0 (.c 12 1 (.c 14 3 (.c 15 1 .nil))))))))))))))))) mixed (fun _ _ _ _ h=>h) (Sk (Sd (Sk (Sk (Sd (Sd (Sk (Sk (Sk (Sk (Sr))))))))))) (fun _ h=>h) (by kernel_rfl) (by first | exact dl O | decide) fun ws Z0=>JO O (Jb O) (dl O) (JO O (JC O) (dl O) ?_))))))))))
 refine JO O (Jh (o':=0) Un42 O Yk O O) (dl O) (JO O (Jh (o':=0) Un36 O VM O O) (dl O) (JO O (Jj Un33 O O Jn O) (dl O) (JO O (Jb O) (dl O) (JO O (JC O) (dl O) (JO O (Jh (o':=6) Un42 O ti3 O O) (dl O) (JO O (Jj Un3 O O Jn O) (dl O) (Yd ?_ ?_)))))))
 ·refine Jz O O (KB (V9 M.h M.m M.cap M.A D.H M.L hr D.got) (.n2 O O) (by first | exact dl O | decide) .z1 .z3 .z3 (Jl Mm3 (Jl Mm4 Jw)) fun u4_9 Lo fs hres=> ?_)
  obtain ⟨A9,c9,rfl,rfl,rfl⟩:=hres
  rw [Yh hg]
  refine ⟨⟨(Sd (Sd (Sd (Sk (Sk (Sk (Sk (Sk (Sk (Sk (Sr))))))))))),Mm1⟩,?_⟩
  refine JO O (Jb O) (dl O) (JO O (Jk (vs:= [_,_]) O O) (dl O) (YZ O (Jk (vs:= [_,_]) O O) (dl O) (Jz O O (Ju (cs:= [_,_,_,_,_,_,_]) Y3 O (by first | exact dl O | decide) fun b5=> ?_))))
  refine ⟨⟨(Sd (Sd (Sd (Sd (Sk (Sk (Sk (Sk (Sk (Sk (Sk (Sr)))))))))))),Mm1⟩,?_⟩
  refine JN (J8 O O (Jq (cs':= [_,_,_,_,_,_,_]) (vs:= [_,_,_,_,_,_,_]) Y3 O O O O O (Nat.le_of_ble_eq_true O) .z (YH O (Jd O) (dl O) (JM (Jf (Jc (Jc (Ja (JQ (Jh (o':=0) Un62 O JW O O) (dl O) (JQ (Jt (vs:= [_,_]) Un46 O JW O Jn O O) (dl O) (JQ (Jt (vs:= [_,_]) Un46 O JW O (Ji (Ji (Ji (Ji (Ji (Ji (Jn))))))) O O) (dl O) (JQ (Yq O O (eq46 _ _ _ _)) (dl O) (Je (Jf (Jv O (by simp [hen.1,hen.2]) ?_)))))))))))))))
  refine Jp (Jf (Jc (Ja (JQ (Jb O) (dl O) (JQ (JC O) (dl O) (JQ (Jh (o':=6) Un42 O ti3 O O) (dl O) (JQ (Jj Un3 O O (Ji (Ji (Ji (Ji (Jn))))) O) (dl O) (JQ (JU O O (wr64 (by omega)) (c:=((D.got+1:Nat):Int))) (dl O) (JQ (JC O) (dl O) (JQ (Jh (o':=6) Un42 O ti3 O O) (dl O) (Jg O (JJ ti3 O O O .z6 .z4 (Je (Jf (Jc (Ja ?_))))))))))))))))
  refine Jg O (JJ Yw O O O .z .z5 (Je (Jf (Jo ?_))))
  refine ⟨_,[_,_,_,_,_,_,_,_],[],fun Z w hs=>KR hs Un54 O O (Ji (Ji (Ji (Ji (Ji (Jn)))))) O .nil,?_,fun Z w hs=>((((((((hs.pick .z10).pick .z10).pick .z10).pick .z10).pick .z7).pick .z7).pick .z7).pick .z8).out (Sk (Sk (Sk (Sk (Sk (Sk (Sk (Sk (Sd (Sd (Sd (Sr)))))))))))) Tt3⟩
  exact ⟨⟨ok.hr,ok.wt,ok.row,ok.hU,ok.hR,ok.di,ok.us,ok.pl,ok.p0,ok.lm,ok.gp,by show D.got+1≤D.H.ops.length;omega,ok.md,ok.sl⟩,rfl,rfl,rfl⟩
 ·refine Jz O O (Ju (cs:= [_,_,_,_,_,_,_]) Y3 O (by first | exact dl O | decide) fun b5=> ?_)
  refine ⟨⟨(Sd (Sk (Sd (Sk (Sk (Sd (Sd (Sk (Sk (Sk (Sk (Sr)))))))))))),Mm0⟩,?_⟩
  refine Jz O O (KB (V9 M.h M.m M.cap M.A D.H M.L hr D.got) (.n2 O O) (by first | exact dl O | decide) .z2 .z4 .z4 (Jl Mm3 (Jl Mm4 Jw)) fun u4_9 Lo fs hres=> ?_)
  obtain ⟨A9,c9,rfl,rfl,rfl⟩:=hres
  rw [Yh hg]
  refine ⟨⟨(Sd (Sd (Sd (Sd (Sk (Sk (Sk (Sk (Sk (Sk (Sk (Sr)))))))))))),Mm1⟩,?_⟩
  refine JO O (Jb O) (dl O) (JO O (Jk (vs:= [_,_]) O O) (dl O) (YZ O (Jk (vs:= [_,_]) O O) (dl O) (JN (J8 O O (Jq (cs':= [_,_,_,_,_,_,_]) (vs:= [_,_,_,_,_,_,_]) Y3 O O O O O (Nat.le_of_ble_eq_true O) .z3 (YH O (Jd O) (dl O) (JM (Jf (Jc (Jc (Ja (JQ (Jh (o':=0) Un62 O JW O O) (dl O) (JQ (Jt (vs:= [_,_]) Un46 O JW O (Ji (Ji (Ji (Jn)))) O O) (dl O) (JQ (Jt (vs:= [_,_]) Un46 O JW O (Ji (Ji (Ji (Ji (Ji (Ji (Jn))))))) O O) (dl O) ?_))))))))))))))
  refine JQ (Yq O O (eq46 _ _ _ _)) (dl O) (Je (Jf (Jv O (by simp [hen.1,hen.2]) (Jp (Jf (Jc (Ja (JQ (Jb O) (dl O) (JQ (JC O) (dl O) (JQ (Jh (o':=6) Un42 O ti3 O O) (dl O) (JQ (Jj Un3 O O (Ji (Ji (Ji (Ji (Jn))))) O) (dl O) (JQ (JU O O (wr64 (by omega)) (c:=((D.got+1:Nat):Int))) (dl O) (JQ (JC O) (dl O) ?_)))))))))))))
  refine JQ (Jh (o':=6) Un42 O ti3 O O) (dl O) (Jg O (JJ ti3 O O O .z6 .z4 (Je (Jf (Jc (Ja (Jg O (JJ Yw O O O .z .z5 (Je (Jf (Jo ?_)))))))))))
  refine ⟨_,[_,_,_,_,_,_,_,_],[],fun Z w hs=>KR hs Un54 O O (Ji (Ji (Ji (Ji (Ji (Jn)))))) O .nil,?_,fun Z w hs=>((((((((hs.pick .z10).pick .z10).pick .z10).pick .z10).pick .z6).pick .z6).pick .z6).pick .z8).out (Sk (Sk (Sk (Sk (Sk (Sk (Sk (Sk (Sd (Sd (Sd (Sr)))))))))))) Tt3⟩
  exact ⟨⟨ok.hr,ok.wt,ok.row,ok.hU,ok.hR,ok.di,ok.us,ok.pl,ok.p0,ok.lm,ok.gp,by show D.got+1≤D.H.ops.length;omega,ok.md,ok.sl⟩,rfl,rfl,rfl⟩
theorem bd36_0_1Xg17 (x0_:Option Addr) (x1_:Option Addr) (w:World):(Instr.build 36 #[(0, .pointer x0_),(1, .pointer x1_)]).run Tryz.prog w= .ok (.agg #[.pointer x0_, .pointer x1_]) w:=by kernel_rfl
set_option maxRecDepth 10000 in
theorem ZY:Sp Tryz.prog 33 [] [] [] (fun v Lo fs=> ∃d h m b:Nat,v= .pointer (some ⟨d,0,none⟩)∧Lo= [[(d,JB [.pointer (some ⟨h,0,none⟩), .pointer (some ⟨b,0,none⟩)] 36)],hdP h none 0 0 m 0,mpP m [],mkP [],rpP b none] ∧fs= [RdF opD none 0 [],AllF ([] :List MR) nowF,TrF none .nil]):=by
 refine Sp.of (n:=5) ⟨_,Tryz.func33,O,O,O,O⟩ (Nat.le_of_ble_eq_true O) fun Ps As=>Jc (Ja (Lq (Jd O) (Je (Jf (Jc (Ke (A:=TrF none .nil) (fun Z w _=>O) (Ja (Jg O (Jm (Jcu) .nil (by decide) Jw fun u1_0 Lo fs hres=> ?_)))))))))
 obtain ⟨h,m,rfl,rfl,rfl⟩:=hres
 refine Jg O (Jm (Jb6) .nil (by decide) Jw fun u1_1 Lo fs hres=> ?_)
 obtain ⟨b,rfl,rfl,rfl⟩:=hres
 refine Lq (JZ (.n2 O O) (bd36_0_1Xg17 _ _)) (Jg O (J9 (cs:= [_,_]) O O (by decide) fun b4=>Lq (Jd O) (Je (Jf (Jo ?_)))))
 refine ⟨_,[_,_,_,_,_],[_,_,_],fun Z w hs=> .tmp O .nil,?_,fun Z w hs=>(((((hs.pick .z1).pick .z4).pick .z4).pick .z4).pick .z4).out (Sk (Sk (Sk (Sk (Sk (Sr)))))) (fun _ h=>h)⟩
 exact ⟨b4,h,m,b,O,O,O⟩
def zeroD (u cl ce op:Int):DS:=⟨u,cl,ce,op,⟨[],0⟩,[],0,0,List.replicate 9 0,0,[],[]⟩
theorem HR.zero:HR ⟨[],0⟩ [] where
 perm:=List.Perm.refl _
 ids:=List.nodup_nil
 fit:=fun e he=>by cases he
 wid:=fun e he=>by cases he
 now:=fun e he=>by cases he
 len:=Nat.zero_le _
 tot:=by decide
theorem DkOk.zero {u cl ce op:Int} (hu:1≤u∧u≤cl) (hc:cl≤8) (he:ce≤4096) (ho:op≤1024) (d h m b s:Nat):DkOk ⟨d,h,m,b,s,none,0,none, .nil,[], .slice none 0 0, .slice none 0 0,[],[]⟩ (zeroD u cl ce op):=
 ⟨HR.zero,wnilT,rfl,Row.nil _ _,Row.nil _ _,DI.zero,⟨hu.1,by show u≤8;omega⟩,rfl,fun x hx=>by have:=List.eq_of_mem_replicate hx;omega,⟨he,ho,by show 1≤cl;omega,hc⟩,Nat.zero_le _,Nat.zero_le _,Nat.zero_le _,Nat.zero_le _⟩
theorem bd42_0_1_2_7Xg18 (x0_0:Option Addr) (x0_1:Option Addr) (x1_:Int) (x2_0:Int) (x2_1:Int) (x2_2:Int) (x7_:Option Addr) (w:World):(Instr.build 42 #[(0, .agg #[.pointer x0_0, .pointer x0_1]),(1, .int .i64 x1_),(2, .agg #[.int .i64 x2_0, .int .i64 x2_1, .int .i64 x2_2]),(7, .pointer x7_)]).run Tryz.prog w= .ok (.agg #[.pointer x0_0, .pointer x0_1, .int .i64 x1_, .int .i64 x2_0, .int .i64 x2_1, .int .i64 x2_2, .int .i64 0, .int .i64 0, .int .i64 0, .int .i64 0, .int .i64 0, .int .i64 0, .int .i64 0, .int .i64 0, .int .i64 0, .int .i64 0, .int .i64 0, .int .i64 0, .pointer x7_]) w:=by kernel_rfl
set_option maxRecDepth 10000 in
theorem Jac (u cl ce op:Int) (hu:1≤u∧u≤cl) (hc:cl≤8) (he:1≤ce∧ce≤4096) (ho:1≤op∧op≤1024):Sp Tryz.prog 36 [.int .i64 u, .agg #[.int .i64 cl, .int .i64 ce, .int .i64 op]] [] [] (fun v Lo fs=> ∃M:DM,v= .tuple #[.pointer (some ⟨M.d,0,none⟩), .nilIface] ∧DkOk M (zeroD u cl ce op)∧Lo=KC M (zeroD u cl ce op)∧fs=KY M (zeroD u cl ce op)):=by
 refine Sp.of (n:=39) ⟨_,Tryz.func36,O,O,O,O⟩ (Nat.le_of_ble_eq_true O) fun Ps As=>Jc (Ja (Jg O (J9 (cs:= [_,_,_]) O O (by decide) fun b3=>Lq (Jd O) (Lq (Jd O) (Je (Jf (Jc (Jc (Ja (Lq (Jh (o':=0) Un38 O ti3 O O) (Lq (Jj Un3 O O Jn O) (Jg O (Jm (Qh _ _ _) (.n3 O O O) (by decide) Jw fun u1_2 Lo fs hres=> ?_)))))))))))))
 obtain ⟨rfl,rfl,rfl⟩:=hres
 refine Lq (KL O) (Lq (Jb O) (Lg O O O (by rw [decide_eq_true (by omega)];rfl) (Jh (o':=1) Un38 O ti3 O O) (Lg O O O (by rw [decide_eq_true (by omega)];rfl) (Jj Un3 O O Jn O) (Ks O O O (by rw [decide_eq_true (by omega)];rfl) (Jm (Qh _ _ _) (.n3 O O O) (by decide) Jw fun u1_7 Lo fs hres=> ?_)))))
 obtain ⟨rfl,rfl,rfl⟩:=hres
 refine Lg O O O (by rw [decide_eq_true (by omega)];rfl) (KL O) (Lq (JH O (by rw [decide_eq_true (by omega)];rfl) O) (Lq (Jb O) (Lg O O O (by rw [decide_eq_true (by omega)];rfl) (Jh (o':=2) Un38 O ti3 O O) (Lg O O O (by rw [decide_eq_true (by omega)];rfl) (Jj Un3 O O Jn O) (Ks O O O (by rw [decide_eq_true (by omega)];rfl) (Jm (Qh _ _ _) (.n3 O O O) (by decide) Jw fun u1_13 Lo fs hres=> ?_))))))
 obtain ⟨rfl,rfl,rfl⟩:=hres
 refine Lg O O O (by rw [decide_eq_true (by omega)];rfl) (KL O) (Lq (JH O (by rw [decide_eq_true (by omega)];rfl) O) (Je (Jf (Jv O (by rw [decide_eq_true (by omega)];rfl) (Jp (Jf (Jc (Jc (Ja (Lq (Jb O) (Lq (Jh (o':=0) Un38 O ti3 O O) (Lq (Jj Un3 O O Jn O) (Jg O (Jm (Qh _ _ _) (.n3 O O O) (by decide) Jw fun u3_3 Lo fs hres=> ?_))))))))))))))
 obtain ⟨rfl,rfl,rfl⟩:=hres
 refine Lq (KL O) (Je (Jf (Jv O (by rw [decide_eq_true (by omega)];rfl) (Jp (Jf (Jc (Ky (Ky (JI _ _ [] (.c 3 0 (.c 4 0 (.c 0 2 (.c 1 0 (.b (.c 2 2 (.c 5 2 (.c 6 0 (.c 7 2 (.c 8 0 (.c 9 0 .nil)))))) (.c 5 2 (.c 2 2 (.c 6 0 (.c 7 2 (.c 8 0 (.c 9 0 .nil))))))))))) mixed (fun _ _ _ _ h=>h) (Sk (Sk (Sk (Sr)))) (fun _ h=>h) (by kernel_rfl) (by decide) fun ws Z0=>Qe O (Jb O) (Qe O (Jt (vs:= [_,_,_]) Un38 O Ek O (Ji (Ji (Jn))) O O) (Jz O O (Jm (ZY) .nil (by decide) Jw fun u5_0 Lo fs hres=> ?_))))))))))))
 obtain ⟨r,h,m,b,rfl,rfl,rfl⟩:=hres
 refine ⟨⟨(Sd (Sd (Sd (Sd (Sd (Sk (Sk (Sk (Sr))))))))),Mm3⟩,?_⟩
 refine Qe O (JC O) (Yd ?_ ?_)
 ·refine Jz O O (VB (Jt (vs:= [_,_]) Un36 O Yk O Jn O O) (by decide) ?_)
  refine ⟨⟨(Sd (Sd (Sd (Sd (Sd (Sk (Sk (Sk (Sr))))))))),Mm3⟩,?_⟩
  refine Jz O O (Jm (HG) .nil (by decide) Jw fun u5_5 Lo fs hres=> ?_)
  obtain ⟨s,rfl,rfl,rfl⟩:=hres
  refine ⟨⟨(Sd (Sd (Sd (Sd (Sd (Sd (Sk (Sk (Sk (Sr)))))))))),Mm3⟩,?_⟩
  refine Qe O (JZ (.n4 O O O O) (bd42_0_1_2_7Xg18 _ _ _ _ _ _ _)) (Jz O O (J9 (cs:= [_,_,_,_,_,_,_,_,_,_,_,_,_,_,_,_,_,_,_]) O O (by decide) fun b38=> ?_))
  refine ⟨⟨(Sd (Sd (Sd (Sd (Sd (Sd (Sd (Sk (Sk (Sk (Sr))))))))))),Mm3⟩,?_⟩
  refine Qe O (Jd O) (Qe O (Jd O) (JN (JM (Jf (Jo ?_)))))
  refine ⟨_,[_,_,_,_,_,_,_,_],[_,_,_],fun Z w hs=> .tmp O (.tmp O .nil),?_,fun Z w hs=>((((((((hs.pick .z8).pick .z8).pick .z3).pick .z8).pick .z8).pick .z8).pick .z8).pick .z7).out (Sk (Sk (Sk (Sk (Sk (Sk (Sk (Sk (Sd (Sd (Sr))))))))))) (Jl Mm0 (Jl Mm1 (Jl Mm2 Tt4)))⟩
  exact ⟨⟨b38,h,m,b,s,none,0,none, .nil,[], .slice none 0 0, .slice none 0 0,[],[]⟩,O,DkOk.zero hu hc he.2 ho.2 _ _ _ _ _,O,O⟩
 ·refine Jz O O (Jm (HG) .nil (by decide) Jw fun u5_5 Lo fs hres=> ?_)
  obtain ⟨s,rfl,rfl,rfl⟩:=hres
  refine ⟨⟨(Sd (Sd (Sd (Sd (Sd (Sd (Sk (Sk (Sk (Sr)))))))))),Mm3⟩,?_⟩
  refine Jz O O (VB (Jt (vs:= [_,_]) Un36 O Yk O (Ji (Jn)) O O) (by decide) ?_)
  refine ⟨⟨(Sd (Sd (Sd (Sd (Sd (Sd (Sk (Sk (Sk (Sr)))))))))),Mm3⟩,?_⟩
  refine Qe O (JZ (.n4 O O O O) (bd42_0_1_2_7Xg18 _ _ _ _ _ _ _)) (Jz O O (J9 (cs:= [_,_,_,_,_,_,_,_,_,_,_,_,_,_,_,_,_,_,_]) O O (by decide) fun b38=> ?_))
  refine ⟨⟨(Sd (Sd (Sd (Sd (Sd (Sd (Sd (Sk (Sk (Sk (Sr))))))))))),Mm3⟩,?_⟩
  refine Qe O (Jd O) (Qe O (Jd O) (JN (JM (Jf (Jo ?_)))))
  refine ⟨_,[_,_,_,_,_,_,_,_],[_,_,_],fun Z w hs=> .tmp O (.tmp O .nil),?_,fun Z w hs=>((((((((hs.pick .z8).pick .z8).pick .z3).pick .z8).pick .z8).pick .z8).pick .z8).pick .z7).out (Sk (Sk (Sk (Sk (Sk (Sk (Sk (Sk (Sd (Sd (Sr))))))))))) (Jl Mm0 (Jl Mm1 (Jl Mm2 Tt4)))⟩
  exact ⟨⟨b38,h,m,b,s,none,0,none, .nil,[], .slice none 0 0, .slice none 0 0,[],[]⟩,O,DkOk.zero hu hc he.2 ho.2 _ _ _ _ _,O,O⟩
def byC (c:Ce):List (UInt8×Int):=(bytesU (encI c.1)).map fun b=>(b,c.2)
def byR (X:List Ce):List (UInt8×Int):=X.flatMap byC
def ofRun (r:Rn):List (UInt8×Int):=r.1.data.toList.map fun b=>(b,r.2)
def spread (s:RS):List (UInt8×Int):=s.rs.flatMap ofRun++(bytesU s.bs).map fun b=>(b,s.hid)
theorem spread_flush (s:RS):spread (flushF s)=spread s:=by
 unfold flushF
 split
 ·rfl
 ·unfold spread
  simp [List.flatMap_append,ofRun,strOf,bytesU]
theorem spread_turn (s:RS) (hid:Int):spread (turnR s hid)=spread s:=by
 unfold turnR
 split
 ·rfl
 ·rw [←spread_flush s]
  unfold spread
  simp only [flush_bs];simp [bytesU]
theorem spread_cell (s:RS) (c:Ce):spread (cellF s c)=spread s++byC c:=by
 show spread { turnR s c.2 with bs:=(turnR s c.2).bs++ [c.1].flatMap encI } =_
 rw [←spread_turn s c.2]
 unfold spread
 have h:=turnR_hid s c.2
 simp [bytesU,byC,h]
theorem spread_row (X:List Ce): ∀s:RS,spread (X.foldl cellF s)=spread s++byR X:=by
 induction X with
 | nil=>intro s;simp [byR]
 | cons c X ih=>intro s;rw [List.foldl_cons,ih,spread_cell];simp [byR]
theorem runs_by (X:List Ce):(runsF X).flatMap ofRun=byR X:=by
 have h1:=spread_flush (rowF X)
 have h2:=spread_row X ⟨[],0,[]⟩
 have h3:spread (flushF (rowF X))=(runsF X).flatMap ofRun:=by
  unfold spread runsF;rw [flush_bs];simp [bytesU]
 rw [←h3,h1]
 unfold rowF
 rw [h2];simp [spread,bytesU]
theorem by_inj: ∀ {X Y:List Ce},X.map (·.1)=Y.map (·.1)→byR X=byR Y→X=Y
 | [],[],_,_=>rfl
 | [],y::Y,h,_=>by simp at h
 | x::X,[],h,_=>by simp at h
 | x::X,y::Y,h,e=>by
  simp only [List.map_cons,List.cons.injEq] at h
  have hl:=(Qt x.1).1
  unfold byR at e
  rw [List.flatMap_cons,List.flatMap_cons] at e
  have h1:(byC x).length=(byC y).length:=by unfold byC bytesU;simp [h.1]
  obtain ⟨e1,e2⟩:=List.append_inj e h1
  have h2:x.2=y.2:=by
   unfold byC bytesU at e1
   rw [h.1] at e1 hl
   cases hq:encI y.1 with
   | nil=>rw [hq] at hl;simp at hl
   | cons a r=>rw [hq] at e1;simp at e1;exact e1.1
  rw [by_inj h.2 e2,Prod.ext h.1 h2]
theorem runs_inj {X Y:List Ce} (h:X.map (·.1)=Y.map (·.1)) (e:runsF X=runsF Y):X=Y:=by
 refine by_inj h ?_
 rw [←runs_by,←runs_by,e]
theorem turn_apply (e:Ent) (on:Bool) (X:List Ce):JT (turnF e on) X=Kn e.now (if (decide (e.op.kind=2)==on)=true then 1 else -1) X:=by
 unfold JT turnF
 dsimp only
 by_cases h:(decide (e.op.kind=2)==on)=true
 ·simp only [h,if_true];rfl
 ·simp only [h];rfl
theorem GC {k:Int} {rs:List Rg} {X:List Ce} (h:Pls X.length rs):(Kn rs k X).length=X.length:=(KS (k:=k) rs 0 X (Int.le_refl _) h.norm h.below).1
theorem GB {k:Int} {rs:List Rg} {X:List Ce} (h:Pls X.length rs):(Kn rs k X).map (·.1)=X.map (·.1):=by
 apply List.ext_getElem?
 intro q
 rw [List.getElem?_map,List.getElem?_map,(KS (k:=k) rs 0 X (Int.le_refl _) h.norm h.below).2 q,Option.map_map]
 congr 1;funext c;simp only [Function.comp];split<;>rfl
theorem Xm {k:Int} {rs:List Rg} {X:List Ce} (h:Pls X.length rs):Kn rs (-k) (Kn rs k X)=X:=by
 have h2:Pls (Kn rs k X).length rs:=by rw [GC h];exact h
 apply List.ext_getElem?
 intro q
 rw [(KS (k:= -k) rs 0 _ (Int.le_refl _) h2.norm h2.below).2 q,(KS (k:=k) rs 0 X (Int.le_refl _) h.norm h.below).2 q,Option.map_map]
 cases X[q]? with
 | none=>rfl
 | some c=>
  simp only [Option.map_some,Function.comp]
  by_cases hb:inRb q rs=true
  ·simp only [hb,if_true];rw [Int.add_neg_cancel_right]
  ·simp only [hb];rfl
theorem Jbh {k:Int} {rs:List Rg} {X:List Ce} (h:Pls X.length rs) (hk:k≠0) (hne:rs≠ []):Kn rs k X≠X:=by
 intro e
 cases rs with
 | nil=>exact hne rfl
 | cons g rs=>
  have h1:=h.norm.1
  have h2:=h.norm.2.1
  have h3:=h.below g List.mem_cons_self
  have hq:g.lo.toNat<X.length:=by omega
  have h4:=(KS (k:=k) (g::rs) 0 X (Int.le_refl _) h.norm h.below).2 g.lo.toNat
  rw [e,List.getElem?_eq_getElem hq] at h4
  have h5:inRb (g.lo.toNat:Nat) (g::rs)=true:=K4.2 (KE.2 (.inl ⟨by omega,by omega⟩))
  rw [h5] at h4
  simp only [Option.map_some,if_true] at h4
  have:=congrArg (·.2) (Option.some.inj h4)
  simp only at this
  omega
theorem Made.edit {n:Nat} {H:Hist} {X:List Ce} (h:Made n H X):n≤1000→n=0∨ ∃x∈kindsOf H.ents,x≠2:=by
 induction h with
 | zero=>exact fun _=> .inl rfl
 | @step n H X i o h g ih=>
  intro hn
  obtain ⟨h1,h2,h3⟩:=h.inv (by omega)
  obtain ⟨es,nw,eff,p⟩:=put_good h1 g
  have hks:kindsOf (putF H i o).1.ents=insAt (kindsOf H.ents) i (kindN o):=p.noted kindN (fun a b hs=>by unfold kindN;rw [hs.kind]) h1 g
  refine .inr ?_
  have hm: ∀x,x=kindN o∨x∈kindsOf H.ents→x∈kindsOf (putF H i o).1.ents:=fun x hx=>by
   rw [hks];unfold insAt
   rw [List.mem_append,List.mem_cons]
   rcases hx with hx | hx
   ·exact .inr (.inl hx)
   ·rw [←List.take_append_drop i (kindsOf H.ents),List.mem_append] at hx
    exact hx.imp id .inr
  by_cases hk:o.kind=4
  ·obtain ⟨k,hk1,hk2,e,he,hek⟩:=g.target hk
   refine ⟨kindN e.op,hm _ (.inr (List.mem_map.2 ⟨e,List.mem_of_getElem? he,O⟩)),?_⟩
   unfold kindN;rw [if_neg hek];split<;>decide
  ·refine ⟨kindN o,hm _ (.inl O),?_⟩
   unfold kindN;rw [if_neg hk];split<;>decide
def turnO (x tc tn:Int) (on:Bool):GOp:= { zeroOp with c:=8,n:=x+1,kind:=4,tc:=tc,tn:=tn,on:=on }
theorem H9 {N:Int} {n:Nat} {H:Hist} {X:List Ce} {nx:List Int} (hV:VI N n H X nx) (hN:N≤1000) {j:Nat} {e1:Ent} (hj:H.ents[j]? =some e1) (hk:e1.op.kind≠4) {x:Int} (hx:nx[8]? =some x):
  Good H n (turnO x e1.op.c e1.op.n e1.off)∧ ∃H2,Tk H X n n (turnO x e1.op.c e1.op.n e1.off) H2 (turnF e1 e1.off)∧H2.ents[j]? =some (offE e1 (!e1.off)):=by
 have hjl:j<H.ents.length:=by
  rcases Nat.lt_or_ge j H.ents.length with h | h
  ·exact h
  ·rw [List.getElem?_eq_none h] at hj;cases hj
 have hje:H.ents[j] =e1:=by rw [List.getElem?_eq_getElem hjl] at hj;exact Option.some.inj hj
 have hx0:=hV.nx0 x (List.mem_of_getElem? hx)
 have hlen:=hV.len
 have hfr:JX H.ents 8 (x+1)=none:=hV.fresh (c:=8) hx (by omega) (by omega)
 have hg:Good H n (turnO x e1.op.c e1.op.n e1.off):=by
  have:=good_status hV (Nat.le_refl n) hfr (by unfold rightF;simp;omega) hjl (by omega) (by rw [hje];exact hk) e1.off
  rw [hje] at this;exact this
 obtain ⟨H2,eff,T⟩:=take_facts hV hg
 obtain ⟨es,nw,eff',p⟩:=put_good hV.hv hg
 have hst:=p.status rfl
 have hwh:JX H.ents e1.op.c e1.op.n=some j:=by
  have:=Yj hV.hv.ids hjl
  rwa [hje] at this
 have htd:turnedF H n (turnO x e1.op.c e1.op.n e1.off)=(H.ents.set j (offE e1 (!e1.off)),turnF e1 e1.off):=by
  unfold turnedF
  rw [List.drop_of_length_le (by omega)]
  show (if Yg [] e1.op.c e1.op.n=true then _ else match JX H.ents e1.op.c e1.op.n with | none=>_ | some k=>_)=_
  rw [hwh]
  simp [Yg,hj,turnO]
 have hput:=p.put
 rw [T.put] at hput
 have e1':H2=_:=congrArg (·.1) hput
 have e2':eff=eff':=congrArg (·.2.1) hput
 have e3:eff=turnF e1 e1.off:=by rw [e2',hst.2.2,htd]
 subst e3
 refine ⟨hg,H2,T,?_⟩
 rw [e1']
 show (newEnts n _ nw es _)[j]? =_
 unfold newEnts
 have hes:es=H.ents.set j (offE e1 (!e1.off)):=by rw [hst.1,htd]
 rw [hes,List.getElem?_append_left (by rw [List.length_take,List.length_set];omega),List.getElem?_take,if_pos (by omega),List.getElem?_set_self hjl]
structure TuI (n j:Nat) (e:Ent) (X:List Ce) (kk:Nat) (H1:Hist) (X1:List Ce) (nx1:List Int):Prop where
 le:kk≤2
 vi:VI ((n+kk:Nat):Int) (n+kk) H1 X1 nx1
 ent: ∃e1,H1.ents[j]? =some e1∧e1.op.c=e.op.c∧e1.op.n=e.op.n∧e1.op.kind=e.op.kind∧e1.now=e.now∧e1.off=(if kk=1 then !e.off else e.off)
 row:X1=if kk=1 then JT (turnF e e.off) X else X
structure TuS (n j:Nat) (e:Ent) (en:GEn) (X:List Ce) (kk:Nat) (H1:Hist) (X1:List Ce) (nx1:List Int) (x:Int) (H2:Hist) (eff:GOp):Prop where
 hx:nx1[8]? =some x
 xb:0≤x∧x≤100
 good:Good H1 H1.ents.length (turnO x e.op.c e.op.n (en.on==((kk:Int)==1)))
 tk:Tk H1 X1 (n+kk) H1.ents.length (turnO x e.op.c e.op.n (en.on==((kk:Int)==1))) H2 eff
 rs:eff.rs=e.now
 k0:eff.kind≠0
 kd:(eff.kind==(turnF e e.off).kind)=((kk:Int)==0)
 en2: ∃e2,H2.ents[j]? =some e2∧(entE e2).on=(en.on==((kk:Int)==1))
 runs:decide (runsF (JT eff X1)=runsF X)=((kk:Int)==1)
 next:TuI n j e X (kk+1) H2 (JT eff X1) (nxF nx1 8 (x+1))
theorem Hb {e e1:Ent} (hk:e1.op.kind=e.op.kind) (hn:e1.now=e.now) (on:Bool):turnF e1 on=turnF e on:=by unfold turnF;rw [hk,hn]
theorem HC (e:Ent) (on:Bool):(turnF e on).kind=2∨(turnF e on).kind=3:=by unfold turnF;dsimp only;split<;>simp
theorem Za (e:Ent) (on:Bool):((turnF e (!on)).kind==(turnF e on).kind)=false:=by
 unfold turnF;dsimp only
 cases decide (e.op.kind=2)<;>cases on<;>decide
theorem TuI.step {n j:Nat} {e:Ent} {en:GEn} {X:List Ce} {kk:Nat} {H1:Hist} {X1:List Ce} {nx1:List Int} (h:TuI n j e X kk H1 X1 nx1) (hkk:kk<2) (hn:n≤20) (hk:e.op.kind≠4) (hp:Pls X.length e.now) (hne:e.now≠ []) (hon:en.on= !e.off): ∃x H2 eff,TuS n j e en X kk H1 X1 nx1 x H2 eff:=by
 obtain ⟨e1,g1,g2,g3,g4,g5,g6⟩:=h.ent
 have hnl:=h.vi.nxl
 obtain ⟨x,hx⟩: ∃x,nx1[8]? =some x:=⟨_,List.getElem?_eq_getElem (by omega)⟩
 have hx0:=h.vi.nx0 x (List.mem_of_getElem? hx)
 obtain ⟨t1,H2,t2,t3⟩:=H9 h.vi (by omega) g1 (by rw [g4];exact hk) hx
 have hne1:offE e1 (!e1.off)=⟨e1.op,e1.now, !e1.off⟩:=rfl
 have e2on:(entE (offE e1 (!e1.off))).on=e1.off:=by
  unfold entE
  rw [if_neg (show (offE e1 (!e1.off)).op.kind≠4 by show e1.op.kind≠4;rw [g4];exact hk)]
  show (!(!e1.off))=_
  simp
 have hoff:e1.off=(en.on==((kk:Int)==1)):=by
  rw [g6,hon]
  have:kk=0∨kk=1:=by omega
  rcases this with rfl | rfl<;>cases e.off<;>rfl
 have hvi:=h.vi.step t1 (by omega) (N':=((n+(kk+1):Nat):Int)) (by omega) (by show x+1≤_;omega)
 rw [t2.put] at hvi
 have hT:=Hb g4 g5 e1.off
 have hrw: ∀(k:Int) (Y:List Ce),Pls Y.length e.now→(Kn e.now k Y).map (·.1)=Y.map (·.1):=fun k Y hY=>GB hY
 have hkd:=HC e e1.off
 refine ⟨x,H2,turnF e1 e1.off,hx,by omega,by rw [h.vi.len,←g2,←g3,←hoff];exact t1,by rw [h.vi.len,←g2,←g3,←hoff];exact t2,g5,by rw [hT];omega,?_,⟨_,t3,by rw [e2on];exact hoff⟩,?_,?_⟩
 ·rw [hT,g6]
  have:kk=0∨kk=1:=by omega
  rcases this with rfl | rfl
  ·simp
  ·simp only [if_pos];rw [Za];rfl
 ·rw [hT,h.row,g6]
  have:kk=0∨kk=1:=by omega
  rcases this with rfl | rfl
  ·simp only [show ¬((0:Nat)=1) by decide,if_false]
   rw [turn_apply]
   refine (decide_eq_false fun hh=> ?_).trans O
   refine Jbh hp ?_ hne (runs_inj (hrw _ _ hp) hh)
   split<;>decide
  ·simp only [if_pos]
   rw [turn_apply,turn_apply]
   refine (decide_eq_true ?_).trans O
   have:(if (decide (e.op.kind=2)== !e.off)=true then (1:Int) else -1)= -(if (decide (e.op.kind=2)==e.off)=true then (1:Int) else -1):=by
    cases decide (e.op.kind=2)<;>cases e.off<;>decide
   rw [this,Xm hp]
 ·refine ⟨by omega,hvi,⟨_,t3,g2,g3,g4,g5,?_⟩,?_⟩
  ·show (!e1.off)=_
   rw [g6]
   have:kk=0∨kk=1:=by omega
   rcases this with rfl | rfl
   ·rfl
   ·cases e.off<;>rfl
  ·rw [hT,h.row,g6]
   have:kk=0∨kk=1:=by omega
   rcases this with rfl | rfl
   ·rfl
   ·simp only [if_pos,show ¬((1:Nat)+1=1) by decide,if_false]
    rw [turn_apply,turn_apply]
    have:(if (decide (e.op.kind=2)== !e.off)=true then (1:Int) else -1)= -(if (decide (e.op.kind=2)==e.off)=true then (1:Int) else -1):=by
     cases decide (e.op.kind=2)<;>cases e.off<;>decide
    rw [this,Xm hp]
end Go.Proofs.YtgedhdmpiciikaaGreatDoor
