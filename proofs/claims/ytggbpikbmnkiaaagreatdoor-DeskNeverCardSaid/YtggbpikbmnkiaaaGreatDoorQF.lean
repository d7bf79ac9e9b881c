/- Part of the proof that this claim's law answers true, whatever its arguments. Condition: the laid variables hold what their initialisers lay (the card ties that to the program's text). -/
import Derived.Test.YtggbpikbmnkiaaaGreatDoorQE
set_option maxRecDepth 10000
set_option linter.unusedVariables false
set_option linter.unusedSimpArgs false
open Go.Proofs.Tryz renaming underlying3→Un3,underlying4→Un4,underlying9→Un9,underlying20→Un20,underlying21→Un21,underlying22→Un22,underlying24→Un24,underlying25→Un25,underlying29→Un29,underlying31→Un31,underlying32→Un32,underlying34→Un34,underlying36→Un36,underlying37→Un37,underlying38→Un38,underlying40→Un40,underlying43→Un43,underlying44→Un44,underlying45→Un45,underlying47→Un47,underlying49→Un49,underlying53→Un53,underlying58→Un58,underlying60→Un60,underlying63→Un63,underlying74→Un74,underlying77→Un77,underlying83→Un83,underlying85→Un85,underlying113→Un113,underlying115→Un115,underlying117→Un117,underlying120→Un120,underlying122→Un122,underlying134→Un134,underlying135→Un135,underlying137→Un137,underlying141→Un141,underlying148→Un148,underlying150→Un150,underlying153→Un153,underlying155→Un155,underlying159→Un159,underlying163→Un163,underlying166→Un166,underlying169→Un169,underlying171→Un171,underlying172→Un172,underlying174→Un174,underlying193→Un193,underlying199→Un199,underlying200→Un200,underlying202→Un202,underlying209→Un209,underlying222→Un222
namespace Go.Proofs.YtggbpikbmnkiaaaGreatDoor
open Go Go.GW
theorem bd46Xg9 (w:World):(Instr.build 43 #[]).run Tryz.prog w= .ok (.agg #[.int .i64 0, .int .i64 0]) w:=by kernel_rfl
theorem pick_f (h m cap:Nat) (A:Option Addr) (H:Hist) (L:List MR) (hr:HR H L) (bh bo:Nat) (on:Bool) (A1:Option Addr) (c1:Nat) (xs:List Id2) (hl:xs.length≤1000000):Sp Tryz.prog 130 [.slice A1 xs.length c1, .func (.func 132) #[] #[.pointer (some ⟨bh,0,none⟩), .pointer (some ⟨bo,0,none⟩)]] [chP bh h,cbP bo on,hdP h A H.ops.length cap m H.total,mpP m L,mkP L] [RdF idD A1 c1 xs,RdF opD A cap H.ops,AllF L nowF] (fun u Lo fs=>u=pkV (pickF (JZ H on) xs)∧Lo= [chP bh h,cbP bo on,hdP h A H.ops.length cap m H.total,mpP m L,mkP L] ∧fs= []):=by
 refine Sp.of (n:=30) ⟨_,Tryz.func130,V,V,V,V⟩ (Nat.le_of_ble_eq_true V) fun Ps As=>Jc (Ja (Jg V (Jw (cs:= [_,_]) JW V (by decide) fun b4=>Lq (Jd V) (Lq (Jd V) (Je (Jf (Jc (Jc (Ja (Lq (Jb V) (Lq (Jbr Un166 V) (Je (Jf (Ju V V (Jo (Jf (Jc (Jc (Ja (Lq (Jb V) ?_))))))))))))))))))))
 refine Lq (J4 Un148 V) (Lq (KG V V (wr64 (by omega))) (Lq (Jd V) (Je (Jf (JD (JC .z5 (JC .z5 (JC .z5 (JC .z5 (JC .z5 ?_))))))))))
 refine Ke (α:=Nat) (fun k=>k)
  (fun k=> [(0, .slice A1 xs.length c1),(1, .func (.func 132) #[] #[.pointer (some ⟨bh,0,none⟩), .pointer (some ⟨bo,0,none⟩)]),(4, .pointer (some ⟨b4,0,none⟩)),(7, .int .i64 ((k:Int)-1))])
  (fun k=>(chP bh h::cbP bo on::hdP h A H.ops.length cap m H.total::mpP m L::mkP L:: [(b4,JB [.int .i64 0, .int .i64 0] 43)] ::Ps))
  (fun k=>(RdF idD A1 c1 xs::RdF opD A cap H.ops::AllF L nowF::As))
  (fun k=>k≤xs.length∧ ∀j (hj:j<xs.length),k≤j→JZ H on xs[j] =false)
  xs.length ?_ (.m4 rfl rfl rfl rfl) (Sk6 (Sr)) (fun _ h=>h) ?_
 ·exact ⟨Nat.le_refl _,fun j hj h=>by omega⟩
 ·rintro k hI
  have hle:=hI.1
  refine Jc (Jc (Ja (Lq (Jb V) (Lq (Yc V V) (Je (Jf (Jz V (fun h15=> ?_) (fun h15=> ?_))))))))
  ·obtain ⟨j,rfl⟩: ∃j,k=j+1:=⟨k-1,by simp only [decide_eq_true_eq] at h15;omega⟩
   have hkj:(((j+1:Nat):Int)-1)=(j:Nat):=by omega
   rw [hkj]
   have hj:j<xs.length:=by omega
   refine Jo (Jf (Jc (JD (Jc (Kd (k:=j) Mm0 (List.getElem?_eq_getElem hj) (id_open _) fun b6 q6 y6 e6=> ?_)))))
   cases e6
   refine JC .z4 (JC .z4 (JC .z4 (JC .z4 (JC .z4 (Ja (Lq (Jb V) (Lq (Jb V) (Lq (Jb V) (Lq (J0 Un148 JW V V (by omega) (by omega)) ?_)))))))))
   refine Lq (Kg (k:=0) (vs:= [_,_]) Un43 V JW V Mm0 V V V) (Jg V (QC (caps:= [_,_]) V (Zu h m cap A H L hr bh bo on xs[j].1 xs[j].2) (.n1 V) (by decide) (List.Perm.refl _) (Jl Mm2 (Jl Mm3 Jx)) fun u6 Lo fs hres=> ?_))
   obtain ⟨rfl,rfl,rfl⟩:=hres
   refine Je (Jf (Jz V (fun h23=> ?_) (fun h23=> ?_)))
   ·refine Jc (Ja (Lq (Jb V) (Lq (Jb V) (Lq (J0 Un148 JW V V (by omega) (by omega)) (Lq (Kg (k:=0) (vs:= [_,_]) Un43 V JW V Mm0 V V V) (Lq (Jb V) (Jg V (Jq (cs':= [_,_]) (vs:= [_,_]) JW V V V V V (Nat.le_of_ble_eq_true V) .z5 (Lq (Jd V) (Lq (Jd V) (Je (Jf (Jp (JF (Jt (Jt (JF (Jt ?_))))))))))))))))))
    refine ⟨_,[_,_,_,_,_],[],fun Z w hs=>JT hs Un43 V JW V (Jj (Jj (Jj (Jj (Jj (Jn)))))) V (.tmp V (.tmp V .nil)),?_,fun Z w hs=>hs.out (Sk5 (Sd (Sr))) Tt1⟩
    exact ⟨by rw [Gs hj h23 (fun i hi hji=>hI.2 i hi hji)];rfl,V,V⟩
   ·refine Jo (J7 (Jf (Ja (Lq (Jb V) (Lq (KG V V (wr64 (by omega))) (Lq (Jd V) (Je (Ko ?_))))))))
    refine ⟨j,?_,(.m4 V V V V),(Sk6 (Sr)),Tt1⟩
    refine ⟨by show j<j+1;omega,by omega,fun i hi hji=> ?_⟩
    rcases Nat.lt_or_eq_of_le hji with hlt | rfl
    ·exact hI.2 i hi hlt
    ·exact h23
  ·refine Kh (JH (JH (J6 (Jf (Jc (Ja (Lq (JY .nil (bd46Xg9)) (Jg V (Jq (cs':= [_,_]) (vs:= [_,_]) JW V V V V V (Nat.le_of_ble_eq_true V) .z5 (Lq (Jd V) (Lq (Jd V) (Je (Jf (Jp ?_))))))))))))))
   refine ⟨_,[_,_,_,_,_],[],fun Z w hs=>JT hs Un43 V JW V (Jj (Jj (Jj (Jj (Jj (Jn)))))) V (.tmp V (.tmp V .nil)),?_,fun Z w hs=>hs.out (Sk5 (Sd (Sr))) (fun _ h=>h)⟩
   have h0:k=0:=by simp only [decide_eq_false_iff_not] at h15;omega
   subst h0
   exact ⟨by rw [V6 fun y hy=>by obtain ⟨i,hi,rfl⟩:=List.mem_iff_getElem.1 hy;exact hI.2 i hi (Nat.zero_le _)];rfl,rfl,rfl⟩
theorem El (h m cap:Nat) (A:Option Addr) (H:Hist) (L:List MR) (hr:HR H L) (bh bo:Nat) (on:Bool) (v:Value) (p:Part) (xs:List Id2) (hx:Row 43 2 v xs.length (Kn idC xs) p) (hl:xs.length≤1000000):Sp Tryz.prog 130 [v, .func (.func 132) #[] #[.pointer (some ⟨bh,0,none⟩), .pointer (some ⟨bo,0,none⟩)]] (p:: [chP bh h,cbP bo on,hdP h A H.ops.length cap m H.total,mpP m L,mkP L]) [RdF opD A cap H.ops,AllF L nowF] (fun u Lo fs=>u=pkV (pickF (JZ H on) xs)∧Lo=p:: [chP bh h,cbP bo on,hdP h A H.ops.length cap m H.total,mpP m L,mkP L] ∧fs= []):=by
 refine (Sp.thawRow (e:=idD) (f:=idC) (res:=(fun u Lo fs=>u=pkV (pickF (JZ H on) xs)∧Lo= [chP bh h,cbP bo on,hdP h A H.ops.length cap m H.total,mpP m L,mkP L] ∧fs= [])) (fun _ _ _=>V) hx (fun A2 c2 hv=> ?_) (fun _ _ _ h=>h.2.2)).mono ?_
 ·subst hv;exact pick_f h m cap A H L hr bh bo on A2 c2 xs hl
 ·rintro u Lo fs ⟨Lo',⟨rfl,rfl,_⟩,rfl,rfl⟩
  exact ⟨V,V,V⟩
abbrev stP (s:Nat) (vu vr:Value):Part:= [(s,JB [vu,vr] 150)]
theorem moveu_n (h m cap:Nat) (A:Option Addr) (H:Hist) (L:List MR) (hr:HR H L) (bh bo:Nat) (on:Bool) (s:Nat) (vu vr:Value) (pu pr:Part) (U R:List Id2) (hU:Row 43 2 vu U.length (Kn idC U) pu) (hR:Row 43 2 vr R.length (Kn idC R) pr) (hlU:U.length≤100000) (hlR:R.length≤100000) (hpk:pickF (JZ H on) U=none):Sp Tryz.prog 90 [.pointer (some ⟨s,0,none⟩), .pointer (some ⟨s,1,none⟩), .func (.func 132) #[] #[.pointer (some ⟨bh,0,none⟩), .pointer (some ⟨bo,0,none⟩)]] [stP s vu vr,pu,pr,chP bh h,cbP bo on,hdP h A H.ops.length cap m H.total,mpP m L,mkP L] [RdF opD A cap H.ops,AllF L nowF] (fun u Lo fs=> ∃vu2 pu2 vr2 pr2,Row 43 2 vu2 (upF (JZ H on) U R).2.1.length (Kn idC (upF (JZ H on) U R).2.1) pu2∧Row 43 2 vr2 (upF (JZ H on) U R).2.2.length (Kn idC (upF (JZ H on) U R).2.2) pr2∧u=upV (upF (JZ H on) U R).1∧Lo= [stP s vu2 vr2,pu2,pr2,chP bh h,cbP bo on,hdP h A H.ops.length cap m H.total,mpP m L,mkP L] ∧fs= []):=by
 obtain ⟨Au,cu,rfl⟩:=hU.slice
 obtain ⟨Ar,cr,rfl⟩:=hR.slice
 refine Sp.of (n:=42) ⟨_,Tryz.func90,V,V,V,V⟩ (Nat.le_of_ble_eq_true V) fun Ps As=>Jc (Ja (Jg V (Jw (cs:= [_,_]) JW V (by decide) fun b6=>Lq (Jd V) (Je (Jf (Jc (Ja (Lq (Jb V) (Lq (JE V) (Lq (Jk Un148 V V (Jj (Jn)) V) (Lq (Jb V) (Jg V (J9 (El h m cap A H L hr bh bo on _ _ U hU (by omega)) (.n2 V V) (by decide) (.n6 .z2 .z3 .z3 .z3 .z3 .z3) (Jl Mm0 (Jl Mm1 Jx)) fun _ _ _ q9=>?_)))))))))))))
 obtain ⟨rfl,rfl,rfl⟩:=q9
 rw [hpk]
 refine Lq (Jb V) (Lq (Ji (vs:= [_,_,_]) V V) (Lq (Ji (vs:= [_,_,_]) V V) (Lq (Ji (vs:= [_,_,_]) V V) (Jg V (Jw (cs:= [_,_]) JW V (by decide) fun b8=>Jg V (Jq (cs':= [_,_]) (vs:= [_,_]) JW V V V V V (Nat.le_of_ble_eq_true V) .z (Lq (Jd V) (Lq (Jd V) (Je (Jf (Jc (Jc (Ja (Lq (Jb V) ?_))))))))))))))
 refine Lq (Kr V V) (Je (Jf (JS V V (Jc (Ja (Lq (JY .nil (bd46Xg9)) (Lq (Jb V) (Jg V (Jq (cs':= [_,_]) (vs:= [_,_]) JW V V V V V (Nat.le_of_ble_eq_true V) .z7 (Lq (Jd V) (Je (Jf (Jp (Jt ?_))))))))))))))
 refine ⟨_,[_,_,_,_,_,_,_,_],[],fun Z w hs=>JT hs Un43 V JW V (Jj (Jj (Jj (Jj (Jj (Jj (Jj (Jn)))))))) V (.tmp V .nil),?_,fun Z w hs=>((((((((hs.pick .z6).pick .z6).pick .z6).pick .z6).pick .z6).pick .z9).pick .z7).pick .z9).out (Sk8 (Sd2 (Sr))) (fun _ h=>h)⟩
 have e:(upF (JZ H on) U R)=(none,U,R):=by unfold upF;rw [hpk]
 rw [e]
 exact ⟨_,pu,_,pr,hU,hR,V,V,V⟩
theorem Jav (h m cap:Nat) (A:Option Addr) (H:Hist) (L:List MR) (hr:HR H L) (bh bo:Nat) (on:Bool) (s:Nat) (vu vr:Value) (pu pr:Part) (U R:List Id2) (hU:Row 43 2 vu U.length (Kn idC U) pu) (hR:Row 43 2 vr R.length (Kn idC R) pr) (hlU:U.length≤100000) (hlR:R.length≤100000) (k:Nat) (x:Id2) (hpk:pickF (JZ H on) U=some (k,x)):Sp Tryz.prog 90 [.pointer (some ⟨s,0,none⟩), .pointer (some ⟨s,1,none⟩), .func (.func 132) #[] #[.pointer (some ⟨bh,0,none⟩), .pointer (some ⟨bo,0,none⟩)]] [stP s vu vr,pu,pr,chP bh h,cbP bo on,hdP h A H.ops.length cap m H.total,mpP m L,mkP L] [RdF opD A cap H.ops,AllF L nowF] (fun u Lo fs=> ∃vu2 pu2 vr2 pr2,Row 43 2 vu2 (upF (JZ H on) U R).2.1.length (Kn idC (upF (JZ H on) U R).2.1) pu2∧Row 43 2 vr2 (upF (JZ H on) U R).2.2.length (Kn idC (upF (JZ H on) U R).2.2) pr2∧u=upV (upF (JZ H on) U R).1∧Lo= [stP s vu2 vr2,pu2,pr2,chP bh h,cbP bo on,hdP h A H.ops.length cap m H.total,mpP m L,mkP L] ∧fs= []):=by
 obtain ⟨hx1,hx2⟩:=Y9 hpk
 have hk:k<U.length:=by
  rcases Nat.lt_or_ge k U.length with h | h
  ·exact h
  ·rw [List.getElem?_eq_none h] at hx1;cases hx1
 obtain ⟨At,ct,rfl⟩:=hR.slice
 have hf0:=hU
 obtain ⟨hfl,⟨_,h0,_⟩ | ⟨b,cp,jk,rfl,rfl,h1,h2,h3⟩⟩:=hU
 ·omega
 refine Sp.of (n:=42) ⟨_,Tryz.func90,V,V,V,V⟩ (Nat.le_of_ble_eq_true V) fun Ps As=>Jc (Ja (Jg V (Jw (cs:= [_,_]) JW V (by decide) fun b6=>Lq (Jd V) (Je (Jf (Jc (Ja (Lq (Jb V) (Lq (JE V) (Lq (Jk Un148 V V (Jj (Jn)) V) (Lq (Jb V) (Jg V (J9 (El h m cap A H L hr bh bo on _ _ U hf0 (by omega)) (.n2 V V) (by decide) (.n6 .z2 .z3 .z3 .z3 .z3 .z3) (Jl Mm0 (Jl Mm1 Jx)) fun _ _ _ q9=>?_)))))))))))))
 obtain ⟨rfl,rfl,rfl⟩:=q9
 rw [hpk]
 refine Lq (Jb V) (Lq (Ji (vs:= [_,_,_]) V V) (Lq (Ji (vs:= [_,_,_]) V V) (Lq (Ji (vs:= [_,_,_]) V V) (Jg V (Jw (cs:= [_,_]) JW V (by decide) fun b8=>Jg V (Jq (cs':= [_,_]) (vs:= [_,_]) JW V V V V V (Nat.le_of_ble_eq_true V) .z (Lq (Jd V) (Lq (Jd V) (Je (Jf (Jc (Jc (Ja (Lq (Jb V) ?_))))))))))))))
 refine Lq (Kr V V) (Je (Jf (Ju V V (Jo (Jf (Jc (Ja (Lq (Jb V) (Lq (Jb V) (Lq (JE V) (Lq (Jk Un148 V V (Jj (Jj (Jj (Jj (Jj (Jj (Jj (Jj (Jn))))))))) V) (Lq (Jb V) (Lq (Jb V) (Lq (JQ V V (wr64 (by omega)) (c:=((k+1:Nat):Int))) (Jg V (JU (Jbj b cp k U jk hk h2 h3 h1 (by omega)) (.n3 V V V) (by decide) .z1 Jx fun _ _ _ q9=>?_))))))))))))))))
 obtain ⟨jk2,rfl,hjk2,rfl,rfl⟩:=q9
 refine Lq (JE V) (Jg V (JN Qq V V V .z .z8 (Je (Jf (Jc (JI _ _ [8] (.c 0 0 (.c 1 0 (.c 2 0 (.c 3 0 (.c 4 0 (.c 5 2 (.c 6 2 (.c 7 0 (.c 8 3 .nil))))))))) mixed (fun _ _ _ _ h=>h) (Sk9 (Sd (Sr))) (fun _ h=>h) (by kernel_rfl) (by decide) fun ws Z0=>Qe V (Jb V) (Qe V (Jb V) (Qe V (JE V) (Qe V (Jk Un148 V V (Jj (Jj (Jj (Jj (Jj (Jj (Jj (Jj (Jn))))))))) V) (Qe V (Js (vs:= [_,_]) Un43 V JW V (Jj (Jn)) V V) ?_))))))))))
 refine Jy V V (KF (cs:= [_,_]) Un148 JW (by decide) (by decide) V V V V (by decide) fun b38=> ?_)
 refine ⟨⟨(Sd (Sk9 (Sd (Sr)))),Mm0⟩,?_⟩
 refine Jy V V (KK (news:= [_,_]) Un148 JW V (by decide) V V hR Jn V V (by omega) (by unfold maxLen;omega) (by decide) (DelAt.perm .z10) fun v39 p39 hr39=> ?_)
 obtain ⟨As39,cs39,es39⟩:=hr39.slice
 subst es39
 refine ⟨⟨(Sd2 (Sk9 (Sr))),Mm0⟩,?_⟩
 refine Qe V (JE V) (JK (Ka V V (JN Qq V V V .z1 .z10 (JJ (Jf (Jc (Ja (Lq (Js (vs:= [_,_]) Un43 V JW V (Jj (Jj (Jj (Jn)))) V V) (Jg V (Jq (cs':= [_,_]) (vs:= [_,_]) JW V V V V V (Nat.le_of_ble_eq_true V) .z9 (Lq (Jd V) (Je (Jf (Jp ?_))))))))))))))
 refine ⟨_,[_,_,_,_,_,_,_,_],[],fun Z w hs=>JT hs Un43 V JW V (Jj (Jj (Jj (Jj (Jj (Jj (Jj (Jj (Jj (Jn)))))))))) V (.tmp V .nil),?_,fun Z w hs=>((((((((hs.pick .z8).pick .z8).pick .z8).pick .z8).pick .z8).pick .z5).pick .z7).pick .z10).out (Sk8 (Sd3 (Sr))) Tt1⟩
 have e:(upF (JZ H on) U R)=(some x,U.eraseIdx k,R++ [x]):=by unfold upF;rw [hpk]
 rw [e]
 have hrow1:Row 43 2 (.slice (some ⟨b,0,none⟩) (U.eraseIdx k).length cp) (U.eraseIdx k).length (Kn idC (U.eraseIdx k)) [(b,JB (Kn idC (U.eraseIdx k)++jk2) 43)] :=⟨Qn, .inr ⟨b,cp,jk2,rfl,rfl,hjk2,by rw [List.length_eraseIdx_of_lt hk];omega,h3⟩⟩
 have hrow2:Row 43 2 (.slice As39 (R.length+1) cs39) (R++ [x]).length (Kn idC (R++ [x])) p39:=by rw [Y4,Xy,List.length_append];exact hr39
 exact ⟨_,_,_,_,hrow1,hrow2,V,V,V⟩
theorem moveu_m (h m cap:Nat) (A:Option Addr) (H:Hist) (L:List MR) (hr:HR H L) (bh bo:Nat) (on:Bool) (s:Nat) (vu vr:Value) (pu pr:Part) (U R:List Id2) (hU:Row 43 2 vu U.length (Kn idC U) pu) (hR:Row 43 2 vr R.length (Kn idC R) pr) (hlU:U.length≤100000) (hlR:R.length≤100000):Sp Tryz.prog 90 [.pointer (some ⟨s,0,none⟩), .pointer (some ⟨s,1,none⟩), .func (.func 132) #[] #[.pointer (some ⟨bh,0,none⟩), .pointer (some ⟨bo,0,none⟩)]] [stP s vu vr,pu,pr,chP bh h,cbP bo on,hdP h A H.ops.length cap m H.total,mpP m L,mkP L] [RdF opD A cap H.ops,AllF L nowF] (fun u Lo fs=> ∃vu2 pu2 vr2 pr2,Row 43 2 vu2 (upF (JZ H on) U R).2.1.length (Kn idC (upF (JZ H on) U R).2.1) pu2∧Row 43 2 vr2 (upF (JZ H on) U R).2.2.length (Kn idC (upF (JZ H on) U R).2.2) pr2∧u=upV (upF (JZ H on) U R).1∧Lo= [stP s vu2 vr2,pu2,pr2,chP bh h,cbP bo on,hdP h A H.ops.length cap m H.total,mpP m L,mkP L] ∧fs= []):=by
 cases hpk:pickF (JZ H on) U with
 | none=>exact moveu_n h m cap A H L hr bh bo on s vu vr pu pr U R hU hR hlU hlR hpk
 | some kx=>exact Jav h m cap A H L hr bh bo on s vu vr pu pr U R hU hR hlU hlR kx.1 kx.2 hpk
theorem mover_n (h m cap:Nat) (A:Option Addr) (H:Hist) (L:List MR) (hr:HR H L) (bh bo:Nat) (on:Bool) (s:Nat) (vu vr:Value) (pu pr:Part) (U R:List Id2) (hU:Row 43 2 vu U.length (Kn idC U) pu) (hR:Row 43 2 vr R.length (Kn idC R) pr) (hlU:U.length≤100000) (hlR:R.length≤100000) (hpk:pickF (JZ H on) R=none):Sp Tryz.prog 90 [.pointer (some ⟨s,1,none⟩), .pointer (some ⟨s,0,none⟩), .func (.func 132) #[] #[.pointer (some ⟨bh,0,none⟩), .pointer (some ⟨bo,0,none⟩)]] [stP s vu vr,pu,pr,chP bh h,cbP bo on,hdP h A H.ops.length cap m H.total,mpP m L,mkP L] [RdF opD A cap H.ops,AllF L nowF] (fun u Lo fs=> ∃vu2 pu2 vr2 pr2,Row 43 2 vu2 (upF (JZ H on) R U).2.2.length (Kn idC (upF (JZ H on) R U).2.2) pu2∧Row 43 2 vr2 (upF (JZ H on) R U).2.1.length (Kn idC (upF (JZ H on) R U).2.1) pr2∧u=upV (upF (JZ H on) R U).1∧Lo= [stP s vu2 vr2,pu2,pr2,chP bh h,cbP bo on,hdP h A H.ops.length cap m H.total,mpP m L,mkP L] ∧fs= []):=by
 obtain ⟨Au,cu,rfl⟩:=hU.slice
 obtain ⟨Ar,cr,rfl⟩:=hR.slice
 refine Sp.of (n:=42) ⟨_,Tryz.func90,V,V,V,V⟩ (Nat.le_of_ble_eq_true V) fun Ps As=>Jc (Ja (Jg V (Jw (cs:= [_,_]) JW V (by decide) fun b6=>Lq (Jd V) (Je (Jf (Jc (Ja (Lq (Jb V) (Lq (JE V) (Lq (Jk Un148 V V (Jj (Jn)) V) (Lq (Jb V) (Jg V (J9 (El h m cap A H L hr bh bo on _ _ R hR (by omega)) (.n2 V V) (by decide) (.n6 .z3 .z3 .z3 .z3 .z3 .z3) (Jl Mm0 (Jl Mm1 Jx)) fun _ _ _ q9=>?_)))))))))))))
 obtain ⟨rfl,rfl,rfl⟩:=q9
 rw [hpk]
 refine Lq (Jb V) (Lq (Ji (vs:= [_,_,_]) V V) (Lq (Ji (vs:= [_,_,_]) V V) (Lq (Ji (vs:= [_,_,_]) V V) (Jg V (Jw (cs:= [_,_]) JW V (by decide) fun b8=>Jg V (Jq (cs':= [_,_]) (vs:= [_,_]) JW V V V V V (Nat.le_of_ble_eq_true V) .z (Lq (Jd V) (Lq (Jd V) (Je (Jf (Jc (Jc (Ja (Lq (Jb V) ?_))))))))))))))
 refine Lq (Kr V V) (Je (Jf (JS V V (Jc (Ja (Lq (JY .nil (bd46Xg9)) (Lq (Jb V) (Jg V (Jq (cs':= [_,_]) (vs:= [_,_]) JW V V V V V (Nat.le_of_ble_eq_true V) .z7 (Lq (Jd V) (Je (Jf (Jp (Jt ?_))))))))))))))
 refine ⟨_,[_,_,_,_,_,_,_,_],[],fun Z w hs=>JT hs Un43 V JW V (Jj (Jj (Jj (Jj (Jj (Jj (Jj (Jn)))))))) V (.tmp V .nil),?_,fun Z w hs=>((((((((hs.pick .z6).pick .z6).pick .z6).pick .z6).pick .z6).pick .z6).pick .z9).pick .z9).out (Sk8 (Sd2 (Sr))) (fun _ h=>h)⟩
 have e:(upF (JZ H on) R U)=(none,R,U):=by unfold upF;rw [hpk]
 rw [e]
 exact ⟨_,pu,_,pr,hU,hR,V,V,V⟩
theorem Jaw (h m cap:Nat) (A:Option Addr) (H:Hist) (L:List MR) (hr:HR H L) (bh bo:Nat) (on:Bool) (s:Nat) (vu vr:Value) (pu pr:Part) (U R:List Id2) (hU:Row 43 2 vu U.length (Kn idC U) pu) (hR:Row 43 2 vr R.length (Kn idC R) pr) (hlU:U.length≤100000) (hlR:R.length≤100000) (k:Nat) (x:Id2) (hpk:pickF (JZ H on) R=some (k,x)):Sp Tryz.prog 90 [.pointer (some ⟨s,1,none⟩), .pointer (some ⟨s,0,none⟩), .func (.func 132) #[] #[.pointer (some ⟨bh,0,none⟩), .pointer (some ⟨bo,0,none⟩)]] [stP s vu vr,pu,pr,chP bh h,cbP bo on,hdP h A H.ops.length cap m H.total,mpP m L,mkP L] [RdF opD A cap H.ops,AllF L nowF] (fun u Lo fs=> ∃vu2 pu2 vr2 pr2,Row 43 2 vu2 (upF (JZ H on) R U).2.2.length (Kn idC (upF (JZ H on) R U).2.2) pu2∧Row 43 2 vr2 (upF (JZ H on) R U).2.1.length (Kn idC (upF (JZ H on) R U).2.1) pr2∧u=upV (upF (JZ H on) R U).1∧Lo= [stP s vu2 vr2,pu2,pr2,chP bh h,cbP bo on,hdP h A H.ops.length cap m H.total,mpP m L,mkP L] ∧fs= []):=by
 obtain ⟨hx1,hx2⟩:=Y9 hpk
 have hk:k<R.length:=by
  rcases Nat.lt_or_ge k R.length with h | h
  ·exact h
  ·rw [List.getElem?_eq_none h] at hx1;cases hx1
 obtain ⟨At,ct,rfl⟩:=hU.slice
 have hf0:=hR
 obtain ⟨hfl,⟨_,h0,_⟩ | ⟨b,cp,jk,rfl,rfl,h1,h2,h3⟩⟩:=hR
 ·omega
 refine Sp.of (n:=42) ⟨_,Tryz.func90,V,V,V,V⟩ (Nat.le_of_ble_eq_true V) fun Ps As=>Jc (Ja (Jg V (Jw (cs:= [_,_]) JW V (by decide) fun b6=>Lq (Jd V) (Je (Jf (Jc (Ja (Lq (Jb V) (Lq (JE V) (Lq (Jk Un148 V V (Jj (Jn)) V) (Lq (Jb V) (Jg V (J9 (El h m cap A H L hr bh bo on _ _ R hf0 (by omega)) (.n2 V V) (by decide) (.n6 .z3 .z3 .z3 .z3 .z3 .z3) (Jl Mm0 (Jl Mm1 Jx)) fun _ _ _ q9=>?_)))))))))))))
 obtain ⟨rfl,rfl,rfl⟩:=q9
 rw [hpk]
 refine Lq (Jb V) (Lq (Ji (vs:= [_,_,_]) V V) (Lq (Ji (vs:= [_,_,_]) V V) (Lq (Ji (vs:= [_,_,_]) V V) (Jg V (Jw (cs:= [_,_]) JW V (by decide) fun b8=>Jg V (Jq (cs':= [_,_]) (vs:= [_,_]) JW V V V V V (Nat.le_of_ble_eq_true V) .z (Lq (Jd V) (Lq (Jd V) (Je (Jf (Jc (Jc (Ja (Lq (Jb V) ?_))))))))))))))
 refine Lq (Kr V V) (Je (Jf (Ju V V (Jo (Jf (Jc (Ja (Lq (Jb V) (Lq (Jb V) (Lq (JE V) (Lq (Jk Un148 V V (Jj (Jj (Jj (Jj (Jj (Jj (Jj (Jj (Jn))))))))) V) (Lq (Jb V) (Lq (Jb V) (Lq (JQ V V (wr64 (by omega)) (c:=((k+1:Nat):Int))) (Jg V (JU (Jbj b cp k R jk hk h2 h3 h1 (by omega)) (.n3 V V V) (by decide) .z1 Jx fun _ _ _ q9=>?_))))))))))))))))
 obtain ⟨jk2,rfl,hjk2,rfl,rfl⟩:=q9
 refine Lq (JE V) (Jg V (JN Qq V V V .z1 .z8 (Je (Jf (Jc (JI _ _ [8] (.c 0 0 (.c 1 0 (.c 2 0 (.c 3 0 (.c 4 0 (.c 5 2 (.c 6 2 (.c 7 0 (.c 8 3 .nil))))))))) mixed (fun _ _ _ _ h=>h) (Sk9 (Sd (Sr))) (fun _ h=>h) (by kernel_rfl) (by decide) fun ws Z0=>Qe V (Jb V) (Qe V (Jb V) (Qe V (JE V) (Qe V (Jk Un148 V V (Jj (Jj (Jj (Jj (Jj (Jj (Jj (Jj (Jn))))))))) V) (Qe V (Js (vs:= [_,_]) Un43 V JW V (Jj (Jn)) V V) ?_))))))))))
 refine Jy V V (KF (cs:= [_,_]) Un148 JW (by decide) (by decide) V V V V (by decide) fun b38=> ?_)
 refine ⟨⟨(Sd (Sk9 (Sd (Sr)))),Mm0⟩,?_⟩
 refine Jy V V (KK (news:= [_,_]) Un148 JW V (by decide) V V hU Jn V V (by omega) (by unfold maxLen;omega) (by decide) (DelAt.perm .z10) fun v39 p39 hr39=> ?_)
 obtain ⟨As39,cs39,es39⟩:=hr39.slice
 subst es39
 refine ⟨⟨(Sd2 (Sk9 (Sr))),Mm0⟩,?_⟩
 refine Qe V (JE V) (JK (Ka V V (JN Qq V V V .z .z10 (JJ (Jf (Jc (Ja (Lq (Js (vs:= [_,_]) Un43 V JW V (Jj (Jj (Jj (Jn)))) V V) (Jg V (Jq (cs':= [_,_]) (vs:= [_,_]) JW V V V V V (Nat.le_of_ble_eq_true V) .z9 (Lq (Jd V) (Je (Jf (Jp ?_))))))))))))))
 refine ⟨_,[_,_,_,_,_,_,_,_],[],fun Z w hs=>JT hs Un43 V JW V (Jj (Jj (Jj (Jj (Jj (Jj (Jj (Jj (Jj (Jn)))))))))) V (.tmp V .nil),?_,fun Z w hs=>((((((((hs.pick .z8).pick .z8).pick .z8).pick .z8).pick .z8).pick .z7).pick .z6).pick .z10).out (Sk8 (Sd3 (Sr))) Tt1⟩
 have e:(upF (JZ H on) R U)=(some x,R.eraseIdx k,U++ [x]):=by unfold upF;rw [hpk]
 rw [e]
 have hrow1:Row 43 2 (.slice (some ⟨b,0,none⟩) (R.eraseIdx k).length cp) (R.eraseIdx k).length (Kn idC (R.eraseIdx k)) [(b,JB (Kn idC (R.eraseIdx k)++jk2) 43)] :=⟨Qn, .inr ⟨b,cp,jk2,rfl,rfl,hjk2,by rw [List.length_eraseIdx_of_lt hk];omega,h3⟩⟩
 have hrow2:Row 43 2 (.slice As39 (U.length+1) cs39) (U++ [x]).length (Kn idC (U++ [x])) p39:=by rw [Y4,Xy,List.length_append];exact hr39
 exact ⟨_,_,_,_,hrow2,hrow1,V,V,V⟩
theorem mover_m (h m cap:Nat) (A:Option Addr) (H:Hist) (L:List MR) (hr:HR H L) (bh bo:Nat) (on:Bool) (s:Nat) (vu vr:Value) (pu pr:Part) (U R:List Id2) (hU:Row 43 2 vu U.length (Kn idC U) pu) (hR:Row 43 2 vr R.length (Kn idC R) pr) (hlU:U.length≤100000) (hlR:R.length≤100000):Sp Tryz.prog 90 [.pointer (some ⟨s,1,none⟩), .pointer (some ⟨s,0,none⟩), .func (.func 132) #[] #[.pointer (some ⟨bh,0,none⟩), .pointer (some ⟨bo,0,none⟩)]] [stP s vu vr,pu,pr,chP bh h,cbP bo on,hdP h A H.ops.length cap m H.total,mpP m L,mkP L] [RdF opD A cap H.ops,AllF L nowF] (fun u Lo fs=> ∃vu2 pu2 vr2 pr2,Row 43 2 vu2 (upF (JZ H on) R U).2.2.length (Kn idC (upF (JZ H on) R U).2.2) pu2∧Row 43 2 vr2 (upF (JZ H on) R U).2.1.length (Kn idC (upF (JZ H on) R U).2.1) pr2∧u=upV (upF (JZ H on) R U).1∧Lo= [stP s vu2 vr2,pu2,pr2,chP bh h,cbP bo on,hdP h A H.ops.length cap m H.total,mpP m L,mkP L] ∧fs= []):=by
 cases hpk:pickF (JZ H on) R with
 | none=>exact mover_n h m cap A H L hr bh bo on s vu vr pu pr U R hU hR hlU hlR hpk
 | some kx=>exact Jaw h m cap A H L hr bh bo on s vu vr pu pr U R hU hR hlU hlR kx.1 kx.2 hpk
theorem GR (h:Nat) (on:Bool):Sp Tryz.prog 91 [.pointer (some ⟨h,0,none⟩), .bool on] [] [] (fun u Lo fs=> ∃bh bo:Nat,u= .func (.func 132) #[] #[.pointer (some ⟨bh,0,none⟩), .pointer (some ⟨bo,0,none⟩)] ∧Lo= [chP bh h,cbP bo on] ∧fs= []):=by
 refine Sp.of (n:=6) ⟨_,Tryz.func91,V,V,V,V⟩ (Nat.le_of_ble_eq_true V) fun Ps As=>Jc (Ja (Jg V (J3 (cs:= [_]) V V (by decide) fun b2=>Jg V (J3 (cs:= [_]) V V (by decide) fun b3=>Lq (Jd V) (Je (Jf (Jc (Ja (Lq (V5 (.n2 V V)) (Lq (Jd V) (Je (Jf (Jp ?_)))))))))))))
 refine ⟨_,[_,_],[],fun Z w hs=> .tmp V .nil,?_,fun Z w hs=>((hs.pick .z).pick .z1).out (Sk2 (Sr)) (fun _ h=>h)⟩
 exact ⟨b2,b3,V,V,V⟩
theorem X4 (h m cap:Nat) (A:Option Addr) (H:Hist) (L:List MR) (hr:HR H L) (s:Nat) (vu vr:Value) (pu pr:Part) (U R:List Id2) (hU:Row 43 2 vu U.length (Kn idC U) pu) (hR:Row 43 2 vr R.length (Kn idC R) pr) (hlU:U.length≤100000) (hlR:R.length≤100000):Sp Tryz.prog 56 [.pointer (some ⟨s,0,none⟩), .pointer (some ⟨h,0,none⟩)] [stP s vu vr,pu,pr,hdP h A H.ops.length cap m H.total,mpP m L,mkP L] [RdF opD A cap H.ops,AllF L nowF] (fun u Lo fs=> ∃vu2 pu2 vr2 pr2,Row 43 2 vu2 (upF (JZ H true) U R).2.1.length (Kn idC (upF (JZ H true) U R).2.1) pu2∧Row 43 2 vr2 (upF (JZ H true) U R).2.2.length (Kn idC (upF (JZ H true) U R).2.2) pr2∧u=upV (upF (JZ H true) U R).1∧Lo= [stP s vu2 vr2,pu2,pr2,hdP h A H.ops.length cap m H.total,mpP m L,mkP L] ∧fs= []):=by
 refine Sp.of (n:=20) ⟨_,Tryz.func56,V,V,V,V⟩ (Nat.le_of_ble_eq_true V) fun Ps As=>Jc (Ja (Jg V (Jw (cs:= [_,_]) JW V (by decide) fun b4=>Lq (Jd V) (Je (Jf (Jc (Jc (Ja (Lq (Jb V) (Lq (KR Un31 V V (by simp)) (Je (Jf (Ju V V (Jo (Jf (Jc (JI _ _ [11] (.c 0 0 (.c 1 0 (.c 2 0 (.c 3 0 (.c 4 0 (.c 5 0 (.c 6 0 (.c 7 2 (.c 8 2 (.c 9 0 (.c 10 0 (.c 11 3 (.c 12 1 .nil))))))))))))) mixed (fun _ _ _ _ h=>h) (Sd4 (Sk3 (Sr))) (fun _ h=>h) (by kernel_rfl) (by decide) fun ws Z0=>Qe V (Jb V) ?_)))))))))))))))))
 refine Qe V (JE V) (Qe V (Jh (o':=0) Un150 V Qq V V) (Qe V (Jb V) (Qe V (JE V) (Qe V (Jh (o':=1) Un150 V Qq V V) (Qe V (Jb V) (Jy V V (Jm (GR h true) (.n2 V V) (by decide) Jx fun _ _ _ q9=>?_)))))))
 obtain ⟨bh,bo,rfl,rfl,rfl⟩:=q9
 refine ⟨⟨(Sd6 (Sk3 (Sr))),Mm0⟩,?_⟩
 refine Jy V V (J9 (moveu_m h m cap A H L hr bh bo true s vu vr pu pr U R hU hR hlU hlR) (.n3 V V V) (by decide) (.n8 .z3 .z3 .z3 .z .z .z1 .z1 .z1) (Jl Mm1 (Jl Mm2 Jx)) fun _ _ _ q9=>?_)
 obtain ⟨vu2,pu2,vr2,pr2,hU2,hR2,rfl,rfl,rfl⟩:=q9
 refine ⟨⟨(Sd5 (Sk3 (Sd (Sr)))),Mm0⟩,?_⟩
 refine Qe V (Ji (vs:= [_,_]) V V) (Qe V (Ji (vs:= [_,_]) V V) (JK (Ka V V (Jq (cs':= [_,_]) (vs:= [_,_]) JW V V V V V (Nat.le_of_ble_eq_true V) .z8 (YL V (Jd V) (by decide) (JJ (Jf (Jp ?_))))))))
 refine ⟨_,[_,_,_,_,_,_],[],fun Z w hs=>JT hs Un43 V JW V (Jj (Jj (Jj (Jj (Jj (Jj (Jj (Jj (Jn))))))))) V (.tmp V .nil),?_,fun Z w hs=>hs.out (Sk3 (Sd2 (Sk3 (Sd (Sr))))) Tt1⟩
 exact ⟨vu2,pu2,vr2,pr2,hU2,hR2,V,V,V⟩
theorem X5 (h m cap:Nat) (A:Option Addr) (H:Hist) (L:List MR) (hr:HR H L) (s:Nat) (vu vr:Value) (pu pr:Part) (U R:List Id2) (hU:Row 43 2 vu U.length (Kn idC U) pu) (hR:Row 43 2 vr R.length (Kn idC R) pr) (hlU:U.length≤100000) (hlR:R.length≤100000):Sp Tryz.prog 97 [.pointer (some ⟨s,0,none⟩), .pointer (some ⟨h,0,none⟩)] [stP s vu vr,pu,pr,hdP h A H.ops.length cap m H.total,mpP m L,mkP L] [RdF opD A cap H.ops,AllF L nowF] (fun u Lo fs=> ∃vu2 pu2 vr2 pr2,Row 43 2 vu2 (upF (JZ H false) R U).2.2.length (Kn idC (upF (JZ H false) R U).2.2) pu2∧Row 43 2 vr2 (upF (JZ H false) R U).2.1.length (Kn idC (upF (JZ H false) R U).2.1) pr2∧u=upV (upF (JZ H false) R U).1∧Lo= [stP s vu2 vr2,pu2,pr2,hdP h A H.ops.length cap m H.total,mpP m L,mkP L] ∧fs= []):=by
 refine Sp.of (n:=20) ⟨_,Tryz.func97,V,V,V,V⟩ (Nat.le_of_ble_eq_true V) fun Ps As=>Jc (Ja (Jg V (Jw (cs:= [_,_]) JW V (by decide) fun b4=>Lq (Jd V) (Je (Jf (Jc (Jc (Ja (Lq (Jb V) (Lq (KR Un31 V V (by simp)) (Je (Jf (Ju V V (Jo (Jf (Jc (JI _ _ [11] (.c 0 0 (.c 1 0 (.c 2 0 (.c 3 0 (.c 4 0 (.c 5 0 (.c 6 0 (.c 7 2 (.c 8 2 (.c 9 0 (.c 10 0 (.c 11 3 (.c 12 1 .nil))))))))))))) mixed (fun _ _ _ _ h=>h) (Sd4 (Sk3 (Sr))) (fun _ h=>h) (by kernel_rfl) (by decide) fun ws Z0=>Qe V (Jb V) ?_)))))))))))))))))
 refine Qe V (JE V) (Qe V (Jh (o':=1) Un150 V Qq V V) (Qe V (Jb V) (Qe V (JE V) (Qe V (Jh (o':=0) Un150 V Qq V V) (Qe V (Jb V) (Jy V V (Jm (GR h false) (.n2 V V) (by decide) Jx fun _ _ _ q9=>?_)))))))
 obtain ⟨bh,bo,rfl,rfl,rfl⟩:=q9
 refine ⟨⟨(Sd6 (Sk3 (Sr))),Mm0⟩,?_⟩
 refine Jy V V (J9 (mover_m h m cap A H L hr bh bo false s vu vr pu pr U R hU hR hlU hlR) (.n3 V V V) (by decide) (.n8 .z3 .z3 .z3 .z .z .z1 .z1 .z1) (Jl Mm1 (Jl Mm2 Jx)) fun _ _ _ q9=>?_)
 obtain ⟨vu2,pu2,vr2,pr2,hU2,hR2,rfl,rfl,rfl⟩:=q9
 refine ⟨⟨(Sd5 (Sk3 (Sd (Sr)))),Mm0⟩,?_⟩
 refine Qe V (Ji (vs:= [_,_]) V V) (Qe V (Ji (vs:= [_,_]) V V) (JK (Ka V V (Jq (cs':= [_,_]) (vs:= [_,_]) JW V V V V V (Nat.le_of_ble_eq_true V) .z8 (YL V (Jd V) (by decide) (JJ (Jf (Jp ?_))))))))
 refine ⟨_,[_,_,_,_,_,_],[],fun Z w hs=>JT hs Un43 V JW V (Jj (Jj (Jj (Jj (Jj (Jj (Jj (Jj (Jn))))))))) V (.tmp V .nil),?_,fun Z w hs=>hs.out (Sk3 (Sd2 (Sk3 (Sd (Sr))))) Tt1⟩
 exact ⟨vu2,pu2,vr2,pr2,hU2,hR2,V,V,V⟩
theorem Jbi (s:Nat) (vu vr:Value) (pu pr:Part) (U R:List Id2) (hU:Row 43 2 vu U.length (Kn idC U) pu) (hR:Row 43 2 vr R.length (Kn idC R) pr) (hlU:U.length≤1000000) (hlR:R.length≤1000000) (i0 i1:Int) (hi:1≤i0∧i0≤8∧1≤i1∧i1≤1024) (hnU:(i0,i1)∉U) (hnR:(i0,i1)∉R):Sp Tryz.prog 49 [.pointer (some ⟨s,0,none⟩), .agg #[.int .i64 i0, .int .i64 i1]] [stP s vu vr,pu,pr] [] (fun u Lo fs=> ∃vu2 pu2,Row 43 2 vu2 (U++ [(i0,i1)]).length (Kn idC (U++ [(i0,i1)])) pu2∧u= .int .i64 0∧Lo= [stP s vu2 (.slice none 0 0),pu2,[]] ∧fs= []):=by
 obtain ⟨Au,cu,rfl⟩:=hU.slice
 obtain ⟨Ar,cr,rfl⟩:=hR.slice
 refine Sp.of (n:=50) ⟨_,Tryz.func49,V,V,V,V⟩ (Nat.le_of_ble_eq_true V) fun Ps As=>Jc (Ja (Jg V (J3 (cs:= [_,_]) V V (by decide) fun b3=>Lq (Jd V) (Je (Jf (Jc (Jc (Ja (Lq (Yn (o':=0) Un43 ti3 V V (by decide) (by decide) V) (Lq (Jk Un3 V V Jn V) (Lq (Km V V) (Lq (Jb V) (Lg V V V (decide_eq_false (by omega)) (Yn (o':=0) Un43 ti3 V V (by decide) (by decide) V) ?_)))))))))))))
 refine Lg V V V (decide_eq_false (by omega)) (Jk Un3 V V Jn V) (Lg V V V (decide_eq_false (by omega)) (Kl V V) (Lq (JL V (decide_eq_false (by omega)) V) (Lq (Jb V) (Lg V V V (decide_eq_false (by omega)) (Yn (o':=1) Un43 ti3 V V (by decide) (by decide) V) (Lg V V V (decide_eq_false (by omega)) (Jk Un3 V V Jn V) (Lg V V V (decide_eq_false (by omega)) (Km V V) (Lq (JL V (decide_eq_false (by omega)) V) (Lq (Jb V) (Lg V V V (decide_eq_false (by omega)) (Yn (o':=1) Un43 ti3 V V (by decide) (by decide) V) ?_)))))))))
 refine Lg V V V (decide_eq_false (by omega)) (Jk Un3 V V Jn V) (Lg V V V (decide_eq_false (by omega)) (Kl V V) (Lq (JL V (decide_eq_false (by omega)) V) (Je (Jf (Ju V (decide_eq_false (by omega)) (Jo (Jf (Jc (Jc (JI _ _ [] (.c 0 0 (.c 1 0 (.c 2 0 (.c 3 0 (.c 4 0 (.c 5 2 (.c 6 0 (.c 7 0 (.c 8 0 (.c 9 0 (.c 10 0 (.c 11 0 (.c 12 2 (.c 13 0 .nil)))))))))))))) mixed (fun _ _ _ _ h=>h) (Sk2 (Sd2 (Sr))) (fun _ h=>h) (by kernel_rfl) (by decide) fun ws Z0=>Qe V (Jb V) (Qe V (JE V) (Qe V (Jh (o':=0) Un150 V Qq V V) ?_))))))))))))
 refine Qe V (Jk Un148 V V (Jj (Jn)) V) (Qe V (Js (vs:= [_,_]) Un43 V JW V Jn V V) (Jy V V (JU (Jbk _ _ U hU hlU i0 i1) (.n2 V V) (by decide) .z2 Jx fun _ _ _ q9=>?_)))
 obtain ⟨rfl,rfl,rfl⟩:=q9
 rw [decide_eq_false hnU]
 refine ⟨⟨(Sd (Sk2 (Sd (Sr)))),Mm0⟩,?_⟩
 refine Qe V (Jb V) (Kj V V V V V (Jb V) (by decide) (Kj V V V V V (JE V) (by decide) (Kj V V V V V (Jh (o':=1) Un150 V Qq V V) (by decide) (Kj V V V V V (Jk Un148 V V (Jj (Jn)) V) (by decide) (Kj V V V V V (Js (vs:= [_,_]) Un43 V JW V Jn V V) (by decide) (Qh V V V V V V (JU (Jbk _ _ R hR hlR i0 i1) (.n2 V V) (by decide) .z3 Jx fun _ _ _ q9=>?_)))))))
 obtain ⟨rfl,rfl,rfl⟩:=q9
 rw [decide_eq_false hnR]
 refine ⟨⟨(Sd2 (Sk2 (Sr))),Mm0⟩,?_⟩
 refine Qe V (JL V V V) (JK (JJ (Jf (Ju V V (Jo (Jf (Jc (JI _ _ [10] (.c 0 0 (.c 1 0 (.c 2 0 (.c 3 0 (.c 4 0 (.c 5 0 (.c 6 2 (.c 7 2 (.c 8 0 (.c 9 0 (.c 10 3 .nil))))))))))) mixed (fun _ _ _ _ h=>h) (Sk (Sd (Sk2 (Sr)))) (fun _ h=>h) (by kernel_rfl) (by decide) fun ws Z0=>Qe V (Jb V) (Qe V (Jb V) (Qe V (JE V) (Qe V (Jh (o':=0) Un150 V Qq V V) (Qe V (Jk Un148 V V (Jj (Jj (Jn))) V) (Qe V (Js (vs:= [_,_]) Un43 V JW V (Jj (Jn)) V V) ?_)))))))))))))
 refine Jy V V (KF (cs:= [_,_]) Un148 JW (by decide) (by decide) V V V V (by decide) fun b43=> ?_)
 refine ⟨⟨(Sd (Sk (Sd (Sk2 (Sr))))),Mm0⟩,?_⟩
 refine Jy V V (KK (news:= [_,_]) Un148 JW V (by decide) V V hU Jn V V (by omega) (by unfold maxLen;omega) (by decide) (DelAt.perm .z2) fun v9 p9 hr9=> ?_)
 obtain ⟨As9,cs9,es9⟩:=hr9.slice
 subst es9
 refine ⟨⟨(Sd2 (Sk3 (Sr))),Mm0⟩,?_⟩
 refine Qe V (JE V) (Qe V (Jh (o':=0) Un150 V Qq V V) (JK (Ka V V (JN Qq V V V .z .z4 (JJ (Jf (Jc (Ja (Lq (Jb V) (Lq (JE V) (Lq (Jh (o':=1) Un150 V Qq V V) (Jg V (JN Qq V V V .z1 .z4 (Je (Jf (Jc ?_))))))))))))))))
 refine Kz (Ja (Lq (Jd V) (Je (Jf (Jp ?_)))))
 refine ⟨_,[_,_,_],[],fun Z w hs=> .tmp V .nil,?_,fun Z w hs=>(((hs.pick .z).pick .z1).pick .z5).out (Sk3 (Sd3 (Sr))) Tt2⟩
 have hrow:Row 43 2 (.slice As9 (U.length+1) cs9) (U++ [(i0,i1)]).length (Kn idC (U++ [(i0,i1)])) p9:=by rw [Y4,Xy,List.length_append];exact hr9
 exact ⟨_,p9,hrow,V,V,V⟩
theorem bd154Xg10 (w:World):(Instr.build 150 #[]).run Tryz.prog w= .ok (.agg #[.slice none 0 0, .slice none 0 0]) w:=by kernel_rfl
theorem Hx:Sp Tryz.prog 43 [] [] [] (fun u Lo fs=> ∃s:Nat,u= .pointer (some ⟨s,0,none⟩)∧Lo= [stP s (.slice none 0 0) (.slice none 0 0)] ∧fs= []):=by
 refine Sp.of (n:=3) ⟨_,Tryz.func43,V,V,V,V⟩ (Nat.le_of_ble_eq_true V) fun Ps As=>Jc (Ja (Lq (Jd V) (Je (Jf (Jc (Ja (Lq (JY .nil (bd154Xg10)) (Jg V (J3 (cs:= [_,_]) V V (by decide) fun b2=>Lq (Jd V) (Je (Jf (Jp ?_))))))))))))
 refine ⟨_,[_],[],fun Z w hs=> .tmp V .nil,?_,fun Z w hs=>hs.out (Sk (Sr)) (fun _ h=>h)⟩
 exact ⟨b2,V,V,V⟩
structure DM where
 d:Nat
 h:Nat
 m:Nat
 b:Nat
 s:Nat
 A:Option Addr
 cap:Nat
 B:Option Addr
 t:Tr
 L:List MR
 vu:Value
 vr:Value
 pu:Part
 pr:Part
structure DS where
 u:Int
 cl:Int
 ce:Int
 op:Int
 H:Hist
 X:List Ce
 got:Nat
 made:Nat
 put:List Int
 gap:Nat
 U:List Id2
 R:List Id2
abbrev dkB (M:DM) (D:DS):Part:=dkP M.d M.h M.b D.u D.cl D.ce D.op D.got D.made D.put D.gap M.s
abbrev KH (M:DM) (D:DS):List Part:= [dkB M D,hdP M.h M.A D.H.ops.length M.cap M.m D.H.total,mpP M.m M.L,mkP M.L,rpP M.b M.B,stP M.s M.vu M.vr,M.pu,M.pr]
abbrev KY (M:DM) (D:DS):List Fact:= [RdF opD M.A M.cap D.H.ops,AllF M.L nowF,TrF M.B M.t]
structure DkOk (M:DM) (D:DS):Prop where
 hr:HR D.H M.L
 wt:Wf M.t
 row:M.t.row=D.X
 hU:Row 43 2 M.vu D.U.length (Kn idC D.U) M.pu
 hR:Row 43 2 M.vr D.R.length (Kn idC D.R) M.pr
 di:DI D.H.ops.length D.H D.X
 us:1≤D.u∧D.u≤8
 pl:D.put.length=9
 p0: ∀x∈D.put,0≤x∧x≤4096
 lm:D.ce≤4096∧D.op≤1024∧1≤D.cl∧D.cl≤8
 gp:D.gap≤D.X.length
 rc:D.got≤D.H.ops.length
 md:D.made≤1024
 sl:D.U.length+D.R.length≤D.made
theorem DkOk.xl {M:DM} {D:DS} (ok:DkOk M D):D.X.length≤60000:=by
 have h1:=ok.di.row
 have h2:=ok.di.tot0
 omega
theorem DkOk.tl {M:DM} {D:DS} (ok:DkOk M D):M.t.row.length≤60000:=by rw [ok.row];exact ok.xl
theorem DkOk.n {M:DM} {D:DS} (ok:DkOk M D):D.H.ents.length=D.H.ops.length:=ok.di.len
def DkR (M:DM) (D:DS) (u:Value):Value→List Part→List Fact→Prop:=fun v Lo fs=> ∃M2:DM,M2.d=M.d∧DkOk M2 D∧v=u∧Lo=KH M2 D∧fs=KY M2 D
structure Beh (X:List Ce) (p k:Nat):Prop where
 le:k≤X.length
 ct:J8 (X.take k)=p
 z:p=0→k=0
 at_:0<p→ ∃r,X[k-1]? =some (r,0)
def mkH (D:DS) (o:GOp):Hist:=(putF D.H D.H.ops.length o).1
def mkE (D:DS) (o:GOp):GOp:=(putF D.H D.H.ops.length o).2.1
structure MkD (D:DS) (o:GOp):Prop where
 tk:TkD D.H D.X D.H.ops.length D.H.ops.length o (mkH D o) (mkE D o)
 ops:(mkH D o).ops=D.H.ops++ [o]
 len:(JX (mkE D o) D.X).length=D.X.length+(Jr o).toNat
 di:DI (D.H.ops.length+1) (mkH D o) (JX (mkE D o) D.X)
def putA (D:DS) (c:Int):Int:=D.put.getD c.toNat 0
def insO (D:DS) (k:Nat) (text:ByteArray):GOp:= { zeroOp with c:=D.u,n:=D.made+1,kind:=1,at_:=k,text:=text }
def insD (D:DS) (k:Nat) (text:ByteArray):DS:= { D with H:=mkH D (insO D k text),X:=JX (mkE D (insO D k text)) D.X,made:=D.made+1,put:=D.put.set D.u.toNat (putA D D.u+(utF text).1),gap:=k+(utF text).1.toNat,U:=D.U++ [(D.u,(D.made:Int)+1)],R:= [] }
def hideO (D:DS) (rs:List Rg):GOp:= { zeroOp with c:=D.u,n:=D.made+1,kind:=2,rs:=rs }
def hideD (D:DS) (rs:List Rg) (k:Nat):DS:= { D with H:=mkH D (hideO D rs),X:=JX (mkE D (hideO D rs)) D.X,made:=D.made+1,gap:=k,U:=D.U++ [(D.u,(D.made:Int)+1)],R:= [] }
def statO (D:DS) (id:Id2) (on:Bool):GOp:= { zeroOp with c:=D.u,n:=D.made+1,kind:=4,tc:=id.1,tn:=id.2,on:=on }
def turnGap (gap:Nat) (e:GEn) (on:Bool):Nat:=match e.rs,e.rs.getLast? with
 | r::_,some l=>if (on==(e.kind==1))=true then l.hi.toNat else r.lo.toNat
 | _,_=>gap
def statD (D:DS) (id:Id2) (on:Bool) (j:Nat):DS:= { D with H:=mkH D (statO D id on),X:=JX (mkE D (statO D id on)) D.X,made:=D.made+1,gap:=turnGap D.gap (entryF (mkH D (statO D id on)) j).1 on }
def K4 (D:DS) (o:GOp):DS:= { D with H:=(putF D.H D.got o).1,X:=JX (putF D.H D.got o).2.1 D.X,got:=D.got+1,put:=D.put.set o.c.toNat (putA D o.c+Jr o),gap:=if (putF D.H D.got o).2.1.kind=1∧(putF D.H D.got o).2.1.at_<D.gap then D.gap+(Jr (putF D.H D.got o).2.1).toNat else D.gap }
theorem Beh.zero (X:List Ce):Beh X 0 0:=⟨Nat.zero_le _,by simp [J8],fun _=>rfl,fun h=>absurd h (Nat.lt_irrefl _)⟩
theorem Pth.beh {X:List Ce} {p k:Nat} (h:Pth X p k) (hp:p<J8 X):Beh X (p+1) (k+1):=by
 obtain ⟨r,hr⟩:=h.at_ hp
 have hk:k<X.length:=by
  rcases Nat.lt_or_ge k X.length with h | h
  ·exact h
  ·rw [List.getElem?_eq_none h] at hr;cases hr
 have e:=List.getElem?_eq_getElem hk
 rw [e] at hr
 refine ⟨hk,?_,fun h=>by omega,fun _=>⟨r,by rw [Nat.add_sub_cancel,e,hr]⟩⟩
 rw [List.take_succ_eq_append_getElem hk,Kp,h.ct,Option.some.inj hr]
 rfl
theorem behind_0 (M:DM) (D:DS) (ok:DkOk M D) (p:Nat) (hp:p=0):Sp Tryz.prog 53 [.pointer (some ⟨M.d,0,none⟩), .int .i64 p] [dkB M D,rpP M.b M.B] [TrF M.B M.t] (fun v Lo fs=> ∃k:Nat,Beh D.X p k∧v= .int .i64 k∧Lo= [dkB M D,rpP M.b M.B] ∧fs= []):=by
 have hvl:=KA M.t.row
 have hwt:=ok.wt
 have htl:=ok.tl
 have hrow:=ok.row
 have hpl:=ok.pl
 refine Sp.of (n:=22) ⟨_,Tryz.func53,V,V,V,V⟩ (Nat.le_of_ble_eq_true V) fun Ps As=>Jc (Ja (Lq (Jd V) (Je (Jf (Jc (Jc (Ja (Lq (Jb V) (Lq (Kb V V) (Je (Jf (JS V (by simp;omega) (Jc (Ja (Lq (Jd V) ?_)))))))))))))))
 refine Je (Jf (Jp (Jt ?_)))
 refine ⟨_,[_,_],[],fun Z w hs=> .tmp V .nil,?_,fun Z w hs=>hs.out (Sk2 (Sr)) (fun _ h=>h)⟩
 subst hp
 exact ⟨0,Beh.zero _,V,V,V⟩
theorem behind_1 (M:DM) (D:DS) (ok:DkOk M D) (q p:Nat) (hq:p=q+1) (hp:p≤J8 D.X):Sp Tryz.prog 53 [.pointer (some ⟨M.d,0,none⟩), .int .i64 p] [dkB M D,rpP M.b M.B] [TrF M.B M.t] (fun v Lo fs=> ∃k:Nat,Beh D.X p k∧v= .int .i64 k∧Lo= [dkB M D,rpP M.b M.B] ∧fs= []):=by
 have hvl:=KA M.t.row
 have hwt:=ok.wt
 have htl:=ok.tl
 have hrow:=ok.row
 have hpl:=ok.pl
 have hvx:J8 M.t.row=J8 D.X:=by rw [hrow]
 refine Sp.of (n:=22) ⟨_,Tryz.func53,V,V,V,V⟩ (Nat.le_of_ble_eq_true V) fun Ps As=>Jc (Ja (Lq (Jd V) (Je (Jf (Jc (Jc (Ja (Lq (Jb V) (Lq (Kb V V) (Je (Jf (Ju V (by simp;omega) (Jo (Jf (Jc (Ja (Lq (Jb V) ?_)))))))))))))))))
 refine Lq (JE V) (Lq (Jh (o':=0) Un40 V YF V V) (Lq (Jh (o':=1) Un34 V Ef V V) (Lq (Jk Un32 V V Jn V) (Lq (Jb V) (Lq (KG V V (by rw [wr64 (by omega)];omega) (c:=((q:Nat):Int))) (Jg V (JU (totalOf_g M.b M.B M.t hwt (by omega) q (by omega)) (.n2 V V) (by decide) .z1 (Jl Mm0 Jx) fun _ _ _ q9=>?_)))))))
 obtain ⟨k,hk,rfl,rfl,rfl⟩:=q9
 have hkl:=hk.le
 refine Lq (Jb V) (Lq (Ji (vs:= [_,_]) V V) (Lq (Ji (vs:= [_,_]) V V) (Lq (Jd V) (Lq (Jd V) (Je (Jf (Jc (Ja (Lq (Jb V) (Lq (JQ V V (wr64 (by omega)) (c:=((k+1:Nat):Int))) (Lq (Jd V) (Je (Jf (Jp ?_))))))))))))))
 refine ⟨_,[_,_],[],fun Z w hs=> .tmp V .nil,?_,fun Z w hs=>((hs.pick .z).pick .z1).out (Sk2 (Sr)) (fun _ h=>h)⟩
 rw [hrow] at hk
 exact ⟨k+1,by subst hq;exact hk.beh (by omega),V,V,V⟩
theorem E0 (M:DM) (D:DS) (ok:DkOk M D) (p:Nat) (hp:p≤J8 D.X):Sp Tryz.prog 53 [.pointer (some ⟨M.d,0,none⟩), .int .i64 p] [dkB M D,rpP M.b M.B] [TrF M.B M.t] (fun v Lo fs=> ∃k:Nat,Beh D.X p k∧v= .int .i64 k∧Lo= [dkB M D,rpP M.b M.B] ∧fs= []):=by
 cases p with
 | zero=>exact behind_0 M D ok 0 rfl
 | succ q=>exact behind_1 M D ok q (q+1) rfl hp
theorem dkl17 {a b u cl ce op rec made x y:Value} {put:List Int} (h:put.length=9):17<(a::b::u::cl::ce::op::rec::made::(ints .i64 put++ [x,y])).length:=by
 have:(ints .i64 put).length=9:=by unfold ints;rw [List.length_map];exact h
 simp [this]
def gapD (D:DS) (k:Nat):DS:= { D with gap:=k }
theorem DkOk.gap {M:DM} {D:DS} (ok:DkOk M D) {k:Nat} (h:k≤D.X.length):DkOk M (gapD D k):=⟨ok.hr,ok.wt,ok.row,ok.hU,ok.hR,ok.di,ok.us,ok.pl,ok.p0,ok.lm,h,ok.rc,ok.md,ok.sl⟩
def RefO (M:DM) (D:DS):Value→List Part→List Fact→Prop:=fun v Lo fs=> ∃e,FltV e∧v= .tuple #[opV zeroOp none 0,e] ∧Lo=KH M D∧fs= []
theorem move_0 (M:DM) (D:DS) (ok:DkOk M D) (p:Nat) (hp:p≤J8 D.X):Sp Tryz.prog 63 [.pointer (some ⟨M.d,0,none⟩), .int .i64 p] (KH M D) (barF::KY M D) (fun v Lo fs=> ∃k,Beh D.X p k∧DkOk M (gapD D k)∧v= .nilIface∧Lo=KH M (gapD D k)∧fs= []):=by
 have hvl:=KA M.t.row
 have hwt:=ok.wt
 have htl:=ok.tl
 have hrow:=ok.row
 have hpl:=ok.pl
 refine Sp.ofD (n:=15) ⟨_,Tryz.func63,V,V,V,V⟩ (Nat.le_of_ble_eq_true V) fun Ps As=>Ja (Jg V (Jw (cs:= [_]) YE V (by decide) fun b4=>Je ?_))
 refine ⟨V,_,_,_,_,_,catch_Move b4,DefReg.mk (.n1 V) (by decide),?_⟩
 refine Jc (Ja (JR (Jb V) (dl V) (JR (Jb V) (dl V) (Jg V (KE (place_0 M.d M.h M.b _ _ _ _ _ _ _ _ _ M.B M.t hwt _ p (by rw [hrow];omega)) (.n3 V V V) (by first | exact dl V | decide) .z1 .z4 (Jl Mm3 Jx) fun _ _ _ q9=>?_)))))
 obtain ⟨rfl,rfl,rfl⟩:=q9
 refine Je (Jf (Jc (Ja (JR (Jb V) (dl V) (JR (Jb V) (dl V) (JR (Jb V) (dl V) (Jg V (KE (E0 M D ok p hp) (.n2 V V) (by first | exact dl V | decide) .z .z (Jl Mm3 Jx) fun _ _ _ q9=>?_))))))))
 obtain ⟨k,hk,rfl,rfl,rfl⟩:=q9
 refine JR (JE V) (dl V) (JR (Jh (o':=17) Un40 V ti3 V V) (dl V) (Jg V (Yf ti3 V V V (dkl17 hpl) .z ?_)))
 rw [dkset17 hpl]
 refine Je (Jf (Jc (Ja (Jg V (JN YE V V V .z .z2 (Je (Jf (Jp ?_))))))))
 refine ⟨_,[_,_,_,_,_,_,_,_],[],fun Z w hs=>K1 hs Un49 V V (Jj (Jj (Jn))) V .nil,?_,fun Z w hs=>((((((((hs.pick .z8).pick .z8).pick .z8).pick .z4).pick .z8).pick .z8).pick .z8).pick .z7).out (Sk8 (Sd (Sr))) (fun _ h=>h)⟩
 exact ⟨k,hk,ok.gap hk.le,V,V,V⟩
theorem Gv (put:List Int):(ints .i64 put).length=put.length:=by unfold ints;rw [List.length_map]
theorem dkput {a b u cl ce op rec made x y:Value} {put:List Int} {c:Nat} (h:put.length=9) (hc:c<9):(a::b::u::cl::ce::op::rec::made::(ints .i64 put++ [x,y]))[8+c]? =some (.int .i64 (put.getD c 0)):=by
 have e:(a::b::u::cl::ce::op::rec::made::(ints .i64 put++ [x,y]))[8+c]? =(ints .i64 put++ [x,y])[c]? :=by rw [Nat.add_comm];rfl
 rw [e,List.getElem?_append_left (by rw [Gv];omega)]
 unfold ints
 rw [List.getElem?_map,List.getD_eq_getElem?_getD,List.getElem?_eq_getElem (by omega)];rfl
theorem dklc {a b u cl ce op rec made x y:Value} {put:List Int} {c:Nat} (h:put.length=9) (hc:c<9):8+c<(a::b::u::cl::ce::op::rec::made::(ints .i64 put++ [x,y])).length:=by
 have:=Gv put
 simp [this];omega
theorem dksetc {a b u cl ce op rec made x y:Value} {put:List Int} {c:Nat} {v:Int} (h:put.length=9) (hc:c<9):(a::b::u::cl::ce::op::rec::made::(ints .i64 put++ [x,y])).set (8+c) (.int .i64 v)=a::b::u::cl::ce::op::rec::made::(ints .i64 (put.set c v)++ [x,y]):=by
 have e:(a::b::u::cl::ce::op::rec::made::(ints .i64 put++ [x,y])).set (8+c) (.int .i64 v)=a::b::u::cl::ce::op::rec::made::(ints .i64 put++ [x,y]).set c (.int .i64 v):=by rw [Nat.add_comm];rfl
 rw [e,List.set_append_left _ _ (by rw [Gv];omega)]
 unfold ints;rw [List.map_set]
theorem DkOk.mk_ {M M2:DM} {D D2:DS} (ok:DkOk M D) (hr:HR D2.H M2.L) (wt:Wf M2.t) (row:M2.t.row=D2.X) (hU:Row 43 2 M2.vu D2.U.length (Kn idC D2.U) M2.pu) (hR:Row 43 2 M2.vr D2.R.length (Kn idC D2.R) M2.pr) (di:DI D2.H.ops.length D2.H D2.X) (us:D2.u=D.u) (lm:D2.ce=D.ce∧D2.op=D.op∧D2.cl=D.cl) (pl:D2.put.length=9) (p0: ∀x∈D2.put,0≤x∧x≤4096) (gp:D2.gap≤D2.X.length) (rc:D2.got≤D2.H.ops.length) (md:D2.made≤1024) (sl:D2.U.length+D2.R.length≤D2.made):DkOk M2 D2:=
 ⟨hr,wt,row,hU,hR,di,us ▸ ok.us,pl,p0,by rw [lm.1,lm.2.1,lm.2.2];exact ok.lm,gp,rc,md,sl⟩
theorem Xh {D:DS} {c:Nat} {v:Int} (h0: ∀x∈D.put,0≤x∧x≤4096) (hv:0≤v∧v≤4096): ∀x∈D.put.set c v,0≤x∧x≤4096:=fun x hx=>by
 rcases List.mem_or_eq_of_mem_set hx with hx | rfl
 ·exact h0 x hx
 ·exact hv
theorem bd49_1Xg12 (x1_:Int) (w:World):(Instr.build 58 #[(1, .int .i64 x1_)]).run Tryz.prog w= .ok (.agg #[.int .i64 0, .int .i64 0, .int .i64 x1_]) w:=by kernel_rfl
theorem bd52_0_1_2Xg12 (x0_0a0:Int) (x0_0a1:Int) (x0_1:Int) (x1_:Int) (x2_:ByteArray) (w:World):(Instr.build 60 #[(0, .agg #[.int .i64 x0_0a0, .int .i64 x0_0a1, .int .i64 x0_1]),(1, .int .i64 x1_),(2, .string x2_)]).run Tryz.prog w= .ok (.agg #[.int .i64 x0_0a0, .int .i64 x0_0a1, .int .i64 x0_1, .int .i64 x1_, .string x2_, .slice none 0 0, .int .i64 0, .int .i64 0, .bool false]) w:=by kernel_rfl
theorem insert_0 (M:DM) (D:DS) (ok:DkOk M D) (p:Nat) (hp:p≤J8 D.X) (text:ByteArray) (hts:text.size≤1048576) (hu:(utF text).2.2=0) (hu1:1≤(utF text).1∧(utF text).1≤256) (hmd:(D.made:Int)<D.op) (hce:putA D D.u+(utF text).1≤D.ce) (hmk: ∀k,Pth D.X p k→MkD D (insO D k text)) (hnU:(D.u,(D.made:Int)+1)∉D.U) (hnR:(D.u,(D.made:Int)+1)∉D.R):Sp Tryz.prog 18 [.pointer (some ⟨M.d,0,none⟩), .int .i64 p, .string text] (KH M D) (barF::KY M D) (fun v Lo fs=> ∃(k:Nat) (M2:DM),Pth D.X p k∧M2.d=M.d∧DkOk M2 (insD D k text)∧v= .tuple #[opV (insO D k text) none 0, .nilIface] ∧Lo=KH M2 (insD D k text)∧fs=KY M2 (insD D k text)):=by
 have hvl:=KA M.t.row
 have hwt:=ok.wt
 have htl:=ok.tl
 have hrow:=ok.row
 have hpl:=ok.pl
 have hr:=ok.hr
 have hdi:=ok.di
 have hus:=ok.us
 have hlm:=ok.lm
 have hmd2:=ok.md
 have hsl:=ok.sl
 have hxl:=ok.xl
 have hpu:0≤putA D D.u∧putA D D.u≤4096:=by
  unfold putA
  rw [List.getD_eq_getElem?_getD,List.getElem?_eq_getElem (by omega)]
  exact ok.p0 _ (List.getElem_mem _)
 refine Sp.ofD (n:=105) ⟨_,Tryz.func18,V,V,V,V⟩ (Nat.le_of_ble_eq_true V) fun Ps As=>Ja (Jg V (Jw (cs:= [_,_,_,_,_,_,_,_,_]) JA V (by decide) fun b6=>Jg V (Jw (cs:= [_]) YE V (by decide) fun b7=>Je ?_)))
 refine ⟨V,_,_,_,_,_,catch_Insert b6 b7,DefReg.mk (.n2 V V) (by decide),?_⟩
 refine Jc (Ja (JR (Jb V) (dl V) (JR (Jb V) (dl V) (Jg V (KE (place_0 M.d M.h M.b _ _ _ _ _ _ _ _ _ M.B M.t hwt _ p (by rw [hrow];omega)) (.n3 V V V) (by first | exact dl V | decide) .z2 .z5 (Jl Mm3 Jx) fun _ _ _ q9=>?_)))))
 obtain ⟨rfl,rfl,rfl⟩:=q9
 refine Je (Jf (Jc (Ja (JR (Jb V) (dl V) (Jg V (Jm (VK text (by omega)) (.n1 V) (by first | exact dl V | decide) (Jl Mm0 Jx) fun _ _ _ q9=>?_))))))
 obtain ⟨rfl,rfl,rfl⟩:=q9
 rw [hu]
 refine JR (Jb V) (dl V) (JR (Ji (vs:= [_,_,_]) V V) (dl V) (JR (Ji (vs:= [_,_,_]) V V) (dl V) (JR (Ji (vs:= [_,_,_]) V V) (dl V) (JR (Jd V) (dl V) (JR (Jd V) (dl V) (JR (Jd V) (dl V) (Je (Jf (Jc (Ja (JR (Jb V) (dl V) (JR (Jb V) (dl V) ?_))))))))))))
 refine Jg V (Jm (give_0 _ _) (.n3 V V V) (by first | exact dl V | decide) Jx fun _ _ _ q9=>?_)
 obtain ⟨rfl,rfl,rfl⟩:=q9
 refine Je (Jf (Jc (JD (Jc (Ja (JR (Jb V) (dl V) (JR (Kb V V) (dl V) (JR (Jd V) (dl V) (Je (Jf (Ju V (by simp;omega) (Jc (Ja (JR (Jb V) (dl V) (JR (Kl V V) (dl V) (JR (Jd V) (dl V) ?_))))))))))))))))
 refine Je (Jf (Ju V (by simp;omega) (Jo (J7 (Jf (Jc (Ja (JR (Jb V) (dl V) (JR (Jb V) (dl V) (Jg V (JU (room_0 M.d M.h M.b _ _ _ _ _ _ _ _ _ _ p hmd) (.n3 V V V) (by first | exact dl V | decide) .z Jx fun _ _ _ q9=>?_)))))))))))
 obtain ⟨rfl,rfl,rfl⟩:=q9
 refine Je (Jf (Jc (Jc (Y1 (JI _ _ [] (.c 0 0 (.c 1 0 (.c 2 0 (.c 3 0 (.c 4 0 (.c 5 0 (.c 6 0 (.c 7 0 (.c 8 0 (.c 9 0 (.c 10 0 (.c 11 0 (.c 12 0 (.c 13 0 (.c 14 0 (.c 15 0 (.c 16 0 .nil))))))))))))))))) mixed (fun _ _ _ _ h=>h) (Sk10 (Sr)) (fun _ h=>h) (by kernel_rfl) (by first | exact dl V | decide) fun ws Z0=>JP V (Jb V) (dl V) (JP V (Jb V) (dl V) (JP V (JE V) (dl V) (JP V (Jh (o':=2) Un40 V ti3 V V) (dl V) (JP V (Jk Un3 V V Jn V) (dl V) (JP V (JE V) (dl V) ?_))))))))))
 refine JP V (Jh (o':=8) Un40 V EA V V) (dl V) (JP V (Yn (o':=8+D.u.toNat) Un37 ti3 V V (by omega) (by omega) (by omega)) (dl V) (JP V (Jk (v:= .int .i64 (D.put.getD D.u.toNat 0)) Un3 V V Jn (dkput hpl (by omega))) (dl V) (JP V (Jb V) (dl V) (JP V (JQ V V (wr64 (by have:=hpu;unfold putA at this;omega))) (dl V) (JP V (Jb V) (dl V) (JP V (JE V) (dl V) (JP V (Jh (o':=3) Un40 V Ee V V) (dl V) (JP V (Jh (o':=4) Un36 V ti3 V V) (dl V) (JP V (Jk Un3 V V Jn V) (dl V) ?_)))))))))
 refine JP V (Kl V V) (dl V) (JK (JJ (Jf (Ju V (by simp;exact hce) (Jo (Jf (Jc (Ja (JR (Jb V) (dl V) (JR (JE V) (dl V) (JR (Jh (o':=0) Un40 V YF V V) (dl V) (JR (Jh (o':=1) Un34 V Ef V V) (dl V) (JR (Jk Un32 V V Jn V) (dl V) ?_)))))))))))))
 refine JR (Jb V) (dl V) (Jg V (JU (totalOf_g M.b M.B M.t hwt (by omega) p (by rw [hrow];exact hp)) (.n2 V V) (by first | exact dl V | decide) .z1 (Jl Mm4 Jx) fun _ _ _ q9=>?_))
 obtain ⟨k,hk,rfl,rfl,rfl⟩:=q9
 rw [hrow] at hk
 replace hmk:=hmk k hk
 have hkl:=hk.le
 refine JR (Jb V) (dl V) (JR (Ji (vs:= [_,_]) V V) (dl V) (JR (Ji (vs:= [_,_]) V V) (dl V) (JR (Jd V) (dl V) (JR (Jd V) (dl V) (Je (Jf (Jc (Ja (JR (Jb V) (dl V) (JR (Jb V) (dl V) (Jg V (Jm (give_0 _ _) (.n3 V V V) (by first | exact dl V | decide) Jx fun _ _ _ q9=>?_))))))))))))
 obtain ⟨rfl,rfl,rfl⟩:=q9
 refine Je (Jf (Jc (Kc (A:=RdF rgD none 0 []) (fun Z w _=>RdS.nil _ Z w) (Ja (JR (Jb V) (dl V) (JR (JY (.n1 V) (bd49_1Xg12 _)) (dl V) (JR (Jb V) (dl V) (JR (Jb V) (dl V) (JR (JY (.n3 V V V) (bd52_0_1_2Xg12 _ _ _ _ _)) (dl V) ?_)))))))))
 refine Jg rfl (J9 (Eo M.d M.h M.m M.b _ _ _ _ _ _ _ _ _ D.H M.L M.A M.cap M.B M.t D.H.ops.length D.X { zeroOp with kind:=1,at_:=k,text:=text } none 0 (mkH D (insO D k text)) (mkE D (insO D k text)) hr hwt hrow hdi hmk.tk (by omega)) (.n2 rfl rfl) (by first | exact dl rfl | decide) (.n5 .z1 .z3 .z3 .z3 .z) (Jl Mm2 (Jl Mm3 (Jl Mm4 (Jl Mm5 (Jl Mm0 Jx))))) fun _ _ _ q9=>?_)
 obtain ⟨L2,A2,cap2,B2,t2,rfl,hr2,wt2,hX2,rfl,rfl⟩:=q9
 have hn2:(mkH D (insO D k text)).ops.length=D.H.ops.length+1:=by rw [hmk.ops];simp
 refine Jg V (Jq (cs':= [_,_,_,_,_,_,_,_,_]) (vs:= [_,_,_,_,_,_,_,_,_]) JA V V V V V (Nat.le_of_ble_eq_true V) .z6 (Je (Jf (Jc (Y1 (JI _ _ [14] (.c 0 0 (.c 1 0 (.c 2 0 (.c 3 0 (.c 4 0 (.c 5 0 (.c 6 0 (.c 7 0 (.c 8 0 (.c 9 0 (.c 10 0 (.c 11 0 (.c 12 0 (.c 13 0 (.c 14 3 .nil))))))))))))))) mixed (fun _ _ _ _ h=>h) (Sk10 (Sr)) (fun _ h=>h) (by kernel_rfl) (by first | exact dl V | decide) fun ws Z0=>JP V (Jb V) (dl V) (JP V (Jb V) (dl V) (JP V (JE V) (dl V) ?_))))))))
 refine JP V (Jh (o':=2) Un40 V ti3 V V) (dl V) (JP V (Jk Un3 V V Jn V) (dl V) (JP V (JE V) (dl V) (JP V (Jh (o':=8) Un40 V EA V V) (dl V) (JP V (Yn (o':=8+D.u.toNat) Un37 ti3 V V (by omega) (by omega) (by omega)) (dl V) (JP V (Jk (v:= .int .i64 (D.put.getD D.u.toNat 0)) Un3 V V Jn (dkput hpl (by omega))) (dl V) (JP V (Jb V) (dl V) (JP V (JQ V V (wr64 (by have:=hpu;unfold putA at this;omega)) (c:=putA D D.u+(utF text).1)) (dl V) (JP V (JE V) (dl V) (JP V (Jh (o':=8) Un40 V EA V V) (dl V) ?_)))))))))
 refine JP V (Yn (o':=8+D.u.toNat) Un37 ti3 V V (by omega) (by omega) (by omega)) (dl V) (JK (Ka V V (Yf ti3 V V V (dklc hpl (by omega)) .z ?_)))
 rw [dksetc hpl (by omega)]
 refine JJ (Jf (Jc (Y1 (JI _ _ [] (.c 0 0 (.c 1 0 (.c 2 0 (.c 3 0 (.c 4 0 (.c 5 0 (.c 6 0 (.c 7 2 .nil)))))))) mixed (fun _ _ _ _ h=>h) (Sk7 (Sd3 (Sr))) (fun _ h=>h) (by kernel_rfl) (by first | exact dl V | decide) fun ws Z0=>JP V (Jb V) (dl V) (JP V (JE V) (dl V) (JP V (Jh (o':=18) Un40 V HX V V) (dl V) (JP V (Jk Un38 V V Jn (dk18 (by rw [List.length_set];exact hpl))) (dl V) (JP V (Jh (o':=0) Un60 V KM V V) (dl V) ?_))))))))
 refine JP V (Jh (o':=0) Un58 V JW V V) (dl V) (JP V (Js (vs:= [_,_]) Un43 V JW V (Jj (Jj (Jj (Jj (Jj (Jj (Jn))))))) V V) (dl V) (Jy V V (Kv (Jbi M.s M.vu M.vr M.pu M.pr D.U D.R ok.hU ok.hR (by omega) (by omega) D.u ((D.made:Int)+1) (by omega) hnU hnR) (.n2 V V) (by first | exact dl V | decide) .z7 .z7 .z7 Jx fun _ _ _ q9=>?_)))
 obtain ⟨vu2,pu2,hU2,rfl,rfl,rfl⟩:=q9
 refine ⟨⟨(Sd3 (Sk7 (Sr))),Mm0⟩,?_⟩
 refine JK (JJ (Jf (Jc (Ja (JR (Jb V) (dl V) (JR (Jb V) (dl V) (JR (Jb V) (dl V) (JR (JQ V V (by rw [wr64 (by omega)];omega) (c:=((k+(utF text).1.toNat:Nat):Int))) (dl V) (JR (JE V) (dl V) (JR (Jh (o':=17) Un40 V ti3 V V) (dl V) (Jg V (Yf ti3 V V V (dkl17 (by rw [List.length_set];exact hpl)) .z3 ?_))))))))))))
 rw [dkset17 (by rw [List.length_set];exact hpl)]
 refine Je (Jf (JG [(7,_),(6,_)] (.m2 V V) (Jc (Ja (JR (Js (vs:= [_,_,_,_,_,_,_,_,_]) Un60 V JA V (Jj (Jj (Jj (Jj (Jj (Jj (Jj (Jj (Jj (Jn)))))))))) V V) (dl V) (Jg V (Jq (cs':= [_,_,_,_,_,_,_,_,_]) (vs:= [_,_,_,_,_,_,_,_,_]) JA V V V V V (Nat.le_of_ble_eq_true V) .z9 (Jg V (JN YE V V V .z .z8 (Je (Jf (Jp ?_))))))))))))
 refine ⟨_,[_,_,_,_,_,_,_,_],[_,_,_],fun Z w hs=>JT hs Un60 V JA V (Jj (Jj (Jj (Jj (Jj (Jj (Jj (Jj (Jj (Jn)))))))))) V (K1 hs Un49 V V (Jj (Jj (Jj (Jj (Jj (Jj (Jj (Jj (Jn))))))))) V .nil),?_,fun Z w hs=>((((((((hs.pick .z2).pick .z2).pick .z2).pick .z7).pick .z7).pick .z7).pick .z7).pick .z7).out (Sk8 (Sd2 (Sr))) (Jl Mm2 (Jl Mm3 (Jl Mm4 Tt7)))⟩
 have hw:(Jr (insO D k text)).toNat=(utF text).1.toNat:=by unfold Jr;rw [if_pos (show (insO D k text).kind=1 from rfl)];rfl
 have hlen:=hmk.len
 have hok2:DkOk ⟨M.d,M.h,M.m,M.b,M.s,A2,cap2,B2,t2,L2,vu2, .slice none 0 0,pu2,[]⟩ (insD D k text):=ok.mk_ hr2 wt2 hX2 hU2 (Row.nil _ _) (by show DI (mkH D (insO D k text)).ops.length _ _;rw [hn2];exact hmk.di) rfl ⟨rfl,rfl,rfl⟩ (by show (D.put.set _ _).length=9;rw [List.length_set];exact hpl) (Xh ok.p0 (by omega)) (by show k+_≤(JX (mkE D (insO D k text)) D.X).length;omega) (by show D.got≤(mkH D (insO D k text)).ops.length;have:=ok.rc;omega) (by show D.made+1≤1024;omega) (by show (D.U++ [_]).length+0≤D.made+1;simp;omega)
 refine ⟨k,_,hk,?_,hok2,V,V,V⟩
 rfl
theorem bd49_1Xg13 (x1_:Int) (w:World):(Instr.build 58 #[(1, .int .i64 x1_)]).run Tryz.prog w= .ok (.agg #[.int .i64 0, .int .i64 0, .int .i64 x1_]) w:=by kernel_rfl
theorem bd52_0_3Xg13 (x0_0a0:Int) (x0_0a1:Int) (x0_1:Int) (x3_A:Option Addr) (x3_n x3_c:Nat) (w:World):(Instr.build 60 #[(0, .agg #[.int .i64 x0_0a0, .int .i64 x0_0a1, .int .i64 x0_1]),(3, .slice x3_A x3_n x3_c)]).run Tryz.prog w= .ok (.agg #[.int .i64 x0_0a0, .int .i64 x0_0a1, .int .i64 x0_1, .int .i64 0, .string ⟨#[]⟩, .slice x3_A x3_n x3_c, .int .i64 0, .int .i64 0, .bool false]) w:=by kernel_rfl
theorem delete_0 (M:DM) (D:DS) (ok:DkOk M D) (p n:Nat) (hn0:0<n) (hpn:p+n≤J8 D.X) (hmd:(D.made:Int)<D.op) (hmk: ∀xs,VisR p n D.X xs→MkD D (hideO D xs)∧p≤J8 (JX (mkE D (hideO D xs)) D.X)) (hnU:(D.u,(D.made:Int)+1)∉D.U) (hnR:(D.u,(D.made:Int)+1)∉D.R):Sp Tryz.prog 19 [.pointer (some ⟨M.d,0,none⟩), .int .i64 p, .int .i64 n] (KH M D) (barF::KY M D) (fun v Lo fs=> ∃(xs:List Rg) (k:Nat) (M2:DM) (A9:Option Addr) (c9:Nat),VisR p n D.X xs∧Beh (JX (mkE D (hideO D xs)) D.X) p k∧M2.d=M.d∧DkOk M2 (hideD D xs k)∧v= .tuple #[opV (hideO D xs) A9 c9, .nilIface] ∧Lo=KH M2 (hideD D xs k)∧fs=KY M2 (hideD D xs k)++ [RdF rgD A9 c9 xs]):=by
 have hvl:=KA M.t.row
 have hwt:=ok.wt
 have htl:=ok.tl
 have hrow:=ok.row
 have hpl:=ok.pl
 have hr:=ok.hr
 have hdi:=ok.di
 have hus:=ok.us
 have hlm:=ok.lm
 have hmd2:=ok.md
 have hsl:=ok.sl
 have hxl:=ok.xl
 have hpu:0≤putA D D.u∧putA D D.u≤4096:=by
  unfold putA
  rw [List.getD_eq_getElem?_getD,List.getElem?_eq_getElem (by omega)]
  exact ok.p0 _ (List.getElem_mem _)
 have hvx:=KA D.X
 refine Sp.ofD (n:=68) ⟨_,Tryz.func19,V,V,V,V⟩ (Nat.le_of_ble_eq_true V) fun Ps As=>Ja (Jg V (Jw (cs:= [_,_,_,_,_,_,_,_,_]) JA V (by decide) fun b6=>Jg V (Jw (cs:= [_]) YE V (by decide) fun b7=>Je ?_)))
 refine ⟨V,_,_,_,_,_,catch_Delete b6 b7,DefReg.mk (.n2 V V) (by decide),?_⟩
 refine Jc (Ja (JR (Jb V) (dl V) (JR (Jb V) (dl V) (Jg V (KE (place_0 M.d M.h M.b _ _ _ _ _ _ _ _ _ M.B M.t hwt _ p (by rw [hrow];omega)) (.n3 V V V) (by first | exact dl V | decide) .z2 .z5 (Jl Mm3 Jx) fun _ _ _ q9=>?_)))))
 obtain ⟨rfl,rfl,rfl⟩:=q9
 refine Je (Jf (Jc (Jc (Ja (JR (Jb V) (dl V) (JR (Jb V) (dl V) (JR (JE V) (dl V) (JR (Jh (o':=0) Un40 V YF V V) (dl V) (Jg V (KE (Xs M.d M.h M.b _ _ M.B M.t hwt) (.n1 V) (by first | exact dl V | decide) .z .z (Jl Mm3 Jx) fun _ _ _ q9=>?_))))))))))
 obtain ⟨rfl,rfl,rfl⟩:=q9
 refine JR (Jb V) (dl V) (JR (KG V V (wr64 (by rw [hrow];omega)) (c:=(J8 M.t.row:Int)-p)) (dl V) (Jg V (Jm (Qp _ _ _) (.n3 V V V) (by first | exact dl V | decide) Jx fun _ _ _ q9=>?_)))
 obtain ⟨rfl,rfl,rfl⟩:=q9
 refine JR (KU V) (dl V) (Je (Jf (Ju V (by rw [hrow,decide_eq_true (by omega)];rfl) (Jo (Jf (Jc (Jc (Ja (JR (Jb V) (dl V) (JR (Kb V V) (dl V) (Je (Jf (Ju V (by simp;omega) (Jo (Jf (Jc (Ja (JR (Jb V) (dl V) ?_))))))))))))))))))
 refine JR (Jb V) (dl V) (Jg V (JU (room_0 M.d M.h M.b _ _ _ _ _ _ _ _ _ _ p hmd) (.n3 V V V) (by first | exact dl V | decide) .z Jx fun _ _ _ q9=>?_))
 obtain ⟨rfl,rfl,rfl⟩:=q9
 refine Je (Jf (Jc (Ja (JR (Jb V) (dl V) (JR (JE V) (dl V) (JR (Jh (o':=0) Un40 V YF V V) (dl V) (JR (Jh (o':=1) Un34 V Ef V V) (dl V) (JR (Jk Un32 V V Jn V) (dl V) (JR (Jb V) (dl V) (JR (Jb V) (dl V) (JR (Jb V) (dl V) (JR (JQ V V (wr64 (by omega)) (c:=((p+n:Nat):Int))) (dl V) ?_))))))))))))
 refine Jg V (JU (HM M.b M.B M.t hwt htl p n (by rw [hrow];exact hpn)) (.n3 V V V) (by first | exact dl V | decide) .z1 (Jl Mm3 Jx) fun _ _ _ q9=>?_)
 obtain ⟨A9,c9,xs,hV,rfl,rfl,rfl⟩:=q9
 rw [hrow] at hV
 obtain ⟨hmk,hp2⟩:=hmk xs hV
 refine JR (Jb V) (dl V) (JR (Ji (vs:= [_,_]) V V) (dl V) (JR (Ji (vs:= [_,_]) V V) (dl V) (JR (Jd V) (dl V) (JR (Jd V) (dl V) (Je (Jf (Jc (Ja (JR (Jb V) (dl V) (JR (Jb V) (dl V) (Jg V (Jm (give_0 _ _) (.n3 V V V) (by first | exact dl V | decide) Jx fun _ _ _ q9=>?_))))))))))))
 obtain ⟨rfl,rfl,rfl⟩:=q9
 refine Je (Jf (Jc (Ja (JR (Jb rfl) (dl rfl) (JR (JY (.n1 rfl) (bd49_1Xg13 _)) (dl rfl) (JR (Jb rfl) (dl rfl) (JR (JY (.n2 rfl rfl) (bd52_0_3Xg13 _ _ _ _ _ _)) (dl rfl) (Jg rfl (J9 (Eo M.d M.h M.m M.b _ _ _ _ _ _ _ _ _ D.H M.L M.A M.cap M.B M.t D.H.ops.length D.X { zeroOp with kind:=2,rs:=xs } A9 c9 (mkH D (hideO D xs)) (mkE D (hideO D xs)) hr hwt hrow hdi hmk.tk (by omega)) (.n2 rfl rfl) (by first | exact dl rfl | decide) (.n5 .z1 .z3 .z3 .z3 .z) (Jl Mm1 (Jl Mm2 (Jl Mm3 (Jl Mm4 (Jl Mm0 Jx))))) fun _ _ _ q9=>?_)))))))))
 obtain ⟨L2,A2,cap2,B2,t2,rfl,hr2,wt2,hX2,rfl,rfl⟩:=q9
 have hn2:(mkH D (hideO D xs)).ops.length=D.H.ops.length+1:=by rw [hmk.ops];simp
 refine Jg V (Jq (cs':= [_,_,_,_,_,_,_,_,_]) (vs:= [_,_,_,_,_,_,_,_,_]) JA V V V V V (Nat.le_of_ble_eq_true V) .z6 (Je (Jf (Jc (Y1 (JI _ _ [] (.c 0 0 (.c 1 0 (.c 2 0 (.c 3 0 (.c 4 0 (.c 5 0 (.c 6 0 (.c 7 2 .nil)))))))) mixed (fun _ _ _ _ h=>h) (Sk7 (Sd3 (Sr))) (fun _ h=>h) (by kernel_rfl) (by first | exact dl V | decide) fun ws Z0=>JP V (Jb V) (dl V) (JP V (JE V) (dl V) (JP V (Jh (o':=18) Un40 V HX V V) (dl V) ?_))))))))
 refine JP V (Jk Un38 V V Jn (dk18 hpl)) (dl V) (JP V (Jh (o':=0) Un60 V KM V V) (dl V) (JP V (Jh (o':=0) Un58 V JW V V) (dl V) (JP V (Js (vs:= [_,_]) Un43 V JW V (Jj (Jj (Jj (Jj (Jj (Jj (Jn))))))) V V) (dl V) (Jy V V (Kv (Jbi M.s M.vu M.vr M.pu M.pr D.U D.R ok.hU ok.hR (by omega) (by omega) D.u ((D.made:Int)+1) (by omega) hnU hnR) (.n2 V V) (by first | exact dl V | decide) .z7 .z7 .z7 Jx fun _ _ _ q9=>?_)))))
 obtain ⟨vu2,pu2,hU2,rfl,rfl,rfl⟩:=q9
 refine ⟨⟨(Sd3 (Sk7 (Sr))),Mm0⟩,?_⟩
 refine JK (JJ (Jf (Jc ?_)))
 have hw:(Jr (hideO D xs)).toNat=0:=by unfold Jr;rw [if_neg (show ¬(hideO D xs).kind=1 by show ¬(2:Int)=1;decide)];rfl
 have hlen:=hmk.len
 have hgp:=ok.gp
 have hok2:DkOk ⟨M.d,M.h,M.m,M.b,M.s,A2,cap2,B2,t2,L2,vu2, .slice none 0 0,pu2,[]⟩ (hideD D xs D.gap):=ok.mk_ hr2 wt2 hX2 hU2 (Row.nil _ _) (by show DI (mkH D (hideO D xs)).ops.length _ _;rw [hn2];exact hmk.di) rfl ⟨rfl,rfl,rfl⟩ hpl ok.p0 (by show D.gap≤(JX (mkE D (hideO D xs)) D.X).length;omega) (by show D.got≤(mkH D (hideO D xs)).ops.length;have:=ok.rc;omega) (by show D.made+1≤1024;omega) (by show (D.U++ [_]).length+0≤D.made+1;simp;omega)
 refine Ja (JR (Jb V) (dl V) (JR (Jb V) (dl V) (JR (Jb V) (dl V) (Jg V (KE (E0 _ _ hok2 p hp2) (.n2 V V) (by first | exact dl V | decide) .z3 .z6 (Jl Mm3 Jx) fun _ _ _ q9=>?_)))))
 obtain ⟨k,hk,rfl,rfl,rfl⟩:=q9
 refine JR (JE V) (dl V) (JR (Jh (o':=17) Un40 V ti3 V V) (dl V) (Jg V (Yf ti3 V V V (dkl17 hpl) .z ?_)))
 rw [dkset17 hpl]
 refine Je (Jf (Jc (Ja (JR (Js (vs:= [_,_,_,_,_,_,_,_,_]) Un60 V JA V (Jj (Jj (Jj (Jj (Jj (Jj (Jj (Jj (Jj (Jn)))))))))) V V) (dl V) (Jg V (Jq (cs':= [_,_,_,_,_,_,_,_,_]) (vs:= [_,_,_,_,_,_,_,_,_]) JA V V V V V (Nat.le_of_ble_eq_true V) .z9 (Jg V (JN YE V V V .z .z8 (Je (Jf (Jp ?_)))))))))))
 refine ⟨_,[_,_,_,_,_,_,_,_],[_,_,_,_],fun Z w hs=>JT hs Un60 V JA V (Jj (Jj (Jj (Jj (Jj (Jj (Jj (Jj (Jj (Jn)))))))))) V (K1 hs Un49 V V (Jj (Jj (Jj (Jj (Jj (Jj (Jj (Jj (Jn))))))))) V .nil),?_,fun Z w hs=>((((((((hs.pick .z4).pick .z4).pick .z4).pick .z4).pick .z7).pick .z7).pick .z7).pick .z7).out (Sk8 (Sd2 (Sr))) Tt1⟩
 refine ⟨xs,k,_,_,_,hV,hk,?_,hok2.gap hk.le,V,V,V⟩
 rfl
theorem bd49_1Xg14 (x1_:Int) (w:World):(Instr.build 58 #[(1, .int .i64 x1_)]).run Tryz.prog w= .ok (.agg #[.int .i64 0, .int .i64 0, .int .i64 x1_]) w:=by kernel_rfl
theorem bd52_0_4_5Xg14 (x0_0a0:Int) (x0_0a1:Int) (x0_1:Int) (x4_a0:Int) (x4_a1:Int) (x5_:Bool) (w:World):(Instr.build 60 #[(0, .agg #[.int .i64 x0_0a0, .int .i64 x0_0a1, .int .i64 x0_1]),(4, .agg #[.int .i64 x4_a0, .int .i64 x4_a1]),(5, .bool x5_)]).run Tryz.prog w= .ok (.agg #[.int .i64 x0_0a0, .int .i64 x0_0a1, .int .i64 x0_1, .int .i64 0, .string ⟨#[]⟩, .slice none 0 0, .int .i64 x4_a0, .int .i64 x4_a1, .bool x5_]) w:=by kernel_rfl
theorem VM (M:DM) (D:DS) (ok:DkOk M D) (i0 i1:Int) (on:Bool) (j:Nat) (hmd:(D.made:Int)<D.op) (hmk:MkD D (statO D (i0,i1) on)) (hj:j<(mkH D (statO D (i0,i1) on)).ents.length) (hw2:J5 (mkH D (statO D (i0,i1) on)).ents i0 i1=some j) (hne:(entE ((mkH D (statO D (i0,i1) on)).ents[j])).rs≠ []) (hrl:(entE ((mkH D (statO D (i0,i1) on)).ents[j])).rs.length≤100000) (hrs: ∀r∈(entE ((mkH D (statO D (i0,i1) on)).ents[j])).rs,0≤r.lo∧r.lo<r.hi∧r.hi≤(JX (mkE D (statO D (i0,i1) on)) D.X).length):Sp Tryz.prog 37 [.pointer (some ⟨M.d,0,none⟩), .agg #[.int .i64 i0, .int .i64 i1], .bool on] (KH M D) (barF::KY M D) (fun v Lo fs=> ∃(M2:DM),M2.d=M.d∧DkOk M2 (statD D (i0,i1) on j)∧v=opV (statO D (i0,i1) on) none 0∧Lo=KH M2 (statD D (i0,i1) on j)∧fs=KY M2 (statD D (i0,i1) on j)):=by
 have hvl:=KA M.t.row
 have hwt:=ok.wt
 have htl:=ok.tl
 have hrow:=ok.row
 have hpl:=ok.pl
 have hr:=ok.hr
 have hdi:=ok.di
 have hus:=ok.us
 have hlm:=ok.lm
 have hmd2:=ok.md
 have hsl:=ok.sl
 have hxl:=ok.xl
 have hpu:0≤putA D D.u∧putA D D.u≤4096:=by
  unfold putA
  rw [List.getD_eq_getElem?_getD,List.getElem?_eq_getElem (by omega)]
  exact ok.p0 _ (List.getElem_mem _)
 refine Sp.of (n:=68) ⟨_,Tryz.func37,V,V,V,V⟩ (Nat.le_of_ble_eq_true V) fun Ps As=>Jc (Ja (Jg V (J3 (cs:= [_,_]) V V (by decide) fun b4=>Jg V (Jw (cs:= [_,_,_,_,_,_,_,_,_]) JA V (by decide) fun b6=>Je (Jf (Jc (Kc (A:=RdF rgD none 0 []) (fun Z w _=>RdS.nil _ Z w) (Ja (Lq (Jb V) (Lq (JY (.n1 V) (bd49_1Xg14 _)) (Lq (Js (vs:= [_,_]) Un43 V JW V (Jj (Jn)) V V) ?_)))))))))))
 refine Lq (Jb rfl) (Lq (JY (.n3 rfl rfl rfl) (bd52_0_4_5Xg14 _ _ _ _ _ _)) (Jg rfl (J9 (Eo M.d M.h M.m M.b _ _ _ _ _ _ _ _ _ D.H M.L M.A M.cap M.B M.t D.H.ops.length D.X { zeroOp with kind:=4,tc:=i0,tn:=i1,on:=on } none 0 (mkH D (statO D (i0,i1) on)) (mkE D (statO D (i0,i1) on)) hr hwt hrow hdi hmk.tk (by omega)) (.n2 rfl rfl) (by decide) (.n5 .z2 .z2 .z2 .z2 .z2) (Jl Mm1 (Jl Mm2 (Jl Mm3 (Jl Mm4 (Jl Mm0 Jx))))) fun _ _ _ q9=>?_)))
 obtain ⟨L2,A2,cap2,B2,t2,rfl,hr2,wt2,hX2,rfl,rfl⟩:=q9
 have hn2:(mkH D (statO D (i0,i1) on)).ops.length=D.H.ops.length+1:=by rw [hmk.ops];simp
 refine Jg V (Jw (cs:= [_,_,_,_,_,_,_,_,_]) JA V (by decide) fun b7=>Jg V (Jq (cs':= [_,_,_,_,_,_,_,_,_]) (vs:= [_,_,_,_,_,_,_,_,_]) JA V V V V V (Nat.le_of_ble_eq_true V) .z (Je (Jf (Jc (JI _ _ [] (.c 0 0 (.c 1 0 (.c 2 0 (.c 3 0 (.c 4 0 (.c 5 0 (.c 6 2 (.c 7 0 (.c 8 0 (.c 9 0 (.c 10 0 (.c 11 0 .nil)))))))))))) mixed (fun _ _ _ _ h=>h) (Sk2 (Sd3 (Sk6 (Sr)))) (fun _ h=>h) (by kernel_rfl) (by decide) fun ws Z0=>Qe V (Jb V) (Qe V (JE V) (Qe V (Jh (o':=0) Un40 V YF V V) ?_))))))))
 refine Qe V (Jh (o':=0) Un34 V Vv V V) (Qe V (Jk Un31 V V (Jj (Jn)) V) (Qe V (Js (vs:= [_,_]) Un43 V JW V (Jj (Jj (Jj (Jj (Jn))))) V V) (Jy V V (Kv (ZL M.h M.m cap2 A2 (mkH D (statO D (i0,i1) on)) L2 hr2 i0 i1 j hw2) (.n2 V V) (by decide) .z2 .z2 .z2 Jx fun _ _ _ q9=>?_))))
 obtain ⟨rfl,rfl,rfl⟩:=q9
 refine ⟨⟨(Sd3 (Sk8 (Sr))),Mm0⟩,?_⟩
 refine Qe V (Jb V) (Qe V (Ji (vs:= [_,_]) V V) (Qe V (Ji (vs:= [_,_]) V V) (Qe V (Jd V) (Qe V (Jd V) (JK (JJ (Jf (Jc (Ja (Lq (Jb V) (Lq (JE V) (Lq (Jh (o':=0) Un40 V YF V V) ?_))))))))))))
 refine Lq (Jh (o':=0) Un34 V Vv V V) (Lq (Jk Un31 V V (Jj (Jj (Jj (Jj (Jn))))) V) (Lq (Jb V) (Jg V (Kv (Xk M.h M.m cap2 A2 (mkH D (statO D (i0,i1) on)) L2 hr2 j) (.n2 V V) (by decide) .z .z .z (Jl Mm1 (Jl Mm2 Jx)) fun _ _ _ q9=>?_))))
 obtain ⟨A1,c1,rfl,rfl,rfl⟩:=q9
 rw [Ys hj]
 generalize hen:entE ((mkH D (statO D (i0,i1) on)).ents[j])=en at hne hrl hrs ⊢
 dsimp only
 refine Lq (Jb V) (Lq (Ji (vs:= [_,_]) V V) (Lq (Ji (vs:= [_,_]) V V) (Jg V (Jw (cs:= [_,_,_,_,_,_,_]) YW V (by decide) fun b10=>Jg V (Jq (cs':= [_,_,_,_,_,_,_]) (vs:= [_,_,_,_,_,_,_]) YW V V V V V (Nat.le_of_ble_eq_true V) .z (Lq (Jd V) (Je (Jf (Jc (Jc (Ja (Lq (Jh (o':=4) Un47 V K3 V V) (Lq (Jk Un45 V V Jn V) (Lq (J4 Un45 V) ?_))))))))))))))
 refine Lq (Jd V) (Je (Jf (Jc (Ja (Lq (Jb V) (Lq (Kl V V) (Je (Jf (JS V (by have:=List.length_pos_iff.2 hne;simp;omega) (Jc (Ja (Lq (Jb V) (Lq (Jh (o':=2) Un47 V Yh V V) (Lq (Jk Un44 V V Jn V) ?_))))))))))))))
 refine Lq (Kb V V) (Lq (q_beql' Un4 V V) (Je (Jf (Jz V (fun h48=> ?_) (fun h48=> ?_)))))
 ·have hlp:=List.length_pos_iff.2 hne
  have hkl:en.rs.length-1<en.rs.length:=by omega
  have hlast:=hrs _ (List.getElem_mem hkl)
  refine Kd (k:=(en.rs.length-1)) Mm0 (List.getElem?_eq_getElem hkl) (rg_open _) fun b7 q7 y7 e7=> ?_
  cases e7
  refine Ja (Lq (Jb V) (Lq (Jh (o':=4) Un47 V K3 V V) (Lq (Jk Un45 V V Jn V) (Lq (Jb V) (Lq (KG V V (by rw [wr64 (by have:=hlp;omega)];omega) (c:=((en.rs.length-1:Nat):Int))) (Lq (J0 Un45 Kf V V (by omega) (by omega)) (Lq (Jh (o':=_+1) Un134 V ti3 V V) (Lq (Kk (j:=1) Un3 V V Mm0 V V) (Lq (JE V) ?_)))))))))
  refine Lq (Jh (o':=17) Un40 V ti3 V V) (Jg V (Yf ti3 V V V (dkl17 hpl) .z5 ?_))
  rw [dkset17 hpl]
  refine Je (Jf (Jc (Ja (Lq (Js (vs:= [_,_,_,_,_,_,_,_,_]) Un60 V JA V (Jj (Jj (Jj (Jj (Jn))))) V V) (Jg V (Jq (cs':= [_,_,_,_,_,_,_,_,_]) (vs:= [_,_,_,_,_,_,_,_,_]) JA V V V V V (Nat.le_of_ble_eq_true V) .z7 (Je (Jf (Jp ?_)))))))))
  refine ⟨_,[_,_,_,_,_,_,_,_],[_,_,_],fun Z w hs=>JT hs Un60 V JA V (Jj (Jj (Jj (Jj (Jj (Jj (Jj (Jn)))))))) V .nil,?_,fun Z w hs=>((((((((hs.pick .z11).pick .z11).pick .z11).pick .z9).pick .z7).pick .z7).pick .z7).pick .z9).out (Sk8 (Sd4 (Sr))) (Jl Mm3 (Jl Mm4 (Jl Mm5 Tt7)))⟩
  have hg:turnGap D.gap (entryF (mkH D (statO D (i0,i1) on)) j).1 on=(en.rs[en.rs.length-1].hi).toNat:=by
   rw [Ys hj,hen]
   unfold turnGap
   obtain ⟨r0,rest,er⟩:=List.exists_cons_of_ne_nil hne
   have el:en.rs.getLast? =some en.rs[en.rs.length-1] :=by rw [List.getLast?_eq_getElem?,List.getElem?_eq_getElem]
   have e0:en.rs[0] =r0:=by simp only [er,List.getElem_cons_zero]
   rw [el]
   simp only [h48,if_true,er]
   try simp
  have hgt:((turnGap D.gap (entryF (mkH D (statO D (i0,i1) on)) j).1 on:Nat):Int)=en.rs[en.rs.length-1].hi:=by rw [hg];omega
  have hok2:DkOk ⟨M.d,M.h,M.m,M.b,M.s,A2,cap2,B2,t2,L2,M.vu,M.vr,M.pu,M.pr⟩ (statD D (i0,i1) on j):=ok.mk_ hr2 wt2 hX2 ok.hU ok.hR (by show DI (mkH D (statO D (i0,i1) on)).ops.length _ _;rw [hn2];exact hmk.di) rfl ⟨rfl,rfl,rfl⟩ hpl ok.p0 (by show turnGap D.gap (entryF (mkH D (statO D (i0,i1) on)) j).1 on≤(JX (mkE D (statO D (i0,i1) on)) D.X).length;omega) (by show D.got≤(mkH D (statO D (i0,i1) on)).ops.length;have:=ok.rc;omega) (by show D.made+1≤1024;omega) (by show D.U.length+D.R.length≤D.made+1;omega)
  refine ⟨_,?_,hok2,V,?_,V⟩
  ·rfl
  ·show _=KH ⟨M.d,M.h,M.m,M.b,M.s,A2,cap2,B2,t2,L2,M.vu,M.vr,M.pu,M.pr⟩ (statD D (i0,i1) on j)
   rw [←hgt]
   rfl
 ·have hlp:=List.length_pos_iff.2 hne
  have hfirst:=hrs _ (List.getElem_mem hlp)
  refine Kd (k:=0) Mm0 (List.getElem?_eq_getElem hlp) (rg_open _) fun b8 q8 y8 e8=> ?_
  cases e8
  refine Ja (Lq (Jb V) (Lq (Jh (o':=4) Un47 V K3 V V) (Lq (Jk Un45 V V Jn V) (Lq (J0 Un45 Kf V V (by omega) (by omega)) (Lq (Jh (o':=_+0) Un134 V ti3 V V) (Lq (Kk (j:=0) Un3 V V Mm0 V V) (Lq (JE V) (Lq (Jh (o':=17) Un40 V ti3 V V) (Jg V (Yf ti3 V V V (dkl17 hpl) .z5 ?_))))))))))
  rw [dkset17 hpl]
  refine Je (Jf (Jc (Ja (Lq (Js (vs:= [_,_,_,_,_,_,_,_,_]) Un60 V JA V (Jj (Jj (Jj (Jj (Jn))))) V V) (Jg V (Jq (cs':= [_,_,_,_,_,_,_,_,_]) (vs:= [_,_,_,_,_,_,_,_,_]) JA V V V V V (Nat.le_of_ble_eq_true V) .z7 (Je (Jf (Jp ?_)))))))))
  refine ⟨_,[_,_,_,_,_,_,_,_],[_,_,_],fun Z w hs=>JT hs Un60 V JA V (Jj (Jj (Jj (Jj (Jj (Jj (Jj (Jn)))))))) V .nil,?_,fun Z w hs=>((((((((hs.pick .z11).pick .z11).pick .z11).pick .z9).pick .z7).pick .z7).pick .z7).pick .z9).out (Sk8 (Sd4 (Sr))) (Jl Mm3 (Jl Mm4 (Jl Mm5 Tt7)))⟩
  have hg:turnGap D.gap (entryF (mkH D (statO D (i0,i1) on)) j).1 on=(en.rs[0].lo).toNat:=by
   rw [Ys hj,hen]
   unfold turnGap
   obtain ⟨r0,rest,er⟩:=List.exists_cons_of_ne_nil hne
   have el:en.rs.getLast? =some en.rs[en.rs.length-1] :=by rw [List.getLast?_eq_getElem?,List.getElem?_eq_getElem]
   have e0:en.rs[0] =r0:=by simp only [er,List.getElem_cons_zero]
   rw [el]
   simp only [h48,Bool.false_eq_true,if_false,er]
   try simp
  have hgt:((turnGap D.gap (entryF (mkH D (statO D (i0,i1) on)) j).1 on:Nat):Int)=en.rs[0].lo:=by rw [hg];omega
  have hok2:DkOk ⟨M.d,M.h,M.m,M.b,M.s,A2,cap2,B2,t2,L2,M.vu,M.vr,M.pu,M.pr⟩ (statD D (i0,i1) on j):=ok.mk_ hr2 wt2 hX2 ok.hU ok.hR (by show DI (mkH D (statO D (i0,i1) on)).ops.length _ _;rw [hn2];exact hmk.di) rfl ⟨rfl,rfl,rfl⟩ hpl ok.p0 (by show turnGap D.gap (entryF (mkH D (statO D (i0,i1) on)) j).1 on≤(JX (mkE D (statO D (i0,i1) on)) D.X).length;omega) (by show D.got≤(mkH D (statO D (i0,i1) on)).ops.length;have:=ok.rc;omega) (by show D.made+1≤1024;omega) (by show D.U.length+D.R.length≤D.made+1;omega)
  refine ⟨_,?_,hok2,V,?_,V⟩
  ·rfl
  ·show _=KH ⟨M.d,M.h,M.m,M.b,M.s,A2,cap2,B2,t2,L2,M.vu,M.vr,M.pu,M.pr⟩ (statD D (i0,i1) on j)
   rw [←hgt]
   rfl
theorem effect_y (h m cap:Nat) (A:Option Addr) (H:Hist) (L:List MR) (hr:HR H L) (i0 i1:Int) (k:Nat) (hw:J5 H.ents i0 i1=some k) (hk:k<H.ents.length) (hk4:H.ents[k].op.kind≠4) (on:Bool) (hoff:H.ents[k].off=on):Sp Tryz.prog 35 [.pointer (some ⟨h,0,none⟩), .agg #[.int .i64 i0, .int .i64 i1], .bool on] [hdP h A H.ops.length cap m H.total,mpP m L,mkP L] [RdF opD A cap H.ops,AllF L nowF] (fun u Lo fs=> ∃Ae ce,u= .tuple #[opV (turnF H.ents[k] on) Ae ce, .int .i64 0] ∧Lo= [hdP h A H.ops.length cap m H.total,mpP m L,mkP L] ∧fs= [RdF rgD Ae ce (turnF H.ents[k] on).rs]):=by
 refine (EU h m cap A H L hr i0 i1 k hw (fun e he=>by rw [List.getElem?_eq_getElem hk] at he;rw [←Option.some.inj he];exact hk4) on).mono ?_
 rintro u Lo fs ⟨_,Ae,ce,rfl,⟨_,rfl,rfl⟩ | ⟨hne,_,_⟩⟩
 ·exact ⟨Ae,ce,V,V,V⟩
 ·exact absurd hoff hne
theorem effect_x (h m cap:Nat) (A:Option Addr) (H:Hist) (L:List MR) (hr:HR H L) (i0 i1:Int) (on:Bool) (he:effE H (i0,i1) on≠0):Sp Tryz.prog 35 [.pointer (some ⟨h,0,none⟩), .agg #[.int .i64 i0, .int .i64 i1], .bool on] [hdP h A H.ops.length cap m H.total,mpP m L,mkP L] [RdF opD A cap H.ops,AllF L nowF] (fun u Lo fs=>u= .tuple #[opV zeroOp none 0, .int .i64 (effE H (i0,i1) on)] ∧Lo= [hdP h A H.ops.length cap m H.total,mpP m L,mkP L] ∧fs= []):=by
 cases hw:J5 H.ents i0 i1 with
 | none=>
  have e:effE H (i0,i1) on=60:=by unfold effE;rw [hw]
  rw [e];exact effect_n h m cap A H L hr i0 i1 hw on
 | some k=>
  obtain ⟨hk,_,_⟩:=KI hw
  have e0:effE H (i0,i1) on=if H.ents[k].op.kind=4 then 63 else if H.ents[k].off=on then 0 else 62:=by unfold effE;rw [hw];simp only [List.getElem?_eq_getElem hk]
  by_cases h4:H.ents[k].op.kind=4
  ·rw [e0,if_pos h4]
   exact effect_4 h m cap A H L hr i0 i1 k hw (fun e he=>by rw [List.getElem?_eq_getElem hk] at he;rw [←Option.some.inj he];exact h4) on
  ·rw [e0,if_neg h4] at he ⊢
   by_cases ho:H.ents[k].off=on
   ·rw [if_pos ho] at he;exact absurd rfl he
   ·rw [if_neg ho]
    refine (EU h m cap A H L hr i0 i1 k hw (fun e he=>by rw [List.getElem?_eq_getElem hk] at he;rw [←Option.some.inj he];exact h4) on).mono ?_
    rintro u Lo fs ⟨_,Ae,ce,rfl,⟨hy,_,_⟩ | ⟨_,rfl,rfl⟩⟩
    ·exact absurd hy ho
    ·exact ⟨V,V,V⟩
structure TuD (D:DS) (i0 i1:Int) (on:Bool) (j:Nat):Prop where
 mkd:MkD D (statO D (i0,i1) on)
 hj:j<(mkH D (statO D (i0,i1) on)).ents.length
 hw:J5 (mkH D (statO D (i0,i1) on)).ents i0 i1=some j
 ne:(entE ((mkH D (statO D (i0,i1) on)).ents[j])).rs≠ []
 rl:(entE ((mkH D (statO D (i0,i1) on)).ents[j])).rs.length≤100000
 rs: ∀r∈(entE ((mkH D (statO D (i0,i1) on)).ents[j])).rs,0≤r.lo∧r.lo<r.hi∧r.hi≤(JX (mkE D (statO D (i0,i1) on)) D.X).length
def undoD (D:DS):DS:= { D with U:=(upF (JZ D.H true) D.U D.R).2.1,R:=(upF (JZ D.H true) D.U D.R).2.2 }
def redoD (D:DS):DS:= { D with R:=(upF (JZ D.H false) D.R D.U).2.1,U:=(upF (JZ D.H false) D.R D.U).2.2 }
theorem XZ (ok:Id2→Bool) (U R:List Id2):(upF ok U R).2.1.length+(upF ok U R).2.2.length=U.length+R.length:=by
 unfold upF
 cases hp:pickF ok U with
 | none=>rfl
 | some kx=>
  obtain ⟨hx,_⟩:=Y9 (ok:=ok) (l:=U) (k:=kx.1) (x:=kx.2) hp
  have hk:kx.1<U.length:=by
   rcases Nat.lt_or_ge kx.1 U.length with h | h
   ·exact h
   ·rw [List.getElem?_eq_none h] at hx;cases hx
  simp only [List.length_eraseIdx_of_lt hk,List.length_append,List.length_cons,List.length_nil]
  omega
theorem Ez {ok:Id2→Bool} {U R:List Id2} (h:(upF ok U R).1=none):upF ok U R=(none,U,R):=by
 unfold upF at h ⊢
 cases hp:pickF ok U with
 | none=>rfl
 | some kx=>rw [hp] at h;cases h
def RefN (M:DM) (D:DS) (u:Value→Value):Value→List Part→List Fact→Prop:=fun v Lo fs=> ∃(e:Value) (M2:DM),FltV e∧M2.d=M.d∧DkOk M2 D∧v=u e∧Lo=KH M2 D∧fs=KY M2 D
theorem undo_n (M:DM) (D:DS) (ok:DkOk M D) (hmd:(D.made:Int)<D.op) (hx:(upF (JZ D.H true) D.U D.R).1=none):Sp Tryz.prog 22 [.pointer (some ⟨M.d,0,none⟩)] (KH M D) (barF::KY M D) (RefN M D fun e=> .tuple #[opV zeroOp none 0,e]):=by
 have hvl:=KA M.t.row
 have hwt:=ok.wt
 have htl:=ok.tl
 have hrow:=ok.row
 have hpl:=ok.pl
 have hr:=ok.hr
 have hdi:=ok.di
 have hus:=ok.us
 have hlm:=ok.lm
 have hmd2:=ok.md
 have hsl:=ok.sl
 have hxl:=ok.xl
 have hpu:0≤putA D D.u∧putA D D.u≤4096:=by
  unfold putA
  rw [List.getD_eq_getElem?_getD,List.getElem?_eq_getElem (by omega)]
  exact ok.p0 _ (List.getElem_mem _)
 have hlen:=XZ (JZ D.H true) D.U D.R
 have hun:=Ez hx
 refine Sp.ofD (n:=27) ⟨_,Tryz.func22,V,V,V,V⟩ (Nat.le_of_ble_eq_true V) fun Ps As=>Ja (Jg V (Jw (cs:= [_,_,_,_,_,_,_,_,_]) JA V (by decide) fun b2=>Jg V (Jw (cs:= [_]) YE V (by decide) fun b3=>Je ?_)))
 refine ⟨V,_,_,_,_,_,catch_Undo b2 b3,DefReg.mk (.n2 V V) (by decide),?_⟩
 refine Jc (Ja (JR (Jb V) (dl V) (Jg V (JU (room_0 M.d M.h M.b _ _ _ _ _ _ _ _ _ _ 0 hmd) (.n3 V V V) (by first | exact dl V | decide) .z2 Jx fun _ _ _ q9=>?_))))
 obtain ⟨rfl,rfl,rfl⟩:=q9
 refine Je (Jf (Jc (Y1 (JI _ _ [14] (.c 0 0 (.c 1 0 (.c 2 0 (.c 3 0 (.c 4 0 (.c 5 0 (.c 6 0 (.c 7 0 (.c 8 0 (.b (.c 9 2 (.c 10 0 (.c 11 0 (.c 12 1 (.c 13 2 (.c 14 3 (.c 15 1 .nil))))))) (.c 13 2 (.c 9 2 (.c 10 0 (.c 11 0 (.c 12 1 (.c 14 3 (.c 15 1 .nil))))))))))))))))) mixed (fun _ _ _ _ h=>h) (Sk3 (Sd3 (Sk (Sd3 (Sr))))) (fun _ h=>h) (by kernel_rfl) (by first | exact dl V | decide) fun ws Z0=>JP V (Jb V) (dl V) (JP V (JE V) (dl V) (JP V (Jh (o':=18) Un40 V HX V V) (dl V) (JP V (Jk Un38 V V Jn (dk18 hpl)) (dl V) (JP V (Jb V) (dl V) ?_))))))))
 refine JP V (JE V) (dl V) (JP V (Jh (o':=0) Un40 V YF V V) (dl V) (JP V (Jh (o':=0) Un34 V Vv V V) (dl V) (JP V (Jk Un31 V V Jn V) (dl V) (K7 ?_ ?_))))
 ·refine Jy V V (J9 (X4 M.h M.m M.cap M.A D.H M.L hr M.s M.vu M.vr M.pu M.pr D.U D.R ok.hU ok.hR (by omega) (by omega)) (.n2 V V) (by first | exact dl V | decide) (.n6 .z7 .z7 .z7 .z3 .z3 .z3) (Jl Mm2 (Jl Mm3 Jx)) fun _ _ _ q9=>?_)
  obtain ⟨vu2,pu2,vr2,pr2,hU2,hR2,rfl,rfl,rfl⟩:=q9
  rw [hx]
  refine ⟨⟨(Sd6 (Sk4 (Sr))),Mm0⟩,?_⟩
  refine JP V (Jb V) (dl V) (JP V (Ji (vs:= [_,_]) V V) (dl V) (YY V (Ji (vs:= [_,_]) V V) (dl V) (Jy V V (Jw (cs:= [_,_]) JW V (by first | exact dl V | decide) fun b4=> ?_))))
  refine ⟨⟨(Sd7 (Sk4 (Sr))),Mm0⟩,?_⟩
  refine JK (Ka V V (Jq (cs':= [_,_]) (vs:= [_,_]) JW V V V V V (Nat.le_of_ble_eq_true V) .z (YL V (Jd V) (dl V) (JJ (Jf (Jc (Ja (JR (Jb V) (dl V) (Jg V (Qo (give_e _ _ 70 (by first | exact dl V | decide)) (.n3 V V V) Jx fun _ _ _ q9=>?_))))))))))
  obtain ⟨hv,rfl,rfl⟩:=q9
  refine GQ ?_
  rw [hun] at hU2 hR2
  refine ⟨_,_,_,_,[_,_,_,_,_,_,_,_],[_,_,_],V,hv,⟨_,_,_,_,_,_,_,_,_,_,V⟩,fun Z w hs=>((hs.pick .z8).pick .z9),fun Z w hs=>JT hs Un60 V JA V Jn V (K1 hs Un49 V V (Jj Jn) V .nil),?_,fun Z w hs=>((((((((hs.pick .z5).pick .z5).pick .z5).pick .z10).pick .z9).pick .z9).pick .z9).pick .z10).out (Sk8 (Sd3 (Sr))) (Jl Mm2 (Jl Mm3 (Jl Mm4 Tt1)))⟩
  refine ⟨_,⟨M.d,M.h,M.m,M.b,M.s,M.A,M.cap,M.B,M.t,M.L,vu2,vr2,pu2,pr2⟩,hv,V,ok.mk_ hr hwt hrow hU2 hR2 hdi V ⟨V,V,V⟩ hpl ok.p0 ok.gp ok.rc ok.md ok.sl,V,V,V⟩
 ·refine Jy V V (Jw (cs:= [_,_]) JW V (by first | exact dl V | decide) fun b4=> ?_)
  refine ⟨⟨(Sd (Sk3 (Sd3 (Sk (Sd3 (Sr)))))),Mm0⟩,?_⟩
  refine Jy V V (J9 (X4 M.h M.m M.cap M.A D.H M.L hr M.s M.vu M.vr M.pu M.pr D.U D.R ok.hU ok.hR (by omega) (by omega)) (.n2 V V) (by first | exact dl V | decide) (.n6 .z8 .z8 .z8 .z4 .z4 .z4) (Jl Mm2 (Jl Mm3 Jx)) fun _ _ _ q9=>?_)
  obtain ⟨vu2,pu2,vr2,pr2,hU2,hR2,rfl,rfl,rfl⟩:=q9
  rw [hx]
  refine ⟨⟨(Sd7 (Sk4 (Sr))),Mm0⟩,?_⟩
  refine JP V (Jb V) (dl V) (JP V (Ji (vs:= [_,_]) V V) (dl V) (YY V (Ji (vs:= [_,_]) V V) (dl V) (JK (Ka V V (Jq (cs':= [_,_]) (vs:= [_,_]) JW V V V V V (Nat.le_of_ble_eq_true V) .z6 (YL V (Jd V) (dl V) (JJ (Jf (Jc (Ja (JR (Jb V) (dl V) (Jg V (Qo (give_e _ _ 70 (by first | exact dl V | decide)) (.n3 V V V) Jx fun _ _ _ q9=>?_)))))))))))))
  obtain ⟨hv,rfl,rfl⟩:=q9
  refine GQ ?_
  rw [hun] at hU2 hR2
  refine ⟨_,_,_,_,[_,_,_,_,_,_,_,_],[_,_,_],V,hv,⟨_,_,_,_,_,_,_,_,_,_,V⟩,fun Z w hs=>((hs.pick .z8).pick .z9),fun Z w hs=>JT hs Un60 V JA V Jn V (K1 hs Un49 V V (Jj Jn) V .nil),?_,fun Z w hs=>((((((((hs.pick .z4).pick .z4).pick .z4).pick .z10).pick .z8).pick .z8).pick .z8).pick .z10).out (Sk8 (Sd3 (Sr))) (Jl Mm2 (Jl Mm3 (Jl Mm4 Tt1)))⟩
  refine ⟨_,⟨M.d,M.h,M.m,M.b,M.s,M.A,M.cap,M.B,M.t,M.L,vu2,vr2,pu2,pr2⟩,hv,V,ok.mk_ hr hwt hrow hU2 hR2 hdi V ⟨V,V,V⟩ hpl ok.p0 ok.gp ok.rc ok.md ok.sl,V,V,V⟩
theorem Zo (M:DM) (D:DS) (ok:DkOk M D) (hmd:(D.made:Int)<D.op) (i0 i1:Int) (j:Nat) (hx:(upF (JZ D.H true) D.U D.R).1=some (i0,i1)) (htu:TuD (undoD D) i0 i1 false j):Sp Tryz.prog 22 [.pointer (some ⟨M.d,0,none⟩)] (KH M D) (barF::KY M D) (fun v Lo fs=> ∃(M2:DM),M2.d=M.d∧DkOk M2 (statD (undoD D) (i0,i1) false j)∧v= .tuple #[opV (statO (undoD D) (i0,i1) false) none 0, .nilIface] ∧Lo=KH M2 (statD (undoD D) (i0,i1) false j)∧fs=KY M2 (statD (undoD D) (i0,i1) false j)):=by
 have hvl:=KA M.t.row
 have hwt:=ok.wt
 have htl:=ok.tl
 have hrow:=ok.row
 have hpl:=ok.pl
 have hr:=ok.hr
 have hdi:=ok.di
 have hus:=ok.us
 have hlm:=ok.lm
 have hmd2:=ok.md
 have hsl:=ok.sl
 have hxl:=ok.xl
 have hpu:0≤putA D D.u∧putA D D.u≤4096:=by
  unfold putA
  rw [List.getD_eq_getElem?_getD,List.getElem?_eq_getElem (by omega)]
  exact ok.p0 _ (List.getElem_mem _)
 have hlen:=XZ (JZ D.H true) D.U D.R
 refine Sp.ofD (n:=27) ⟨_,Tryz.func22,V,V,V,V⟩ (Nat.le_of_ble_eq_true V) fun Ps As=>Ja (Jg V (Jw (cs:= [_,_,_,_,_,_,_,_,_]) JA V (by decide) fun b2=>Jg V (Jw (cs:= [_]) YE V (by decide) fun b3=>Je ?_)))
 refine ⟨V,_,_,_,_,_,catch_Undo b2 b3,DefReg.mk (.n2 V V) (by decide),?_⟩
 refine Jc (Ja (JR (Jb V) (dl V) (Jg V (JU (room_0 M.d M.h M.b _ _ _ _ _ _ _ _ _ _ 0 hmd) (.n3 V V V) (by first | exact dl V | decide) .z2 Jx fun _ _ _ q9=>?_))))
 obtain ⟨rfl,rfl,rfl⟩:=q9
 refine Je (Jf (Jc (Y1 (JI _ _ [14] (.c 0 0 (.c 1 0 (.c 2 0 (.c 3 0 (.c 4 0 (.c 5 0 (.c 6 0 (.c 7 0 (.c 8 0 (.b (.c 9 2 (.c 10 0 (.c 11 0 (.c 12 1 (.c 13 2 (.c 14 3 (.c 15 1 .nil))))))) (.c 13 2 (.c 9 2 (.c 10 0 (.c 11 0 (.c 12 1 (.c 14 3 (.c 15 1 .nil))))))))))))))))) mixed (fun _ _ _ _ h=>h) (Sk3 (Sd3 (Sk (Sd3 (Sr))))) (fun _ h=>h) (by kernel_rfl) (by first | exact dl V | decide) fun ws Z0=>JP V (Jb V) (dl V) (JP V (JE V) (dl V) (JP V (Jh (o':=18) Un40 V HX V V) (dl V) (JP V (Jk Un38 V V Jn (dk18 hpl)) (dl V) (JP V (Jb V) (dl V) ?_))))))))
 refine JP V (JE V) (dl V) (JP V (Jh (o':=0) Un40 V YF V V) (dl V) (JP V (Jh (o':=0) Un34 V Vv V V) (dl V) (JP V (Jk Un31 V V Jn V) (dl V) (K7 ?_ ?_))))
 ·refine Jy V V (J9 (X4 M.h M.m M.cap M.A D.H M.L hr M.s M.vu M.vr M.pu M.pr D.U D.R ok.hU ok.hR (by omega) (by omega)) (.n2 V V) (by first | exact dl V | decide) (.n6 .z7 .z7 .z7 .z3 .z3 .z3) (Jl Mm2 (Jl Mm3 Jx)) fun _ _ _ q9=>?_)
  obtain ⟨vu2,pu2,vr2,pr2,hU2,hR2,rfl,rfl,rfl⟩:=q9
  rw [hx]
  refine ⟨⟨(Sd6 (Sk4 (Sr))),Mm0⟩,?_⟩
  refine JP V (Jb V) (dl V) (JP V (Ji (vs:= [_,_]) V V) (dl V) (YY V (Ji (vs:= [_,_]) V V) (dl V) (Jy V V (Jw (cs:= [_,_]) JW V (by first | exact dl V | decide) fun b4=> ?_))))
  refine ⟨⟨(Sd7 (Sk4 (Sr))),Mm0⟩,?_⟩
  refine JK (Ka V V (Jq (cs':= [_,_]) (vs:= [_,_]) JW V V V V V (Nat.le_of_ble_eq_true V) .z (YL V (Jd V) (dl V) (JJ (Jf (Jc (Ja (JR (Jb V) (dl V) (Jg V (Jm (give_0 _ _) (.n3 V V V) (by first | exact dl V | decide) Jx fun _ _ _ q9=>?_))))))))))
  obtain ⟨rfl,rfl,rfl⟩:=q9
  refine Je (Jf (Jc (JC .z3 (JC .z3 (JC .z3 (JC .z10 (JC .z7 (JC .z7 (JC .z7 (JC .z8 ?_))))))))))
  have hok1:DkOk ⟨M.d,M.h,M.m,M.b,M.s,M.A,M.cap,M.B,M.t,M.L,vu2,vr2,pu2,pr2⟩ (undoD D):=ok.mk_ hr hwt hrow hU2 hR2 hdi rfl ⟨rfl,rfl,rfl⟩ hpl ok.p0 ok.gp ok.rc ok.md (by show (upF (JZ D.H true) D.U D.R).2.1.length+(upF (JZ D.H true) D.U D.R).2.2.length≤D.made;omega)
  refine Ja (JR (Jb V) (dl V) (JR (Js (vs:= [_,_]) Un43 V JW V (Jj (Jj (Jj (Jj (Jj (Jj (Jj (Jj (Jn))))))))) V V) (dl V) (Jg V (J9 (VM ⟨M.d,M.h,M.m,M.b,M.s,M.A,M.cap,M.B,M.t,M.L,vu2,vr2,pu2,pr2⟩ (undoD D) hok1 i0 i1 false j hmd htu.mkd htu.hj htu.hw htu.ne htu.rl htu.rs) (.n3 V V V) (by first | exact dl V | decide) (.n8 .z .z .z .z .z .z .z .z) (Jl Mm1 (Jl Mm2 (Jl Mm3 (Jl Mm4 Jx)))) fun _ _ _ q9=>?_))))
  obtain ⟨M2,hd2,hok2,rfl,rfl,rfl⟩:=q9
  refine Jg V (Jq (cs':= [_,_,_,_,_,_,_,_,_]) (vs:= [_,_,_,_,_,_,_,_,_]) JA V V V V V (Nat.le_of_ble_eq_true V) .z10 (Jg V (JN YE V V V .z .z9 (Je (Jf (Jp ?_))))))
  refine ⟨_,[_,_,_,_,_,_,_,_],[_,_,_],fun Z w hs=>JT hs Un60 V JA V (Jj (Jj (Jj (Jj (Jj (Jj (Jj (Jj (Jj (Jj (Jn))))))))))) V (K1 hs Un49 V V (Jj (Jj (Jj (Jj (Jj (Jj (Jj (Jj (Jj (Jn)))))))))) V .nil),?_,fun Z w hs=>hs.out (Sk8 (Sd3 (Sr))) (Jl Mm0 (Jl Mm1 (Jl Mm2 Tt4)))⟩
  exact ⟨M2,hd2,hok2,V,V,V⟩
 ·refine Jy V V (Jw (cs:= [_,_]) JW V (by first | exact dl V | decide) fun b4=> ?_)
  refine ⟨⟨(Sd (Sk3 (Sd3 (Sk (Sd3 (Sr)))))),Mm0⟩,?_⟩
  refine Jy V V (J9 (X4 M.h M.m M.cap M.A D.H M.L hr M.s M.vu M.vr M.pu M.pr D.U D.R ok.hU ok.hR (by omega) (by omega)) (.n2 V V) (by first | exact dl V | decide) (.n6 .z8 .z8 .z8 .z4 .z4 .z4) (Jl Mm2 (Jl Mm3 Jx)) fun _ _ _ q9=>?_)
  obtain ⟨vu2,pu2,vr2,pr2,hU2,hR2,rfl,rfl,rfl⟩:=q9
  rw [hx]
  refine ⟨⟨(Sd7 (Sk4 (Sr))),Mm0⟩,?_⟩
  refine JP V (Jb V) (dl V) (JP V (Ji (vs:= [_,_]) V V) (dl V) (YY V (Ji (vs:= [_,_]) V V) (dl V) (JK (Ka V V (Jq (cs':= [_,_]) (vs:= [_,_]) JW V V V V V (Nat.le_of_ble_eq_true V) .z6 (YL V (Jd V) (dl V) (JJ (Jf (Jc (Ja (JR (Jb V) (dl V) (Jg V (Jm (give_0 _ _) (.n3 V V V) (by first | exact dl V | decide) Jx fun _ _ _ q9=>?_)))))))))))))
  obtain ⟨rfl,rfl,rfl⟩:=q9
  refine Je (Jf (Jc (JC .z2 (JC .z2 (JC .z2 (JC .z10 (JC .z6 (JC .z6 (JC .z6 (JC .z8 ?_))))))))))
  have hok1:DkOk ⟨M.d,M.h,M.m,M.b,M.s,M.A,M.cap,M.B,M.t,M.L,vu2,vr2,pu2,pr2⟩ (undoD D):=ok.mk_ hr hwt hrow hU2 hR2 hdi rfl ⟨rfl,rfl,rfl⟩ hpl ok.p0 ok.gp ok.rc ok.md (by show (upF (JZ D.H true) D.U D.R).2.1.length+(upF (JZ D.H true) D.U D.R).2.2.length≤D.made;omega)
  refine Ja (JR (Jb V) (dl V) (JR (Js (vs:= [_,_]) Un43 V JW V (Jj (Jj (Jj (Jj (Jj (Jj (Jj (Jj (Jn))))))))) V V) (dl V) (Jg V (J9 (VM ⟨M.d,M.h,M.m,M.b,M.s,M.A,M.cap,M.B,M.t,M.L,vu2,vr2,pu2,pr2⟩ (undoD D) hok1 i0 i1 false j hmd htu.mkd htu.hj htu.hw htu.ne htu.rl htu.rs) (.n3 V V V) (by first | exact dl V | decide) (.n8 .z .z .z .z .z .z .z .z) (Jl Mm1 (Jl Mm2 (Jl Mm3 (Jl Mm4 Jx)))) fun _ _ _ q9=>?_))))
  obtain ⟨M2,hd2,hok2,rfl,rfl,rfl⟩:=q9
  refine Jg V (Jq (cs':= [_,_,_,_,_,_,_,_,_]) (vs:= [_,_,_,_,_,_,_,_,_]) JA V V V V V (Nat.le_of_ble_eq_true V) .z10 (Jg V (JN YE V V V .z .z9 (Je (Jf (Jp ?_))))))
  refine ⟨_,[_,_,_,_,_,_,_,_],[_,_,_],fun Z w hs=>JT hs Un60 V JA V (Jj (Jj (Jj (Jj (Jj (Jj (Jj (Jj (Jj (Jj (Jn))))))))))) V (K1 hs Un49 V V (Jj (Jj (Jj (Jj (Jj (Jj (Jj (Jj (Jj (Jn)))))))))) V .nil),?_,fun Z w hs=>hs.out (Sk8 (Sd3 (Sr))) (Jl Mm0 (Jl Mm1 (Jl Mm2 Tt4)))⟩
  exact ⟨M2,hd2,hok2,V,V,V⟩
theorem redo_n (M:DM) (D:DS) (ok:DkOk M D) (hmd:(D.made:Int)<D.op) (hx:(upF (JZ D.H false) D.R D.U).1=none):Sp Tryz.prog 62 [.pointer (some ⟨M.d,0,none⟩)] (KH M D) (barF::KY M D) (RefN M D fun e=> .tuple #[opV zeroOp none 0,e]):=by
 have hvl:=KA M.t.row
 have hwt:=ok.wt
 have htl:=ok.tl
 have hrow:=ok.row
 have hpl:=ok.pl
 have hr:=ok.hr
 have hdi:=ok.di
 have hus:=ok.us
 have hlm:=ok.lm
 have hmd2:=ok.md
 have hsl:=ok.sl
 have hxl:=ok.xl
 have hpu:0≤putA D D.u∧putA D D.u≤4096:=by
  unfold putA
  rw [List.getD_eq_getElem?_getD,List.getElem?_eq_getElem (by omega)]
  exact ok.p0 _ (List.getElem_mem _)
 have hlen:=XZ (JZ D.H false) D.R D.U
 have hun:=Ez hx
 refine Sp.ofD (n:=27) ⟨_,Tryz.func62,V,V,V,V⟩ (Nat.le_of_ble_eq_true V) fun Ps As=>Ja (Jg V (Jw (cs:= [_,_,_,_,_,_,_,_,_]) JA V (by decide) fun b2=>Jg V (Jw (cs:= [_]) YE V (by decide) fun b3=>Je ?_)))
 refine ⟨V,_,_,_,_,_,catch_Redo b2 b3,DefReg.mk (.n2 V V) (by decide),?_⟩
 refine Jc (Ja (JR (Jb V) (dl V) (Jg V (JU (room_0 M.d M.h M.b _ _ _ _ _ _ _ _ _ _ 0 hmd) (.n3 V V V) (by first | exact dl V | decide) .z2 Jx fun _ _ _ q9=>?_))))
 obtain ⟨rfl,rfl,rfl⟩:=q9
 refine Je (Jf (Jc (Y1 (JI _ _ [14] (.c 0 0 (.c 1 0 (.c 2 0 (.c 3 0 (.c 4 0 (.c 5 0 (.c 6 0 (.c 7 0 (.c 8 0 (.b (.c 9 2 (.c 10 0 (.c 11 0 (.c 12 1 (.c 13 2 (.c 14 3 (.c 15 1 .nil))))))) (.c 13 2 (.c 9 2 (.c 10 0 (.c 11 0 (.c 12 1 (.c 14 3 (.c 15 1 .nil))))))))))))))))) mixed (fun _ _ _ _ h=>h) (Sk3 (Sd3 (Sk (Sd3 (Sr))))) (fun _ h=>h) (by kernel_rfl) (by first | exact dl V | decide) fun ws Z0=>JP V (Jb V) (dl V) (JP V (JE V) (dl V) (JP V (Jh (o':=18) Un40 V HX V V) (dl V) (JP V (Jk Un38 V V Jn (dk18 hpl)) (dl V) (JP V (Jb V) (dl V) ?_))))))))
 refine JP V (JE V) (dl V) (JP V (Jh (o':=0) Un40 V YF V V) (dl V) (JP V (Jh (o':=0) Un34 V Vv V V) (dl V) (JP V (Jk Un31 V V Jn V) (dl V) (K7 ?_ ?_))))
 ·refine Jy V V (J9 (X5 M.h M.m M.cap M.A D.H M.L hr M.s M.vu M.vr M.pu M.pr D.U D.R ok.hU ok.hR (by omega) (by omega)) (.n2 V V) (by first | exact dl V | decide) (.n6 .z7 .z7 .z7 .z3 .z3 .z3) (Jl Mm2 (Jl Mm3 Jx)) fun _ _ _ q9=>?_)
  obtain ⟨vu2,pu2,vr2,pr2,hU2,hR2,rfl,rfl,rfl⟩:=q9
  rw [hx]
  refine ⟨⟨(Sd6 (Sk4 (Sr))),Mm0⟩,?_⟩
  refine JP V (Jb V) (dl V) (JP V (Ji (vs:= [_,_]) V V) (dl V) (YY V (Ji (vs:= [_,_]) V V) (dl V) (Jy V V (Jw (cs:= [_,_]) JW V (by first | exact dl V | decide) fun b4=> ?_))))
  refine ⟨⟨(Sd7 (Sk4 (Sr))),Mm0⟩,?_⟩
  refine JK (Ka V V (Jq (cs':= [_,_]) (vs:= [_,_]) JW V V V V V (Nat.le_of_ble_eq_true V) .z (YL V (Jd V) (dl V) (JJ (Jf (Jc (Ja (JR (Jb V) (dl V) (Jg V (Qo (give_e _ _ 70 (by first | exact dl V | decide)) (.n3 V V V) Jx fun _ _ _ q9=>?_))))))))))
  obtain ⟨hv,rfl,rfl⟩:=q9
  refine GQ ?_
  rw [hun] at hU2 hR2
  refine ⟨_,_,_,_,[_,_,_,_,_,_,_,_],[_,_,_],V,hv,⟨_,_,_,_,_,_,_,_,_,_,V⟩,fun Z w hs=>((hs.pick .z8).pick .z9),fun Z w hs=>JT hs Un60 V JA V Jn V (K1 hs Un49 V V (Jj Jn) V .nil),?_,fun Z w hs=>((((((((hs.pick .z5).pick .z5).pick .z5).pick .z10).pick .z9).pick .z9).pick .z9).pick .z10).out (Sk8 (Sd3 (Sr))) (Jl Mm2 (Jl Mm3 (Jl Mm4 Tt1)))⟩
  refine ⟨_,⟨M.d,M.h,M.m,M.b,M.s,M.A,M.cap,M.B,M.t,M.L,vu2,vr2,pu2,pr2⟩,hv,V,ok.mk_ hr hwt hrow hU2 hR2 hdi V ⟨V,V,V⟩ hpl ok.p0 ok.gp ok.rc ok.md ok.sl,V,V,V⟩
 ·refine Jy V V (Jw (cs:= [_,_]) JW V (by first | exact dl V | decide) fun b4=> ?_)
  refine ⟨⟨(Sd (Sk3 (Sd3 (Sk (Sd3 (Sr)))))),Mm0⟩,?_⟩
  refine Jy V V (J9 (X5 M.h M.m M.cap M.A D.H M.L hr M.s M.vu M.vr M.pu M.pr D.U D.R ok.hU ok.hR (by omega) (by omega)) (.n2 V V) (by first | exact dl V | decide) (.n6 .z8 .z8 .z8 .z4 .z4 .z4) (Jl Mm2 (Jl Mm3 Jx)) fun _ _ _ q9=>?_)
  obtain ⟨vu2,pu2,vr2,pr2,hU2,hR2,rfl,rfl,rfl⟩:=q9
  rw [hx]
  refine ⟨⟨(Sd7 (Sk4 (Sr))),Mm0⟩,?_⟩
  refine JP V (Jb V) (dl V) (JP V (Ji (vs:= [_,_]) V V) (dl V) (YY V (Ji (vs:= [_,_]) V V) (dl V) (JK (Ka V V (Jq (cs':= [_,_]) (vs:= [_,_]) JW V V V V V (Nat.le_of_ble_eq_true V) .z6 (YL V (Jd V) (dl V) (JJ (Jf (Jc (Ja (JR (Jb V) (dl V) (Jg V (Qo (give_e _ _ 70 (by first | exact dl V | decide)) (.n3 V V V) Jx fun _ _ _ q9=>?_)))))))))))))
  obtain ⟨hv,rfl,rfl⟩:=q9
  refine GQ ?_
  rw [hun] at hU2 hR2
  refine ⟨_,_,_,_,[_,_,_,_,_,_,_,_],[_,_,_],V,hv,⟨_,_,_,_,_,_,_,_,_,_,V⟩,fun Z w hs=>((hs.pick .z8).pick .z9),fun Z w hs=>JT hs Un60 V JA V Jn V (K1 hs Un49 V V (Jj Jn) V .nil),?_,fun Z w hs=>((((((((hs.pick .z4).pick .z4).pick .z4).pick .z10).pick .z8).pick .z8).pick .z8).pick .z10).out (Sk8 (Sd3 (Sr))) (Jl Mm2 (Jl Mm3 (Jl Mm4 Tt1)))⟩
  refine ⟨_,⟨M.d,M.h,M.m,M.b,M.s,M.A,M.cap,M.B,M.t,M.L,vu2,vr2,pu2,pr2⟩,hv,V,ok.mk_ hr hwt hrow hU2 hR2 hdi V ⟨V,V,V⟩ hpl ok.p0 ok.gp ok.rc ok.md ok.sl,V,V,V⟩
theorem Jbq (M:DM) (D:DS) (ok:DkOk M D) (hmd:(D.made:Int)<D.op) (i0 i1:Int) (j:Nat) (hx:(upF (JZ D.H false) D.R D.U).1=some (i0,i1)) (htu:TuD (redoD D) i0 i1 true j):Sp Tryz.prog 62 [.pointer (some ⟨M.d,0,none⟩)] (KH M D) (barF::KY M D) (fun v Lo fs=> ∃(M2:DM),M2.d=M.d∧DkOk M2 (statD (redoD D) (i0,i1) true j)∧v= .tuple #[opV (statO (redoD D) (i0,i1) true) none 0, .nilIface] ∧Lo=KH M2 (statD (redoD D) (i0,i1) true j)∧fs=KY M2 (statD (redoD D) (i0,i1) true j)):=by
 have hvl:=KA M.t.row
 have hwt:=ok.wt
 have htl:=ok.tl
 have hrow:=ok.row
 have hpl:=ok.pl
 have hr:=ok.hr
 have hdi:=ok.di
 have hus:=ok.us
 have hlm:=ok.lm
 have hmd2:=ok.md
 have hsl:=ok.sl
 have hxl:=ok.xl
 have hpu:0≤putA D D.u∧putA D D.u≤4096:=by
  unfold putA
  rw [List.getD_eq_getElem?_getD,List.getElem?_eq_getElem (by omega)]
  exact ok.p0 _ (List.getElem_mem _)
 have hlen:=XZ (JZ D.H false) D.R D.U
 refine Sp.ofD (n:=27) ⟨_,Tryz.func62,V,V,V,V⟩ (Nat.le_of_ble_eq_true V) fun Ps As=>Ja (Jg V (Jw (cs:= [_,_,_,_,_,_,_,_,_]) JA V (by decide) fun b2=>Jg V (Jw (cs:= [_]) YE V (by decide) fun b3=>Je ?_)))
 refine ⟨V,_,_,_,_,_,catch_Redo b2 b3,DefReg.mk (.n2 V V) (by decide),?_⟩
 refine Jc (Ja (JR (Jb V) (dl V) (Jg V (JU (room_0 M.d M.h M.b _ _ _ _ _ _ _ _ _ _ 0 hmd) (.n3 V V V) (by first | exact dl V | decide) .z2 Jx fun _ _ _ q9=>?_))))
 obtain ⟨rfl,rfl,rfl⟩:=q9
 refine Je (Jf (Jc (Y1 (JI _ _ [14] (.c 0 0 (.c 1 0 (.c 2 0 (.c 3 0 (.c 4 0 (.c 5 0 (.c 6 0 (.c 7 0 (.c 8 0 (.b (.c 9 2 (.c 10 0 (.c 11 0 (.c 12 1 (.c 13 2 (.c 14 3 (.c 15 1 .nil))))))) (.c 13 2 (.c 9 2 (.c 10 0 (.c 11 0 (.c 12 1 (.c 14 3 (.c 15 1 .nil))))))))))))))))) mixed (fun _ _ _ _ h=>h) (Sk3 (Sd3 (Sk (Sd3 (Sr))))) (fun _ h=>h) (by kernel_rfl) (by first | exact dl V | decide) fun ws Z0=>JP V (Jb V) (dl V) (JP V (JE V) (dl V) (JP V (Jh (o':=18) Un40 V HX V V) (dl V) (JP V (Jk Un38 V V Jn (dk18 hpl)) (dl V) (JP V (Jb V) (dl V) ?_))))))))
 refine JP V (JE V) (dl V) (JP V (Jh (o':=0) Un40 V YF V V) (dl V) (JP V (Jh (o':=0) Un34 V Vv V V) (dl V) (JP V (Jk Un31 V V Jn V) (dl V) (K7 ?_ ?_))))
 ·refine Jy V V (J9 (X5 M.h M.m M.cap M.A D.H M.L hr M.s M.vu M.vr M.pu M.pr D.U D.R ok.hU ok.hR (by omega) (by omega)) (.n2 V V) (by first | exact dl V | decide) (.n6 .z7 .z7 .z7 .z3 .z3 .z3) (Jl Mm2 (Jl Mm3 Jx)) fun _ _ _ q9=>?_)
  obtain ⟨vu2,pu2,vr2,pr2,hU2,hR2,rfl,rfl,rfl⟩:=q9
  rw [hx]
  refine ⟨⟨(Sd6 (Sk4 (Sr))),Mm0⟩,?_⟩
  refine JP V (Jb V) (dl V) (JP V (Ji (vs:= [_,_]) V V) (dl V) (YY V (Ji (vs:= [_,_]) V V) (dl V) (Jy V V (Jw (cs:= [_,_]) JW V (by first | exact dl V | decide) fun b4=> ?_))))
  refine ⟨⟨(Sd7 (Sk4 (Sr))),Mm0⟩,?_⟩
  refine JK (Ka V V (Jq (cs':= [_,_]) (vs:= [_,_]) JW V V V V V (Nat.le_of_ble_eq_true V) .z (YL V (Jd V) (dl V) (JJ (Jf (Jc (Ja (JR (Jb V) (dl V) (Jg V (Jm (give_0 _ _) (.n3 V V V) (by first | exact dl V | decide) Jx fun _ _ _ q9=>?_))))))))))
  obtain ⟨rfl,rfl,rfl⟩:=q9
  refine Je (Jf (Jc (JC .z3 (JC .z3 (JC .z3 (JC .z10 (JC .z7 (JC .z7 (JC .z7 (JC .z8 ?_))))))))))
  have hok1:DkOk ⟨M.d,M.h,M.m,M.b,M.s,M.A,M.cap,M.B,M.t,M.L,vu2,vr2,pu2,pr2⟩ (redoD D):=ok.mk_ hr hwt hrow hU2 hR2 hdi rfl ⟨rfl,rfl,rfl⟩ hpl ok.p0 ok.gp ok.rc ok.md (by show (upF (JZ D.H false) D.R D.U).2.2.length+(upF (JZ D.H false) D.R D.U).2.1.length≤D.made;omega)
  refine Ja (JR (Jb V) (dl V) (JR (Js (vs:= [_,_]) Un43 V JW V (Jj (Jj (Jj (Jj (Jj (Jj (Jj (Jj (Jn))))))))) V V) (dl V) (Jg V (J9 (VM ⟨M.d,M.h,M.m,M.b,M.s,M.A,M.cap,M.B,M.t,M.L,vu2,vr2,pu2,pr2⟩ (redoD D) hok1 i0 i1 true j hmd htu.mkd htu.hj htu.hw htu.ne htu.rl htu.rs) (.n3 V V V) (by first | exact dl V | decide) (.n8 .z .z .z .z .z .z .z .z) (Jl Mm1 (Jl Mm2 (Jl Mm3 (Jl Mm4 Jx)))) fun _ _ _ q9=>?_))))
  obtain ⟨M2,hd2,hok2,rfl,rfl,rfl⟩:=q9
  refine Jg V (Jq (cs':= [_,_,_,_,_,_,_,_,_]) (vs:= [_,_,_,_,_,_,_,_,_]) JA V V V V V (Nat.le_of_ble_eq_true V) .z10 (Jg V (JN YE V V V .z .z9 (Je (Jf (Jp ?_))))))
  refine ⟨_,[_,_,_,_,_,_,_,_],[_,_,_],fun Z w hs=>JT hs Un60 V JA V (Jj (Jj (Jj (Jj (Jj (Jj (Jj (Jj (Jj (Jj (Jn))))))))))) V (K1 hs Un49 V V (Jj (Jj (Jj (Jj (Jj (Jj (Jj (Jj (Jj (Jn)))))))))) V .nil),?_,fun Z w hs=>hs.out (Sk8 (Sd3 (Sr))) (Jl Mm0 (Jl Mm1 (Jl Mm2 Tt4)))⟩
  exact ⟨M2,hd2,hok2,V,V,V⟩
 ·refine Jy V V (Jw (cs:= [_,_]) JW V (by first | exact dl V | decide) fun b4=> ?_)
  refine ⟨⟨(Sd (Sk3 (Sd3 (Sk (Sd3 (Sr)))))),Mm0⟩,?_⟩
  refine Jy V V (J9 (X5 M.h M.m M.cap M.A D.H M.L hr M.s M.vu M.vr M.pu M.pr D.U D.R ok.hU ok.hR (by omega) (by omega)) (.n2 V V) (by first | exact dl V | decide) (.n6 .z8 .z8 .z8 .z4 .z4 .z4) (Jl Mm2 (Jl Mm3 Jx)) fun _ _ _ q9=>?_)
  obtain ⟨vu2,pu2,vr2,pr2,hU2,hR2,rfl,rfl,rfl⟩:=q9
  rw [hx]
  refine ⟨⟨(Sd7 (Sk4 (Sr))),Mm0⟩,?_⟩
  refine JP V (Jb V) (dl V) (JP V (Ji (vs:= [_,_]) V V) (dl V) (YY V (Ji (vs:= [_,_]) V V) (dl V) (JK (Ka V V (Jq (cs':= [_,_]) (vs:= [_,_]) JW V V V V V (Nat.le_of_ble_eq_true V) .z6 (YL V (Jd V) (dl V) (JJ (Jf (Jc (Ja (JR (Jb V) (dl V) (Jg V (Jm (give_0 _ _) (.n3 V V V) (by first | exact dl V | decide) Jx fun _ _ _ q9=>?_)))))))))))))
  obtain ⟨rfl,rfl,rfl⟩:=q9
  refine Je (Jf (Jc (JC .z2 (JC .z2 (JC .z2 (JC .z10 (JC .z6 (JC .z6 (JC .z6 (JC .z8 ?_))))))))))
  have hok1:DkOk ⟨M.d,M.h,M.m,M.b,M.s,M.A,M.cap,M.B,M.t,M.L,vu2,vr2,pu2,pr2⟩ (redoD D):=ok.mk_ hr hwt hrow hU2 hR2 hdi rfl ⟨rfl,rfl,rfl⟩ hpl ok.p0 ok.gp ok.rc ok.md (by show (upF (JZ D.H false) D.R D.U).2.2.length+(upF (JZ D.H false) D.R D.U).2.1.length≤D.made;omega)
  refine Ja (JR (Jb V) (dl V) (JR (Js (vs:= [_,_]) Un43 V JW V (Jj (Jj (Jj (Jj (Jj (Jj (Jj (Jj (Jn))))))))) V V) (dl V) (Jg V (J9 (VM ⟨M.d,M.h,M.m,M.b,M.s,M.A,M.cap,M.B,M.t,M.L,vu2,vr2,pu2,pr2⟩ (redoD D) hok1 i0 i1 true j hmd htu.mkd htu.hj htu.hw htu.ne htu.rl htu.rs) (.n3 V V V) (by first | exact dl V | decide) (.n8 .z .z .z .z .z .z .z .z) (Jl Mm1 (Jl Mm2 (Jl Mm3 (Jl Mm4 Jx)))) fun _ _ _ q9=>?_))))
  obtain ⟨M2,hd2,hok2,rfl,rfl,rfl⟩:=q9
  refine Jg V (Jq (cs':= [_,_,_,_,_,_,_,_,_]) (vs:= [_,_,_,_,_,_,_,_,_]) JA V V V V V (Nat.le_of_ble_eq_true V) .z10 (Jg V (JN YE V V V .z .z9 (Je (Jf (Jp ?_))))))
  refine ⟨_,[_,_,_,_,_,_,_,_],[_,_,_],fun Z w hs=>JT hs Un60 V JA V (Jj (Jj (Jj (Jj (Jj (Jj (Jj (Jj (Jj (Jj (Jn))))))))))) V (K1 hs Un49 V V (Jj (Jj (Jj (Jj (Jj (Jj (Jj (Jj (Jj (Jn)))))))))) V .nil),?_,fun Z w hs=>hs.out (Sk8 (Sd3 (Sr))) (Jl Mm0 (Jl Mm1 (Jl Mm2 Tt4)))⟩
  exact ⟨M2,hd2,hok2,V,V,V⟩
theorem turn_e (M:DM) (D:DS) (ok:DkOk M D) (hmd:(D.made:Int)<D.op) (i0 i1:Int) (on:Bool) (he:effE D.H (i0,i1) on≠0):Sp Tryz.prog 13 [.pointer (some ⟨M.d,0,none⟩), .agg #[.int .i64 i0, .int .i64 i1], .bool on] (KH M D) (barF::KY M D) (RefO M D):=by
 have hvl:=KA M.t.row
 have hwt:=ok.wt
 have htl:=ok.tl
 have hrow:=ok.row
 have hpl:=ok.pl
 have hr:=ok.hr
 have hdi:=ok.di
 have hus:=ok.us
 have hlm:=ok.lm
 have hmd2:=ok.md
 have hsl:=ok.sl
 have hxl:=ok.xl
 have hpu:0≤putA D D.u∧putA D D.u≤4096:=by
  unfold putA
  rw [List.getD_eq_getElem?_getD,List.getElem?_eq_getElem (by omega)]
  exact ok.p0 _ (List.getElem_mem _)
 refine Sp.ofD (n:=30) ⟨_,Tryz.func13,V,V,V,V⟩ (Nat.le_of_ble_eq_true V) fun Ps As=>Ja (Jg V (J3 (cs:= [_,_]) V V (by decide) fun b4=>Jg V (Jw (cs:= [_,_,_,_,_,_,_,_,_]) JA V (by decide) fun b6=>Jg V (Jw (cs:= [_]) YE V (by decide) fun b7=>Je ?_))))
 refine ⟨V,_,_,_,_,_,catch_Turn b6 b7,DefReg.mk (.n2 V V) (by decide),?_⟩
 refine Jc (Ja (JR (Jb V) (dl V) (Jg V (JU (room_0 M.d M.h M.b _ _ _ _ _ _ _ _ _ _ 0 hmd) (.n3 V V V) (by first | exact dl V | decide) .z3 Jx fun _ _ _ q9=>?_))))
 obtain ⟨rfl,rfl,rfl⟩:=q9
 refine Je (Jf (Jc (Y1 (JI _ _ [12] (.c 0 0 (.c 1 0 (.c 2 0 (.c 3 0 (.c 4 0 (.c 5 0 (.c 6 0 (.b (.c 7 2 (.c 8 0 (.c 9 0 (.c 10 1 (.c 11 2 (.c 12 3 (.c 13 1 .nil))))))) (.c 11 2 (.c 7 2 (.c 8 0 (.c 9 0 (.c 10 1 (.c 12 3 (.c 13 1 .nil))))))))))))))) mixed (fun _ _ _ _ h=>h) (Sk4 (Sd3 (Sk4 (Sr)))) (fun _ h=>h) (by kernel_rfl) (by first | exact dl V | decide) fun ws Z0=>JP V (Jb V) (dl V) (JP V (JE V) (dl V) (JP V (Jh (o':=0) Un40 V YF V V) (dl V) (JP V (Jh (o':=0) Un34 V Vv V V) (dl V) ?_)))))))
 refine JP V (Jk Un31 V V Jn V) (dl V) (JP V (Js (vs:= [_,_]) Un43 V JW V (Jj (Jj (Jj (Jn)))) V V) (dl V) (JP V (Jb V) (dl V) (K7 ?_ ?_)))
 ·refine Jy V V (Kv (effect_x M.h M.m M.cap M.A D.H M.L hr i0 i1 on he) (.n3 V V V) (by first | exact dl V | decide) .z4 .z4 .z4 (Jl Mm2 (Jl Mm3 Jx)) fun _ _ _ q9=>?_)
  obtain ⟨rfl,rfl,rfl⟩:=q9
  refine ⟨⟨(Sd3 (Sk8 (Sr))),Mm0⟩,?_⟩
  refine JP V (Jb V) (dl V) (JP V (Ji (vs:= [_,_]) V V) (dl V) (YY V (Ji (vs:= [_,_]) V V) (dl V) (Jy V V (Jw (cs:= [_,_,_,_,_,_,_,_,_]) JA V (by first | exact dl V | decide) fun b8=> ?_))))
  refine ⟨⟨(Sd4 (Sk8 (Sr))),Mm0⟩,?_⟩
  refine JK (Ka V V (Jq (cs':= [_,_,_,_,_,_,_,_,_]) (vs:= [_,_,_,_,_,_,_,_,_]) JA V V V V V (Nat.le_of_ble_eq_true V) .z (YL V (Jd V) (dl V) (JJ (Jf (Jc (Ja (JR (Jb V) (dl V) (Jg V (Qo (give_e _ _ _ he) (.n3 V V V) Jx fun _ _ _ q9=>?_))))))))))
  obtain ⟨hv,rfl,rfl⟩:=q9
  refine GQ ?_
  refine ⟨_,_,_,_,[_,_,_,_,_,_,_,_],[],V,hv,⟨_,_,_,_,_,_,_,_,_,_,V⟩,fun Z w hs=>((hs.pick .z5).pick .z6),fun Z w hs=>JT hs Un60 V JA V Jn V (K1 hs Un49 V V (Jj Jn) V .nil),?_,fun Z w hs=>((((((((hs.pick .z11).pick .z11).pick .z11).pick .z11).pick .z9).pick .z9).pick .z9).pick .z10).out (Sk8 (Sd4 (Sr))) Tt1⟩
  exact ⟨_,hv,V,V,V⟩
 ·refine Jy V V (Jw (cs:= [_,_,_,_,_,_,_,_,_]) JA V (by first | exact dl V | decide) fun b8=> ?_)
  refine ⟨⟨(Sd (Sk4 (Sd3 (Sk4 (Sr))))),Mm0⟩,?_⟩
  refine Jy V V (Kv (effect_x M.h M.m M.cap M.A D.H M.L hr i0 i1 on he) (.n3 V V V) (by first | exact dl V | decide) .z5 .z5 .z5 (Jl Mm2 (Jl Mm3 Jx)) fun _ _ _ q9=>?_)
  obtain ⟨rfl,rfl,rfl⟩:=q9
  refine ⟨⟨(Sd4 (Sk8 (Sr))),Mm0⟩,?_⟩
  refine JP V (Jb V) (dl V) (JP V (Ji (vs:= [_,_]) V V) (dl V) (YY V (Ji (vs:= [_,_]) V V) (dl V) (JK (Ka V V (Jq (cs':= [_,_,_,_,_,_,_,_,_]) (vs:= [_,_,_,_,_,_,_,_,_]) JA V V V V V (Nat.le_of_ble_eq_true V) .z3 (YL V (Jd V) (dl V) (JJ (Jf (Jc (Ja (JR (Jb V) (dl V) (Jg V (Qo (give_e _ _ _ he) (.n3 V V V) Jx fun _ _ _ q9=>?_)))))))))))))
  obtain ⟨hv,rfl,rfl⟩:=q9
  refine GQ ?_
  refine ⟨_,_,_,_,[_,_,_,_,_,_,_,_],[],V,hv,⟨_,_,_,_,_,_,_,_,_,_,V⟩,fun Z w hs=>((hs.pick .z5).pick .z6),fun Z w hs=>JT hs Un60 V JA V Jn V (K1 hs Un49 V V (Jj Jn) V .nil),?_,fun Z w hs=>((((((((hs.pick .z11).pick .z11).pick .z11).pick .z11).pick .z8).pick .z8).pick .z8).pick .z10).out (Sk8 (Sd4 (Sr))) Tt1⟩
  exact ⟨_,hv,V,V,V⟩
theorem turn_d (M:DM) (D:DS) (ok:DkOk M D) (hmd:(D.made:Int)<D.op) (i0 i1:Int) (on:Bool) (k j:Nat) (hw:J5 D.H.ents i0 i1=some k) (hk:k<D.H.ents.length) (hk4:D.H.ents[k].op.kind≠4) (hoff:D.H.ents[k].off=on) (htu:TuD D i0 i1 on j):Sp Tryz.prog 13 [.pointer (some ⟨M.d,0,none⟩), .agg #[.int .i64 i0, .int .i64 i1], .bool on] (KH M D) (barF::KY M D) (fun v Lo fs=> ∃(M2:DM),M2.d=M.d∧DkOk M2 (statD D (i0,i1) on j)∧v= .tuple #[opV (statO D (i0,i1) on) none 0, .nilIface] ∧Lo=KH M2 (statD D (i0,i1) on j)∧fs=KY M2 (statD D (i0,i1) on j)):=by
 have hvl:=KA M.t.row
 have hwt:=ok.wt
 have htl:=ok.tl
 have hrow:=ok.row
 have hpl:=ok.pl
 have hr:=ok.hr
 have hdi:=ok.di
 have hus:=ok.us
 have hlm:=ok.lm
 have hmd2:=ok.md
 have hsl:=ok.sl
 have hxl:=ok.xl
 have hpu:0≤putA D D.u∧putA D D.u≤4096:=by
  unfold putA
  rw [List.getD_eq_getElem?_getD,List.getElem?_eq_getElem (by omega)]
  exact ok.p0 _ (List.getElem_mem _)
 refine Sp.ofD (n:=30) ⟨_,Tryz.func13,V,V,V,V⟩ (Nat.le_of_ble_eq_true V) fun Ps As=>Ja (Jg V (J3 (cs:= [_,_]) V V (by decide) fun b4=>Jg V (Jw (cs:= [_,_,_,_,_,_,_,_,_]) JA V (by decide) fun b6=>Jg V (Jw (cs:= [_]) YE V (by decide) fun b7=>Je ?_))))
 refine ⟨V,_,_,_,_,_,catch_Turn b6 b7,DefReg.mk (.n2 V V) (by decide),?_⟩
 refine Jc (Ja (JR (Jb V) (dl V) (Jg V (JU (room_0 M.d M.h M.b _ _ _ _ _ _ _ _ _ _ 0 hmd) (.n3 V V V) (by first | exact dl V | decide) .z3 Jx fun _ _ _ q9=>?_))))
 obtain ⟨rfl,rfl,rfl⟩:=q9
 refine Je (Jf (Jc (Y1 (JI _ _ [12] (.c 0 0 (.c 1 0 (.c 2 0 (.c 3 0 (.c 4 0 (.c 5 0 (.c 6 0 (.b (.c 7 2 (.c 8 0 (.c 9 0 (.c 10 1 (.c 11 2 (.c 12 3 (.c 13 1 .nil))))))) (.c 11 2 (.c 7 2 (.c 8 0 (.c 9 0 (.c 10 1 (.c 12 3 (.c 13 1 .nil))))))))))))))) mixed (fun _ _ _ _ h=>h) (Sk4 (Sd3 (Sk4 (Sr)))) (fun _ h=>h) (by kernel_rfl) (by first | exact dl V | decide) fun ws Z0=>JP V (Jb V) (dl V) (JP V (JE V) (dl V) (JP V (Jh (o':=0) Un40 V YF V V) (dl V) (JP V (Jh (o':=0) Un34 V Vv V V) (dl V) ?_)))))))
 refine JP V (Jk Un31 V V Jn V) (dl V) (JP V (Js (vs:= [_,_]) Un43 V JW V (Jj (Jj (Jj (Jn)))) V V) (dl V) (JP V (Jb V) (dl V) (K7 ?_ ?_)))
 ·refine Jy V V (Kv (effect_y M.h M.m M.cap M.A D.H M.L hr i0 i1 k hw hk hk4 on hoff) (.n3 V V V) (by first | exact dl V | decide) .z4 .z4 .z4 (Jl Mm2 (Jl Mm3 Jx)) fun _ _ _ q9=>?_)
  obtain ⟨Ae,ce,rfl,rfl,rfl⟩:=q9
  refine ⟨⟨(Sd3 (Sk8 (Sr))),Mm1⟩,?_⟩
  refine JP V (Jb V) (dl V) (JP V (Ji (vs:= [_,_]) V V) (dl V) (YY V (Ji (vs:= [_,_]) V V) (dl V) (Jy V V (Jw (cs:= [_,_,_,_,_,_,_,_,_]) JA V (by first | exact dl V | decide) fun b8=> ?_))))
  refine ⟨⟨(Sd4 (Sk8 (Sr))),Mm1⟩,?_⟩
  refine JK (Ka V V (Jq (cs':= [_,_,_,_,_,_,_,_,_]) (vs:= [_,_,_,_,_,_,_,_,_]) JA V V V V V (Nat.le_of_ble_eq_true V) .z (YL V (Jd V) (dl V) (JJ (Jf (Jc (Ja (JR (Jb V) (dl V) (Jg V (Jm (give_0 _ _) (.n3 V V V) (by first | exact dl V | decide) Jx fun _ _ _ q9=>?_))))))))))
  obtain ⟨rfl,rfl,rfl⟩:=q9
  refine Je (Jf (Jc (JC .z11 (JC .z11 (JC .z11 (JC .z11 (JC .z7 (JC .z7 (JC .z7 (JC .z8 (Ja ?_)))))))))))
  refine JR (Jb V) (dl V) (JR (Js (vs:= [_,_]) Un43 V JW V (Jj (Jj (Jj (Jj (Jj (Jj (Jj (Jj (Jj (Jj (Jj (Jn)))))))))))) V V) (dl V) (JR (Jb V) (dl V) (Jg V (J9 (VM M D ok i0 i1 on j hmd htu.mkd htu.hj htu.hw htu.ne htu.rl htu.rs) (.n3 V V V) (by first | exact dl V | decide) (.n8 .z .z .z .z .z .z .z .z) (Jl Mm2 (Jl Mm3 (Jl Mm4 (Jl Mm5 Jx)))) fun _ _ _ q9=>?_))))
  obtain ⟨M2,hd2,hok2,rfl,rfl,rfl⟩:=q9
  refine Jg V (Jq (cs':= [_,_,_,_,_,_,_,_,_]) (vs:= [_,_,_,_,_,_,_,_,_]) JA V V V V V (Nat.le_of_ble_eq_true V) .z10 (Jg V (JN YE V V V .z .z9 (Je (Jf (Jp ?_))))))
  refine ⟨_,[_,_,_,_,_,_,_,_],[_,_,_],fun Z w hs=>JT hs Un60 V JA V (Jj (Jj (Jj (Jj (Jj (Jj (Jj (Jj (Jj (Jj (Jn))))))))))) V (K1 hs Un49 V V (Jj (Jj (Jj (Jj (Jj (Jj (Jj (Jj (Jj (Jn)))))))))) V .nil),?_,fun Z w hs=>hs.out (Sk8 (Sd4 (Sr))) (Jl Mm0 (Jl Mm1 (Jl Mm2 Tt5)))⟩
  exact ⟨M2,hd2,hok2,V,V,V⟩
 ·refine Jy V V (Jw (cs:= [_,_,_,_,_,_,_,_,_]) JA V (by first | exact dl V | decide) fun b8=> ?_)
  refine ⟨⟨(Sd (Sk4 (Sd3 (Sk4 (Sr))))),Mm0⟩,?_⟩
  refine Jy V V (Kv (effect_y M.h M.m M.cap M.A D.H M.L hr i0 i1 k hw hk hk4 on hoff) (.n3 V V V) (by first | exact dl V | decide) .z5 .z5 .z5 (Jl Mm2 (Jl Mm3 Jx)) fun _ _ _ q9=>?_)
  obtain ⟨Ae,ce,rfl,rfl,rfl⟩:=q9
  refine ⟨⟨(Sd4 (Sk8 (Sr))),Mm1⟩,?_⟩
  refine JP V (Jb V) (dl V) (JP V (Ji (vs:= [_,_]) V V) (dl V) (YY V (Ji (vs:= [_,_]) V V) (dl V) (JK (Ka V V (Jq (cs':= [_,_,_,_,_,_,_,_,_]) (vs:= [_,_,_,_,_,_,_,_,_]) JA V V V V V (Nat.le_of_ble_eq_true V) .z3 (YL V (Jd V) (dl V) (JJ (Jf (Jc (Ja (JR (Jb V) (dl V) (Jg V (Jm (give_0 _ _) (.n3 V V V) (by first | exact dl V | decide) Jx fun _ _ _ q9=>?_)))))))))))))
  obtain ⟨rfl,rfl,rfl⟩:=q9
  refine Je (Jf (Jc (JC .z11 (JC .z11 (JC .z11 (JC .z11 (JC .z6 (JC .z6 (JC .z6 (JC .z8 (Ja ?_)))))))))))
  refine JR (Jb V) (dl V) (JR (Js (vs:= [_,_]) Un43 V JW V (Jj (Jj (Jj (Jj (Jj (Jj (Jj (Jj (Jj (Jj (Jj (Jn)))))))))))) V V) (dl V) (JR (Jb V) (dl V) (Jg V (J9 (VM M D ok i0 i1 on j hmd htu.mkd htu.hj htu.hw htu.ne htu.rl htu.rs) (.n3 V V V) (by first | exact dl V | decide) (.n8 .z .z .z .z .z .z .z .z) (Jl Mm2 (Jl Mm3 (Jl Mm4 (Jl Mm5 Jx)))) fun _ _ _ q9=>?_))))
  obtain ⟨M2,hd2,hok2,rfl,rfl,rfl⟩:=q9
  refine Jg V (Jq (cs':= [_,_,_,_,_,_,_,_,_]) (vs:= [_,_,_,_,_,_,_,_,_]) JA V V V V V (Nat.le_of_ble_eq_true V) .z10 (Jg V (JN YE V V V .z .z9 (Je (Jf (Jp ?_))))))
  refine ⟨_,[_,_,_,_,_,_,_,_],[_,_,_],fun Z w hs=>JT hs Un60 V JA V (Jj (Jj (Jj (Jj (Jj (Jj (Jj (Jj (Jj (Jj (Jn))))))))))) V (K1 hs Un49 V V (Jj (Jj (Jj (Jj (Jj (Jj (Jj (Jj (Jj (Jn)))))))))) V .nil),?_,fun Z w hs=>hs.out (Sk8 (Sd4 (Sr))) (Jl Mm0 (Jl Mm1 (Jl Mm2 Tt5)))⟩
  exact ⟨M2,hd2,hok2,V,V,V⟩
theorem HH (c:Nat) (o:GOp) (A:Option Addr) (k:Nat) (hf:Fit o) (ho:ownF o=0) (hk:o.kind=1) (hc:c≤60000) (hw:0≤Jr o∧Jr o≤256):Sp Tryz.prog 95 [.int .i64 c,opV o A k] [] [barF,RdF rgD A k o.rs] (Is (.tuple #[.int .i64 (if o.at_<c then c+Jr o else c), .int .i64 0])):=by
 have hft:=hf.text
 refine Sp.of (n:=38) ⟨_,Tryz.func95,V,V,V,V⟩ (Nat.le_of_ble_eq_true V) fun Ps As=>Jc (Ja (Jg V (J3 (cs:= [_,_,_,_,_,_,_,_,_]) V V (by decide) fun b3=>Lq (Jd V) (Lq (Jd V) (Je (Jf (Jc (Jc (Ja (Lq (Js (vs:= [_,_,_,_,_,_,_,_,_]) Un60 V JA V Jn V V) (Jg V (Jm (Jbh o A k hf) (.n1 V) (by decide) (Jl Mm0 (Jl Mm1 Jx)) fun _ _ _ q9=>?_))))))))))))
 obtain ⟨rfl,rfl,rfl⟩:=q9
 rw [ho]
 refine Lq (Jd V) (Je (Jf (Jc (Ja (Lq (Jb V) (Lq (Kr V V) (Je (Jf (Ju V V (Jo (Jf (Jc (Jc (Ja (Lq (Jb V) (Lq (Km V V) (Lq (Jb V) (Lg V V V (decide_eq_false (by omega)) (Jb V) (Lg V V V (decide_eq_false (by omega)) (Kl V V) ?_)))))))))))))))))))
 refine Lq (JL V (decide_eq_false (by omega)) V) (Je (Jf (Ju V (decide_eq_false (by omega)) (Jo (Jf (Jc (Jc (Ja (Lq (Jh (o':=0) Un60 V KM V V) (Lq (Jh (o':=2) Un58 V Yh V V) (Lq (Jk Un44 V V Jn V) (Lq (Kr V V) (Lq (Jb V) (Lg V V V (by simpa using hk) (Jh (o':=3) Un60 V ti3 V V) ?_))))))))))))))
 refine Lg V V V (by simpa using hk) (Jk Un3 V V Jn V) (Lg V V V (by simpa using hk) (Jb V) (Lg V V V (by simpa using hk) (Yc V V) (Lq (JL V (by simpa using hk) V) (Je (Jf (Jz V (fun h27=> ?_) (fun h27=> ?_)))))))
 ·refine Jc (Ja (Lq (Jb V) (Lq (Jd V) (Lq (Jd V) (Je (Jf (Jp (Jt ?_))))))))
  refine ⟨_,[],[],fun Z w hs=> .tmp V (.tmp V .nil),?_,fun Z w hs=>hs.out (Sd (Sr)) (fun _ h=>h)⟩
  exact ⟨by rw [if_neg (by have h:=h27;simp at h;omega)];rfl,V,V⟩
 ·refine Jo (Jf (Jc (Jc (Ja (Lq (Jb V) (Lq (Js (vs:= [_,_,_,_,_,_,_,_,_]) Un60 V JA V Jn V V) (Jg V (Jm (YC o A k (by omega)) (.n1 V) (by decide) (Jl Mm0 Jx) fun _ _ _ q9=>?_))))))))
  obtain ⟨rfl,rfl,rfl⟩:=q9
  refine Lq (JQ V V (wr64 (by omega))) (Lq (Kl V V) (Je (Jf (Ju V (decide_eq_false (by omega)) (Jo (Jf (Jc (Ja (Lq (Jb V) (Lq (Js (vs:= [_,_,_,_,_,_,_,_,_]) Un60 V JA V Jn V V) (Jg V (Jm (YC o A k (by omega)) (.n1 V) (by decide) (Jl Mm0 Jx) fun _ _ _ q9=>?_))))))))))))
  obtain ⟨rfl,rfl,rfl⟩:=q9
  refine Lq (JQ V V (wr64 (by omega))) (Lq (Jd V) (Lq (Jd V) (Je (Jf (Jp ?_)))))
  refine ⟨_,[],[],fun Z w hs=> .tmp V (.tmp V .nil),?_,fun Z w hs=>hs.out (Sd (Sr)) (fun _ h=>h)⟩
  exact ⟨by rw [if_pos (by have h:=h27;simp at h;omega)];rfl,V,V⟩
theorem Z8 (t:TypeId) (x:Value):Sp Tryz.prog 94 [.nilIface, .iface t x] [] [] (Is (.bool false)):=by
 refine Sp.of (n:=42) ⟨_,Tryz.func94,V,V,V,V⟩ (Nat.le_of_ble_eq_true V) fun Ps As=>Jc (Ja (Lq (Jd V) (Je (Jf (Jc (Jc (Ja (Lq (Jb V) (Lq (VA Un49 V) (Je (Jf (JS V V (Jc (Ja (Lq (Jd V) (Je (Jf (Jp (Jt ?_)))))))))))))))))))
 refine ⟨_,[],[],fun Z w hs=> .tmp V .nil,?_,fun Z w hs=>hs.out (Sr) (fun _ h=>h)⟩
 exact ⟨V,V,V⟩
structure TaD (D:DS) (o:GOp):Prop where
 tk:TkD D.H D.X D.H.ops.length D.got o (putF D.H D.got o).1 (putF D.H D.got o).2.1
 nl:(putF D.H D.got o).1.ops.length=D.H.ops.length+1
 len:(JX (putF D.H D.got o).2.1 D.X).length=D.X.length+(Jr o).toNat
 wd:(putF D.H D.got o).2.1.kind=1→Jr (putF D.H D.got o).2.1=Jr o
 w0:0≤Jr o∧Jr o≤256
 di:DI (D.H.ops.length+1) (putF D.H D.got o).1 (JX (putF D.H D.got o).2.1 D.X)
theorem take_0 (M:DM) (D:DS) (ok:DkOk M D) (o:GOp) (Ao:Option Addr) (co:Nat) (hcu:o.c≠D.u) (hc:1≤o.c∧o.c≤D.cl) (hn:o.n≤D.op) (hts:o.text.size≤1048576) (hce:putA D o.c+Jr o≤D.ce) (hta:TaD D o):Sp Tryz.prog 60 [.pointer (some ⟨M.d,0,none⟩),opV o Ao co] (KH M D) (barF::KY M D++ [RdF rgD Ao co o.rs]) (DkR M (K4 D o) .nilIface):=by
 have hvl:=KA M.t.row
 have hwt:=ok.wt
 have htl:=ok.tl
 have hrow:=ok.row
 have hpl:=ok.pl
 have hr:=ok.hr
 have hdi:=ok.di
 have hus:=ok.us
 have hlm:=ok.lm
 have hmd2:=ok.md
 have hsl:=ok.sl
 have hxl:=ok.xl
 have hpu:0≤putA D D.u∧putA D D.u≤4096:=by
  unfold putA
  rw [List.getD_eq_getElem?_getD,List.getElem?_eq_getElem (by omega)]
  exact ok.p0 _ (List.getElem_mem _)
 have hgp:=ok.gp
 have hw0:=hta.w0
 have hln:=hta.len
 have hpc:0≤putA D o.c∧putA D o.c≤4096:=by
  unfold putA
  rw [List.getD_eq_getElem?_getD,List.getElem?_eq_getElem (by omega)]
  exact ok.p0 _ (List.getElem_mem _)
 refine Sp.ofD (n:=130) ⟨_,Tryz.func60,V,V,V,V⟩ (Nat.le_of_ble_eq_true V) fun Ps As=>Ja (Jg V (J3 (cs:= [_,_,_,_,_,_,_,_,_]) V V (by decide) fun b3=>Jg V (Jw (cs:= [_]) YE V (by decide) fun b4=>Je ?_)))
 refine ⟨V,_,_,_,_,_,catch_Take b4,DefReg.mk (.n1 V) (by decide),?_⟩
 refine Jc (Y1 (JI _ _ [] (.c 0 0 (.c 1 0 (.c 2 0 (.c 3 0 (.c 4 0 (.c 5 2 (.c 6 0 (.c 7 0 .nil)))))))) mixed (fun _ _ _ _ h=>h) (Sk10 (Sr)) (fun _ h=>h) (by kernel_rfl) (by first | exact dl V | decide) fun ws Z0=>JP V (Jh (o':=0) Un60 V KM V V) (dl V) (JP V (Jh (o':=0) Un58 V JW V V) (dl V) (JP V (Yn (o':=0) Un43 ti3 V V (by first | exact dl V | decide) (by first | exact dl V | decide) V) (dl V) (JP V (Jk Un3 V V (Jj (Jn)) V) (dl V) ?_)))))
 refine JP V (Js (vs:= [_,_,_,_,_,_,_,_,_]) Un60 V JA V (Jj (Jn)) V V) (dl V) (Jy V V (Jm (YC o Ao co (by omega)) (.n1 V) (by first | exact dl V | decide) (Jl Mm1 Jx) fun _ _ _ q9=>?_))
 obtain ⟨rfl,rfl,rfl⟩:=q9
 refine ⟨⟨(Sk10 (Sr)),Mm0⟩,?_⟩
 refine JP V (Jd V) (dl V) (JP V (Jd V) (dl V) (JK (JJ (Jf (Jc (Jc (Ja (JR (Jb V) (dl V) (JR (Jb V) (dl V) (JR (JE V) (dl V) (JR (Jh (o':=2) Un40 V ti3 V V) (dl V) (JR (Jk Un3 V V (Jj (Jj (Jn))) V) (dl V) (JR (Kb V V) (dl V) ?_)))))))))))))
 refine JR (Jb V) (dl V) (XT V V V (by simpa using hcu) (Jb V) (dl V) (XT V V V (by simpa using hcu) (Jb V) (dl V) (XT V V V (by simpa using hcu) (JE V) (dl V) (XT V V V (by simpa using hcu) (Jh (o':=3) Un40 V Ee V V) (dl V) (XT V V V (by simpa using hcu) (Jh (o':=3) Un36 V ti3 V V) (dl V) (XT V V V (by simpa using hcu) (Jk Un3 V V (Jj (Jj (Jn))) V) (dl V) (KD V V V (by simpa using hcu) (Jm (Qp _ _ _) (.n3 V V V) (by first | exact dl V | decide) Jx fun _ _ _ q9=>?_))))))))
 obtain ⟨rfl,rfl,rfl⟩:=q9
 refine XT V V V (by simpa using hcu) (KU V) (dl V) (JR (JL V (by simpa using hcu) V) (dl V) (Je (Jf (Ju V (by rw [decide_eq_true (by omega)];rfl) (Jo (Jf (Jc (Jc (Y1 (JI _ _ [] (.c 0 0 (.c 1 0 (.c 2 0 (.c 3 0 (.c 4 0 (.c 5 0 (.c 6 0 (.c 7 0 (.c 8 0 (.c 9 0 .nil)))))))))) mixed (fun _ _ _ _ h=>h) (Sk10 (Sr)) (fun _ h=>h) (by kernel_rfl) (by first | exact dl V | decide) fun ws Z0=>JP V (Jh (o':=0) Un60 V KM V V) (dl V) (JP V (Jh (o':=0) Un58 V JW V V) (dl V) ?_)))))))))))
 refine JP V (Yn (o':=1) Un43 ti3 V V (by first | exact dl V | decide) (by first | exact dl V | decide) V) (dl V) (JP V (Jk Un3 V V (Jj (Jn)) V) (dl V) (JP V (Jb V) (dl V) (JP V (JE V) (dl V) (JP V (Jh (o':=3) Un40 V Ee V V) (dl V) (JP V (Jh (o':=5) Un36 V ti3 V V) (dl V) (JP V (Jk Un3 V V (Jj (Jj (Jn))) V) (dl V) (JP V (Kl V V) (dl V) (JK (JJ (Jf ?_))))))))))
 refine Ju V (decide_eq_false (by omega)) (Jo (Jf (Jc (Jc (Y1 (JI _ _ [] (.c 0 0 (.c 1 0 (.c 2 0 (.c 3 0 (.c 4 0 (.c 5 0 (.c 6 0 (.c 7 0 (.c 8 0 (.c 9 0 (.c 10 0 (.c 11 0 (.c 12 0 (.c 13 0 .nil)))))))))))))) mixed (fun _ _ _ _ h=>h) (Sk10 (Sr)) (fun _ h=>h) (by kernel_rfl) (by first | exact dl V | decide) fun ws Z0=>JP V (Jb V) (dl V) (JP V (Jb V) (dl V) (JP V (JE V) (dl V) (JP V (Jh (o':=8) Un40 V EA V V) (dl V) ?_)))))))))
 refine JP V (Yn (o':=8+o.c.toNat) Un37 ti3 V V (by omega) (by omega) (by omega)) (dl V) (JP V (Jk (v:= .int .i64 (D.put.getD o.c.toNat 0)) Un3 V V (Jj (Jj (Jn))) (dkput hpl (by omega))) (dl V) (JP V (Jb V) (dl V) (JP V (JQ V V (wr64 (by have:=hpc;unfold putA at this;omega))) (dl V) (JP V (Jb V) (dl V) (JP V (JE V) (dl V) (JP V (Jh (o':=3) Un40 V Ee V V) (dl V) (JP V (Jh (o':=4) Un36 V ti3 V V) (dl V) (JP V (Jk Un3 V V (Jj (Jj (Jn))) V) (dl V) (JP V (Kl V V) (dl V) ?_)))))))))
 refine JK (JJ (Jf (Ju V (decide_eq_false (by exact Int.not_lt.2 hce)) (Jo (Jf (Jc (JC .z6 (JC .z6 (JC .z6 (JC .z6 (JC .z6 (Y1 ?_))))))))))))
 refine JI _ _ [13] (.c 0 0 (.c 1 0 (.c 2 0 (.c 3 0 (.c 4 0 (.c 5 0 (.c 6 0 (.c 7 0 (.b (.c 8 2 (.c 9 0 (.c 10 0 (.c 11 1 (.c 12 2 (.c 13 3 (.c 14 1 .nil))))))) (.c 12 2 (.c 8 2 (.c 9 0 (.c 10 0 (.c 11 1 (.c 13 3 (.c 14 1 .nil)))))))))))))))) mixed (fun _ _ _ _ h=>h) (Sk (Sd4 (Sk5 (Sr)))) (fun _ h=>h) (by kernel_rfl) (by first | exact dl V | decide) fun ws Z0=>JP V (Jb V) (dl V) (JP V (JE V) (dl V) (JP V (Jh (o':=0) Un40 V YF V V) (dl V) (JP V (Jb V) (dl V) (JP V (JE V) (dl V) (JP V (Jh (o':=6) Un40 V ti3 V V) (dl V) ?_)))))
 refine JP V (Jk Un3 V V Jn V) (dl V) (JP V (Js (vs:= [_,_,_,_,_,_,_,_,_]) Un60 V JA V (Jj (Jj (Jn))) V V) (dl V) (K7 ?_ ?_))
 ·refine Jy V V (J9 (Xr M.d M.h M.m M.b _ _ D.H M.L M.A M.cap M.B M.t D.H.ops.length D.X D.got o Ao co (putF D.H D.got o).1 (putF D.H D.got o).2.1 hr hwt hrow hdi hta.tk) (.n3 V V V) (by first | exact dl V | decide) (.n5 .z .z .z .z .z) (Jl Mm4 (Jl Mm5 (Jl Mm6 (Jl Mm7 (Jl Mm8 Jx))))) fun _ _ _ q9=>?_)
  obtain ⟨L2,A2,cap2,B2,t2,Ae,ce2,rfl,hr2,wt2,hX2,rfl,rfl⟩:=q9
  refine ⟨⟨(Sk (Sd4 (Sk5 (Sr)))),Mm4⟩,?_⟩
  refine JP V (Jb V) (dl V) (JP V (Ji (vs:= [_,_]) V V) (dl V) (YY V (Ji (vs:= [_,_]) V V) (dl V) (Jy V V (Jw (cs:= [_,_,_,_,_,_,_,_,_]) JA V (by first | exact dl V | decide) fun b7=> ?_))))
  refine ⟨⟨(Sd (Sk (Sd4 (Sk5 (Sr))))),Mm4⟩,?_⟩
  refine JK (Ka V V (Jq (cs':= [_,_,_,_,_,_,_,_,_]) (vs:= [_,_,_,_,_,_,_,_,_]) JA V V V V V (Nat.le_of_ble_eq_true V) .z (YL V (Jd V) (dl V) (JJ (Jf (Jc (Ja (Jg V (Jw (cs:= [_]) Jb5 V (by first | exact dl V | decide) fun b9=>Je (Jf (Jc (Jc (Ja (JR (Jb V) (dl V) (JR (Gp (by rw [Un169];rfl) V) (dl V) (Jg V (Jm (Z8 _ _) (.n2 V V) (by first | exact dl V | decide) Jx fun _ _ _ q9=>?_)))))))))))))))))
  obtain ⟨rfl,rfl,rfl⟩:=q9
  refine Je (Jf (Ju V V (Jo (Jf (Jc (Ja (JR (Jb V) (dl V) (JR (JE V) (dl V) (JR (Jh (o':=6) Un40 V ti3 V V) (dl V) (JR (Jk Un3 V V (Jj (Jj (Jn))) V) (dl V) (JR (JQ V V (wr64 (by have:=ok.rc;have:=hdi.le;omega)) (c:=((D.got+1:Nat):Int))) (dl V) (JR (JE V) (dl V) (JR (Jh (o':=6) Un40 V ti3 V V) (dl V) (Jg V (JN ti3 V V V .z6 .z2 (Je (Jf (Jc ?_))))))))))))))))))
  refine Y1 (JI _ _ [11] (.c 0 0 (.c 1 0 (.c 2 0 (.c 3 0 (.c 4 0 (.c 5 0 (.c 6 0 (.c 7 0 (.c 8 0 (.c 9 0 (.c 10 0 (.c 11 3 .nil)))))))))))) mixed (fun _ _ _ _ h=>h) (Sk12 (Sr)) (fun _ h=>h) (by kernel_rfl) (by first | exact dl V | decide) fun ws Z0=>JP V (Jb V) (dl V) (JP V (Jb V) (dl V) (JP V (JE V) (dl V) (JP V (Jh (o':=8) Un40 V EA V V) (dl V) (JP V (Yn (o':=8+o.c.toNat) Un37 ti3 V V (by omega) (by omega) (by omega)) (dl V) ?_)))))
  refine JP V (Jk (v:= .int .i64 (D.put.getD o.c.toNat 0)) Un3 V V (Jj (Jj (Jn))) (dkput hpl (by omega))) (dl V) (JP V (Jb V) (dl V) (JP V (JQ V V (wr64 (by have:=hpc;unfold putA at this;omega)) (c:=putA D o.c+Jr o)) (dl V) (JP V (JE V) (dl V) (JP V (Jh (o':=8) Un40 V EA V V) (dl V) (JP V (Yn (o':=8+o.c.toNat) Un37 ti3 V V (by omega) (by omega) (by omega)) (dl V) (JK (Ka V V (Yf ti3 V V V (dklc hpl (by omega)) .z2 ?_))))))))
  rw [dksetc hpl (by omega)]
  refine JJ (Jf (Jc (Jc (Ja (JR (Jh (o':=0) Un60 V KM V V) (dl V) (JR (Jh (o':=2) Un58 V Yh V V) (dl V) (JR (Jk Un44 V V (Jj (Jn)) V) (dl V) (JR (Kb V V) (dl V) (Je (Jf (JG [(117,_),(7,_),(4,_),(0,_)] (.m4 V V V V) (Jz V (fun h117=> ?_) (fun h117=> ?_)))))))))))))
  ·have hek:(putF D.H D.got o).2.1.kind=1:=by simpa using h117
   have heo:=hta.tk.app (by rw [hek];decide)
   have hR:Right D.X.length (putF D.H D.got o).2.1:=⟨heo.ck, .inl hek⟩
   have hown:=hR.own (by omega)
   have hwd:=hta.wd hek
   have hei:=hR.ins hek
   have hxt:=hta.tk.text
   have hxr:=hta.tk.rs
   refine Y1 (JI _ _ [12] (.c 0 0 (.c 1 0 (.c 2 0 (.c 3 0 (.c 4 0 (.c 5 0 (.c 6 2 (.c 7 0 (.c 8 0 (.c 9 1 (.c 10 0 (.c 11 0 (.c 12 3 .nil))))))))))))) mixed (fun _ _ _ _ h=>h) (Sk12 (Sr)) (fun _ h=>h) (by kernel_rfl) (by first | exact dl V | decide) fun ws Z0=>JP V (Jb V) (dl V) (JP V (Jb V) (dl V) (JP V (JE V) (dl V) (JP V (Jh (o':=17) Un40 V ti3 V V) (dl V) (JP V (Jk Un3 V V (Jj (Jj (Jn))) (dk17 (by rw [List.length_set];exact hpl))) (dl V) ?_)))))
   refine JP V (Js (vs:= [_,_,_,_,_,_,_,_,_]) Un60 V JA V (Jj (Jn)) V V) (dl V) (Jy V V (Jm (HH D.gap (putF D.H D.got o).2.1 Ae ce2 ⟨by omega,by omega,by omega,by omega⟩ hown hek (by omega) (by omega)) (.n2 V V) (by first | exact dl V | decide) (Jl Mm10 (Jl Mm2 Jx)) fun _ _ _ q9=>?_))
   obtain ⟨rfl,rfl,rfl⟩:=q9
   refine ⟨⟨(Sk12 (Sr)),Mm0⟩,?_⟩
   refine JP V (Jb V) (dl V) (JP V (Ji (vs:= [_,_]) V V) (dl V) (YY V (Ji (vs:= [_,_]) V V) (dl V) (JP V (JE V) (dl V) (JP V (Jh (o':=17) Un40 V ti3 V V) (dl V) (JK (Ka V V (Yf ti3 V V V (dkl17 (by rw [List.length_set];exact hpl)) .z2 ?_)))))))
   rw [dkset17 (by rw [List.length_set];exact hpl)]
   refine JJ (Jf (Jc (Ja (Jg V (JN YE V V V .z .z7 (Je (Jf (Jp ?_))))))))
   refine ⟨_,[_,_,_,_,_,_,_,_],[_,_,_],fun Z w hs=>K1 hs Un49 V V (Jj (Jj (Jj (Jj (Jj (Jj (Jj (Jn)))))))) V .nil,?_,fun Z w hs=>hs.out (Sd2 (Sk5 (Sd2 (Sk3 (Sr))))) (Jl Mm3 (Jl Mm4 (Jl Mm5 Tt10)))⟩
   have hgc:((K4 D o).gap:Int)=if (putF D.H D.got o).2.1.at_<(D.gap:Int) then (D.gap:Int)+Jr (putF D.H D.got o).2.1 else (D.gap:Int):=by
    show (((if (putF D.H D.got o).2.1.kind=1∧(putF D.H D.got o).2.1.at_<D.gap then _ else _):Nat):Int)=_
    by_cases h:(putF D.H D.got o).2.1.at_<(D.gap:Int)
    ·rw [if_pos ⟨hek,h⟩,if_pos h];omega
    ·rw [if_neg (fun h2=>h h2.2),if_neg h]
   have hge:(K4 D o).gap≤(JX (putF D.H D.got o).2.1 D.X).length:=by split at hgc<;>omega
   have hok2:DkOk ⟨M.d,M.h,M.m,M.b,M.s,A2,cap2,B2,t2,L2,M.vu,M.vr,M.pu,M.pr⟩ (K4 D o):=ok.mk_ hr2 wt2 hX2 ok.hU ok.hR (by show DI (putF D.H D.got o).1.ops.length _ _;rw [hta.nl];exact hta.di) rfl ⟨rfl,rfl,rfl⟩ (by show (D.put.set _ _).length=9;rw [List.length_set];exact hpl) (Xh ok.p0 (by omega)) hge (by show D.got+1≤(putF D.H D.got o).1.ops.length;have:=ok.rc;have:=hta.nl;omega) ok.md ok.sl
   refine ⟨⟨M.d,M.h,M.m,M.b,M.s,A2,cap2,B2,t2,L2,M.vu,M.vr,M.pu,M.pr⟩,?_,hok2,V,?_,V⟩
   ·rfl
   ·show _=KH ⟨M.d,M.h,M.m,M.b,M.s,A2,cap2,B2,t2,L2,M.vu,M.vr,M.pu,M.pr⟩ (K4 D o)
    unfold KH dkB
    rw [hgc]
    rfl
  ·have hek: ¬(putF D.H D.got o).2.1.kind=1:=by simpa using h117
   refine Jo (Jf (Jc (Ja (Jg V (JN YE V V V .z .z7 (Je (Jf (Jp ?_))))))))
   refine ⟨_,[_,_,_,_,_,_,_,_],[_,_,_],fun Z w hs=>K1 hs Un49 V V (Jj (Jj (Jj (Jj (Jj (Jj (Jj (Jn)))))))) V .nil,?_,fun Z w hs=>hs.out (Sd2 (Sk5 (Sd2 (Sk3 (Sr))))) (Jl Mm2 (Jl Mm3 (Jl Mm4 Tt9)))⟩
   have hgc:((K4 D o).gap:Int)=D.gap:=by
    show (((if (putF D.H D.got o).2.1.kind=1∧(putF D.H D.got o).2.1.at_<D.gap then _ else _):Nat):Int)=_
    rw [if_neg (fun h2=>hek h2.1)]
   have hge:(K4 D o).gap≤(JX (putF D.H D.got o).2.1 D.X).length:=by omega
   have hok2:DkOk ⟨M.d,M.h,M.m,M.b,M.s,A2,cap2,B2,t2,L2,M.vu,M.vr,M.pu,M.pr⟩ (K4 D o):=ok.mk_ hr2 wt2 hX2 ok.hU ok.hR (by show DI (putF D.H D.got o).1.ops.length _ _;rw [hta.nl];exact hta.di) rfl ⟨rfl,rfl,rfl⟩ (by show (D.put.set _ _).length=9;rw [List.length_set];exact hpl) (Xh ok.p0 (by omega)) hge (by show D.got+1≤(putF D.H D.got o).1.ops.length;have:=ok.rc;have:=hta.nl;omega) ok.md ok.sl
   refine ⟨⟨M.d,M.h,M.m,M.b,M.s,A2,cap2,B2,t2,L2,M.vu,M.vr,M.pu,M.pr⟩,?_,hok2,V,?_,V⟩
   ·rfl
   ·show _=KH ⟨M.d,M.h,M.m,M.b,M.s,A2,cap2,B2,t2,L2,M.vu,M.vr,M.pu,M.pr⟩ (K4 D o)
    unfold KH dkB
    rw [hgc]
    rfl
 ·refine Jy V V (Jw (cs:= [_,_,_,_,_,_,_,_,_]) JA V (by first | exact dl V | decide) fun b7=> ?_)
  refine ⟨⟨(Sd (Sk (Sd4 (Sk5 (Sr))))),Mm0⟩,?_⟩
  refine Jy V V (J9 (Xr M.d M.h M.m M.b _ _ D.H M.L M.A M.cap M.B M.t D.H.ops.length D.X D.got o Ao co (putF D.H D.got o).1 (putF D.H D.got o).2.1 hr hwt hrow hdi hta.tk) (.n3 V V V) (by first | exact dl V | decide) (.n5 .z1 .z1 .z1 .z1 .z1) (Jl Mm4 (Jl Mm5 (Jl Mm6 (Jl Mm7 (Jl Mm8 Jx))))) fun _ _ _ q9=>?_)
  obtain ⟨L2,A2,cap2,B2,t2,Ae,ce2,rfl,hr2,wt2,hX2,rfl,rfl⟩:=q9
  refine ⟨⟨(Sk (Sd5 (Sk5 (Sr)))),Mm4⟩,?_⟩
  refine JP V (Jb V) (dl V) (JP V (Ji (vs:= [_,_]) V V) (dl V) (YY V (Ji (vs:= [_,_]) V V) (dl V) (JK (Ka V V (Jq (cs':= [_,_,_,_,_,_,_,_,_]) (vs:= [_,_,_,_,_,_,_,_,_]) JA V V V V V (Nat.le_of_ble_eq_true V) .z5 (YL V (Jd V) (dl V) (JJ (Jf (Jc (Ja (Jg V (Jw (cs:= [_]) Jb5 V (by first | exact dl V | decide) fun b9=>Je (Jf (Jc (Jc (Ja (JR (Jb V) (dl V) ?_)))))))))))))))))
  refine JR (Gp (by rw [Un169];rfl) V) (dl V) (Jg V (Jm (Z8 _ _) (.n2 V V) (by first | exact dl V | decide) Jx fun _ _ _ q9=>?_))
  obtain ⟨rfl,rfl,rfl⟩:=q9
  refine Je (Jf (Ju V V (Jo (Jf (Jc (Ja (JR (Jb V) (dl V) (JR (JE V) (dl V) (JR (Jh (o':=6) Un40 V ti3 V V) (dl V) (JR (Jk Un3 V V (Jj (Jn)) V) (dl V) (JR (JQ V V (wr64 (by have:=ok.rc;have:=hdi.le;omega)) (c:=((D.got+1:Nat):Int))) (dl V) (JR (JE V) (dl V) (JR (Jh (o':=6) Un40 V ti3 V V) (dl V) (Jg V (JN ti3 V V V .z6 .z1 (Je (Jf (Jc ?_))))))))))))))))))
  refine Y1 (JI _ _ [11] (.c 0 0 (.c 1 0 (.c 2 0 (.c 3 0 (.c 4 0 (.c 5 0 (.c 6 0 (.c 7 0 (.c 8 0 (.c 9 0 (.c 10 0 (.c 11 3 .nil)))))))))))) mixed (fun _ _ _ _ h=>h) (Sk12 (Sr)) (fun _ h=>h) (by kernel_rfl) (by first | exact dl V | decide) fun ws Z0=>JP V (Jb V) (dl V) (JP V (Jb V) (dl V) (JP V (JE V) (dl V) (JP V (Jh (o':=8) Un40 V EA V V) (dl V) (JP V (Yn (o':=8+o.c.toNat) Un37 ti3 V V (by omega) (by omega) (by omega)) (dl V) ?_)))))
  refine JP V (Jk (v:= .int .i64 (D.put.getD o.c.toNat 0)) Un3 V V (Jj (Jn)) (dkput hpl (by omega))) (dl V) (JP V (Jb V) (dl V) (JP V (JQ V V (wr64 (by have:=hpc;unfold putA at this;omega)) (c:=putA D o.c+Jr o)) (dl V) (JP V (JE V) (dl V) (JP V (Jh (o':=8) Un40 V EA V V) (dl V) (JP V (Yn (o':=8+o.c.toNat) Un37 ti3 V V (by omega) (by omega) (by omega)) (dl V) (JK (Ka V V (Yf ti3 V V V (dklc hpl (by omega)) .z1 ?_))))))))
  rw [dksetc hpl (by omega)]
  refine JJ (Jf (Jc (Jc (Ja (JR (Jh (o':=0) Un60 V KM V V) (dl V) (JR (Jh (o':=2) Un58 V Yh V V) (dl V) (JR (Jk Un44 V V (Jj (Jj (Jj (Jj (Jj (Jj (Jn))))))) V) (dl V) (JR (Kb V V) (dl V) (Je (Jf (JG [(117,_),(7,_),(4,_),(0,_)] (.m4 V V V V) (Jz V (fun h117=> ?_) (fun h117=> ?_)))))))))))))
  ·have hek:(putF D.H D.got o).2.1.kind=1:=by simpa using h117
   have heo:=hta.tk.app (by rw [hek];decide)
   have hR:Right D.X.length (putF D.H D.got o).2.1:=⟨heo.ck, .inl hek⟩
   have hown:=hR.own (by omega)
   have hwd:=hta.wd hek
   have hei:=hR.ins hek
   have hxt:=hta.tk.text
   have hxr:=hta.tk.rs
   refine Y1 (JI _ _ [12] (.c 0 0 (.c 1 0 (.c 2 0 (.c 3 0 (.c 4 0 (.c 5 0 (.c 6 2 (.c 7 0 (.c 8 0 (.c 9 1 (.c 10 0 (.c 11 0 (.c 12 3 .nil))))))))))))) mixed (fun _ _ _ _ h=>h) (Sk12 (Sr)) (fun _ h=>h) (by kernel_rfl) (by first | exact dl V | decide) fun ws Z0=>JP V (Jb V) (dl V) (JP V (Jb V) (dl V) (JP V (JE V) (dl V) (JP V (Jh (o':=17) Un40 V ti3 V V) (dl V) (JP V (Jk Un3 V V (Jj (Jn)) (dk17 (by rw [List.length_set];exact hpl))) (dl V) ?_)))))
   refine JP V (Js (vs:= [_,_,_,_,_,_,_,_,_]) Un60 V JA V (Jj (Jj (Jj (Jj (Jj (Jj (Jn))))))) V V) (dl V) (Jy V V (Jm (HH D.gap (putF D.H D.got o).2.1 Ae ce2 ⟨by omega,by omega,by omega,by omega⟩ hown hek (by omega) (by omega)) (.n2 V V) (by first | exact dl V | decide) (Jl Mm10 (Jl Mm2 Jx)) fun _ _ _ q9=>?_))
   obtain ⟨rfl,rfl,rfl⟩:=q9
   refine ⟨⟨(Sk12 (Sr)),Mm0⟩,?_⟩
   refine JP V (Jb V) (dl V) (JP V (Ji (vs:= [_,_]) V V) (dl V) (YY V (Ji (vs:= [_,_]) V V) (dl V) (JP V (JE V) (dl V) (JP V (Jh (o':=17) Un40 V ti3 V V) (dl V) (JK (Ka V V (Yf ti3 V V V (dkl17 (by rw [List.length_set];exact hpl)) .z1 ?_)))))))
   rw [dkset17 (by rw [List.length_set];exact hpl)]
   refine JJ (Jf (Jc (Ja (Jg V (JN YE V V V .z .z7 (Je (Jf (Jp ?_))))))))
   refine ⟨_,[_,_,_,_,_,_,_,_],[_,_,_],fun Z w hs=>K1 hs Un49 V V (Jj (Jj (Jj (Jj (Jj (Jj (Jj (Jn)))))))) V .nil,?_,fun Z w hs=>hs.out (Sd (Sk5 (Sd3 (Sk3 (Sr))))) (Jl Mm3 (Jl Mm4 (Jl Mm5 Tt10)))⟩
   have hgc:((K4 D o).gap:Int)=if (putF D.H D.got o).2.1.at_<(D.gap:Int) then (D.gap:Int)+Jr (putF D.H D.got o).2.1 else (D.gap:Int):=by
    show (((if (putF D.H D.got o).2.1.kind=1∧(putF D.H D.got o).2.1.at_<D.gap then _ else _):Nat):Int)=_
    by_cases h:(putF D.H D.got o).2.1.at_<(D.gap:Int)
    ·rw [if_pos ⟨hek,h⟩,if_pos h];omega
    ·rw [if_neg (fun h2=>h h2.2),if_neg h]
   have hge:(K4 D o).gap≤(JX (putF D.H D.got o).2.1 D.X).length:=by split at hgc<;>omega
   have hok2:DkOk ⟨M.d,M.h,M.m,M.b,M.s,A2,cap2,B2,t2,L2,M.vu,M.vr,M.pu,M.pr⟩ (K4 D o):=ok.mk_ hr2 wt2 hX2 ok.hU ok.hR (by show DI (putF D.H D.got o).1.ops.length _ _;rw [hta.nl];exact hta.di) rfl ⟨rfl,rfl,rfl⟩ (by show (D.put.set _ _).length=9;rw [List.length_set];exact hpl) (Xh ok.p0 (by omega)) hge (by show D.got+1≤(putF D.H D.got o).1.ops.length;have:=ok.rc;have:=hta.nl;omega) ok.md ok.sl
   refine ⟨⟨M.d,M.h,M.m,M.b,M.s,A2,cap2,B2,t2,L2,M.vu,M.vr,M.pu,M.pr⟩,?_,hok2,V,?_,V⟩
   ·rfl
   ·show _=KH ⟨M.d,M.h,M.m,M.b,M.s,A2,cap2,B2,t2,L2,M.vu,M.vr,M.pu,M.pr⟩ (K4 D o)
    unfold KH dkB
    rw [hgc]
    rfl
  ·have hek: ¬(putF D.H D.got o).2.1.kind=1:=by simpa using h117
   refine Jo (Jf (Jc (Ja (Jg V (JN YE V V V .z .z7 (Je (Jf (Jp ?_))))))))
   refine ⟨_,[_,_,_,_,_,_,_,_],[_,_,_],fun Z w hs=>K1 hs Un49 V V (Jj (Jj (Jj (Jj (Jj (Jj (Jj (Jn)))))))) V .nil,?_,fun Z w hs=>hs.out (Sd (Sk5 (Sd3 (Sk3 (Sr))))) (Jl Mm2 (Jl Mm3 (Jl Mm4 Tt9)))⟩
   have hgc:((K4 D o).gap:Int)=D.gap:=by
    show (((if (putF D.H D.got o).2.1.kind=1∧(putF D.H D.got o).2.1.at_<D.gap then _ else _):Nat):Int)=_
    rw [if_neg (fun h2=>hek h2.1)]
   have hge:(K4 D o).gap≤(JX (putF D.H D.got o).2.1 D.X).length:=by omega
   have hok2:DkOk ⟨M.d,M.h,M.m,M.b,M.s,A2,cap2,B2,t2,L2,M.vu,M.vr,M.pu,M.pr⟩ (K4 D o):=ok.mk_ hr2 wt2 hX2 ok.hU ok.hR (by show DI (putF D.H D.got o).1.ops.length _ _;rw [hta.nl];exact hta.di) rfl ⟨rfl,rfl,rfl⟩ (by show (D.put.set _ _).length=9;rw [List.length_set];exact hpl) (Xh ok.p0 (by omega)) hge (by show D.got+1≤(putF D.H D.got o).1.ops.length;have:=ok.rc;have:=hta.nl;omega) ok.md ok.sl
   refine ⟨⟨M.d,M.h,M.m,M.b,M.s,A2,cap2,B2,t2,L2,M.vu,M.vr,M.pu,M.pr⟩,?_,hok2,V,?_,V⟩
   ·rfl
   ·show _=KH ⟨M.d,M.h,M.m,M.b,M.s,A2,cap2,B2,t2,L2,M.vu,M.vr,M.pu,M.pr⟩ (K4 D o)
    unfold KH dkB
    rw [hgc]
    rfl
theorem hops_k (h m cap:Nat) (A:Option Addr) (H:Hist) (L:List MR) (hr:HR H L) (lo hi:Nat) (h1:lo≤hi) (h2:hi≤H.ents.length):Sp Tryz.prog 68 [.pointer (some ⟨h,0,none⟩), .int .i64 lo, .int .i64 hi] [hdP h A H.ops.length cap m H.total,mpP m L,mkP L] [RdF opD A cap H.ops] (fun v Lo fs=> ∃(A':Option Addr) (c':Nat),v= .tuple #[.slice A' ((H.ops.take hi).drop lo).length c', .int .i64 0] ∧Lo= [hdP h A H.ops.length cap m H.total,mpP m L,mkP L] ∧fs= [RdF opD A' c' ((H.ops.take hi).drop lo)]):=by
 refine (Jbv h m cap A H L hr lo hi).mono ?_
 rintro v Lo fs ⟨A',c',rfl,⟨hb,_,_⟩ | ⟨_,rfl,rfl⟩⟩
 ·omega
 ·exact ⟨A',c',V,V,V⟩
theorem VQ (d b:Nat) (cs:List Value) (T:TypeId) (h m cap:Nat) (A:Option Addr) (H:Hist) (L:List MR) (hr:HR H L) (i:Nat) (hi:i<H.ents.length):Sp Tryz.prog 9 [.pointer (some ⟨d,0,none⟩), .int .i64 i] [[(d,JB (.pointer (some ⟨h,0,none⟩):: .pointer (some ⟨b,0,none⟩)::cs) T)],hdP h A H.ops.length cap m H.total,mpP m L,mkP L] [RdF opD A cap H.ops,AllF L nowF] (fun v Lo fs=> ∃(A':Option Addr) (c':Nat),v= .tuple #[enV (entE H.ents[i]) A' c', .nilIface] ∧Lo= [[(d,JB (.pointer (some ⟨h,0,none⟩):: .pointer (some ⟨b,0,none⟩)::cs) T)],hdP h A H.ops.length cap m H.total,mpP m L,mkP L] ∧fs= [RdF rgD A' c' (entE H.ents[i]).rs]):=by
 refine Sp.of (n:=21) ⟨_,Tryz.func9,V,V,V,V⟩ (Nat.le_of_ble_eq_true V) fun Ps As=>Jc (Ja (Jg V (Jw (cs:= [_,_,_,_,_,_,_]) YW V (by decide) fun b4=>Lq (Jd V) (Je (Jf (Jc (Ja (Lq (Jb V) (Lq (JE V) (Lq (Jh (o':=0) Un34 V Vv V V) (Lq (Jk Un31 V V (Jj (Jn)) V) (Lq (Jb V) ?_))))))))))))
 refine Jg V (Kv (Xk h m cap A H L hr i) (.n2 V V) (by decide) .z2 .z2 .z2 (Jl Mm0 (Jl Mm1 Jx)) fun _ _ _ q9=>?_)
 obtain ⟨A9,c9,rfl,rfl,rfl⟩:=q9
 rw [Ys hi]
 refine Lq (Jb V) (Lq (Ji (vs:= [_,_]) V V) (Lq (Ji (vs:= [_,_]) V V) (Jg V (Jw (cs:= [_,_,_,_,_,_,_]) YW V (by decide) fun b6=>Jg V (Jq (cs':= [_,_,_,_,_,_,_]) (vs:= [_,_,_,_,_,_,_]) YW V V V V V (Nat.le_of_ble_eq_true V) .z (Lq (Jd V) (Je (Jf (Jc (JI _ _ [4] (.c 0 0 (.c 1 0 (.c 2 0 (.c 3 2 (.c 4 3 (.c 5 1 .nil)))))) mixed (fun _ _ _ _ h=>h) (Sk6 (Sr)) (fun _ h=>h) (by kernel_rfl) (by decide) fun ws Z0=>Qe V (Js (vs:= [_,_,_,_,_,_,_]) Un47 V YW V Jn V V) (Qe V (Jb V) ?_)))))))))))
 refine Qe V (Jb V) (Jy V V (Jm (fault_0 _ _) (.n3 V V V) (by decide) Jx fun _ _ _ q9=>?_))
 obtain ⟨rfl,rfl,rfl⟩:=q9
 refine ⟨⟨(Sk6 (Sr)),Mm0⟩,?_⟩
 refine JK (Ka V V (Jq (cs':= [_,_,_,_,_,_,_]) (vs:= [_,_,_,_,_,_,_]) YW V V V V V (Nat.le_of_ble_eq_true V) .z4 (YL V (Jd V) (by decide) (JJ (Jf (Jp ?_))))))
 refine ⟨_,[_,_,_,_],[_],fun Z w hs=>JT hs Un47 V YW V (Jj (Jj (Jj (Jj (Jn))))) V (.tmp V .nil),?_,fun Z w hs=>((((hs.pick .z3).pick .z3).pick .z3).pick .z5).out (Sk4 (Sd2 (Sr))) Tt1⟩
 exact ⟨A9,c9,V,V,V⟩
theorem H4 (d b:Nat) (cs:List Value) (T:TypeId) (h:Nat) (B:Option Addr) (t:Tr) (wt:Wf t):Sp Tryz.prog 21 [.pointer (some ⟨d,0,none⟩)] [[(d,JB (.pointer (some ⟨h,0,none⟩):: .pointer (some ⟨b,0,none⟩)::cs) T)],rpP b B] [TrF B t] (fun v Lo fs=>v= .int .i64 t.row.length∧Lo= [[(d,JB (.pointer (some ⟨h,0,none⟩):: .pointer (some ⟨b,0,none⟩)::cs) T)],rpP b B] ∧fs= []):=by
 refine Sp.of (n:=8) ⟨_,Tryz.func21,V,V,V,V⟩ (Nat.le_of_ble_eq_true V) fun Ps As=>Jc (Ja (Lq (Jd V) (Je (Jf (Jc (Ja (Lq (Jb V) (Lq (JE V) (Lq (Jh (o':=1) Un34 V Ef V V) (Lq (Jk Un32 V V Jn V) (Jg V (JU (Qd b B t wt) (.n1 V) (by decide) .z1 (Jl Mm0 Jx) fun _ _ _ q9=>?_))))))))))))
 obtain ⟨rfl,rfl,rfl⟩:=q9
 refine Lq (Jd V) (Je (Jf (Jp ?_)))
 refine ⟨_,[_,_],[],fun Z w hs=> .tmp V .nil,?_,fun Z w hs=>((hs.pick .z).pick .z1).out (Sk2 (Sr)) (fun _ h=>h)⟩
 exact ⟨V,V,V⟩
theorem Jby (M:DM) (D:DS) (ok:DkOk M D):Sp Tryz.prog 20 [.pointer (some ⟨M.d,0,none⟩)] (KH M D) [] (fun v Lo fs=>v= .int .i64 D.gap∧Lo=KH M D∧fs= []):=by
 have hpl:=ok.pl
 refine Sp.of (n:=7) ⟨_,Tryz.func20,V,V,V,V⟩ (Nat.le_of_ble_eq_true V) fun Ps As=>Jc (Ja (Lq (Jd V) (Je (Jf (Jc (Ja (Lq (Jb V) (Lq (JE V) (Lq (Jh (o':=17) Un40 V ti3 V V) (Lq (Jk Un3 V V Jn (dk17 hpl)) (Lq (Jd V) (Je (Jf (Jp ?_))))))))))))))
 refine ⟨_,[_,_,_,_,_,_,_,_],[],fun Z w hs=> .tmp V .nil,?_,fun Z w hs=>hs.out (Sk8 (Sr)) (fun _ h=>h)⟩
 exact ⟨V,V,V⟩
theorem ZS (M:DM) (D:DS) (ok:DkOk M D):Sp Tryz.prog 23 [.pointer (some ⟨M.d,0,none⟩)] (KH M D) (barF::KY M D) (fun v Lo fs=>v= .int .i64 (J8 (D.X.take D.gap):Nat)∧Lo=KH M D∧fs= []):=by
 have hvl:=KA M.t.row
 have hwt:=ok.wt
 have htl:=ok.tl
 have hrow:=ok.row
 have hpl:=ok.pl
 have hgp:=ok.gp
 refine Sp.of (n:=19) ⟨_,Tryz.func23,V,V,V,V⟩ (Nat.le_of_ble_eq_true V) fun Ps As=>Jc (Ja (Lq (Jd V) (Je (Jf (Jc (JI _ _ [] (.c 0 0 (.c 1 0 (.c 2 0 (.c 3 0 (.c 4 0 (.c 5 0 (.c 6 0 (.c 7 0 (.c 8 0 (.c 9 2 (.c 10 0 (.c 11 0 (.c 12 0 (.c 13 0 (.c 14 0 .nil))))))))))))))) mixed (fun _ _ _ _ h=>h) (Sk4 (Sd (Sk3 (Sr)))) (fun _ h=>h) (by kernel_rfl) (by decide) fun ws Z0=>Qe V (Jb V) (Qe V (JE V) (Qe V (Jh (o':=0) Un40 V YF V V) (Qe V (Jh (o':=1) Un34 V Ef V V) (Qe V (Jk Un32 V V Jn V) ?_))))))))))
 refine Qe V (Jb V) (Qe V (JE V) (Qe V (Jh (o':=17) Un40 V ti3 V V) (Qe V (Jk Un3 V V Jn (dk17 hpl)) (Jy V V (JU (GN M.b M.B M.t hwt (by omega) D.gap (by rw [hrow];exact hgp)) (.n2 V V) (by decide) .z4 (Jl Mm4 Jx) fun _ _ _ q9=>?_)))))
 obtain ⟨rfl,rfl,rfl⟩:=q9
 refine ⟨⟨(Sd (Sk7 (Sr))),Mm0⟩,?_⟩
 refine Qe V (Jb V) (Qe V (Ji (vs:= [_,_]) V V) (Qe V (Ji (vs:= [_,_]) V V) (Qe V (Jd V) (Qe V (Jd V) (JK (JJ (Jf (Jc (Ja (Lq (Jb V) (Lq (Jd V) (Je (Jf (Jp ?_))))))))))))))
 refine ⟨_,[_,_,_,_,_,_,_,_],[],fun Z w hs=> .tmp V .nil,?_,fun Z w hs=>((((((((hs.pick .z7).pick .z7).pick .z7).pick .z3).pick .z7).pick .z7).pick .z7).pick .z7).out (Sk8 (Sr)) Tt1⟩
 exact ⟨by rw [hrow];rfl,V,V⟩
theorem Hj (M:DM) (D:DS) (ok:DkOk M D):Sp Tryz.prog 58 [.pointer (some ⟨M.d,0,none⟩)] (KH M D) (barF::KY M D) (fun v Lo fs=> ∃(A':Option Addr) (c':Nat),v= .slice A' (D.H.ops.drop D.got).length c'∧Lo=KH M D∧fs= [RdF opD A' c' (D.H.ops.drop D.got)]):=by
 have hvl:=KA M.t.row
 have hwt:=ok.wt
 have htl:=ok.tl
 have hrow:=ok.row
 have hpl:=ok.pl
 have hr:=ok.hr
 have hn:=ok.n
 have hrc:=ok.rc
 refine Sp.of (n:=25) ⟨_,Tryz.func58,V,V,V,V⟩ (Nat.le_of_ble_eq_true V) fun Ps As=>Jc (Ja (Lq (Jd V) (Je (Jf (Jc (JI _ _ [] (.c 0 0 (.c 1 0 (.c 2 0 (.c 3 0 (.c 4 0 (.c 5 0 (.c 6 0 (.c 7 0 (.c 8 0 (.c 9 0 (.c 10 0 (.c 11 0 (.c 12 0 (.c 13 0 (.c 14 2 (.c 15 2 (.c 16 0 (.c 17 0 (.c 18 0 (.c 19 0 (.c 20 0 .nil))))))))))))))))))))) mixed (fun _ _ _ _ h=>h) (Sk (Sd3 (Sk4 (Sr)))) (fun _ h=>h) (by kernel_rfl) (by decide) fun ws Z0=>Qe V (Jb V) (Qe V (JE V) (Qe V (Jh (o':=0) Un40 V YF V V) (Qe V (Jh (o':=0) Un34 V Vv V V) ?_)))))))))
 refine Qe V (Jk Un31 V V Jn V) (Qe V (Jb V) (Qe V (JE V) (Qe V (Jh (o':=6) Un40 V ti3 V V) (Qe V (Jk Un3 V V Jn V) (Qe V (Jb V) (Qe V (JE V) (Qe V (Jh (o':=0) Un40 V YF V V) (Qe V (Jh (o':=0) Un34 V Vv V V) (Qe V (Jk Un31 V V Jn V) ?_)))))))))
 refine Jy V V (JU (Hg M.h M.m D.H.ops.length M.cap M.A D.H.total) (.n1 V) (by decide) .z1 Jx fun _ _ _ q9=>?_)
 obtain ⟨rfl,rfl,rfl⟩:=q9
 refine ⟨⟨(Sd (Sk (Sd2 (Sk4 (Sr))))),Mm0⟩,?_⟩
 refine Jy V V (Kv (hops_k M.h M.m M.cap M.A D.H M.L hr D.got D.H.ops.length hrc (by omega)) (.n3 V V V) (by decide) .z .z1 .z1 (Jl Mm2 Jx) fun _ _ _ q9=>?_)
 obtain ⟨A9,c9,rfl,rfl,rfl⟩:=q9
 rw [List.take_length]
 refine ⟨⟨(Sd3 (Sk5 (Sr))),Mm1⟩,?_⟩
 refine Qe V (Jb V) (Qe V (Ji (vs:= [_,_]) V V) (Qe V (Ji (vs:= [_,_]) V V) (Qe V (Jd V) (Qe V (Jd V) (JK (JJ (Jf (Jc (Ja (Lq (Jb V) (Lq (Jd V) (Je (Jf (Jp ?_))))))))))))))
 refine ⟨_,[_,_,_,_,_,_,_,_],[_],fun Z w hs=> .tmp V .nil,?_,fun Z w hs=>((((((((hs.pick .z7).pick .z7).pick .z7).pick .z7).pick .z6).pick .z6).pick .z6).pick .z7).out (Sk8 (Sr)) (Jl Mm0 Tt2)⟩
 exact ⟨A9,c9,V,V,V⟩
def confD (D:DS):DS:= { D with got:=D.got+1 }
theorem confirm_0 (M:DM) (D:DS) (ok:DkOk M D) (i0 i1:Int) (hg:D.got<D.H.ents.length) (hi0:D.H.ents[D.got].op.c=i0) (hi1:D.H.ents[D.got].op.n=i1):Sp Tryz.prog 59 [.pointer (some ⟨M.d,0,none⟩), .agg #[.int .i64 i0, .int .i64 i1]] (KH M D) (barF::KY M D) (fun v Lo fs=>DkOk M (confD D)∧v= .nilIface∧Lo=KH M (confD D)∧fs= []):=by
 have hvl:=KA M.t.row
 have hwt:=ok.wt
 have htl:=ok.tl
 have hrow:=ok.row
 have hpl:=ok.pl
 have hr:=ok.hr
 have hn:=ok.n
 have hdi:=ok.di
 have hle:=hdi.le
 have hen:(entE D.H.ents[D.got]).c=i0∧(entE D.H.ents[D.got]).n=i1:=by
  unfold entE
  split
  ·exact ⟨hi0,hi1⟩
  ·exact ⟨hi0,hi1⟩
 refine Sp.ofD (n:=43) ⟨_,Tryz.func59,V,V,V,V⟩ (Nat.le_of_ble_eq_true V) fun Ps As=>Ja (Jg V (J3 (cs:= [_,_]) V V (by decide) fun b3=>Jg V (Jw (cs:= [_]) YE V (by decide) fun b4=>Je ?_)))
 refine ⟨V,_,_,_,_,_,catch_Confirm b4,DefReg.mk (.n1 V) (by decide),?_⟩
 refine Jc (Jc (JC .z3 (JC .z3 (Y1 (JI _ _ [] (.c 0 0 (.c 1 0 (.c 2 0 (.c 3 0 (.c 4 0 (.c 5 0 (.c 6 0 (.c 7 2 (.c 8 0 .nil))))))))) mixed (fun _ _ _ _ h=>h) (Sk (Sd (Sk8 (Sr)))) (fun _ h=>h) (by kernel_rfl) (by first | exact dl V | decide) fun ws Z0=>JP V (Jb V) (dl V) (JP V (JE V) (dl V) (JP V (Jh (o':=6) Un40 V ti3 V V) (dl V) (JP V (Jk Un3 V V Jn V) (dl V) (JP V (Jb V) (dl V) ?_)))))))))
 refine JP V (JE V) (dl V) (JP V (Jh (o':=0) Un40 V YF V V) (dl V) (Jy V V (KE (Vc M.d M.h M.m M.b D.H.ops.length M.cap _ _ M.A D.H.total) (.n1 V) (by first | exact dl V | decide) .z .z Jx fun _ _ _ q9=>?_)))
 obtain ⟨rfl,rfl,rfl⟩:=q9
 refine ⟨⟨(Sk (Sd (Sk8 (Sr)))),Mm0⟩,?_⟩
 refine JP V (Kb V V) (dl V) (JK (JJ (Jf (Ju V (by simp;omega) (Jo (Jf (Jc (Y1 (JI _ _ [14] (.c 0 0 (.c 1 0 (.c 2 0 (.c 3 0 (.c 4 0 (.c 5 0 (.c 6 0 (.c 7 0 (.c 8 0 (.b (.c 9 2 (.c 10 0 (.c 11 0 (.c 12 1 (.c 13 2 (.c 14 3 (.c 15 1 .nil))))))) (.c 13 2 (.c 9 2 (.c 10 0 (.c 11 0 (.c 12 1 (.c 14 3 (.c 15 1 .nil))))))))))))))))) mixed (fun _ _ _ _ h=>h) (Sk (Sd (Sk2 (Sd2 (Sk4 (Sr)))))) (fun _ h=>h) (by kernel_rfl) (by first | exact dl V | decide) fun ws Z0=>JP V (Jb V) (dl V) (JP V (JE V) (dl V) ?_))))))))))
 refine JP V (Jh (o':=0) Un40 V YF V V) (dl V) (JP V (Jh (o':=0) Un34 V Vv V V) (dl V) (JP V (Jk Un31 V V Jn V) (dl V) (JP V (Jb V) (dl V) (JP V (JE V) (dl V) (JP V (Jh (o':=6) Un40 V ti3 V V) (dl V) (JP V (Jk Un3 V V Jn V) (dl V) (K7 ?_ ?_)))))))
 ·refine Jy V V (Kv (Xk M.h M.m M.cap M.A D.H M.L hr D.got) (.n2 V V) (by first | exact dl V | decide) .z1 .z3 .z3 (Jl Mm3 (Jl Mm4 Jx)) fun _ _ _ q9=>?_)
  obtain ⟨A9,c9,rfl,rfl,rfl⟩:=q9
  rw [Ys hg]
  refine ⟨⟨(Sd3 (Sk7 (Sr))),Mm1⟩,?_⟩
  refine JP V (Jb V) (dl V) (JP V (Ji (vs:= [_,_]) V V) (dl V) (YY V (Ji (vs:= [_,_]) V V) (dl V) (Jy V V (Jw (cs:= [_,_,_,_,_,_,_]) YW V (by first | exact dl V | decide) fun b5=> ?_))))
  refine ⟨⟨(Sd4 (Sk7 (Sr))),Mm1⟩,?_⟩
  refine JK (Ka V V (Jq (cs':= [_,_,_,_,_,_,_]) (vs:= [_,_,_,_,_,_,_]) YW V V V V V (Nat.le_of_ble_eq_true V) .z (YL V (Jd V) (dl V) (JJ (Jf (Jc (Jc (Ja (JR (Jh (o':=0) Un47 V JW V V) (dl V) (JR (Js (vs:= [_,_]) Un43 V JW V Jn V V) (dl V) (JR (Js (vs:= [_,_]) Un43 V JW V (Jj (Jj (Jj (Jj (Jj (Jj (Jn))))))) V V) (dl V) (JR (YR V V (eq43 _ _ _ _)) (dl V) (Je (Jf (Ju V (by simp [hen.1,hen.2]) ?_)))))))))))))))
  refine Jo (Jf (Jc (Ja (JR (Jb V) (dl V) (JR (JE V) (dl V) (JR (Jh (o':=6) Un40 V ti3 V V) (dl V) (JR (Jk Un3 V V (Jj (Jj (Jj (Jj (Jn))))) V) (dl V) (JR (JQ V V (wr64 (by omega)) (c:=((D.got+1:Nat):Int))) (dl V) (JR (JE V) (dl V) (JR (Jh (o':=6) Un40 V ti3 V V) (dl V) (Jg V (JN ti3 V V V .z6 .z4 (Je (Jf (Jc (Ja ?_))))))))))))))))
  refine Jg V (JN YE V V V .z .z5 (Je (Jf (Jp ?_))))
  refine ⟨_,[_,_,_,_,_,_,_,_],[],fun Z w hs=>K1 hs Un49 V V (Jj (Jj (Jj (Jj (Jj (Jn)))))) V .nil,?_,fun Z w hs=>((((((((hs.pick .z10).pick .z10).pick .z10).pick .z10).pick .z7).pick .z7).pick .z7).pick .z8).out (Sk8 (Sd3 (Sr))) Tt3⟩
  exact ⟨⟨ok.hr,ok.wt,ok.row,ok.hU,ok.hR,ok.di,ok.us,ok.pl,ok.p0,ok.lm,ok.gp,by show D.got+1≤D.H.ops.length;omega,ok.md,ok.sl⟩,rfl,rfl,rfl⟩
 ·refine Jy V V (Jw (cs:= [_,_,_,_,_,_,_]) YW V (by first | exact dl V | decide) fun b5=> ?_)
  refine ⟨⟨(Sd (Sk (Sd (Sk2 (Sd2 (Sk4 (Sr))))))),Mm0⟩,?_⟩
  refine Jy V V (Kv (Xk M.h M.m M.cap M.A D.H M.L hr D.got) (.n2 V V) (by first | exact dl V | decide) .z2 .z4 .z4 (Jl Mm3 (Jl Mm4 Jx)) fun _ _ _ q9=>?_)
  obtain ⟨A9,c9,rfl,rfl,rfl⟩:=q9
  rw [Ys hg]
  refine ⟨⟨(Sd4 (Sk7 (Sr))),Mm1⟩,?_⟩
  refine JP V (Jb V) (dl V) (JP V (Ji (vs:= [_,_]) V V) (dl V) (YY V (Ji (vs:= [_,_]) V V) (dl V) (JK (Ka V V (Jq (cs':= [_,_,_,_,_,_,_]) (vs:= [_,_,_,_,_,_,_]) YW V V V V V (Nat.le_of_ble_eq_true V) .z3 (YL V (Jd V) (dl V) (JJ (Jf (Jc (Jc (Ja (JR (Jh (o':=0) Un47 V JW V V) (dl V) (JR (Js (vs:= [_,_]) Un43 V JW V (Jj (Jj (Jj (Jn)))) V V) (dl V) (JR (Js (vs:= [_,_]) Un43 V JW V (Jj (Jj (Jj (Jj (Jj (Jj (Jn))))))) V V) (dl V) ?_))))))))))))))
  refine JR (YR V V (eq43 _ _ _ _)) (dl V) (Je (Jf (Ju V (by simp [hen.1,hen.2]) (Jo (Jf (Jc (Ja (JR (Jb V) (dl V) (JR (JE V) (dl V) (JR (Jh (o':=6) Un40 V ti3 V V) (dl V) (JR (Jk Un3 V V (Jj (Jj (Jj (Jj (Jn))))) V) (dl V) (JR (JQ V V (wr64 (by omega)) (c:=((D.got+1:Nat):Int))) (dl V) (JR (JE V) (dl V) ?_)))))))))))))
  refine JR (Jh (o':=6) Un40 V ti3 V V) (dl V) (Jg V (JN ti3 V V V .z6 .z4 (Je (Jf (Jc (Ja (Jg V (JN YE V V V .z .z5 (Je (Jf (Jp ?_)))))))))))
  refine ⟨_,[_,_,_,_,_,_,_,_],[],fun Z w hs=>K1 hs Un49 V V (Jj (Jj (Jj (Jj (Jj (Jn)))))) V .nil,?_,fun Z w hs=>((((((((hs.pick .z10).pick .z10).pick .z10).pick .z10).pick .z6).pick .z6).pick .z6).pick .z8).out (Sk8 (Sd3 (Sr))) Tt3⟩
  exact ⟨⟨ok.hr,ok.wt,ok.row,ok.hU,ok.hR,ok.di,ok.us,ok.pl,ok.p0,ok.lm,ok.gp,by show D.got+1≤D.H.ops.length;omega,ok.md,ok.sl⟩,rfl,rfl,rfl⟩
theorem bd36_0_1Xg17 (x0_:Option Addr) (x1_:Option Addr) (w:World):(Instr.build 34 #[(0, .pointer x0_),(1, .pointer x1_)]).run Tryz.prog w= .ok (.agg #[.pointer x0_, .pointer x1_]) w:=by kernel_rfl
theorem EQ:Sp Tryz.prog 14 [] [] [] (fun v Lo fs=> ∃d h m b:Nat,v= .pointer (some ⟨d,0,none⟩)∧Lo= [[(d,JB [.pointer (some ⟨h,0,none⟩), .pointer (some ⟨b,0,none⟩)] 34)],hdP h none 0 0 m 0,mpP m [],mkP [],rpP b none] ∧fs= [RdF opD none 0 [],AllF ([] :List MR) nowF,TrF none .nil]):=by
 refine Sp.of (n:=5) ⟨_,Tryz.func14,V,V,V,V⟩ (Nat.le_of_ble_eq_true V) fun Ps As=>Jc (Ja (Lq (Jd V) (Je (Jf (Jc (Kc (A:=TrF none .nil) (fun Z w _=>V) (Ja (Jg V (Jm (Jca) .nil (by decide) Jx fun _ _ _ q9=>?_)))))))))
 obtain ⟨h,m,rfl,rfl,rfl⟩:=q9
 refine Jg V (Jm (Jbp) .nil (by decide) Jx fun _ _ _ q9=>?_)
 obtain ⟨b,rfl,rfl,rfl⟩:=q9
 refine Lq (JY (.n2 V V) (bd36_0_1Xg17 _ _)) (Jg V (J3 (cs:= [_,_]) V V (by decide) fun b4=>Lq (Jd V) (Je (Jf (Jp ?_)))))
 refine ⟨_,[_,_,_,_,_],[_,_,_],fun Z w hs=> .tmp V .nil,?_,fun Z w hs=>(((((hs.pick .z1).pick .z4).pick .z4).pick .z4).pick .z4).out (Sk5 (Sr)) (fun _ h=>h)⟩
 exact ⟨b4,h,m,b,V,V,V⟩
def zeroD (u cl ce op:Int):DS:=⟨u,cl,ce,op,⟨[],0⟩,[],0,0,List.replicate 9 0,0,[],[]⟩
theorem HR.zero:HR ⟨[],0⟩ [] where
 perm:=List.Perm.refl _
 ids:=List.nodup_nil
 fit:=fun e he=>by cases he
 wid:=fun e he=>by cases he
 now:=fun e he=>by cases he
 len:=Nat.zero_le _
 tot:=by decide
theorem DkOk.zero {u cl ce op:Int} (hu:1≤u∧u≤cl) (hc:cl≤8) (he:ce≤4096) (ho:op≤1024) (d h m b s:Nat):DkOk ⟨d,h,m,b,s,none,0,none, .nil,[], .slice none 0 0, .slice none 0 0,[],[]⟩ (zeroD u cl ce op):=
 ⟨HR.zero,wnilT,rfl,Row.nil _ _,Row.nil _ _,DI.zero,⟨hu.1,by show u≤8;omega⟩,rfl,fun x hx=>by have:=List.eq_of_mem_replicate hx;omega,⟨he,ho,by show 1≤cl;omega,hc⟩,Nat.zero_le _,Nat.zero_le _,Nat.zero_le _,Nat.zero_le _⟩
theorem bd42_0_1_2_7Xg18 (x0_0:Option Addr) (x0_1:Option Addr) (x1_:Int) (x2_0:Int) (x2_1:Int) (x2_2:Int) (x7_:Option Addr) (w:World):(Instr.build 40 #[(0, .agg #[.pointer x0_0, .pointer x0_1]),(1, .int .i64 x1_),(2, .agg #[.int .i64 x2_0, .int .i64 x2_1, .int .i64 x2_2]),(7, .pointer x7_)]).run Tryz.prog w= .ok (.agg #[.pointer x0_0, .pointer x0_1, .int .i64 x1_, .int .i64 x2_0, .int .i64 x2_1, .int .i64 x2_2, .int .i64 0, .int .i64 0, .int .i64 0, .int .i64 0, .int .i64 0, .int .i64 0, .int .i64 0, .int .i64 0, .int .i64 0, .int .i64 0, .int .i64 0, .int .i64 0, .pointer x7_]) w:=by kernel_rfl
theorem ZP (u cl ce op:Int) (hu:1≤u∧u≤cl) (hc:cl≤8) (he:1≤ce∧ce≤4096) (ho:1≤op∧op≤1024):Sp Tryz.prog 16 [.int .i64 u, .agg #[.int .i64 cl, .int .i64 ce, .int .i64 op]] [] [] (fun v Lo fs=> ∃M:DM,v= .tuple #[.pointer (some ⟨M.d,0,none⟩), .nilIface] ∧DkOk M (zeroD u cl ce op)∧Lo=KH M (zeroD u cl ce op)∧fs=KY M (zeroD u cl ce op)):=by
 refine Sp.of (n:=39) ⟨_,Tryz.func16,V,V,V,V⟩ (Nat.le_of_ble_eq_true V) fun Ps As=>Jc (Ja (Jg V (J3 (cs:= [_,_,_]) V V (by decide) fun b3=>Lq (Jd V) (Lq (Jd V) (Je (Jf (Jc (Jc (Ja (Lq (Jh (o':=0) Un36 V ti3 V V) (Lq (Jk Un3 V V Jn V) (Jg V (Jm (Qp _ _ _) (.n3 V V V) (by decide) Jx fun _ _ _ q9=>?_)))))))))))))
 obtain ⟨rfl,rfl,rfl⟩:=q9
 refine Lq (KU V) (Lq (Jb V) (Lg V V V (by rw [decide_eq_true (by omega)];rfl) (Jh (o':=1) Un36 V ti3 V V) (Lg V V V (by rw [decide_eq_true (by omega)];rfl) (Jk Un3 V V Jn V) (KD V V V (by rw [decide_eq_true (by omega)];rfl) (Jm (Qp _ _ _) (.n3 V V V) (by decide) Jx fun _ _ _ q9=>?_)))))
 obtain ⟨rfl,rfl,rfl⟩:=q9
 refine Lg V V V (by rw [decide_eq_true (by omega)];rfl) (KU V) (Lq (JL V (by rw [decide_eq_true (by omega)];rfl) V) (Lq (Jb V) (Lg V V V (by rw [decide_eq_true (by omega)];rfl) (Jh (o':=2) Un36 V ti3 V V) (Lg V V V (by rw [decide_eq_true (by omega)];rfl) (Jk Un3 V V Jn V) (KD V V V (by rw [decide_eq_true (by omega)];rfl) (Jm (Qp _ _ _) (.n3 V V V) (by decide) Jx fun _ _ _ q9=>?_))))))
 obtain ⟨rfl,rfl,rfl⟩:=q9
 refine Lg V V V (by rw [decide_eq_true (by omega)];rfl) (KU V) (Lq (JL V (by rw [decide_eq_true (by omega)];rfl) V) (Je (Jf (Ju V (by rw [decide_eq_true (by omega)];rfl) (Jo (Jf (Jc (Jc (Ja (Lq (Jb V) (Lq (Jh (o':=0) Un36 V ti3 V V) (Lq (Jk Un3 V V Jn V) (Jg V (Jm (Qp _ _ _) (.n3 V V V) (by decide) Jx fun _ _ _ q9=>?_))))))))))))))
 obtain ⟨rfl,rfl,rfl⟩:=q9
 refine Lq (KU V) (Je (Jf (Ju V (by rw [decide_eq_true (by omega)];rfl) (Jo (Jf (Jc (Kz (Kz (JI _ _ [] (.c 3 0 (.c 4 0 (.c 0 2 (.c 1 0 (.b (.c 2 2 (.c 5 2 (.c 6 0 (.c 7 2 (.c 8 0 (.c 9 0 .nil)))))) (.c 5 2 (.c 2 2 (.c 6 0 (.c 7 2 (.c 8 0 (.c 9 0 .nil))))))))))) mixed (fun _ _ _ _ h=>h) (Sk3 (Sr)) (fun _ h=>h) (by kernel_rfl) (by decide) fun ws Z0=>Qe V (Jb V) (Qe V (Js (vs:= [_,_,_]) Un36 V Ee V (Jj (Jj (Jn))) V V) (Jy V V (Jm (EQ) .nil (by decide) Jx fun _ _ _ q9=>?_))))))))))))
 obtain ⟨r,h,m,b,rfl,rfl,rfl⟩:=q9
 refine ⟨⟨(Sd5 (Sk3 (Sr))),Mm3⟩,?_⟩
 refine Qe V (JE V) (K7 ?_ ?_)
 ·refine Jy V V (VJ (Js (vs:= [_,_]) Un34 V YF V Jn V V) (by decide) ?_)
  refine ⟨⟨(Sd5 (Sk3 (Sr))),Mm3⟩,?_⟩
  refine Jy V V (Jm (Hx) .nil (by decide) Jx fun _ _ _ q9=>?_)
  obtain ⟨s,rfl,rfl,rfl⟩:=q9
  refine ⟨⟨(Sd6 (Sk3 (Sr))),Mm3⟩,?_⟩
  refine Qe V (JY (.n4 V V V V) (bd42_0_1_2_7Xg18 _ _ _ _ _ _ _)) (Jy V V (J3 (cs:= [_,_,_,_,_,_,_,_,_,_,_,_,_,_,_,_,_,_,_]) V V (by decide) fun b38=> ?_))
  refine ⟨⟨(Sd7 (Sk3 (Sr))),Mm3⟩,?_⟩
  refine Qe V (Jd V) (Qe V (Jd V) (JK (JJ (Jf (Jp ?_)))))
  refine ⟨_,[_,_,_,_,_,_,_,_],[_,_,_],fun Z w hs=> .tmp V (.tmp V .nil),?_,fun Z w hs=>((((((((hs.pick .z8).pick .z8).pick .z3).pick .z8).pick .z8).pick .z8).pick .z8).pick .z7).out (Sk8 (Sd2 (Sr))) (Jl Mm0 (Jl Mm1 (Jl Mm2 Tt4)))⟩
  exact ⟨⟨b38,h,m,b,s,none,0,none, .nil,[], .slice none 0 0, .slice none 0 0,[],[]⟩,V,DkOk.zero hu hc he.2 ho.2 _ _ _ _ _,V,V⟩
 ·refine Jy V V (Jm (Hx) .nil (by decide) Jx fun _ _ _ q9=>?_)
  obtain ⟨s,rfl,rfl,rfl⟩:=q9
  refine ⟨⟨(Sd6 (Sk3 (Sr))),Mm3⟩,?_⟩
  refine Jy V V (VJ (Js (vs:= [_,_]) Un34 V YF V (Jj (Jn)) V V) (by decide) ?_)
  refine ⟨⟨(Sd6 (Sk3 (Sr))),Mm3⟩,?_⟩
  refine Qe V (JY (.n4 V V V V) (bd42_0_1_2_7Xg18 _ _ _ _ _ _ _)) (Jy V V (J3 (cs:= [_,_,_,_,_,_,_,_,_,_,_,_,_,_,_,_,_,_,_]) V V (by decide) fun b38=> ?_))
  refine ⟨⟨(Sd7 (Sk3 (Sr))),Mm3⟩,?_⟩
  refine Qe V (Jd V) (Qe V (Jd V) (JK (JJ (Jf (Jp ?_)))))
  refine ⟨_,[_,_,_,_,_,_,_,_],[_,_,_],fun Z w hs=> .tmp V (.tmp V .nil),?_,fun Z w hs=>((((((((hs.pick .z8).pick .z8).pick .z3).pick .z8).pick .z8).pick .z8).pick .z8).pick .z7).out (Sk8 (Sd2 (Sr))) (Jl Mm0 (Jl Mm1 (Jl Mm2 Tt4)))⟩
  exact ⟨⟨b38,h,m,b,s,none,0,none, .nil,[], .slice none 0 0, .slice none 0 0,[],[]⟩,V,DkOk.zero hu hc he.2 ho.2 _ _ _ _ _,V,V⟩
theorem turn_apply (e:Ent) (on:Bool) (X:List Ce):JX (turnF e on) X=K5 e.now (if (decide (e.op.kind=2)==on)=true then 1 else -1) X:=by
 unfold JX turnF
 dsimp only
 by_cases h:(decide (e.op.kind=2)==on)=true
 ·simp only [h,if_true];rfl
 ·simp only [h];rfl
theorem Jam (e:Ent) (on:Bool):(turnF e on).kind=2∨(turnF e on).kind=3:=by unfold turnF;dsimp only;split<;>simp
theorem Ky (H:Hist):H.ops.length=H.ents.length:=by unfold Hist.ops;rw [List.length_map]
theorem drop_ops (H:Hist):H.ops.drop H.ents.length= [] :=List.drop_of_length_le (by rw [Ky];exact Nat.le_refl _)
theorem Zj (xs:List GOp):zipE xs [] = [] :=by cases xs<;>rfl
theorem newEnts_end {H:Hist} {o:GOp} {nw:List Rg} {es:List Ent} {later:List GOp} (h:es.length=H.ents.length):newEnts H.ents.length o nw es later=es++ [⟨o,nw,false⟩] :=by
 unfold newEnts
 rw [List.take_of_length_le (by omega),List.drop_of_length_le (by omega),Zj]
theorem end_ins {H:Hist} (hv:HV H) {o:GOp} (g:Good H H.ents.length o) (hk:o.kind=1):(putF H H.ents.length o).2.1= { effF o with at_:=o.at_,text:=o.text } ∧(putF H H.ents.length o).1.ents=H.ents.map (shiftE o.at_ (Jr o))++ [⟨o,[⟨o.at_,o.at_+Jr o⟩],false⟩] :=by
 obtain ⟨es,nw,eff,p⟩:=put_good hv g
 have h1:=p.ins hk
 rw [drop_ops] at h1
 have hp:=p.put
 rw [hp]
 refine ⟨h1.2.2,?_⟩
 show newEnts _ _ _ _ _=_
 rw [newEnts_end (p.len g),h1.1,h1.2.1]
 rfl
theorem end_hide {H:Hist} (hv:HV H) {o:GOp} (g:Good H H.ents.length o) (hk:o.kind=2):(putF H H.ents.length o).2.1= { effF o with rs:=o.rs } ∧(putF H H.ents.length o).1.ents=H.ents++ [⟨o,o.rs,false⟩] :=by
 obtain ⟨es,nw,eff,p⟩:=put_good hv g
 have h1:=p.hide hk
 rw [drop_ops] at h1
 have hp:=p.put
 rw [hp]
 refine ⟨h1.2.2,?_⟩
 show newEnts _ _ _ _ _=_
 rw [newEnts_end (p.len g),h1.1,h1.2.1]
 rfl
theorem end_stat {H:Hist} (hv:HV H) {o:GOp} (g:Good H H.ents.length o) (hk:o.kind=4) {k:Nat} (hkl:k<H.ents.length) (hw:J5 H.ents o.tc o.tn=some k) (hoff:H.ents[k].off=o.on):
  (putF H H.ents.length o).2.1=turnF H.ents[k] o.on∧(putF H H.ents.length o).1.ents=H.ents.set k (offE H.ents[k] (!o.on))++ [⟨o,[],false⟩] :=by
 obtain ⟨es,nw,eff,p⟩:=put_good hv g
 have h1:=p.status hk
 have htd:turnedF H H.ents.length o=(H.ents.set k (offE H.ents[k] (!o.on)),turnF H.ents[k] o.on):=by
  unfold turnedF
  rw [List.drop_of_length_le (Nat.le_refl _),hw]
  have e:(H.ents[k].off= !o.on)=False:=by rw [hoff];cases o.on<;>simp
  simp only [Yv,List.any_nil,Bool.false_eq_true,if_false,List.getElem?_eq_getElem hkl,e]
 rw [htd] at h1
 have hp:=p.put
 rw [hp]
 refine ⟨h1.2.2,?_⟩
 show newEnts _ _ _ _ _=_
 rw [newEnts_end (p.len g),h1.1,h1.2.1]
theorem put_total {H:Hist} (hv:HV H) {i:Nat} {o:GOp} (g:Good H i o):(putF H i o).1.total=H.total+Jr o:=by
 obtain ⟨es,nw,eff,p⟩:=put_good hv g
 rw [p.put]
theorem Good.mkd {D:DS} {o:GOp} (hdi:DI D.H.ops.length D.H D.X) (g:Good D.H D.H.ops.length o) (hn:D.H.ops.length<900):MkD D o:=by
 obtain ⟨H2,eff,T⟩:=hdi.take g
 have e1:mkH D o=H2:=by unfold mkH;rw [T.put]
 have e2:mkE D o=eff:=by unfold mkE;rw [T.put]
 have hd:=T.next hn
 have h0:=hdi.row
 have h1:=hd.row
 have h2:=put_total hdi.hv g
 have e3:(putF D.H (D.H.ops.length:Nat) o).1=H2:=e1
 rw [e3] at h2
 have hw:=g.right.width
 have ho:=hdi.ops g
 rw [e3,List.take_length,List.drop_length,G4] at ho
 exact ⟨by rw [e1,e2];exact T,by rw [e1,ho];rfl,by rw [e2];omega,by rw [e1,e2];exact hd⟩
theorem Good.tad {D:DS} {o:GOp} (hdi:DI D.H.ops.length D.H D.X) (g:Good D.H D.got o) (hn:D.H.ops.length<900):TaD D o:=by
 obtain ⟨H2,eff,T⟩:=hdi.take g
 have e1:(putF D.H D.got o).1=H2:=by rw [T.put]
 have e2:(putF D.H D.got o).2.1=eff:=by rw [T.put]
 have hd:=T.next hn
 have h0:=hdi.row
 have h1:=hd.row
 have h2:=put_total hdi.hv g
 rw [e1] at h2
 have hw:=g.right.width
 refine ⟨by rw [e1,e2];exact T,by rw [e1,Ky,T.len],by rw [e2];omega,fun hk=> ?_,⟨hw.1,hw.2.1⟩,by rw [e1,e2];exact hd⟩
 obtain ⟨es,nw,eff',p⟩:=put_good hdi.hv g
 have hp:=p.put
 rw [hp] at hk ⊢
 show Jr eff'=Jr o
 have hk':eff'.kind=1:=hk
 rcases g.right.kind with h | h | h
 ·rw [(p.ins h).2.2]
  unfold Jr effF
  simp only [h]
 ·rw [(p.hide h).2.2] at hk'
  exfalso
  have:o.kind=1:=hk'
  omega
 ·rw [(p.status h).2.2] at hk'
  exfalso
  rcases turned_cases D.H D.got o with e | ⟨k,e,_,_,_,_,h5⟩
  ·rw [e] at hk';exact absurd (show (0:Int)=1 from hk') (by decide)
  ·rw [h5] at hk'
   rcases Jam e o.on with h | h
   ·rw [show (turnF e o.on).kind=1 from hk'] at h;exact absurd h (by decide)
   ·rw [show (turnF e o.on).kind=1 from hk'] at h;exact absurd h (by decide)
structure DV (D:DS):Prop where
 us:1≤D.u∧D.u≤8
 own: ∀o∈D.H.ops,o.c=D.u→o.n≤D.made
 sid: ∀x∈D.U++D.R,x.2≤D.made
 pb: ∀x∈D.put,0≤x∧x≤5*D.H.ops.length
 wb: ∀o∈D.H.ops,Jr o≤5
 di:DI D.H.ops.length D.H D.X
 pl:D.put.length=9
theorem Hw: ∀ {l:List GOp},(∀o∈l,Jr o≤5)→sumO l≤5*l.length
 | [],_=>by simp [sumO]
 | o::l,h=>by
  have h1:=h o List.mem_cons_self
  have h2:=Hw fun x hx=>h x (List.mem_cons_of_mem _ hx)
  simp only [sumO,List.length_cons];omega
theorem DV.total {D:DS} (h:DV D):D.H.total≤5*D.H.ops.length:=by rw [h.di.hv.tot];exact Hw h.wb
theorem before_all (H:Hist) (hv:HV H):K6 H H.ops.length=H.total:=by
 rw [before_ops,List.take_length,hv.tot]
theorem DV.fresh {D:DS} (h:DV D):J5 D.H.ents D.u ((D.made:Int)+1)=none:=by
 cases hw:J5 D.H.ents D.u ((D.made:Int)+1) with
 | none=>rfl
 | some j=>
  obtain ⟨hj,h1,h2⟩:=KI hw
  have:=h.own D.H.ents[j].op (List.mem_map.2 ⟨_,List.getElem_mem hj,rfl⟩) h1
  omega
theorem DV.idr {D:DS} (h:DV D) (hm:D.made<1024):rightF D.u ((D.made:Int)+1)=true:=by
 have:=h.us
 unfold rightF;simp;omega
theorem DV.ins {D:DS} (h:DV D) (hm:D.made<1024) (hn:D.H.ops.length<900) {k:Nat} (hk:k≤D.X.length) {text:ByteArray} (hu:(utF text).2.2=0) (hu1:1≤(utF text).1∧(utF text).1≤256):Good D.H D.H.ops.length (insO D k text):=by
 have ht:=h.total
 have hr:=h.di.row
 have h0:=h.di.tot0
 refine ⟨by rw [Ky];exact Nat.le_refl _,⟨?_, .inl rfl⟩,h.fresh,h.idr hm,fun e=>(by cases e),?_⟩
 ·rw [before_all _ h.di.hv]
  exact (check_ins rfl (by omega)).2 ⟨good_head (by show 1≤(1:Int)∧(1:Int)≤4;omega) (h.idr hm) (by simp [extraF,insO,zeroOp]),YD.2 ⟨hu,hu1,⟨by show 0≤(k:Int);omega,by show (k:Int)≤_;omega⟩,by show D.H.total+(utF text).1≤_;omega⟩⟩
 ·have:Jr (insO D k text)=(utF text).1:=by unfold Jr;rw [if_pos (show (insO D k text).kind=1 from rfl)];rfl
  rw [this];omega
theorem DV.hide {D:DS} (h:DV D) (hm:D.made<1024) (hn:D.H.ops.length<900) {rs:List Rg} (hp:Pls D.X.length rs) (hne:rs≠ []):Good D.H D.H.ops.length (hideO D rs):=by
 have ht:=h.total
 have hr:=h.di.row
 have h0:=h.di.tot0
 rw [hr] at hp
 refine ⟨by rw [Ky];exact Nat.le_refl _,⟨?_, .inr (.inl rfl)⟩,h.fresh,h.idr hm,fun e=>(by cases e),?_⟩
 ·rw [before_all _ h.di.hv]
  exact (check_cov (.inl rfl) (by omega)).2 ⟨good_head (by show 1≤(2:Int)∧(2:Int)≤4;omega) (h.idr hm) (by simp [extraF,hideO,zeroOp,emptyB]),(YX (by omega)).2 ⟨hne,hp⟩⟩
 ·have:Jr (hideO D rs)=0:=by unfold Jr;rw [if_neg (show ¬(hideO D rs).kind=1 by show ¬(2:Int)=1;decide)]
  rw [this];omega
theorem DV.stat {D:DS} (h:DV D) (hm:D.made<1024) (hn:D.H.ops.length<900) {i0 i1:Int} {k:Nat} (hw:J5 D.H.ents i0 i1=some k) (hk:k<D.H.ents.length) (hk4:D.H.ents[k].op.kind≠4) (on:Bool):Good D.H D.H.ops.length (statO D (i0,i1) on):=by
 have ht:=h.total
 have hr:=h.di.row
 have h0:=h.di.tot0
 have hne: ¬(D.H.ents[k].op.c=D.u∧D.H.ents[k].op.n=(D.made:Int)+1):=Yj h.fresh _ (List.getElem_mem hk)
 obtain ⟨_,g1,g2⟩:=KI hw
 refine ⟨by rw [Ky];exact Nat.le_refl _,⟨?_, .inr (.inr V)⟩,h.fresh,h.idr hm,fun _=>⟨k,hw,by rw [Ky];exact hk,_,List.getElem?_eq_getElem hk,hk4⟩,?_⟩
 ·rw [before_all _ h.di.hv]
  have hid:=h.di.hv.idr _ (List.getElem_mem hk)
  rw [g1,g2] at hid
  exact (check_st rfl (by omega)).2 ⟨good_head (by show 1≤(4:Int)∧(4:Int)≤4;omega) (h.idr hm) (by simp [extraF,statO,zeroOp,emptyB]),hid,fun e=>hne ⟨g1.trans e.1,g2.trans e.2⟩⟩
 ·have:Jr (statO D (i0,i1) on)=0:=by unfold Jr;rw [if_neg (show ¬(statO D (i0,i1) on).kind=1 by show ¬(4:Int)=1;decide)]
  rw [this];omega
theorem Xi: ∀ {b:Int} {xs:List Rg},NormB b xs→ ∀r∈xs,b≤r.lo∧r.lo<r.hi
 | _,[],_,r,hr=>by cases hr
 | b,x::xs,h,r,hr=>by
  rcases List.mem_cons.1 hr with rfl | hr
  ·exact ⟨h.1,h.2.1⟩
  ·have h1:=Xi h.2.2 r hr
   have h2:=h.1
   have h3:=h.2.1
   omega
theorem DV.tud {D:DS} (h:DV D) (hm:D.made<1024) (hn:D.H.ops.length<900) {i0 i1:Int} {k:Nat} (hw:J5 D.H.ents i0 i1=some k) (hk:k<D.H.ents.length) (hk4:D.H.ents[k].op.kind≠4) (on:Bool) (hoff:D.H.ents[k].off=on):TuD D i0 i1 on k:=by
 have g:=h.stat hm hn hw hk hk4 on
 have M:=g.mkd h.di hn
 have ho:=Ky D.H
 have he:=(end_stat h.di.hv (o:=statO D (i0,i1) on) (by rw [←ho];exact g) rfl hk hw hoff).2
 rw [←ho] at he
 have he2:(mkH D (statO D (i0,i1) on)).ents=D.H.ents.set k (offE D.H.ents[k] (!on))++ [⟨statO D (i0,i1) on,[],false⟩] :=he
 have hj:k<(mkH D (statO D (i0,i1) on)).ents.length:=by rw [he2];simp;omega
 have hek:(mkH D (statO D (i0,i1) on)).ents[k] =offE D.H.ents[k] (!on):=by
  simp only [he2]
  rw [List.getElem_append_left (by simpa using hk),List.getElem_set_self]
 have hrs:(entE ((mkH D (statO D (i0,i1) on)).ents[k])).rs=D.H.ents[k].now:=by
  rw [hek];unfold entE offE;rw [if_neg hk4]
 have hpl:=h.di.hv.pls _ (List.getElem_mem hk)
 have h0:=h.di.tot0
 have hlen:=hpl.len h0.1
 have hml:=M.len
 have hr:=h.di.row
 obtain ⟨_,g1,g2⟩:=KI hw
 refine ⟨M,hj,?_,?_,?_,?_⟩
 ·have:=Yg M.di.hv.ids hj
  rw [hek,show (offE D.H.ents[k] (!on)).op.c=i0 from g1,show (offE D.H.ents[k] (!on)).op.n=i1 from g2] at this
  exact this
 ·rw [hrs];exact fun e=>hk4 ((h.di.hv.edit _ (List.getElem_mem hk)).2 e)
 ·rw [hrs];omega
 ·rw [hrs]
  intro r hr2
  have:=Xi hpl.norm r hr2
  have:=hpl.below r hr2
  omega
structure Acted (D D2:DS):Prop where
 u:D2.u=D.u
 lm:D2.cl=D.cl∧D2.ce=D.ce∧D2.op=D.op
 got:D2.got=D.got
 cm:(D2.H=D.H∧D2.X=D.X∧D2.made=D.made)∨ ∃o,o.c=D.u∧o.n=(D.made:Int)+1∧D2.H.ops=D.H.ops++ [o] ∧D2.made=D.made+1
theorem Acted.rfl' (D:DS):Acted D D:=⟨rfl,⟨rfl,rfl,rfl⟩,rfl, .inl ⟨rfl,rfl,rfl⟩⟩
theorem ES {l:List Int} {b:Int} (h: ∀x∈l,0≤x∧x≤b) (hb:0≤b) (c:Nat):0≤l.getD c 0∧l.getD c 0≤b:=by
 rw [List.getD_eq_getElem?_getD]
 cases hc:l[c]? with
 | none=>exact ⟨Int.le_refl _,hb⟩
 | some x=>exact h x (List.mem_of_getElem? hc)
theorem DV.put_ {D:DS} (h:DV D) (c:Int):0≤putA D c∧putA D c≤5*D.H.ops.length:=ES h.pb (by omega) c.toNat
theorem DV.step {D D2:DS} (h:DV D) {o:GOp} (M:MkD D o) (hc:o.c=D.u) (hn:o.n=(D.made:Int)+1) (hw:0≤Jr o∧Jr o≤5) (hu:D2.u=D.u) (hH:D2.H=mkH D o) (hX:D2.X=JX (mkE D o) D.X) (hm:D2.made=D.made+1) (hp:D2.put=D.put∨D2.put=D.put.set D.u.toNat (putA D D.u+Jr o)) (hs: ∀x∈D2.U++D2.R,x.2≤D2.made):DV D2:=by
 have hl:D2.H.ops.length=D.H.ops.length+1:=by rw [hH,M.ops];simp
 have hpu:=h.put_ D.u
 refine ⟨hu ▸ h.us,fun x hx hxc=> ?_,hs,fun x hx=> ?_,fun x hx=> ?_,?_,?_⟩
 ·rw [hH,M.ops] at hx
  rw [hm]
  rcases List.mem_append.1 hx with hx | hx
  ·have:=h.own x hx (hxc.trans hu);omega
  ·have:=List.mem_singleton.1 hx;subst this;omega
 ·rw [hl]
  rcases hp with hp | hp
  ·rw [hp] at hx
   have:=h.pb x hx;omega
  ·rw [hp] at hx
   rcases List.mem_or_eq_of_mem_set hx with hx | rfl
   ·have:=h.pb x hx;omega
   ·omega
 ·rw [hH,M.ops] at hx
  rcases List.mem_append.1 hx with hx | hx
  ·exact h.wb x hx
  ·have:=List.mem_singleton.1 hx;subst this;exact hw.2
 ·rw [hl,hH,hX];exact M.di
 ·rcases hp with hp | hp
  ·rw [hp];exact h.pl
  ·rw [hp,List.length_set];exact h.pl
theorem DV.turned {D D2:DS} (h:DV D) (hu:D2.u=D.u) (hH:D2.H=D.H) (hX:D2.X=D.X) (hm:D2.made=D.made) (hp:D2.put=D.put) (hs: ∀x∈D2.U++D2.R,x∈D.U++D.R):DV D2:=
 ⟨hu ▸ h.us,by rw [hH,hu,hm];exact h.own,fun x hx=>by rw [hm];exact h.sid x (hs x hx),by rw [hp,hH];exact h.pb,by rw [hH];exact h.wb,by rw [hH,hX];exact h.di,by rw [hp];exact h.pl⟩
theorem VL {ok:Id2→Bool} {U R:List Id2} {x:Id2} (hx:x∈(upF ok U R).2.1∨x∈(upF ok U R).2.2):x∈U∨x∈R:=by
 unfold upF at hx
 cases hp:pickF ok U with
 | none=>rw [hp] at hx;exact hx
 | some kx=>
  obtain ⟨h1,h2⟩:=Y9 (ok:=ok) (l:=U) (k:=kx.1) (x:=kx.2) hp
  rw [hp] at hx
  rcases hx with hx | hx
  ·exact .inl (List.mem_of_mem_eraseIdx hx)
  ·rcases List.mem_append.1 hx with hx | hx
   ·exact .inr hx
   ·have:=List.mem_singleton.1 hx
    subst this
    exact .inl (List.mem_of_getElem? h1)
theorem Zn {ok:Id2→Bool} {U R:List Id2} {x:Id2} (hx:(upF ok U R).1=some x):ok x=true:=by
 unfold upF at hx
 cases hp:pickF ok U with
 | none=>rw [hp] at hx;cases hx
 | some kx=>
  rw [hp] at hx
  have h2:=Y9 (ok:=ok) (l:=U) (k:=kx.1) (x:=kx.2) hp
  obtain rfl:kx.2=x:=Option.some.inj hx
  exact h2.2
theorem stand_true {H:Hist} {on:Bool} {id:Id2} (h:JZ H on id=true): ∃k,J5 H.ents id.1 id.2=some k∧ ∃hk:k<H.ents.length,H.ents[k].op.kind≠4∧H.ents[k].off= !on:=by
 cases hw:J5 H.ents id.1 id.2 with
 | none=>rw [Gj hw] at h;cases h
 | some k=>
  obtain ⟨hk,_,_⟩:=KI hw
  rw [QZ hw hk] at h
  simp only [Bool.and_eq_true,decide_eq_true_eq] at h
  refine ⟨k,V,hk,h.1,?_⟩
  have:=h.2
  cases ho:H.ents[k].off<;>cases on<;>simp_all
theorem ins_row {D:DS} (hdi:DI D.H.ops.length D.H D.X) {k:Nat} {text:ByteArray} (g:Good D.H D.H.ops.length (insO D k text)):JX (mkE D (insO D k text)) D.X=D.X.take k++(cellsOf (Kq text) 0++D.X.drop k):=by
 have ho:=Ky D.H
 have he:=(end_ins hdi.hv (o:=insO D k text) (by rw [←ho];exact g) rfl).1
 rw [←ho] at he
 have he2:mkE D (insO D k text)= { effF (insO D k text) with at_:=(insO D k text).at_,text:=(insO D k text).text } :=he
 rw [he2]
 unfold JX
 rw [if_pos (show (effF (insO D k text)).kind=1 from rfl)]
 show D.X.take ((k:Int).toNat)++(cellsOf (Kq text) 0++D.X.drop ((k:Int).toNat))=_
 rw [Int.toNat_natCast]
theorem hide_row {D:DS} (hdi:DI D.H.ops.length D.H D.X) {rs:List Rg} (g:Good D.H D.H.ops.length (hideO D rs)):JX (mkE D (hideO D rs)) D.X=K5 rs 1 D.X:=by
 have ho:=Ky D.H
 have he:=(end_hide hdi.hv (o:=hideO D rs) (by rw [←ho];exact g) rfl).1
 rw [←ho] at he
 have he2:mkE D (hideO D rs)= { effF (hideO D rs) with rs:=(hideO D rs).rs } :=he
 rw [he2]
 unfold JX
 rw [if_neg (show ¬(effF (hideO D rs)).kind=1 by show ¬(2:Int)=1;decide),if_pos (show (effF (hideO D rs)).kind=2 from rfl)]
 rfl
theorem stat_row {D:DS} (hdi:DI D.H.ops.length D.H D.X) {i0 i1:Int} {on:Bool} (g:Good D.H D.H.ops.length (statO D (i0,i1) on)) {k:Nat} (hk:k<D.H.ents.length) (hw:J5 D.H.ents i0 i1=some k) (hoff:D.H.ents[k].off=on):JX (mkE D (statO D (i0,i1) on)) D.X=K5 D.H.ents[k].now (if (decide (D.H.ents[k].op.kind=2)==on)=true then 1 else -1) D.X:=by
 have ho:=Ky D.H
 have he:=(end_stat hdi.hv (o:=statO D (i0,i1) on) (by rw [←ho];exact g) rfl hk hw hoff).1
 rw [←ho] at he
 have he2:mkE D (statO D (i0,i1) on)=turnF D.H.ents[k] on:=he
 rw [he2,turn_apply]
theorem Zl {X:List Ce} {p k:Nat} (h:Pth X p k) (rs:List Int):KQ (X.take k++(cellsOf rs 0++X.drop k))=(KQ X).take p++(rs++(KQ X).drop p):=by
 have e:KQ X=KQ (X.take k)++KQ (X.drop k):=by rw [←K2,List.take_append_drop]
 have hl:(KQ (X.take k)).length=p:=by rw [KL,h.ct]
 rw [K2,K2,QY,e,List.take_left' hl,List.drop_left' hl]
theorem Zk {X:List Ce} {p k:Nat} (h:Pth X p k) (rs:List Int):J8 ((X.take k++(cellsOf rs 0++X.drop k)).take (k+rs.length))=p+rs.length:=by
 have hl:(X.take k).length=k:=by rw [List.length_take];have:=h.le;omega
 conv=>lhs;rw [show k+rs.length=(X.take k).length+(cellsOf rs 0).length by rw [hl,Jv]]
 rw [List.take_length_add_append,List.take_left,Kp,h.ct,Yk]
theorem mem_visPf: ∀(X:List Ce) (a q:Int),q∈visPf a X↔a≤q∧ ∃r,X[(q-a).toNat]? =some (r,0)
 | [],a,q=>by simp [visPf]
 | c::X,a,q=>by
  have ih:=mem_visPf X (a+1) q
  have key:(q=a∧c.2=0)∨q∈visPf (a+1) X↔a≤q∧ ∃r,(c::X)[(q-a).toNat]? =some (r,0):=by
   rw [ih]
   rcases Int.lt_trichotomy q a with h | h | h
   ·constructor
    ·rintro (⟨h1,_⟩ | ⟨h1,_⟩)<;>omega
    ·rintro ⟨h1,_⟩;omega
   ·subst h
    rw [Int.sub_self]
    constructor
    ·rintro (⟨_,h1⟩ | ⟨h1,_⟩)
     ·exact ⟨Int.le_refl _,c.1,by show some c=some (c.1,0);rw [←h1]⟩
     ·omega
    ·rintro ⟨_,r,h1⟩
     have:=Option.some.inj h1
     exact .inl ⟨V,by rw [this]⟩
   ·have e:(q-a).toNat=(q-(a+1)).toNat +1:=by omega
    rw [e,List.getElem?_cons_succ]
    constructor
    ·rintro (⟨h1,_⟩ | ⟨_,h2⟩)
     ·omega
     ·exact ⟨by omega,h2⟩
    ·rintro ⟨_,h2⟩;exact .inr ⟨by omega,h2⟩
  rw [←key]
  simp only [visPf]
  split
  ·rename_i h;rw [List.mem_cons];simp [h]
  ·rename_i h;simp [h]
theorem mem_visP {X:List Ce} {q:Int} :q∈visP X↔0≤q∧ ∃r,X[q.toNat]? =some (r,0):=by
 have:=mem_visPf X 0 q
 rwa [Int.sub_zero] at this
theorem visPf_sorted: ∀(X:List Ce) (a:Int),(visPf a X).Pairwise (· < ·)
 | [],a=>List.Pairwise.nil
 | c::X,a=>by
  have ih:=visPf_sorted X (a+1)
  simp only [visPf]
  split
  ·refine List.Pairwise.cons (fun q hq=> ?_) ih
   have:=((mem_visPf X (a+1) q).1 hq).1
   omega
  ·exact ih
def runeA (X:List Ce) (q:Int):Int:=((X[q.toNat]?).map (·.1)).getD 0
theorem Gh: ∀(X Y:List Ce) (a:Nat),Y.drop a=X→KQ X=(visPf a X).map (runeA Y)
 | [],Y,a,_=>rfl
 | c::X,Y,a,h=>by
  have hc:Y[a]? =some c:=by
   have:=congrArg (fun l=>l[0]?) h
   simpa using this
  have hd:Y.drop (a+1)=X:=by
   have:=congrArg (fun l=>l.drop 1) h
   simpa [List.drop_drop] using this
  have ih:=Gh X Y (a+1) hd
  have e:((a:Int)+1)=((a+1:Nat):Int):=by omega
  unfold KQ at ih ⊢
  simp only [visPf,e]
  by_cases h0:c.2=0
  ·rw [List.filter_cons_of_pos (by simpa using h0),if_pos h0,List.map_cons,List.map_cons,ih]
   congr 1
   unfold runeA
   rw [Int.toNat_natCast,hc];rfl
  ·rw [List.filter_cons_of_neg (by simpa using h0),if_neg h0,ih]
theorem GO (X:List Ce):KQ X=(visP X).map (runeA X):=Gh X X 0 rfl
theorem runeA_bump {X:List Ce} {xs:List Rg} {k:Int} (h:Pls X.length xs) (q:Int):runeA (K5 xs k X) q=runeA X q:=by
 have h1:=(Yt (k:=k) xs 0 X (Int.le_refl _) h.norm h.below).2 q.toNat
 unfold runeA
 rw [h1]
 cases X[q.toNat]? with
 | none=>rfl
 | some c=>simp only [Option.map_some,Option.getD_some];split<;>rfl
theorem visP_hide {X:List Ce} {p n:Nat} {xs:List Rg} (h:VisR p n X xs) (h0: ∀c∈X,0≤c.2):visP (K5 xs 1 X)=(visP X).take p++(visP X).drop (p+n):=by
 have hb:=Yt (k:=1) xs 0 X (Int.le_refl _) h.pls.norm h.pls.below
 have hs:=visPf_sorted X 0
 have hsp:visP X=(visP X).take p++(((visP X).drop p).take n++(visP X).drop (p+n)):=by
  conv=>lhs;rw [←List.take_append_drop p (visP X),←List.take_append_drop n ((visP X).drop p),List.drop_drop]
 have hs2:((visP X).take p++(((visP X).drop p).take n++(visP X).drop (p+n))).Pairwise (· < ·):=by rw [←hsp];exact hs
 obtain ⟨s1,s2,s3⟩:=List.pairwise_append.1 hs2
 obtain ⟨s4,s5,s6⟩:=List.pairwise_append.1 s2
 refine Qt (visPf_sorted _ 0) (List.pairwise_append.2 ⟨s1,s5,fun x hx y hy=>s3 x hx y (List.mem_append_right _ hy)⟩) fun q=> ?_
 have hq:q∈visP X↔q∈(visP X).take p∨q∈Ki xs∨q∈(visP X).drop (p+n):=by
  rw [h.pl]
  conv=>lhs;rw [hsp]
  simp only [List.mem_append]
 have hno:q∈Ki xs→ ¬(q∈(visP X).take p∨q∈(visP X).drop (p+n)):=by
  rw [h.pl]
  rintro h1 (h2 | h2)
  ·have:=s3 q h2 q (List.mem_append_left _ h1);omega
  ·have:=s6 q h1 q h2;omega
 have hin:q∈visP (K5 xs 1 X)↔q∈visP X∧q∉Ki xs:=by
  rw [mem_visP,mem_visP,hb.2 q.toNat,mem_places]
  constructor
  ·rintro ⟨g0,r,g1⟩
   have e:((q.toNat:Nat):Int)=q:=by omega
   rw [e] at g1
   cases hx:X[q.toNat]? with
   | none=>rw [hx] at g1;cases g1
   | some c=>
    rw [hx] at g1
    simp only [Option.map_some,Option.some.injEq] at g1
    have hc:=h0 c (List.mem_of_getElem? hx)
    by_cases hr:inRb q xs=true
    ·rw [if_pos hr] at g1
     have:=congrArg (·.2) g1
     simp only at this;omega
    ·rw [if_neg hr] at g1
     exact ⟨⟨g0,r,by rw [g1]⟩,fun hm=>hr (K8.2 hm)⟩
  ·rintro ⟨⟨g0,r,g1⟩,g2⟩
   have e:((q.toNat:Nat):Int)=q:=by omega
   rw [e]
   refine ⟨g0,r,?_⟩
   rw [g1,Option.map_some,if_neg (fun hr=>g2 (K8.1 hr))]
 show q∈visP (K5 xs 1 X)↔_
 rw [hin,hq,List.mem_append]
 constructor
 ·rintro ⟨h1 | h1 | h1,h2⟩
  ·exact .inl h1
  ·exact absurd h1 h2
  ·exact .inr h1
 ·intro h1
  refine ⟨h1.elim .inl (fun h=> .inr (.inr h)),fun h2=>hno h2 h1⟩
theorem HO {X:List Ce} {p n:Nat} {xs:List Rg} (h:VisR p n X xs) (h0: ∀c∈X,0≤c.2):KQ (K5 xs 1 X)=(KQ X).take p++(KQ X).drop (p+n):=by
 rw [GO (K5 xs 1 X),visP_hide h h0,GO X,List.map_append,List.map_take,List.map_drop]
 have e: ∀l:List Int,l.map (runeA (K5 xs 1 X))=l.map (runeA X):=fun l=>List.map_congr_left fun q _=>runeA_bump h.pls q
 rw [e]
theorem Rule.nn {H:Hist} {X:List Ce} (h:Rule H X): ∀c∈X,0≤c.2:=fun c hc=>by
 obtain ⟨q,hq⟩:=List.mem_iff_getElem?.1 hc
 rw [h.cnt q c hq];omega
theorem VisR.ne {p n:Nat} {X:List Ce} {xs:List Rg} (h:VisR p n X xs) (hn:0<n) (hv:p+n≤J8 X):xs≠ [] :=fun e=>by
 have:=h.left
 rw [e] at this
 simp only [Ki,List.flatMap_nil,List.length_nil] at this
 omega
theorem DV.hideM {D:DS} (h:DV D) (hm:D.made<1024) (hn:D.H.ops.length<900) {p n:Nat} (hn0:0<n) (hv:p+n≤J8 D.X) {xs:List Rg} (hV:VisR p n D.X xs):MkD D (hideO D xs)∧KQ (JX (mkE D (hideO D xs)) D.X)=(KQ D.X).take p++(KQ D.X).drop (p+n):=by
 have g:=h.hide hm hn hV.pls (hV.ne hn0 hv)
 refine ⟨g.mkd h.di hn,?_⟩
 rw [hide_row h.di g,HO hV h.di.rule.nn]
theorem DV.insM {D:DS} (h:DV D) (hm:D.made<1024) (hn:D.H.ops.length<900) {p k:Nat} (hk:Pth D.X p k) {text:ByteArray} (hu:(utF text).2.2=0) (hu1:1≤(utF text).1∧(utF text).1≤256):MkD D (insO D k text)∧KQ (JX (mkE D (insO D k text)) D.X)=(KQ D.X).take p++(Kq text++(KQ D.X).drop p)∧J8 ((JX (mkE D (insO D k text)) D.X).take (k+(utF text).1.toNat))=p+(utF text).1.toNat:=by
 have g:=h.ins hm hn hk.le hu hu1
 refine ⟨g.mkd h.di hn,?_,?_⟩
 ·rw [ins_row h.di g,Zl hk]
 ·have:=Y7 hu
  rw [ins_row h.di g,show (utF text).1.toNat=(Kq text).length by omega,Zk hk]
theorem Yi {s:ByteArray} {p k:Nat} {r w:Nat} (hp:p<s.size) (hd:Utf8.decode s p=(r,w)) (hb:begF s p r=true) (hl:letF r=true):utAt s p k=utAt s (p+w) (k+1):=by
 rw [utAt_next hp (by rw [hd];simp [hb]) (by rw [hd];simp [hl]),hd]
theorem X6 {s:ByteArray} {p:Nat} {r w:Nat} (hp:p<s.size) (hd:Utf8.decode s p=(r,w)):runesAt s p=(r:Int)::runesAt s (p+w):=by
 rw [runesAt,dif_pos hp,hd]
def wordsL:List ByteArray:= [⟨#[97]⟩,⟨#[98,99]⟩,⟨#[195,169]⟩,⟨#[120,226,130,172,121]⟩,⟨#[240,159,152,128,122]⟩,⟨#[100,101,102,103,104]⟩]
def wordsC:List Value:=wordsL.map .string
abbrev wordsF:Fact:=FzA 0 0 wordsC
def wordA (k:Nat):ByteArray:=wordsL.getD k ⟨#[]⟩
theorem Ec {k:Nat} (h:k<6):wordsC[k]? =some (.string (wordA k)):=by
 unfold wordsC wordA wordsL
 match k,h with
 | 0,_=>rfl
 | 1,_=>rfl
 | 2,_=>rfl
 | 3,_=>rfl
 | 4,_=>rfl
 | 5,_=>rfl
structure WordOk (s:ByteArray):Prop where
 u:(utF s).2.2=0
 n:1≤(utF s).1∧(utF s).1≤5
 z:s.size≤100
structure GAct where
 who:Int
 kind:Int
 a:Int
 b:Int
 text:ByteArray
 on:Bool
def actC (x:GAct):List Value:= [.int .i64 x.who, .int .i64 x.kind, .int .i64 x.a, .int .i64 x.b, .string x.text, .bool x.on]
def actV (x:GAct):Value:= .agg (actC x).toArray
def actD:De GAct where
 sz:=6
 rep _ _ x cs:=cs=actC x
 len h:=by subst h;rfl
 one h:=by subst h;rfl
 stable _ _ _ _ _ h:=h
theorem act_open (u:GAct): ∀Z w cs,actD.rep Z w u cs→ ∃y:Unit,cs=actC u∧ ∀B∈([] :List Fact),B.holds Z w:=fun _ _ _ h=>⟨(),h,fun _ h=>by cases h⟩
set_option maxRecDepth 20000 in
theorem XX {k:Nat} (h:k<6):WordOk (wordA k):=by
 match k,h with
 | 0,_=>
  have e:utF (wordA 0)=(1,0,0):=by
   show utAt ⟨#[97]⟩ 0 0=_
   rw [Yi (r:=97) (w:=1) (by decide) (by decide) (by decide) (by decide),utAt_end (by decide)];rfl
  exact ⟨by rw [e],by rw [e];decide,by decide⟩
 | 1,_=>
  have e:utF (wordA 1)=(2,0,0):=by
   show utAt ⟨#[98,99]⟩ 0 0=_
   rw [Yi (r:=98) (w:=1) (by decide) (by decide) (by decide) (by decide),Yi (r:=99) (w:=1) (by decide) (by decide) (by decide) (by decide),utAt_end (by decide)];rfl
  exact ⟨by rw [e],by rw [e];decide,by decide⟩
 | 2,_=>
  have e:utF (wordA 2)=(1,0,0):=by
   show utAt ⟨#[195,169]⟩ 0 0=_
   rw [Yi (r:=233) (w:=2) (by decide) (by decide) (by decide) (by decide),utAt_end (by decide)];rfl
  exact ⟨by rw [e],by rw [e];decide,by decide⟩
 | 3,_=>
  have e:utF (wordA 3)=(3,0,0):=by
   show utAt ⟨#[120,226,130,172,121]⟩ 0 0=_
   rw [Yi (r:=120) (w:=1) (by decide) (by decide) (by decide) (by decide),Yi (r:=8364) (w:=3) (by decide) (by decide) (by decide) (by decide),Yi (r:=121) (w:=1) (by decide) (by decide) (by decide) (by decide),utAt_end (by decide)];rfl
  exact ⟨by rw [e],by rw [e];decide,by decide⟩
 | 4,_=>
  have e:utF (wordA 4)=(2,0,0):=by
   show utAt ⟨#[240,159,152,128,122]⟩ 0 0=_
   rw [Yi (r:=128512) (w:=4) (by decide) (by decide) (by decide) (by decide),Yi (r:=122) (w:=1) (by decide) (by decide) (by decide) (by decide),utAt_end (by decide)];rfl
  exact ⟨by rw [e],by rw [e];decide,by decide⟩
 | 5,_=>
  have e:utF (wordA 5)=(5,0,0):=by
   show utAt ⟨#[100,101,102,103,104]⟩ 0 0=_
   rw [Yi (r:=100) (w:=1) (by decide) (by decide) (by decide) (by decide),Yi (r:=101) (w:=1) (by decide) (by decide) (by decide) (by decide),Yi (r:=102) (w:=1) (by decide) (by decide) (by decide) (by decide),Yi (r:=103) (w:=1) (by decide) (by decide) (by decide) (by decide),Yi (r:=104) (w:=1) (by decide) (by decide) (by decide) (by decide),utAt_end (by decide)];rfl
  exact ⟨by rw [e],by rw [e];decide,by decide⟩
end Go.Proofs.YtggbpikbmnkiaaaGreatDoor
