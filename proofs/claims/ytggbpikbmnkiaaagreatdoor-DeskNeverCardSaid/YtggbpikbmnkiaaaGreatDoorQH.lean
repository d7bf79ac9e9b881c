/- Part of the proof that this claim's law answers true, whatever its arguments. Condition: the laid variables hold what their initialisers lay (the card ties that to the program's text). -/
import Derived.Test.YtggbpikbmnkiaaaGreatDoorTie
import Derived.Test.YtggbpikbmnkiaaaGreatDoorQG
set_option maxRecDepth 10000
set_option linter.unusedVariables false
set_option linter.unusedSimpArgs false
open Go.Proofs.Tryz renaming underlying3→Un3,underlying4→Un4,underlying9→Un9,underlying20→Un20,underlying21→Un21,underlying22→Un22,underlying24→Un24,underlying25→Un25,underlying29→Un29,underlying31→Un31,underlying32→Un32,underlying34→Un34,underlying36→Un36,underlying37→Un37,underlying38→Un38,underlying40→Un40,underlying43→Un43,underlying44→Un44,underlying45→Un45,underlying47→Un47,underlying49→Un49,underlying53→Un53,underlying58→Un58,underlying60→Un60,underlying63→Un63,underlying74→Un74,underlying77→Un77,underlying83→Un83,underlying85→Un85,underlying113→Un113,underlying115→Un115,underlying117→Un117,underlying120→Un120,underlying122→Un122,underlying134→Un134,underlying135→Un135,underlying137→Un137,underlying141→Un141,underlying148→Un148,underlying150→Un150,underlying153→Un153,underlying155→Un155,underlying159→Un159,underlying163→Un163,underlying166→Un166,underlying169→Un169,underlying171→Un171,underlying172→Un172,underlying174→Un174,underlying193→Un193,underlying199→Un199,underlying200→Un200,underlying202→Un202,underlying209→Un209,underlying222→Un222
namespace Go.Proofs.YtggbpikbmnkiaaaGreatDoor
open Go Go.GW
theorem G6 (acc:List Rg) (lo hi:Int):(addF acc lo hi).length≤acc.length+1:=QT acc lo hi
theorem Row.of_copy {k b:Nat} {css:List (List Value)} {T:TypeId} (h:css.flatten.length=k*2) (hk:k≤60000):Row T 2 (.slice (some ⟨b,0,none⟩) k k) k css.flatten [(b,JB css.flatten T)] :=
  ⟨h, .inr ⟨b,k,[],rfl,by rw [List.append_nil],by rw [List.append_nil];exact h,Nat.le_refl _,by unfold maxLen;omega⟩⟩
theorem make_p (A:Option Addr) (c:Nat) (xs:List Rg) (hs:Srt xs) (hl:xs.length≤32768) (hne:xs≠ []):Sp Tryz.prog 106 [.slice A xs.length c] [] [RdF rgD A c xs] (fun v Lo fs=> ∃A' c',v= .tuple #[.slice A' (packF [] xs).length c', .int .i64 0] ∧Lo= [] ∧fs= [RdF rgD A' c' (packF [] xs)]):=by
  refine Sp.of (n:=60) ⟨_,Tryz.func106,V,V,V,V⟩ (Nat.le_of_ble_eq_true V) fun Ps As=>Jc (Ja (Lq (Jd V) (Lq (Jd V) (Je (Jf (Jc (Jc (Ja (Lq (Jb V) (Lq (J4 Un45 V) (Lq (Kl V V) (Je (Jf (Ju V (by simp;omega) ?_))))))))))))))
  refine Jo (Jf (Jc (Jc (Ja (Lq (Jb V) (Lq (J4 Un45 V) (Lq (Jb V) (Je (Jf (JD ?_))))))))))
  refine Ke (α:=Nat) (fun k=>xs.length-k)
    (fun k=> [(0, .slice A xs.length c),(13, .slice A xs.length c),(14, .int .i64 xs.length),(15, .int .i64 k)])
    (fun k=>Ps)
    (fun k=>(RdF rgD A c xs::As))
    (fun k=>k≤xs.length)
    0 ?_ (.m4 rfl rfl rfl rfl) (Sr) (fun _ h=>h) ?_
  · exact Nat.zero_le _
  · rintro k hI
    refine Jc (Ja (Lq (Km V V) (Je (Jf (Jc (Jz V (fun h16=> ?_) (fun h16=> ?_)))))))
    · refine Jo (Jf (Jc (JD (Jc ?_))))
      try simp only [Bp,Bq] at *
      have hk:k<xs.length:=by omega
      have hat:=hs.at_ hk
      refine Kd (k:=k) Mm0 (List.getElem?_eq_getElem hk) (rg_open _) fun b5 q5 y5 e5=> ?_
      cases e5
      refine Ja (Lq (J0 Un45 Kf V V (by omega) (by omega)) (Lq (Kg (k:=0) (vs:= [_,_]) Un134 V Kf V Mm0 V V V) (Jg V (Jw (cs:= [_,_]) Kf V (by decide) fun b5=>Jg V (Jq (cs':= [_,_]) (vs:= [_,_]) Kf V V V V V (Nat.le_of_ble_eq_true V) .z (Je (Jf (Jc (Ja (Lq (Jh (o':=0) Un134 V ti3 V V) (Lq (Jk Un3 V V Jn V) (Lq (Km V V) (Lq (Jb V) ?_)))))))))))))
      refine Lg V V V (by simp;omega) (Jh (o':=1) Un134 V ti3 V V) (Lg V V V (by simp;omega) (Jk Un3 V V Jn V) (Lg V V V (by simp;omega) (Kl V V) (Lq (JL V (by simp;omega) V) (Lq (Jb V) (Lg V V V (by simp;omega) (Jh (o':=0) Un134 V ti3 V V) (Lg V V V (by simp;omega) (Jk Un3 V V Jn V) (Lg V V V (by simp;omega) (Jh (o':=1) Un134 V ti3 V V) (Lg V V V (by simp;omega) (Jk Un3 V V Jn V) (Lg V V V (by simp;omega) (Kl V V) ?_)))))))))
      refine Lq (JL V (by simp;omega) V) (Je (Jf (Ju V (by simp;omega) (Jo (J7 (Jf (Ja (Lq (JQ V V (wr64 (by omega)) (c:=((k+1:Nat):Int))) (Lq (Jb V) (Je (Ko ?_)))))))))))
      refine ⟨k+1,?_,(.m4 V V V V),(Sd (Sr)),Tt1⟩
      exact ⟨by omega,by omega⟩
    · refine Kh (JH (JH (J6 (Jf (Jc (Ja (Lq (Jb V) (Lq (J4 Un45 V) (Jg V (Jae Un45 Kf V V (by omega) (by unfold maxLen;omega) (by decide) fun bm cs0 hcs0=>Lq (Jd V) (Je (Jf (Jc (Ja (Lq (Jb V) (Lq (Jb V) (Jg V (Jah (e:=rgD) Un45 Kf V V Mm0 hne hcs0 (by decide) (by decide) (DelAt.perm .z) fun css hfl=>Je (Jf (Jc ?_))))))))))))))))))))
      refine KJ (e:=rgD) (xs:=xs) (css:=css) (Row.of_copy hfl (by omega)) .z V Mm0 fun A9 c9 e9=> ?_
      obtain ⟨rfl,_,rfl⟩:=Value.slice.inj e9
      refine Ja (Lq (Jb V) (Jg V (Jm (sort_p (some ⟨bm,0,none⟩) xs.length xs hs) (.n2 V V) (by decide) (Jl Mm0 Jx) fun _ _ _ q9=>?_)))
      obtain ⟨rfl,rfl,rfl⟩:=q9
      refine Je (Jf (Jc (Ja (Lq (Jd V) (Je (Jf (Jc (Jc (Ja (Lq (Jb V) (Lq (J4 Un45 V) (Lq (Jb V) (Je (Jf (JD (Kz ?_))))))))))))))))
      refine Ke (α:=Nat×List Rg×Value×Part) (fun (k,acc,v,p)=>xs.length-k)
        (fun (k,acc,v,p)=> [(7,v),(43, .slice (some ⟨bm,0,none⟩) xs.length xs.length),(44, .int .i64 xs.length),(45, .int .i64 k)])
        (fun (k,acc,v,p)=>(p::Ps))
        (fun (k,acc,v,p)=>(RdF rgD (some ⟨bm,0,none⟩) xs.length xs::RdF rgD A c xs::As))
        (fun (k,acc,v,p)=>k≤xs.length∧packF acc (xs.drop k)=packF [] xs∧Row 134 2 v acc.length (rgs acc) p∧acc.length≤k)
        (0,[], .slice none 0 0,[]) ?_ (.m4 rfl rfl rfl rfl) (Sk (Sr)) (Jl Mm0 Tt2) ?_
      · exact ⟨Nat.zero_le _,by rw [List.drop_zero],Row.nil _ _,Nat.le_refl _⟩
      · rintro ⟨k,acc,v,p⟩ hI
        refine Jc (Ja (Lq (Km V V) (Je (Jf (Jc (Jz V (fun h46=> ?_) (fun h46=> ?_)))))))
        · refine Jo (Jf (Jc (JD (Jc ?_))))
          try simp only [Bp,Bq] at *
          have hk:k<xs.length:=by omega
          have hd:xs.drop k=xs[k] ::xs.drop (k+1):=List.drop_eq_getElem_cons hk
          have heq:=hI.2.1
          rw [hd] at heq
          have hal:=hI.2.2.2
          have hal2:=G6 acc xs[k].lo xs[k].hi
          refine Kd (k:=k) Mm0 (List.getElem?_eq_getElem hk) (rg_open _) fun b5 q5 y5 e5=> ?_
          cases e5
          refine Ja (Lq (J0 Un45 Kf V V (by omega) (by omega)) (Lq (Kg (k:=0) (vs:= [_,_]) Un134 V Kf V Mm0 V V V) (Jg V (Jw (cs:= [_,_]) Kf V (by decide) fun b9=>Jg V (Jq (cs':= [_,_]) (vs:= [_,_]) Kf V V V V V (Nat.le_of_ble_eq_true V) .z (Je (Jf (Ja (Lq (Jb V) (Lq (Jh (o':=0) Un134 V ti3 V V) (Lq (Jk Un3 V V Jn V) (Lq (Jh (o':=1) Un134 V ti3 V V) ?_))))))))))))
          refine Lq (Jk Un3 V V Jn V) (Jg V (JU (XS v acc p xs[k].lo xs[k].hi hI.2.2.1 (by omega)) (.n3 V V V) (by decide) .z1 Jx fun va Lo fs hres=> ?_))
          obtain ⟨pa,hra,rfl,rfl⟩:=hres
          refine Lq (Jd V) (Je (J7 (Jf (Ja (Lq (JQ V V (wr64 (by omega)) (c:=((k+1:Nat):Int))) (Lq (Jb V) (Je (Ko ?_))))))))
          refine ⟨(k+1,addF acc xs[k].lo xs[k].hi,va,pa),?_,(.m4 V V V V),(Sk (Sd (Sr))),Tt1⟩
          exact ⟨by show xs.length-(k+1)<xs.length-k;omega,by omega,heq,hra,by show (addF acc xs[k].lo xs[k].hi).length≤k+1;omega⟩
        · refine Kh (JH (JH (J6 (Jf (Jc ?_)))))
          try simp only [Bp,Bq] at *
          obtain rfl:k=xs.length:=by have:=hI.1;omega
          have heq:=hI.2.1
          rw [List.drop_length] at heq
          have hacc:acc=packF [] xs:=heq
          have hal:=hI.2.2.2
          refine Kc (A:=RepsF rgD acc (acc.map rgC)) (fun Z w _=>rgs_reps acc Z w) (KJ (e:=rgD) (css:=acc.map rgC) hI.2.2.1 .z V Mm0 fun Af cf ef=> ?_)
          subst ef
          refine Ja (Lq (Jb V) (Jg V (Jm (bounded_2 Af cf acc (by omega)) (.n1 V) (by decide) Jx fun _ _ _ q9=>?_)))
          obtain ⟨rfl,rfl,rfl⟩:=q9
          refine Lq (Ji (vs:= [_,_]) V V) (Lq (Ji (vs:= [_,_]) V V) (Lq (Jd V) (Lq (Jd V) (Je (Jf (Jp ?_))))))
          refine ⟨_,[],[_],fun Z w hs=> .tmp V (.tmp V .nil),?_,fun Z w hs=>hs.out (Sr) (Jl Mm0 Tt3)⟩
          subst hacc
          exact ⟨Af,cf,V,V,V⟩
theorem meet_p (A B:Option Addr) (c d:Nat) (xs ys:List Rg) (h:Pls 60000 xs) (h2:Pls 60000 ys) (h1:xs.length≤1):Sp Tryz.prog 105 [.slice A xs.length c, .slice B ys.length d] [] [RdF rgD B d ys,RdF rgD A c xs] (fun v Lo fs=> ∃A' n c',v= .tuple #[.slice A' n c', .int .i64 0] ∧(n=0↔meetF [] xs ys= [])∧Lo= [] ∧fs= []):=by
  have hly:=h2.len (by omega)
  refine Sp.of (n:=59) ⟨_,Tryz.func105,V,V,V,V⟩ (Nat.le_of_ble_eq_true V) fun Ps As=>Jc (Ja (Lq (Jd V) (Lq (Jd V) (Je (Jf (Jc (Jc (Ja (Lq (Jb V) (Lq (Jb V) (Jg V (Jm (both_p A B c d xs ys h h2) (.n2 V V) (by decide) (Jl Mm1 (Jl Mm0 Jx)) fun _ _ _ q9=>?_))))))))))))
  obtain ⟨rfl,rfl,rfl⟩:=q9
  refine Lq (Jd V) (Je (Jf (Jc (Ja (Lq (Jb V) (Lq (Kr V V) (Je (Jf (Ju V V (Jo (Jf (Jc (Ja (Lq (Jd V) (Je (Jf (Jc (JD (Kz ?_)))))))))))))))))))
  refine Ke (α:=Option Addr×Nat×List Rg×Option Addr×Nat×List Rg×List Rg×Value×Part) (fun (A1,c1,as_',B1,d1,bs,acc,v,p)=>as_'.length+bs.length)
    (fun (A1,c1,as_',B1,d1,bs,acc,v,p)=> [(0, .slice A1 as_'.length c1),(1, .slice B1 bs.length d1),(7,v)])
    (fun (A1,c1,as_',B1,d1,bs,acc,v,p)=>(p::Ps))
    (fun (A1,c1,as_',B1,d1,bs,acc,v,p)=>(RdF rgD A1 c1 as_'::RdF rgD B1 d1 bs::RdF rgD B d ys::RdF rgD A c xs::As))
    (fun (A1,c1,as_',B1,d1,bs,acc,v,p)=>Row 134 2 v acc.length (rgs acc) p∧meetF acc as_' bs=meetF [] xs ys∧acc.length+as_'.length+bs.length≤xs.length+ys.length)
    (A,c,xs,B,d,ys,[], .slice none 0 0,[]) ?_ (.m3 rfl rfl rfl) (Sk (Sr)) (Jl Mm1 (Jl Mm0 (fun _ h=>h))) ?_
  · exact ⟨Row.nil _ _,V,by simp⟩
  · rintro ⟨A1,c1,as_',B1,d1,bs,acc,v,p⟩ hI0
    have hI:Row 134 2 v acc.length (rgs acc) p∧meetF acc as_' bs=meetF [] xs ys∧acc.length+as_'.length+bs.length≤xs.length+ys.length∧True:=⟨hI0.1,hI0.2.1,hI0.2.2,trivial⟩
    refine Jc (Jc (Ja (Lq (Jb V) (Lq (J4 Un45 V) (Lq (Kl V V) (Lq (Jb V) (J1 (t:=17) V (fun g17=> ?_) (fun g17=> ?_))))))))
    · refine Lg V V V g17 (Jb V) (Lg V V V g17 (J4 Un45 V) (Lg V V V g17 (Kl V V) (Lq (JO V g17 V) (Je (Jf (Jz V (fun h21=> ?_) (fun h21=> ?_)))))))
      · refine Jo (Jf (JD (Jc ?_)))
        try simp only [Bp,Bq] at *
        obtain ⟨r,a,rfl⟩:=List.exists_cons_of_ne_nil (l:=as_') (fun e=>by subst e;simp at g17)
        obtain ⟨s,b,rfl⟩:=List.exists_cons_of_ne_nil (l:=bs) (fun e=>by subst e;simp at h21)
        have heq:=hI.2.1
        rw [V8] at heq
        have hal:=hI.2.2.1
        simp only [List.length_cons] at hal
        have hal2:=G6 acc (max r.lo s.lo) (min r.hi s.hi)
        have hla:(r::a).length=a.length+1:=rfl
        have hlb:(s::b).length=b.length+1:=rfl
        refine Kd (k:=0) Mm0 V (rg_open _) fun bi qi yi ei=> ?_
        cases ei
        refine Kd (k:=0) Mm2 V (rg_open _) fun bj qj yj ej=> ?_
        cases ej
        refine JI _ _ [] (.c 0 0 (.c 1 0 (.c 2 0 (.c 3 0 (.c 4 0 (.c 5 0 (.c 6 0 (.c 7 0 (.c 8 0 (.c 9 0 (.c 10 0 (.c 11 0 (.c 12 0 (.c 13 0 (.c 14 0 (.c 15 0 (.c 16 0 (.c 17 0 (.c 18 0 (.c 19 2 (.c 20 0 .nil))))))))))))))))))))) mixed (fun _ _ _ _ h=>h) (Sd (Sr)) (fun _ h=>h) (by kernel_rfl) (by decide) fun ws Z0=>Qe V (Jb V) (Qe V (Jb V) (Qe V (J0 Un45 Kf V V (by decide) (by simp)) (Qe V (Jh (o':=_+0) Un134 V ti3 V V) (Qe V (Kk (j:=0) Un3 V V Mm1 V V) (Qe V (Jb V) (Qe V (J0 Un45 Kf V V (by decide) (by simp)) (Qe V (Jh (o':=_+0) Un134 V ti3 V V) (Qe V (Kk (j:=0) Un3 V V Mm0 V V) ?_))))))))
        refine Qe V (Vz V V) (Qe V (Jb V) (Qe V (J0 Un45 Kf V V (by decide) (by simp)) (Qe V (Jh (o':=_+1) Un134 V ti3 V V) (Qe V (Kk (j:=1) Un3 V V Mm1 V V) (Qe V (Jb V) (Qe V (J0 Un45 Kf V V (by decide) (by simp)) (Qe V (Jh (o':=_+1) Un134 V ti3 V V) (Qe V (Kk (j:=1) Un3 V V Mm0 V V) (Qe V (Xg V V) ?_)))))))))
        refine Jy V V (JU (XS v acc p (max r.lo s.lo) (min r.hi s.hi) hI.1 (by omega)) (.n3 V V V) (by decide) .z Jx fun va Lo fs hres=> ?_)
        obtain ⟨pa,hra,rfl,rfl⟩:=hres
        refine ⟨⟨(Sd (Sr)),Mm0⟩,?_⟩
        refine Qe V (Jd V) (JK (JJ (Jf (Jc (JI _ _ [] (.c 0 0 (.c 1 0 (.c 2 0 (.c 3 0 (.c 4 0 (.c 5 0 (.c 6 0 (.c 7 0 (.c 8 0 .nil))))))))) mixed (fun _ _ _ _ h=>h) (Sk (Sr)) (fun _ h=>h) (by kernel_rfl) (by decide) fun ws Z0=>Qe V (Jb V) (Qe V (J0 Un45 Kf V V (by decide) (by simp)) (Qe V (Jh (o':=_+1) Un134 V ti3 V V) (Qe V (Kk (j:=1) Un3 V V Mm2 V V) (Qe V (Jb V) (Qe V (J0 Un45 Kf V V (by decide) (by simp)) ?_))))))))))
        refine Qe V (Jh (o':=_+1) Un134 V ti3 V V) (Qe V (Kk (j:=1) Un3 V V Mm1 V V) (Qe V (YQ V V) (JK (JJ (Jf (Jz V (fun h50=> ?_) (fun h50=> ?_)))))))
        · refine QW 1 Mm4 (by simp) (Ja (Lq (Jb V) (Lq (Qx (j:=1) (m:=_) (by decide) V Un45 Kf V V (by decide) (by rw [hla];omega)) (Lq (Jd V) (Je (J7 (Ko ?_)))))))
          refine ⟨(cutA (some ⟨bi,qi,none⟩) 1 c1 2,c1-1,a,some ⟨bj,qj,none⟩,d1,s::b,addF acc (max r.lo s.lo) (min r.hi s.hi),va,pa),?_,(.m3 V V V),(Sk (Sr)),(Jl Mm0 Tt6)⟩
          simp only [decide_eq_true_eq] at h50
          rw [if_pos h50] at heq
          exact ⟨by show a.length+(s::b).length<(r::a).length+(s::b).length;omega,hra,heq,by simp only [List.length_cons];omega⟩
        · refine QW 1 Mm5 (by simp) (Ja (Lq (Jb V) (Lq (Qx (j:=1) (m:=_) (by decide) V Un45 Kf V V (by decide) (by rw [hlb];omega)) (Lq (Jd V) (Je (J7 (Ko ?_)))))))
          refine ⟨(some ⟨bi,qi,none⟩,c1,r::a,cutA (some ⟨bj,qj,none⟩) 1 d1 2,d1-1,b,addF acc (max r.lo s.lo) (min r.hi s.hi),va,pa),?_,(.m3 V V V),(Sk (Sr)),(Jl Mm5 (Jl Mm0 Tt7))⟩
          simp only [decide_eq_false_iff_not] at h50
          rw [if_neg h50] at heq
          exact ⟨by show (r::a).length+b.length<(r::a).length+(s::b).length;omega,hra,heq,by simp only [List.length_cons];omega⟩
      · refine Kh (JH (JH (J6 (Jf (Jc ?_)))))
        try simp only [Bp,Bq] at *
        obtain ⟨Av,cv,rfl⟩:=hI.1.slice
        have hal:=hI.2.2.1
        have hdone:acc=meetF [] xs ys:=by
          have heq:=hI.2.1
          first
          | (have hz:as_'= [] :=List.length_eq_zero_iff.1 (by omega)
             rw [hz,Vi] at heq;exact heq)
          | (have hz:bs= [] :=List.length_eq_zero_iff.1 (by omega)
             rw [hz,V7] at heq;exact heq)
        refine Ja (Lq (Jb V) (Jg V (Jm (bounded_2 Av cv acc (by omega)) (.n1 V) (by decide) Jx fun _ _ _ q9=>?_)))
        obtain ⟨rfl,rfl,rfl⟩:=q9
        refine Lq (Ji (vs:= [_,_]) V V) (Lq (Ji (vs:= [_,_]) V V) (Lq (Jd V) (Lq (Jd V) (Je (Jf (Jp ?_))))))
        refine ⟨_,[],[],fun Z w hs=> .tmp V (.tmp V .nil),?_,fun Z w hs=>hs.out (Sd (Sr)) Tt2⟩
        refine ⟨Av,acc.length,cv,V,?_,V,V⟩
        rw [←hdone,List.length_eq_zero_iff]
    · refine Ln V V V g17 (Ln V V V g17 (Ln V V V g17 (Lq (JL V g17 V) (Je (Jf (Ju V V (Kh (JH (JH (J6 (Jf (Jc ?_))))))))))))
      try simp only [Bp,Bq] at *
      obtain ⟨Av,cv,rfl⟩:=hI.1.slice
      have hal:=hI.2.2.1
      have hdone:acc=meetF [] xs ys:=by
        have heq:=hI.2.1
        first
        | (have hz:as_'= [] :=List.length_eq_zero_iff.1 (by omega)
           rw [hz,Vi] at heq;exact heq)
        | (have hz:bs= [] :=List.length_eq_zero_iff.1 (by omega)
           rw [hz,V7] at heq;exact heq)
      refine Ja (Lq (Jb V) (Jg V (Jm (bounded_2 Av cv acc (by omega)) (.n1 V) (by decide) Jx fun _ _ _ q9=>?_)))
      obtain ⟨rfl,rfl,rfl⟩:=q9
      refine Lq (Ji (vs:= [_,_]) V V) (Lq (Ji (vs:= [_,_]) V V) (Lq (Jd V) (Lq (Jd V) (Je (Jf (Jp ?_))))))
      refine ⟨_,[],[],fun Z w hs=> .tmp V (.tmp V .nil),?_,fun Z w hs=>hs.out (Sd (Sr)) Tt2⟩
      refine ⟨Av,acc.length,cv,V,?_,V,V⟩
      rw [←hdone,List.length_eq_zero_iff]
theorem Zy {Z:Nat→Prop} {w:World} : ∀ {xs:List Rg} {css:List (List Value)},Reps (rgD.rep Z w) xs css→css.flatten=rgs xs
 | [],_, .nil=>rfl
 | x::xs,_, .cons h hr=>by rw [List.flatten_cons,Zy hr];unfold rgs;rw [List.map_cons,List.flatten_cons];exact congrArg (· ++(xs.map rgC).flatten) h
theorem Jb2 {P:Program} {n:Dm} {R:Post} {l:Fr} {Ps:List Part} {As:List Fact} {ops:Array Oper} {rest:List Oper} {xs:List Rg} {css:List (List Value)} (hA:RepsF rgD xs css∈As) (h:css.flatten=rgs xs→WL P n ops R rest l Ps As):WL P n ops R rest l Ps As:=fun Z w a hs ha=>h (Zy (hs.facts _ hA)) Z w a hs ha
theorem bd134_0_1Xe4 (x0_:Int) (x1_:Int) (w:World):(Instr.build 134 #[(0, .int .i64 x0_),(1, .int .i64 x1_)]).run Tryz.prog w= .ok (.agg #[.int .i64 x0_, .int .i64 x1_]) w:=by kernel_rfl
theorem covers_p (o:GOp) (A:Option Addr) (c:Nat) (hf:Fit o) (hk:o.kind=1) (h0:ownF o=0):Sp Tryz.prog 69 [opV o A c] [] [barF,RdF rgD A c o.rs] (fun v Lo fs=> ∃A' c',v= .slice A' 1 c'∧Lo= [] ∧fs= [RdF rgD A' c' [⟨o.at_,o.at_+Jr o⟩]]):=by
 have hwl:=KP o
 have hft:=hf.text
 have hlo:=hf.lo
 have hhi:=hf.hi
 refine Sp.of (n:=28) ⟨_,Tryz.func69,V,V,V,V⟩ (Nat.le_of_ble_eq_true V) fun Ps As=>Jc (Ja (Jg V (J3 (cs:= [_,_,_,_,_,_,_,_,_]) V V (by decide) fun b1=>Lq (Jd V) (Je (Jf (Jc (Jc (Ja (Lq (Js (vs:= [_,_,_,_,_,_,_,_,_]) Un60 V JA V Jn V V) (Jg V (Jm (Jbt o A c hf) (.n1 V) (by decide) (Jl Mm0 (Jl Mm1 Jx)) fun _ _ _ q9=>?_)))))))))))
 obtain ⟨rfl,rfl,rfl⟩:=q9
 refine Lq (Kr V V) (Lq (Jb V) (Lg V V V (by rw [h0];rfl) (Jh (o':=0) Un60 V KM V V) (Lg V V V (by rw [h0];rfl) (Jh (o':=2) Un58 V Yh V V) (Lg V V V (by rw [h0];rfl) (Jk Un44 V V Jn V) (Lg V V V (by rw [h0];rfl) (Kb V V) (Lq (JL V (by rw [h0];rfl) V) (Je (Jf (Ju V (by rw [hk];rfl) (Jo (Jf (Jc (Jc (Ja ?_))))))))))))))
 refine Lq (Jh (o':=0) Un60 V KM V V) (Lq (Jh (o':=2) Un58 V Yh V V) (Lq (Jk Un44 V V Jn V) (Lq (Kb V V) (Je (Jf (JG [(15,_),(2,_),(1,_)] (.m3 V V V) (JS V (by rw [hk];rfl) (Jc (JI _ _ [] (.c 0 0 (.c 1 0 (.c 2 0 (.c 3 0 (.c 4 0 (.c 5 2 (.c 6 0 (.c 7 0 (.c 8 2 (.c 9 0 .nil)))))))))) mixed (fun _ _ _ _ h=>h) (Sk (Sr)) (fun _ h=>h) (by kernel_rfl) (by decide) fun ws Z0=>Qe V (Jh (o':=3) Un60 V ti3 V V) ?_)))))))))
 refine Qe V (Jk Un3 V V Jn V) (Qe V (Jh (o':=3) Un60 V ti3 V V) (Qe V (Jk Un3 V V Jn V) (Qe V (Js (vs:= [_,_,_,_,_,_,_,_,_]) Un60 V JA V Jn V V) (Jy V V (Jm (YC o A c (by omega)) (.n1 V) (by decide) (Jl Mm1 Jx) fun _ _ _ q9=>?_)))))
 obtain ⟨rfl,rfl,rfl⟩:=q9
 refine ⟨⟨(Sk (Sr)),Mm0⟩,?_⟩
 refine Qe V (JQ V V (wr64 (by omega)) (c:=o.at_+Jr o)) (Qe V (JY (.n2 V V) (bd134_0_1Xe4 _ _)) (Jy V V (KF (cs:= [_,_]) Un45 Kf (by decide) (by decide) V V V V (by decide) fun b24=> ?_)))
 refine ⟨⟨(Sd (Sk (Sr))),Mm0⟩,?_⟩
 refine Qe V (Jd V) (JK (JJ (Jf (Jp (Jt ?_)))))
 refine ⟨_,[],[_],fun Z w hs=> .tmp V .nil,?_,fun Z w hs=>(hs.freeze1 (e:=rgD) (u:=⟨o.at_,o.at_+Jr o⟩) .z V).imp fun Z2 h2=>(h2.subParts (Sd (Sr))).subFacts (Jl Mm0 Tt2)⟩
 exact ⟨_,_,V,V,V⟩
theorem clone_o (o:GOp) (A:Option Addr) (c:Nat) (hl:o.rs.length≤4398046511104):Sp Tryz.prog 66 [opV o A c] [] [RdF rgD A c o.rs] (fun v Lo fs=> ∃A' c' p,v=opV o A' c'∧Row 134 2 (.slice A' o.rs.length c') o.rs.length (rgs o.rs) p∧Lo= [p] ∧fs= []):=by
 refine Sp.of (n:=8) ⟨_,Tryz.func66,V,V,V,V⟩ (Nat.le_of_ble_eq_true V) fun Ps As=>Jc (Ja (Jg V (J3 (cs:= [_,_,_,_,_,_,_,_,_]) V V (by decide) fun b1=>Jg V (Jw (cs:= [_,_,_,_,_,_,_,_,_]) JA V (by decide) fun b2=>Je (Jf (Jc (Ja (Lq (Jh (o':=5) Un60 V K3 V V) (Lq (Jk Un45 V V (Jj (Jn)) V) (Xa (Jg V (YM (e:=rgD) (ys:=o.rs) Un45 Kf V (by decide) V V (Row.nil _ _) Mm0 (by simp only [Nat.zero_add];omega) (by unfold maxLen;omega) (by decide) (List.Perm.refl _) fun v5 p5 cs5 hr5=>Jb2 Mm0 fun hcss=> ?_))))))))))))
 rw [Nat.zero_add,List.nil_append,hcss] at hr5
 obtain ⟨A5,c5,rfl⟩:=hr5.slice
 refine Lq (Jh (o':=5) Un60 V K3 V V) (Jg V (JN K3 V V V .z5 .z2 (Je (Jf (Jc (Ja (Lq (Js (vs:= [_,_,_,_,_,_,_,_,_]) Un60 V JA V (Jj (Jj (Jn))) V V) (Jg V (Jq (cs':= [_,_,_,_,_,_,_,_,_]) (vs:= [_,_,_,_,_,_,_,_,_]) JA V V V V V (Nat.le_of_ble_eq_true V) .z1 (Je (Jf (Jp ?_))))))))))))
 refine ⟨_,[_],[],fun Z w hs=>JT hs Un60 V JA V (Jj (Jn)) V .nil,?_,fun Z w hs=>hs.out (Sk (Sd2 (Sr))) Tt1⟩
 exact ⟨A5,c5,p5,V,hr5,V,V⟩
theorem hops_o (h m cap:Nat) (A:Option Addr) (H:Hist) (L:List MR) (hr:HR H L) (hi:Nat) (hb:hi≤H.ops.length) (hx:H.ops.length≤1000000):Sp Tryz.prog 68 [.pointer (some ⟨h,0,none⟩), .int .i64 0, .int .i64 hi] [hdP h A H.ops.length cap m H.total,mpP m L,mkP L] [RdF opD A cap H.ops] (fun v Lo fs=> ∃v1 p css,v= .tuple #[v1, .int .i64 0] ∧Row 60 9 v1 hi css.flatten p∧Lo= [p,hdP h A H.ops.length cap m H.total,mpP m L,mkP L] ∧fs= [RepsF opD (H.ops.take hi) css]):=by
 refine Sp.of (n:=46) ⟨_,Tryz.func68,V,V,V,V⟩ (Nat.le_of_ble_eq_true V) fun Ps As=>Jc (Ja (Lq (Jd V) (Lq (Jd V) (Je (Jf (Jc (Jc (Ja (Lq (Jb V) (Lq (Km V V) (Lq (Jb V) (Lg V V V V (Jb V) (Lg V V V V (Jb V) ?_)))))))))))))
 refine Lg V V V V (Kl V V) (Lq (JL V V V) (Lq (Jb V) (Lg V V V (by simp) (Jb V) (Lg V V V (by simp) (Jb V) (Lg V V V (by simp) (JE V) (Lg V V V (by simp) (Jh (o':=0) Un117 V Qi V V) (Lg V V V (by simp) (Jk Un53 V V Jn V) (Lg V V V (by simp) (J4 Un53 V) (Lg V V V (by simp) (Kl V V) ?_)))))))))
 refine Lq (JL V (by simp) V) (Je (Jf (JG [(26,_),(7,_),(6,_),(0,_),(1,_),(2,_)] (.m6 V V V V V V) (Ju V (by simp;omega) (Jo (Jf (Jc (Ja (Lq (Jd V) (Je (Jf (Jc (Jc (QX Mm0 fun hcap hcap2=> ?_))))))))))))))
 obtain ⟨B,hB⟩: ∃B,B=cutA A 0 cap 9:=⟨_,rfl⟩
 obtain ⟨xs,hxs⟩: ∃xs,xs=H.ops.take hi:=⟨_,rfl⟩
 have hxl:hi-0=xs.length:=by rw [hxs,List.length_take];omega
 have hfx: ∀o∈xs,Fit o:=fun o ho=>by rw [hxs] at ho;have h1:=List.mem_of_mem_take ho;obtain ⟨e,he,rfl⟩:=List.mem_map.1 h1;exact hr.fit e he
 refine Kc (A:=RdF opD B (cap-0) xs) (fun Z w hs=>by rw [hB,hxs];exact RdS.cut (lo:=0) (hi:=hi) (m:=cap) (hs.facts _ Mm0) (by omega) (by omega) (by omega) (Nat.le_refl _)) (Kc (A:=RepsF opD (xs.take 0) []) (fun Z w hs=>Reps.nil) (Kz (Ja (Lq (Jb V) (Lq (JE V) (Lq (Jh (o':=0) Un117 V Qi V V) (Lq (Jk Un53 V V (Jj (Jn)) V) (Lq (Jb V) (Lq (Jb V) ?_)))))))))
 refine Lq (Xt Un53 JA V V V (by decide) (by omega) (by omega)) (Lq (J4 Un53 V) (Lq (Jb V) (Je (Jf (JG [(35,_),(34,_),(33,_),(8,_),(7,_),(6,_)] (.m6 V V V V V V) (JD ?_))))))
 refine Ke (α:=Nat×Value×Part×List (List Value)) (fun (k,v,p,css)=>xs.length-k)
  (fun (k,v,p,css)=> [(33, .slice B xs.length (cap-0)),(34, .int .i64 xs.length),(35, .int .i64 k),(8,v)])
  (fun (k,v,p,css)=>(p::hdP h A H.ops.length cap m H.total::mpP m L::mkP L::Ps))
  (fun (k,v,p,css)=>(RepsF opD (xs.take k) css::RdF opD B (cap-0) xs::RdF opD A cap H.ops::As))
  (fun (k,v,p,css)=>k≤xs.length∧Row 60 9 v k css.flatten p)
  (0, .slice none 0 0,[],[]) ?_ (.m4 (by rw [hB,←hxl];rfl) (by rw [←hxl];rfl) rfl rfl) (Sk4 (Sr)) (fun _ h=>h) ?_
 ·exact ⟨Nat.zero_le _,Row.nil _ _⟩
 ·rintro ⟨k,v,p,css⟩ hI
  have hle:k≤xs.length:=hI.1
  have hxb:xs.length≤1000000:=by rw [hxs,List.length_take];omega
  refine Jc (Ja (Lq (Km V V) (Je (Jf (Jc (Jz V (fun h36=> ?_) (fun h36=> ?_)))))))
  ·refine Jo (Jf (Jc (JD (Jc ?_))))
   try simp only [Bp,Bq] at *
   have hk:k<xs.length:=by omega
   refine Kd (k:=k) Mm1 (List.getElem?_eq_getElem hk) (op_open _) fun b6 q6 y6 e6=> ?_
   cases e6
   refine Ja (Lq (J0 Un53 JA V V (by omega) (by omega)) (Lq (Kg (k:=0) (vs:= [_,_,_,_,_,_,_,_,_]) Un60 V JA V Mm0 V V V) (Jg V (Jw (cs:= [_,_,_,_,_,_,_,_,_]) JA V (by decide) fun b10=>Jg V (Jq (cs':= [_,_,_,_,_,_,_,_,_]) (vs:= [_,_,_,_,_,_,_,_,_]) JA V V V V V (Nat.le_of_ble_eq_true V) .z (Je (Jf (Ja (Lq (Jb V) (Lq (Js (vs:= [_,_,_,_,_,_,_,_,_]) Un60 V JA V Jn V V) (Jg V (Jm (YU xs[k] y6.1 y6.2 (hfx _ (List.getElem_mem hk)).rs) (.n1 V) (by decide) (Jl Mm1 Jx) fun _ _ _ q9=>?_))))))))))))
   obtain ⟨A1,c1,rfl,rfl,rfl⟩:=q9
   refine Jg V (KF (cs:= [_,_,_,_,_,_,_,_,_]) Un53 JA (by decide) (by decide) V V V V (by decide) fun b42=>Jg V (KK (news:= [_,_,_,_,_,_,_,_,_]) Un53 JA V (by decide) V V hI.2 Jn V V (by omega) (by unfold maxLen;omega) (by decide) (DelAt.perm .z2) fun v43 p43 hr43=>Lq (Jd V) (Je (J7 (Jf (Qa (u:=xs[k]) (cs:=opC xs[k] A1 c1) Mm3 (fun Z w hs=>⟨A1,c1,V,hs.facts _ Mm0⟩) (List.take_succ_eq_append_getElem hk) (Ja (Lq (JQ V V (wr64 (by omega)) (c:=((k+1:Nat):Int))) (Lq (Jb V) (Je (Ko ?_)))))))))))
   refine ⟨(k+1,v43,p43,css++ [opC xs[k] A1 c1]),?_,(.m4 V V V V),(Sk (Sd2 (Sk3 (Sr)))),(Jl Mm0 Tt5)⟩
   refine ⟨by show xs.length-(k+1)<xs.length-k;omega,by show k+1≤xs.length;omega,?_⟩
   rw [List.flatten_append,show [opC xs[k] A1 c1].flatten=opC xs[k] A1 c1 from by simp]
   exact hr43
  ·refine Kh (JH (JH (J6 (Jf (Jc (Ja (Lq (Jb V) (Lq (Jd V) (Lq (Jd V) (Je (Jf (Jp ?_))))))))))))
   refine ⟨_,[_,_,_,_],[_],fun Z w hs=> .tmp V (.tmp V .nil),?_,fun Z w hs=>hs.out (Sk4 (Sr)) (Jl Mm0 Tt2)⟩
   try simp only [Bp,Bq] at *
   obtain rfl:k=xs.length:=by have:=hI.1;omega
   have hxh:xs.length=hi:=by omega
   refine ⟨v,p,css,V,by rw [←hxh];exact hI.2,V,?_⟩
   rw [List.take_length,hxs]
theorem wo_ins (o:GOp) (A:Option Addr) (c:Nat) (G:Option Addr) (gc:Nat) (gone:List Rg) (hg:Pls 60000 gone) (hg1:gone.length≤1) (hk:o.kind=1) (ha:0≤o.at_∧o.at_≤60000) (hin: ¬(0<rankF o.at_ gone∧rankF o.at_ gone<countF gone)):Sp Tryz.prog 70 [opV o A c, .slice G gone.length gc] [] [RdF rgD G gc gone] (Is (.tuple #[opV { o with at_:=o.at_-rankF o.at_ gone } A c, .int .i64 0])):=by
 have hrb:=QO o.at_ hg.norm hg.below (by omega)
 refine Sp.of (n:=105) ⟨_,Tryz.func70,V,V,V,V⟩ (Nat.le_of_ble_eq_true V) fun Ps As=>Jc (Ja (Jg V (J3 (cs:= [_,_,_,_,_,_,_,_,_]) V V (by decide) fun b2=>Jg V (Jw (cs:= [_,_,_,_,_,_,_,_,_]) JA V (by decide) fun b4=>Lq (Jd V) (Je (Jf (Jc (Jc (Ja (Lq (Jh (o':=0) Un60 V KM V V) (Lq (Jh (o':=2) Un58 V Yh V V) (Lq (Jk Un44 V V (Jj (Jn)) V) (Je (Jf (JD (Jc (Ja ?_)))))))))))))))))
 refine Lq (Kb V V) (Lq (Jd V) (Je (Jf (JS V (by rw [hk];rfl) (Jc (Ja (Lq (Jb V) (Jg V (Jm (count_p G gc gone hg) (.n1 V) (by decide) (Jl Mm0 Jx) fun _ _ _ q9=>?_)))))))))
 obtain ⟨rfl,rfl,rfl⟩:=q9
 refine Lq (Jb V) (Lq (Ji (vs:= [_,_]) V V) (Lq (Ji (vs:= [_,_]) V V) (Lq (Jd V) (Lq (Jd V) (Je (Jf (Jc (Ja (Lq (Jb V) (Lq (Jh (o':=3) Un60 V ti3 V V) (Lq (Jk Un3 V V (Jj (Jn)) V) (Jg V (Jm (rank_p G gc gone o.at_ hg ha) (.n2 V V) (by decide) (Jl Mm0 Jx) fun _ _ _ q9=>?_)))))))))))))
 obtain ⟨rfl,rfl,rfl⟩:=q9
 refine Lq (Jb V) (Lq (Ji (vs:= [_,_]) V V) (Lq (Ji (vs:= [_,_]) V V) (Lq (Jd V) (Lq (Jd V) (Je (Jf (Jc (Jc (Ja (Lq (Jb V) (Lq (Kl V V) (Lq (Jb V) (J1 (t:=37) V (fun g37=> ?_) (fun g37=> ?_))))))))))))))
 ·refine Lg V V V g37 (Jb V) (Lg V V V g37 (Jb V) (Lg V V V g37 (Km V V) (Lq (JO V g37 V) (Je (Jf (Jz V (fun h41=> ?_) (fun h41=> ?_)))))))
  ·simp only [decide_eq_true_eq] at g37 h41
   exact absurd ⟨g37,h41⟩ hin
  ·refine Jo (Jf (Ja (Lq (Jh (o':=3) Un60 V ti3 V V) (Lq (Jk Un3 V V (Jj (Jn)) V) (Lq (Jb V) (Lq (KG V V (wr64 (by omega)) (c:=o.at_-rankF o.at_ gone)) (Lq (Jh (o':=3) Un60 V ti3 V V) (Jg V (JN ti3 V V V .z3 .z1 (Je (J7 (Jf (Jc (Ja (Lq (Js (vs:= [_,_,_,_,_,_,_,_,_]) Un60 V JA V (Jj (Jn)) V V) (Jg V (Jq (cs':= [_,_,_,_,_,_,_,_,_]) (vs:= [_,_,_,_,_,_,_,_,_]) JA V V V V V (Nat.le_of_ble_eq_true V) .z ?_)))))))))))))))))
   refine Lq (Jd V) (Je (Jf (Jp ?_)))
   refine ⟨_,[],[],fun Z w hs=>JT hs Un60 V JA V Jn V (.tmp V .nil),?_,fun Z w hs=>hs.out (Sd2 (Sr)) (fun _ h=>h)⟩
   exact ⟨V,V,V⟩
 ·refine Ln V V V g37 (Ln V V V g37 (Ln V V V g37 (Lq (JL V g37 V) (Je (Jf (Ju V V (Jo (Jf (Ja (Lq (Jh (o':=3) Un60 V ti3 V V) (Lq (Jk Un3 V V (Jj (Jn)) V) (Lq (Jb V) (Lq (KG V V (wr64 (by omega)) (c:=o.at_-rankF o.at_ gone)) (Lq (Jh (o':=3) Un60 V ti3 V V) ?_))))))))))))))
  refine Jg V (JN ti3 V V V .z3 .z1 (Je (J7 (Jf (Jc (Ja (Lq (Js (vs:= [_,_,_,_,_,_,_,_,_]) Un60 V JA V (Jj (Jn)) V V) (Jg V (Jq (cs':= [_,_,_,_,_,_,_,_,_]) (vs:= [_,_,_,_,_,_,_,_,_]) JA V V V V V (Nat.le_of_ble_eq_true V) .z (Lq (Jd V) (Je (Jf (Jp ?_)))))))))))))
  refine ⟨_,[],[],fun Z w hs=>JT hs Un60 V JA V Jn V (.tmp V .nil),?_,fun Z w hs=>hs.out (Sd2 (Sr)) (fun _ h=>h)⟩
  exact ⟨V,V,V⟩
theorem bd60Xe4 (w:World):(Instr.build 60 #[]).run Tryz.prog w= .ok (.agg #[.int .i64 0, .int .i64 0, .int .i64 0, .int .i64 0, .string ⟨#[]⟩, .slice none 0 0, .int .i64 0, .int .i64 0, .bool false]) w:=by kernel_rfl
theorem wo_insE (o:GOp) (A:Option Addr) (c:Nat) (G:Option Addr) (gc:Nat) (gone:List Rg) (hg:Pls 60000 gone) (hg1:gone.length≤1) (hk:o.kind=1) (ha:0≤o.at_∧o.at_≤60000) (hin:0<rankF o.at_ gone∧rankF o.at_ gone<countF gone):Sp Tryz.prog 70 [opV o A c, .slice G gone.length gc] [] [RdF rgD G gc gone] (Is (.tuple #[opV zeroOp none 0, .int .i64 23])):=by
 refine Sp.of (n:=105) ⟨_,Tryz.func70,V,V,V,V⟩ (Nat.le_of_ble_eq_true V) fun Ps As=>Jc (Ja (Jg V (J3 (cs:= [_,_,_,_,_,_,_,_,_]) V V (by decide) fun b2=>Jg V (Jw (cs:= [_,_,_,_,_,_,_,_,_]) JA V (by decide) fun b4=>Lq (Jd V) (Je (Jf (Jc (Jc (Ja (Lq (Jh (o':=0) Un60 V KM V V) (Lq (Jh (o':=2) Un58 V Yh V V) (Lq (Jk Un44 V V (Jj (Jn)) V) (Je (Jf (JD (Jc (Ja ?_)))))))))))))))))
 refine Lq (Kb V V) (Lq (Jd V) (Je (Jf (JS V (by rw [hk];rfl) (Jc (Ja (Lq (Jb V) (Jg V (Jm (count_p G gc gone hg) (.n1 V) (by decide) (Jl Mm0 Jx) fun _ _ _ q9=>?_)))))))))
 obtain ⟨rfl,rfl,rfl⟩:=q9
 refine Lq (Jb V) (Lq (Ji (vs:= [_,_]) V V) (Lq (Ji (vs:= [_,_]) V V) (Lq (Jd V) (Lq (Jd V) (Je (Jf (Jc (Ja (Lq (Jb V) (Lq (Jh (o':=3) Un60 V ti3 V V) (Lq (Jk Un3 V V (Jj (Jn)) V) (Jg V (Jm (rank_p G gc gone o.at_ hg ha) (.n2 V V) (by decide) (Jl Mm0 Jx) fun _ _ _ q9=>?_)))))))))))))
 obtain ⟨rfl,rfl,rfl⟩:=q9
 refine Lq (Jb V) (Lq (Ji (vs:= [_,_]) V V) (Lq (Ji (vs:= [_,_]) V V) (Lq (Jd V) (Lq (Jd V) (Je (Jf (Jc (Jc (Ja (Lq (Jb V) (Lq (Kl V V) (Lq (Jb V) (Lg V V V (by simpa using hin.1) (Jb V) ?_)))))))))))))
 refine Lg V V V (by simpa using hin.1) (Jb V) (Lg V V V (by simpa using hin.1) (Km V V) (Lq (JO V (by simpa using hin.1) V) (Je (Jf (JS V (by simpa using hin.2) (Jc (Ja (Lq (JY .nil (bd60Xe4)) (Jg V (Jq (cs':= [_,_,_,_,_,_,_,_,_]) (vs:= [_,_,_,_,_,_,_,_,_]) JA V V V V V (Nat.le_of_ble_eq_true V) .z (Lq (Jd V) (Je (Jf (Jp (Jt (JF (Jt ?_)))))))))))))))))
 refine ⟨_,[],[],fun Z w hs=>JT hs Un60 V JA V Jn V (.tmp V .nil),?_,fun Z w hs=>hs.out (Sd2 (Sr)) (fun _ h=>h)⟩
 exact ⟨V,V,V⟩
theorem wo_st (o:GOp) (A:Option Addr) (c:Nat) (G:Option Addr) (gc:Nat) (gone:List Rg) (hg:Pls 60000 gone) (hg1:gone.length≤1) (hk:o.kind=4):Sp Tryz.prog 70 [opV o A c, .slice G gone.length gc] [] [RdF rgD G gc gone] (Is (.tuple #[opV o A c, .int .i64 0])):=by
 refine Sp.of (n:=105) ⟨_,Tryz.func70,V,V,V,V⟩ (Nat.le_of_ble_eq_true V) fun Ps As=>Jc (Ja (Jg V (J3 (cs:= [_,_,_,_,_,_,_,_,_]) V V (by decide) fun b2=>Jg V (Jw (cs:= [_,_,_,_,_,_,_,_,_]) JA V (by decide) fun b4=>Lq (Jd V) (Je (Jf (Jc (Jc (Ja (Lq (Jh (o':=0) Un60 V KM V V) (Lq (Jh (o':=2) Un58 V Yh V V) (Lq (Jk Un44 V V (Jj (Jn)) V) (Je (Jf (JD (Jc (Ja ?_)))))))))))))))))
 refine Lq (Kb V V) (Lq (Jd V) (Je (Jf (Ju V (by rw [hk];rfl) (Jc (Ja (Lq (Kb V V) (Lq (Jd V) (Je (Jf (Ju V (by rw [hk];rfl) (Jo (J7 (Jf (Jc (Ja ?_))))))))))))))))
 refine Lq (Js (vs:= [_,_,_,_,_,_,_,_,_]) Un60 V JA V (Jj (Jn)) V V) (Jg V (Jq (cs':= [_,_,_,_,_,_,_,_,_]) (vs:= [_,_,_,_,_,_,_,_,_]) JA V V V V V (Nat.le_of_ble_eq_true V) .z (Lq (Jd V) (Je (Jf (Jp ?_))))))
 refine ⟨_,[],[],fun Z w hs=>JT hs Un60 V JA V Jn V (.tmp V .nil),?_,fun Z w hs=>hs.out (Sd2 (Sr)) (fun _ h=>h)⟩
 exact ⟨V,V,V⟩
theorem wo_hideE (o:GOp) (G:Option Addr) (gc:Nat) (gone:List Rg) (hg:Pls 60000 gone) (hg1:gone.length≤1) (b cap:Nat) (jk:List Value) (hp:Pls 60000 o.rs) (hcap:(rgs o.rs++jk).length=cap*2) (hle:o.rs.length≤cap) (hmx:cap≤maxLen) (hk:o.kind=2) (hin: ¬meetF [] gone o.rs= []):Sp Tryz.prog 70 [opV o (some ⟨b,0,none⟩) cap, .slice G gone.length gc] [[(b,JB (rgs o.rs++jk) 134)]] [RdF rgD G gc gone] (Is (.tuple #[opV zeroOp none 0, .int .i64 23])):=by
 refine Sp.of (n:=105) ⟨_,Tryz.func70,V,V,V,V⟩ (Nat.le_of_ble_eq_true V) fun Ps As=>Jc (Ja (Jg V (J3 (cs:= [_,_,_,_,_,_,_,_,_]) V V (by decide) fun b2=>Jg V (Jw (cs:= [_,_,_,_,_,_,_,_,_]) JA V (by decide) fun b4=>Lq (Jd V) (Je (Jf (Jc (Jc (Kc (A:=RepsF rgD o.rs (o.rs.map rgC)) (fun Z w _=>rgs_reps _ Z w) (Ja (Lq (Jh (o':=0) Un60 V KM V V) (Lq (Jh (o':=2) Un58 V Yh V V) ?_))))))))))))
 refine Lq (Jk Un44 V V (Jj (Jn)) V) (Je (Jf (JD (Jc (Ja (Lq (Kb V V) (Lq (Jd V) (Je (Jf (Ju V (by rw [hk];rfl) (Jc (Ja (Lq (Kb V V) (Lq (Jd V) (Je (Jf ?_))))))))))))))))
 refine JS rfl (by rw [hk];rfl) (Jc (Jc (Ja (Lq (Jb rfl) (Lq (Jh (o':=5) Un60 rfl K3 rfl rfl) (Lq (Jk Un45 rfl rfl (Jj (Jn)) rfl) (Jg rfl (JU (Sp.thaw (css:=o.rs.map rgC) (jk:=jk) (T':=134) (meet_p G (some ⟨b,0,none⟩) gc cap gone o.rs hg hp hg1) (fun v Lo fs h=>by obtain ⟨_,_,_,_,_,_,h⟩:=h;exact h) ⟨hle,hmx⟩) (.n2 rfl rfl) (by decide) .z2 (Jl Mm0 (Jl Mm1 Jx)) fun _ _ _ q9=>?_))))))))
 obtain ⟨Lo9,⟨A9,n9,c9,rfl,hn9,rfl,_⟩,rfl,rfl⟩:=q9
 refine Lq (Jb V) (Lq (Ji (vs:= [_,_]) V V) (Lq (Ji (vs:= [_,_]) V V) (Lq (Jd V) (Lq (Jd V) (Je (Jf (Jc (Ja (Lq (Jb V) (Lq (J4 Un45 V) (Lq (Kl V V) (Je (Jf ?_)))))))))))))
 refine JS V (by have:n9≠0:=fun e=>hin (hn9.1 e);simp;omega) (Jc (Ja (Lq (JY .nil (bd60Xe4)) (Jg V (Jq (cs':= [_,_,_,_,_,_,_,_,_]) (vs:= [_,_,_,_,_,_,_,_,_]) JA V V V V V (Nat.le_of_ble_eq_true V) .z1 (Lq (Jd V) (Je (Jf (Jp (Jt (JF (Jt ?_))))))))))))
 refine ⟨_,[],[],fun Z w hs=>JT hs Un60 V JA V (Jj (Jn)) V (.tmp V .nil),?_,fun Z w hs=>hs.out (Sd3 (Sr)) Tt1⟩
 exact ⟨V,V,V⟩
def dnL (gone rs:List Rg) (k:Nat):List Rg:=downR gone (rs.take k)++rs.drop k
theorem ZQ (gone rs:List Rg):dnL gone rs 0=rs:=by unfold dnL downR;simp
theorem dnL_full (gone rs:List Rg):dnL gone rs rs.length=downR gone rs:=by unfold dnL;simp
theorem Hi (gone rs:List Rg) (k:Nat):(dnL gone rs k).length=rs.length:=by
 unfold dnL downR
 rw [List.length_append,List.length_map,List.length_take,List.length_drop];omega
theorem Jbx (gone:List Rg) {rs:List Rg} {k:Nat} (hk:k<rs.length):(dnL gone rs k)[k]? =some rs[k] :=by
 unfold dnL downR
 rw [List.getElem?_append_right (by rw [List.length_map,List.length_take];omega),List.length_map,List.length_take,Nat.min_eq_left (by omega),Nat.sub_self,List.getElem?_drop,Nat.add_zero,List.getElem?_eq_getElem hk]
theorem dnL_next (gone:List Rg) {rs:List Rg} {k:Nat} (hk:k<rs.length):(dnL gone rs k).set k ⟨rs[k].lo-rankF rs[k].lo gone,rs[k].hi-rankF rs[k].hi gone⟩=dnL gone rs (k+1):=by
 unfold dnL downR
 have hl:((rs.take k).map fun r=>(⟨r.lo-rankF r.lo gone,r.hi-rankF r.hi gone⟩:Rg)).length=k:=by rw [List.length_map,List.length_take];omega
 rw [List.set_append_right _ _ (by omega),hl,Nat.sub_self,List.drop_eq_getElem_cons hk,List.set_cons_zero,List.take_succ_eq_append_getElem hk,List.map_append]
 simp
theorem make_q (A:Option Addr) (c n:Nat) (xs:List Rg) (hn:n=xs.length) (hs:Srt xs) (hl:xs.length≤32768) (hne:xs≠ []):Sp Tryz.prog 106 [.slice A n c] [] [RdF rgD A c xs] (fun v Lo fs=> ∃A' c',v= .tuple #[.slice A' (packF [] xs).length c', .int .i64 0] ∧Lo= [] ∧fs= [RdF rgD A' c' (packF [] xs)]):=by
 subst hn;exact make_p A c xs hs hl hne
theorem Jbo {b cap:Nat} {jk:List Value} {xs ys:List Rg} (h:(rgs xs++jk).length=cap*2) (hl:ys.length=xs.length) (hle:xs.length≤cap) (hmx:cap≤maxLen):Row 134 2 (.slice (some ⟨b,0,none⟩) ys.length cap) ys.length (rgs ys) [(b,JB (rgs ys++jk) 134)] :=by
 refine ⟨Ym _, .inr ⟨b,cap,jk,V,V,?_,by omega,hmx⟩⟩
 rw [List.length_append,Ym] at h ⊢
 rw [hl];exact h
theorem wo_hide (o:GOp) (G:Option Addr) (gc:Nat) (gone:List Rg) (hg:Pls 60000 gone) (hg1:gone.length≤1) (b cap:Nat) (jk:List Value) (hp:Pls 60000 o.rs) (hcap:(rgs o.rs++jk).length=cap*2) (hle:o.rs.length≤cap) (hmx:cap≤maxLen) (hk:o.kind=2) (hin:meetF [] gone o.rs= []) (hs:Srt (downR gone o.rs)) (hne:o.rs≠ []):Sp Tryz.prog 70 [opV o (some ⟨b,0,none⟩) cap, .slice G gone.length gc] [[(b,JB (rgs o.rs++jk) 134)]] [RdF rgD G gc gone] (fun v Lo fs=> ∃A' c',v= .tuple #[opV { o with rs:=packF [] (downR gone o.rs) } A' c', .int .i64 0] ∧Lo= [] ∧fs= [RdF rgD A' c' (packF [] (downR gone o.rs))]):=by
 have hln:=hp.len (by omega)
 refine Sp.of (n:=105) ⟨_,Tryz.func70,V,V,V,V⟩ (Nat.le_of_ble_eq_true V) fun Ps As=>Jc (Ja (Jg V (J3 (cs:= [_,_,_,_,_,_,_,_,_]) V V (by decide) fun b2=>Jg V (Jw (cs:= [_,_,_,_,_,_,_,_,_]) JA V (by decide) fun b4=>Lq (Jd V) (Je (Jf (Jc (Jc (Kc (A:=RepsF rgD o.rs (o.rs.map rgC)) (fun Z w _=>rgs_reps _ Z w) (Ja (Lq (Jh (o':=0) Un60 V KM V V) (Lq (Jh (o':=2) Un58 V Yh V V) ?_))))))))))))
 refine Lq (Jk Un44 V V (Jj (Jn)) V) (Je (Jf (JD (Jc (Ja (Lq (Kb V V) (Lq (Jd V) (Je (Jf (Ju V (by rw [hk];rfl) (Jc (Ja (Lq (Kb V V) (Lq (Jd V) (Je (Jf ?_))))))))))))))))
 refine JS rfl (by rw [hk];rfl) (Jc (Jc (Ja (Lq (Jb rfl) (Lq (Jh (o':=5) Un60 rfl K3 rfl rfl) (Lq (Jk Un45 rfl rfl (Jj (Jn)) rfl) (Jg rfl (JU (Sp.thaw (css:=o.rs.map rgC) (jk:=jk) (T':=134) (meet_p G (some ⟨b,0,none⟩) gc cap gone o.rs hg hp hg1) (fun v Lo fs h=>by obtain ⟨_,_,_,_,_,_,h⟩:=h;exact h) ⟨hle,hmx⟩) (.n2 rfl rfl) (by decide) .z2 (Jl Mm0 (Jl Mm1 Jx)) fun _ _ _ q9=>?_))))))))
 obtain ⟨Lo9,⟨A9,n9,c9,rfl,hn9,rfl,_⟩,rfl,rfl⟩:=q9
 refine Lq (Jb V) (Lq (Ji (vs:= [_,_]) V V) (Lq (Ji (vs:= [_,_]) V V) (Lq (Jd V) (Lq (Jd V) (Je (Jf (JG [(10,_),(5,_),(4,_),(2,_),(1,_)] (.m5 V V V V V) (Jc (Ja (Lq (Jb V) (Lq (J4 Un45 V) ?_)))))))))))
 refine Lq (Kl V V) (Je (Jf (Ju V (by have:=hn9.2 hin;simp;omega) (Jo (Jf (Jc (Jc ?_)))))))
 rw [←ZQ gone o.rs]
 refine Ja (Lq (Jh (o':=5) Un60 V K3 V V) (Lq (Jk Un45 V V (Jj (Jj (Jn))) V) (Lq (J4 Un45 V) (Lq (Jb V) (Je (Jf (JD (JC .z2 (JC .z2 (JC .z2 ?_))))))))))
 refine Ke (α:=Nat) (fun k=>o.rs.length-k)
  (fun k=> [(1, .slice G gone.length gc),(2, .pointer (some ⟨b2,0,none⟩)),(4, .pointer (some ⟨b4,0,none⟩)),(5, .int .i64 0),(62, .slice (some ⟨b,0,none⟩) o.rs.length cap),(63, .int .i64 o.rs.length),(64, .int .i64 k)])
  (fun k=>([(b,JB (rgs (dnL gone o.rs k)++jk) 134)] :: [(b4,JB (opC zeroOp none 0) 60)] :: [(b2,JB (opC o (some ⟨b,0,none⟩) cap) 60)] ::Ps))
  (fun k=>(RepsF rgD o.rs (o.rs.map rgC)::RdF rgD G gc gone::As))
  (fun k=>k≤o.rs.length)
  0 ?_ (.m7 rfl rfl rfl rfl rfl rfl rfl) (Sk3 (Sr)) (fun _ h=>h) ?_
 ·exact Nat.zero_le _
 ·rintro k hI
  refine Jc (Ja (Lq (Km V V) (Je (Jf (Jc (Jz V (fun h65=> ?_) (fun h65=> ?_)))))))
  ·refine Jo (Jf (Jc (JD (Jc ?_))))
   try simp only [Bp,Bq] at *
   have hk2:k<o.rs.length:=by omega
   have hm1:=hp.norm.mem _ (List.getElem_mem hk2)
   have hm2:=hp.below _ (List.getElem_mem hk2)
   have hr1:=QO o.rs[k].lo hg.norm hg.below (by omega)
   have hr2:=QO o.rs[k].hi hg.norm hg.below (by omega)
   have hdl:=Hi gone o.rs k
   have hcs: ∀cs∈(dnL gone o.rs k).map rgC,cs.length=2:=fun cs hcs=>by obtain ⟨x,_,rfl⟩:=List.mem_map.1 hcs;rfl
   have hca:((dnL gone o.rs k).map rgC)[k]? =some (rgC o.rs[k]):=by rw [List.getElem?_map,Jbx gone hk2];rfl
   refine Ja (Lq (Jb V) (Lq (Yl Un45 Kf V V (by omega) (by omega)) (Lq (Ej (i:=k) (css:=(dnL gone o.rs k).map rgC) (c:=rgC o.rs[k]) Un134 V Kf V (by simp) Jn hcs hca) (Jg V (Jw (cs:= [_,_]) Kf V (by decide) fun b13=>Lq (Jd V) (Jg V (Jq (cs':= [_,_]) (vs:= [_,_]) Kf V V V V V (Nat.le_of_ble_eq_true V) .z (Je (Jf (Jc (Ja (Lq (Jb V) (Lq (Jh (o':=0) Un134 V ti3 V V) ?_)))))))))))))
   refine Lq (Jk Un3 V V Jn V) (Jg V (Jm (rank_p G gc gone o.rs[k].lo hg (by omega)) (.n2 V V) (by decide) (Jl Mm1 Jx) fun _ _ _ q9=>?_))
   obtain ⟨rfl,rfl,rfl⟩:=q9
   refine Lq (Jb V) (Lq (Ji (vs:= [_,_]) V V) (Lq (Ji (vs:= [_,_]) V V) (Lq (Jd V) (Lq (Jd V) (Je (Jf (JG [(14,_),(75,_),(74,_),(69,_),(73,_),(72,_),(71,_),(70,_),(12,_),(13,_),(68,_),(67,_),(66,_),(65,_),(1,_),(2,_),(4,_),(5,_),(62,_),(63,_),(64,_)] (.m21 V V V V V V V V V V V V V V V V V V V V V) (Jc (Ja (Lq (Jb V) (Lq (Jh (o':=1) Un134 V ti3 V V) ?_)))))))))))
   refine Lq (Jk Un3 V V Jn V) (Jg V (Jm (rank_p G gc gone o.rs[k].hi hg (by omega)) (.n2 V V) (by decide) (Jl Mm1 Jx) fun _ _ _ q9=>?_))
   obtain ⟨rfl,rfl,rfl⟩:=q9
   refine Lq (Jb V) (Lq (Ji (vs:= [_,_]) V V) (Lq (Ji (vs:= [_,_]) V V) (Lq (Jd V) (Lq (Jd V) (Je (Jf (JG [(16,_),(82,_),(81,_),(76,_),(80,_),(79,_),(78,_),(77,_),(14,_),(75,_),(74,_),(69,_),(73,_),(72,_),(71,_),(70,_),(12,_),(13,_),(68,_),(67,_),(66,_),(65,_),(1,_),(2,_),(4,_),(5,_),(62,_),(63,_),(64,_)] (.cons V (.cons V (.cons V (.cons V (.cons V (.m24 V V V V V V V V V V V V V V V V V V V V V V V V)))))) (Ja (Lq (Jh (o':=5) Un60 V K3 V V) ?_)))))))))
   refine Lq (Jk Un45 V V (Jj (Jj (Jj (Jn)))) V) (Lq (Jb V) (Lq (Jh (o':=0) Un134 V ti3 V V) (Lq (Jk Un3 V V Jn V) (Lq (Jb V) (Lq (KG V V (wr64 (by omega)) (c:=o.rs[k].lo-rankF o.rs[k].lo gone)) (Lq (Jh (o':=1) Un134 V ti3 V V) (Lq (Jk Un3 V V Jn V) (Lq (Jb V) (Lq (KG V V (wr64 (by omega)) (c:=o.rs[k].hi-rankF o.rs[k].hi gone)) ?_)))))))))
   refine Lq (JY (.n2 V V) (bd134_0_1Xe4 _ _)) (Lq (Yl Un45 Kf V V (by omega) (by omega)) (Jg V (XB (i:=k) (css:=(dnL gone o.rs k).map rgC) (c:=rgC ⟨o.rs[k].lo-rankF o.rs[k].lo gone,o.rs[k].hi-rankF o.rs[k].hi gone⟩) Kf V (by simp) V V V hcs (by rw [List.length_map];omega) .z1 (Je (J7 (Jf ?_))))))
   rw [show (((dnL gone o.rs k).map rgC).set k (rgC ⟨o.rs[k].lo-rankF o.rs[k].lo gone,o.rs[k].hi-rankF o.rs[k].hi gone⟩))=(dnL gone o.rs (k+1)).map rgC from by rw [←dnL_next gone hk2,List.map_set]]
   refine Ja (Lq (JQ V V (wr64 (by omega)) (c:=((k+1:Nat):Int))) (Lq (Jb V) (Je (Ko ?_))))
   refine ⟨k+1,?_,(.m7 V V V V V V V),(Sd (Sk3 (Sr))),(fun _ h=>h)⟩
   exact ⟨by omega,by omega⟩
  ·refine Kh (JH (JH (J6 (Jf ?_))))
   try simp only [Bp,Bq] at *
   obtain rfl:k=o.rs.length:=by have:=hI;omega
   rw [dnL_full]
   have hdl:(downR gone o.rs).length=o.rs.length:=by unfold downR;rw [List.length_map]
   refine Kc (A:=RepsF rgD (downR gone o.rs) ((downR gone o.rs).map rgC)) (fun Z w _=>rgs_reps _ Z w) (KJ (e:=rgD) (xs:=downR gone o.rs) (css:=(downR gone o.rs).map rgC) (Jbo hcap hdl hle hmx) .z V Mm0 fun A9 c9 e9=> ?_)
   obtain ⟨rfl,_,rfl⟩:=Value.slice.inj e9
   refine Ja (Lq (Jh (o':=5) Un60 V K3 V V) (Lq (Jk Un45 V V (Jj (Jn)) V) (Jg V (Jm (make_q (some ⟨b,0,none⟩) cap o.rs.length (downR gone o.rs) hdl.symm hs (by omega) (fun e=>hne (List.length_eq_zero_iff.1 (by rw [←hdl,e];rfl)))) (.n1 V) (by decide) (Jl Mm0 Jx) fun _ _ _ q9=>?_))))
   obtain ⟨A8,c8,rfl,rfl,rfl⟩:=q9
   refine Lq (Jb V) (Lq (Ji (vs:= [_,_]) V V) (Lq (Ji (vs:= [_,_]) V V) (Lq (Jh (o':=5) Un60 V K3 V V) (Jg V (JN K3 V V V .z5 .z1 (Je (J7 (Jf (Jc (Ja (Lq (Js (vs:= [_,_,_,_,_,_,_,_,_]) Un60 V JA V (Jj (Jn)) V V) (Jg V (Jq (cs':= [_,_,_,_,_,_,_,_,_]) (vs:= [_,_,_,_,_,_,_,_,_]) JA V V V V V (Nat.le_of_ble_eq_true V) .z (Lq (Jd V) (Je (Jf (Jp ?_)))))))))))))))))
   refine ⟨_,[],[_],fun Z w hs=>JT hs Un60 V JA V Jn V (.tmp V .nil),?_,fun Z w hs=>hs.out (Sd2 (Sr)) (Jl Mm0 Tt4)⟩
   exact ⟨A8,c8,V,V,V⟩
theorem blk_w {d:GOp} (hw:0≤Jr d):((blk d).length:Int)=Jr d:=by rw [QG];omega
theorem wid_no {d:GOp} (h:d.kind≠1):Jr d=0:=by unfold Jr;rw [if_neg h]
theorem wid_nn (d:GOp):0≤Jr d:=(KP d).1
theorem Right.at_ {w w' a:Int} {o:GOp} (h:Right w o) (hk:o.kind=1) (ha:0≤a∧a≤w') (hw:w'+Jr o≤1048576):Right w' { o with at_:=a } :=by
 have:=h.moved hk ha hw
 have hrs:=h.noRs (show o.kind≠2 by omega)
 rw [show ({ o with at_:=a } :GOp)= { o with at_:=a,rs:= [] } from by rw [hrs]]
 exact this
theorem take_gap {α:Type} (P D Q:List α) (k:Nat):(P++(D++Q)).take (P.length+(D.length+k))=P++(D++Q.take k)∧(P++(D++Q)).drop (P.length+(D.length+k))=Q.drop k∧(P++Q).take (P.length+k)=P++Q.take k∧(P++Q).drop (P.length+k)=Q.drop k:=by
 rw [List.take_length_add_append,List.take_length_add_append,List.drop_length_add_append,List.drop_length_add_append,List.take_length_add_append,List.drop_length_add_append]
 exact ⟨V,V,V,V⟩
theorem Jan {g w at_ n T:Int} (hg:0≤g) (hw:0<w) (hT:g+w≤T) (ha:0≤at_∧at_≤T) (hn:0≤n) (hs:T+n≤65535) (ho:at_≤g∨g+w≤at_):(thrF [⟨g,g+w⟩] at_ n).1= [⟨if at_≤g then g+n else g,(if at_≤g then g+n else g)+w⟩] :=by
 have hp:Pls T [⟨g,g+w⟩] :=⟨⟨hg,by dsimp only;omega,trivial⟩,fun r hr=>by rw [List.mem_singleton] at hr;subst hr;exact hT⟩
 obtain ⟨t1,t2,t3,t4⟩:=QH hp (by omega) ha hn hs
 refine EP t2.norm (b':=0) ⟨?_,?_,trivial⟩ fun q=> ?_
 ·dsimp only;split<;>omega
 ·dsimp only;omega
 ·rw [t3,QA,QA,QA]
  dsimp only
  split
  ·constructor
   ·rintro (h | h)<;>omega
   ·intro h;exact .inr (by omega)
  ·constructor
   ·rintro (h | h)<;>omega
   ·intro h;exact .inl (by omega)
theorem thr_nil' (at_ n T:Int) (hT:0≤T) (ha:0≤at_∧at_≤T) (hn:0≤n) (hs:T+n≤65535):(thrF [] at_ n).1= [] :=by
 have hp:Pls T [] :=⟨trivial,fun r hr=>by cases hr⟩
 exact (QH hp hT ha hn hs).2.2.2.1 V
structure StepE (d o o':GOp) (N N':List Nm):Prop where
 same:Same o o'
 names:namesOf o' N'=namesOf o N
 right:Right N'.length o'
theorem step_ins {d o:GOp} {N N':List Nm} {gone:List Rg} {g:Nat} {w:Int} (hd1:d.kind=1→1≤Jr d) (hN:(N.length:Int)=w) (G:GoneI d N N' gone g) (ho:Right w o) (hk:o.kind=1) (hin: ¬(0<rankF o.at_ gone∧rankF o.at_ gone<countF gone)) (hw:w+Jr o≤65535):
  StepE d o { o with at_:=o.at_-rankF o.at_ gone } N N'∧(0≤rankF o.at_ gone∧rankF o.at_ gone≤o.at_)∧ ∃g',GoneI d (insRow o N) (insRow { o with at_:=o.at_-rankF o.at_ gone } N') (thrF gone o.at_ (Jr o)).1 g':=by
 have hi:=ho.ins hk
 have hwo:=ho.width
 have hwd:=wid_nn d
 have hb:=blk_w hwd
 have hrk:=G.rank hwd o.at_
 have hct:=G.count
 obtain ⟨l1,l2⟩:=G.len
 have hgone:=G.gone
 obtain ⟨P,Q,eN,eN',eg⟩:=G.row
 have hlN:N.length=P.length+((blk d).length+Q.length):=by rw [eN,List.length_append,List.length_append]
 have hlN':N'.length=P.length+Q.length:=by rw [eN',List.length_append]
 obtain ⟨r,hr⟩: ∃r,r=rankF o.at_ gone:=⟨_,rfl⟩
 rw [←hr] at hrk hin ⊢
 have hcase:(o.at_≤g∧r=0)∨(¬o.at_≤g∧g+Jr d≤o.at_∧r=Jr d):=by
  by_cases hd:d.kind=1
  ·rw [if_pos hd] at hrk hct
   rw [hct] at hin
   by_cases h1:o.at_≤g
   ·rw [if_pos h1] at hrk;exact .inl ⟨h1,hrk⟩
   ·rw [if_neg h1] at hrk
    have:=hd1 hd
    omega
  ·rw [if_neg hd] at hrk
   have:=wid_no hd
   omega
 have hthr:(thrF gone o.at_ (Jr o)).1=if d.kind=1 then [⟨if o.at_≤g then g+Jr o else g,(if o.at_≤g then g+Jr o else g)+Jr d⟩] else [] :=by
  rw [hgone]
  by_cases hd:d.kind=1
  ·have:=hd1 hd
   rw [if_pos hd,if_pos hd,Jan (T:=w) (by omega) (by omega) (by omega) (by omega) hwo.1 hw (by omega)]
  ·rw [if_neg hd,if_neg hd,thr_nil' _ _ w (by omega) (by omega) hwo.1 hw]
 have hsame:Same o { o with at_:=o.at_-r } :=⟨rfl,rfl,rfl,rfl,rfl,rfl,rfl⟩
 have hbo:blk ({ o with at_:=o.at_-r } :GOp)=blk o:=rfl
 refine ⟨⟨hsame,?_,?_⟩,by omega,?_⟩
 ·unfold namesOf
  rw [if_pos (show ({ o with at_:=o.at_-r } :GOp).kind=1 from hk),if_pos hk];rfl
 ·exact ho.at_ hk (by omega) (by omega)
 ·by_cases hdk:d.kind=1
  case neg=>
   have hz:=wid_no hdk
   have hr0:r=0:=by omega
   have e1:blk d= [] :=Ga hz
   have e2:N=N':=by rw [eN,eN',e1];rfl
   have e3:({ o with at_:=o.at_-r } :GOp)=o:=by rw [hr0,Int.sub_zero]
   rw [e3,←e2]
   refine ⟨0,⟨⟨[],insRow o N,by rw [e1];rfl,V,V⟩,by rw [hthr,if_neg hdk,if_neg hdk],fun _=>V⟩⟩
  rcases hcase with ⟨h1,h2⟩ | ⟨h0,h1,h2⟩
  ·refine ⟨g+(Jr o).toNat,⟨⟨P.take o.at_.toNat ++(blk o++P.drop o.at_.toNat),Q,?_,?_,?_⟩,?_,fun h=>absurd hdk h⟩⟩
   ·unfold insRow
    rw [eN,List.take_append_of_le_length (by omega),List.drop_append_of_le_length (by omega)]
    simp
   ·unfold insRow
    rw [hbo]
    show N'.take (o.at_-r).toNat ++(blk o++N'.drop (o.at_-r).toNat)=_
    rw [show (o.at_-r).toNat=o.at_.toNat from by omega,eN',List.take_append_of_le_length (by omega),List.drop_append_of_le_length (by omega)]
    simp
   ·simp only [List.length_append,List.length_take,List.length_drop,QG];omega
   ·rw [hthr,if_pos h1]
    have:((g+(Jr o).toNat:Nat):Int)=g+Jr o:=by omega
    rw [this]
  ·obtain ⟨k,hk2⟩: ∃k:Nat,o.at_=g+Jr d+k:=⟨(o.at_-g-Jr d).toNat,by omega⟩
   obtain ⟨t1,t2,t3,t4⟩:=take_gap P (blk d) Q k
   refine ⟨g,⟨⟨P,Q.take k++(blk o++Q.drop k),?_,?_,eg⟩,?_,fun h=>absurd hdk h⟩⟩
   ·unfold insRow
    rw [show o.at_.toNat=P.length+((blk d).length+k) from by omega,eN,t1,t2]
    simp
   ·unfold insRow
    rw [hbo]
    show N'.take (o.at_-r).toNat ++(blk o++N'.drop (o.at_-r).toNat)=_
    rw [show (o.at_-r).toNat=P.length+k from by omega,eN',t3,t4]
    simp
   ·rw [hthr,if_neg h0]
theorem step_hide {d o:GOp} {N N':List Nm} {gone:List Rg} {g:Nat} {w:Int} (hd1:d.kind=1→1≤Jr d) (hN:(N.length:Int)=w) (G:GoneI d N N' gone g) (ho:Right w o) (hk:o.kind=2) (hin:meetF [] gone o.rs= []) (hw:w≤65535):
  StepE d o { o with rs:=packF [] (downR gone o.rs) } N N'∧SortR 0 (downR gone o.rs)∧BelowR N'.length (downR gone o.rs)∧Pls N'.length (packF [] (downR gone o.rs)):=by
 obtain ⟨c1,c2⟩:=ho.cov hk hw
 have hwd:=wid_nn d
 have hb:=blk_w hwd
 obtain ⟨l1,l2⟩:=G.len
 have hgone:=G.gone
 have hrk:=G.rank hwd
 obtain ⟨P,Q,eN,eN',eg⟩:=G.row
 have hdis: ∀s∈o.rs,s.hi≤g∨g+Jr d≤s.lo:=by
  by_cases hd:d.kind=1
  ·have h1:=hd1 hd
   rw [hgone,if_pos hd] at hin
   intro s hs
   have:=GU (r:=⟨g,g+Jr d⟩) (by dsimp only;omega) c2.norm hin s hs
   dsimp only at this;omega
  ·have:=wid_no hd
   have hz:=G.z hd
   intro s hs
   have:=(c2.norm.mem s hs).1
   omega
 have hrk2: ∀p:Int,(p≤g→rankF p gone=0)∧(g+Jr d≤p→rankF p gone=Jr d):=by
  intro p
  rw [hrk p]
  by_cases hd:d.kind=1
  ·rw [if_pos hd]
   constructor
   ·intro h;rw [if_pos h]
   ·intro h
    split<;>omega
  ·rw [if_neg hd]
   have:=wid_no hd
   exact ⟨fun _=>V,fun _=>this.symm⟩
 obtain ⟨d1,d2,d3⟩:=HF (g:=g) (wd:=Jr d) (by omega) hwd (rk:=fun p=>rankF p gone) hrk2 (T:=N'.length) c2.norm (Int.le_refl _) (by
  intro x hx
  have:=c2.below x hx
  omega) (by omega) hdis
 have d1':SortR 0 (downR gone o.rs):=by
  have:=d1
  rw [if_pos (by omega)] at this;exact this
 obtain ⟨p1,p2,p3⟩:=EO (T:=N'.length) (downR gone o.rs) [] 0 (Int.le_refl _) d1' d2 trivial (fun r hr=>by cases hr) (fun l hl=>by cases hl)
 have hp:Pls N'.length (packF [] (downR gone o.rs)):=⟨p1,p2⟩
 have hmem: ∀q,memR q (packF [] (downR gone o.rs))↔memR (if q<g then q else q+Jr d) o.rs:=fun q=>by
  rw [p3]
  exact ⟨fun h=>h.elim (fun h=>absurd h (Yr _)) (d3 q).1,fun h=> .inr ((d3 q).2 h)⟩
 have hpl:Ki o.rs=(Ki (packF [] (downR gone o.rs))).map (shQ g (Jr d)):=by
  refine Qt (Yd c2.norm) ?_ fun q=> ?_
  ·rw [List.pairwise_map]
   exact (Yd hp.norm).imp fun {x y} hxy=>by unfold shQ;split<;>split<;>omega
  ·rw [mem_places,List.mem_map]
   constructor
   ·intro hq
    obtain ⟨s,hs,h2⟩:=hq
    have h3:=hdis s hs
    rcases h3 with h3 | h3
    ·exact ⟨q,mem_places.2 ((hmem q).2 (by rw [if_pos (by omega)];exact ⟨s,hs,h2⟩)),by unfold shQ;rw [if_pos (by omega)]⟩
    ·exact ⟨q-Jr d,mem_places.2 ((hmem _).2 (by rw [if_neg (by omega),Int.sub_add_cancel];exact ⟨s,hs,h2⟩)),by unfold shQ;rw [if_neg (by omega)];omega⟩
   ·rintro ⟨p,hp2,rfl⟩
    have:=(hmem p).1 (mem_places.1 hp2)
    unfold shQ
    exact this
 refine ⟨⟨⟨V,V,V,V,V,V,V⟩,?_,?_⟩,d1',d2,hp⟩
 ·unfold namesOf
  rw [if_neg (show ¬({ o with rs:=packF [] (downR gone o.rs) } :GOp).kind=1 from by show ¬o.kind=1;omega),if_neg (by omega)]
  show (Ki (packF [] (downR gone o.rs))).map _=(Ki o.rs).map _
  rw [hpl,List.map_map]
  refine List.map_congr_left fun q hq=> ?_
  have hq2:=hp.in (mem_places.1 hq)
  have:=Ja2 (D:=blk d) (P:=P) (Q:=Q) q hq2.1
  rw [eN,eN',←this]
  simp only [Function.comp]
  rw [eg,hb]
 ·refine ho.ranged hk ?_ hp (by omega)
  intro e
  obtain ⟨x,hx⟩:=List.exists_mem_of_ne_nil _ c1
  have hxm:=c2.norm.mem x hx
  have h1:memR x.lo o.rs:=⟨x,hx,by omega⟩
  have h2:=mem_places.2 h1
  rw [hpl,e] at h2
  cases h2
theorem step_st {d o:GOp} {N N':List Nm} (hl:N'.length≤1048576) {w:Int} (ho:Right w o) (hk:o.kind=4):StepE d o o N N':=by
 refine ⟨Same.refl o,?_,?_⟩
 ·have hr:=ho.noRs (show o.kind≠2 by omega)
  unfold namesOf
  rw [if_neg (by omega),if_neg (by omega),hr];rfl
 ·have h1:=(check_st hk ho.w0).1 ho.ck
  exact ⟨(check_st hk (by omega)).2 h1,ho.kind⟩
theorem stOf_w {d o:GOp} (h:stOf d o):Jr o=0:=wid_no (by have:=h.1;omega)
theorem Er.sum {d:GOp} {N N':List Nm} {l l':List GOp} (h:Er d N N' l l'):sumO l'=sumO l:=by
 induction h with
 | nil=>rfl
 | skip h _ ih=>simp only [sumO];rw [stOf_w h,ih];omega
 | keep _ hs _ _ _ _ ih=>simp only [sumO];rw [hs.width,ih]
theorem Er.subids {d:GOp} {N N':List Nm} {l l':List GOp} (h:Er d N N' l l'):(l'.map fun o=>(o.c,o.n)).Sublist (l.map fun o=>(o.c,o.n)):=by
 induction h with
 | nil=>exact Sr
 | skip _ _ ih=>exact ih.cons _
 | keep _ hs _ _ _ _ ih=>simp only [List.map_cons,hs.c,hs.n];exact ih.cons_cons _
theorem Er.tgt {d:GOp} {N N':List Nm} {l l':List GOp} (h:Er d N N' l l'): ∀ {P P':List GOp},(∀p∈P,p.kind≠4→ ¬(p.c=d.c∧p.n=d.n)→ ∃q∈P',q.c=p.c∧q.n=p.n∧q.kind=p.kind)→TgtOk P l→TgtOk P' l':=by
 induction h with
 | nil=>intro P P' _ _;trivial
 | skip h _ ih=>
  intro P P' hp ht
  refine ih (fun p hm hk hd=> ?_) ht.2
  rcases List.mem_append.1 hm with hm | hm
  ·exact hp p hm hk hd
  ·rw [List.mem_singleton] at hm;subst hm;exact absurd h.1 hk
 | @keep N N' o o' l l' h hs _ _ _ _ ih=>
  intro P P' hp ht
  refine ⟨fun hk=> ?_,ih (fun p hm hk hd=> ?_) ht.2⟩
  ·have hk':o.kind=4:=by rw [←hs.kind];exact hk
   obtain ⟨p,p1,p2,p3,p4⟩:=ht.1 hk'
   obtain ⟨q,q1,q2,q3,q4⟩:=hp p p1 p4 (fun hh=>h ⟨hk',p2.symm.trans hh.1,p3.symm.trans hh.2⟩)
   exact ⟨q,q1,by rw [q2,p2,hs.tc],by rw [q3,p3,hs.tn],by rw [q4];exact p4⟩
  ·rcases List.mem_append.1 hm with hm | hm
   ·obtain ⟨q,q1,q2⟩:=hp p hm hk hd
    exact ⟨q,List.mem_append_left _ q1,q2⟩
   ·rw [List.mem_singleton] at hm;subst hm
    exact ⟨o',List.mem_append_right _ (List.mem_singleton.2 V),hs.c,hs.n,hs.kind⟩
theorem Er.ctx {d:GOp} {N N':List Nm} {l l':List GOp} (h:Er d N N' l l'):CtxOk N'.length l':=by
 induction h with
 | nil=>trivial
 | skip _ _ ih=>exact ih
 | keep _ hs _ hw _ _ ih=>exact ⟨hw,by rw [←hw.rowLen rfl];exact ih⟩
theorem Er.ord {A B B':List GOp} {d:GOp} (O:OrdOk (A++(d::B))) (hd:d.kind≠4) (h:Er d (insRow d (rowN [] A)) (rowN [] A) B B'):OrdOk (A++B'):=by
 have c:=O.ctx
 rw [CtxOk.append,Int.zero_add] at c
 have hl:((rowN [] A).length:Int)=sumO A:=by rw [Yq (w:=0) rfl c.1];omega
 refine ⟨?_,?_,?_,?_,?_⟩
 ·rw [CtxOk.append,Int.zero_add,←hl];exact ⟨c.1,h.ctx⟩
 ·have:=O.ids
  rw [List.map_append] at this ⊢
  exact this.sublist ((Sr).append (h.subids.cons _))
 ·intro o ho
  rcases List.mem_append.1 ho with ho | ho
  ·exact O.idr o (List.mem_append_left _ ho)
  ·obtain ⟨x,hx,hs⟩:=h.mem o ho
   rw [hs.c,hs.n];exact O.idr x (List.mem_append_right _ (List.mem_cons_of_mem _ hx))
 ·have:=O.tgt
  rw [TgtOk.append,List.nil_append] at this ⊢
  refine ⟨this.1,h.tgt (P:=A++ [d]) (fun p hm hk hx=> ?_) this.2.2⟩
  rcases List.mem_append.1 hm with hm | hm
  ·exact ⟨p,hm,V,V,V⟩
  ·rw [List.mem_singleton] at hm;subst hm;exact absurd ⟨rfl,rfl⟩ hx
 ·have h1:=O.le
  rw [Ya] at h1 ⊢
  simp only [sumO] at h1
  have:=wid_nn d
  rw [h.sum];omega
structure ErS (A B:List GOp) (d:GOp) (k:Nat) (M:List GOp) (gone:List Rg):Prop where
 le:k≤B.length
 ex: ∃(N N':List Nm) (g:Nat),N=rowN (insRow d (rowN [] A)) (B.take k)∧GoneI d N N' gone g∧N'.length≤N.length∧(∀l l',Er d N N' l l'→Er d (insRow d (rowN [] A)) (rowN [] A) (B.take k++l) (M++l'))
 len:M.length≤k
theorem ErS.zero {A B:List GOp} {d:GOp} {gone:List Rg} (hc:CtxOk 0 (A++(d::B))) (hg:gone=if d.kind=1 then [⟨d.at_,d.at_+Jr d⟩] else []):ErS A B d 0 [] gone:=by
 rw [CtxOk.append,Int.zero_add] at hc
 have hl:((rowN [] A).length:Int)=sumO A:=by rw [Yq (w:=0) rfl hc.1];omega
 refine ⟨Nat.zero_le _,⟨insRow d (rowN [] A),rowN [] A,if d.kind=1 then d.at_.toNat else 0,?_,?_,?_,fun l l' h=>h⟩,Nat.le_refl _⟩
 ·rw [List.take_zero];rfl
 ·by_cases hk:d.kind=1
  ·have hi:=hc.2.1.ins hk
   refine ⟨⟨(rowN [] A).take d.at_.toNat,(rowN [] A).drop d.at_.toNat,V,(List.take_append_drop _ _).symm,?_⟩,?_,?_⟩
   ·rw [if_pos hk,List.length_take];omega
   ·rw [hg,if_pos hk,if_pos hk,if_pos hk,show ((d.at_.toNat:Nat):Int)=d.at_ from by omega]
   ·exact fun h=>absurd hk h
  ·refine ⟨⟨[],rowN [] A,?_,V,?_⟩,?_,?_⟩
   ·rw [KS (wid_no hk),Ga (wid_no hk)];rfl
   ·rw [if_neg hk];rfl
   ·rw [hg,if_neg hk,if_neg hk]
   ·exact fun _=>if_neg hk
 ·have:=hc.2.1.rowLen hl
  have:=wid_nn d
  omega
theorem ErS.at_ {A B:List GOp} {d:GOp} {k:Nat} {M:List GOp} {gone:List Rg} (h:ErS A B d k M gone) (O:OrdOk (A++(d::B))) (hd4:d.kind≠4) {o:GOp} (ho:B[k]? =some o):
  (stOf d o→ErS A B d (k+1) M gone)∧
  (¬stOf d o→o.kind=1→(0≤countF gone∧countF gone≤60000)∧Pls 60000 gone∧(0≤o.at_∧o.at_≤60000)∧((0<rankF o.at_ gone∧rankF o.at_ gone<countF gone→d.kind=1)∧(¬(0<rankF o.at_ gone∧rankF o.at_ gone<countF gone)→((0≤rankF o.at_ gone∧rankF o.at_ gone≤o.at_)∧(thrF gone o.at_ (Jr o)).2=0∧ErS A B d (k+1) (M++ [{ o with at_:=o.at_-rankF o.at_ gone }]) (thrF gone o.at_ (Jr o)).1))))∧
  (¬stOf d o→o.kind=2→Pls 60000 gone∧Pls 60000 o.rs∧(¬meetF [] gone o.rs= [] →d.kind=1)∧(meetF [] gone o.rs= [] →SortR 0 (downR gone o.rs)∧BelowR 60000 (downR gone o.rs)∧Pls 60000 (packF [] (downR gone o.rs))∧ErS A B d (k+1) (M++ [{ o with rs:=packF [] (downR gone o.rs) }]) gone))∧
  (¬stOf d o→o.kind=4→ErS A B d (k+1) (M++ [o]) gone)∧(o.kind=1∨o.kind=2∨o.kind=4):=by
 have hk:k<B.length:=by
  rcases Nat.lt_or_ge k B.length with h | h
  ·exact h
  ·rw [List.getElem?_eq_none h] at ho;cases ho
 have hoe:B[k] =o:=by rw [List.getElem?_eq_getElem hk] at ho;exact Option.some.inj ho
 obtain ⟨N,N',g,eN,G,hle,hcont⟩:=h.ex
 have hc:=O.ctx
 have hsum:=O.le
 rw [CtxOk.append,Int.zero_add] at hc
 obtain ⟨hcA,hcd,hcB⟩:=hc
 have hspB:B=B.take k++(o::B.drop (k+1)):=by rw [←hoe,←List.drop_eq_getElem_cons hk,List.take_append_drop]
 have htk:B.take (k+1)=B.take k++ [o] :=by rw [List.take_succ_eq_append_getElem hk,hoe]
 rw [hspB,CtxOk.append] at hcB
 obtain ⟨hcB1,hR,hcB2⟩:=hcB
 have hl0:((rowN [] A).length:Int)=sumO A:=by rw [Yq (w:=0) rfl hcA];omega
 have hl1:=hcd.rowLen hl0
 have hN:(N.length:Int)=sumO A+Jr d+sumO (B.take k):=by rw [eN,Yq hl1 hcB1]
 have hsB:sumO B=sumO (B.take k)+(Jr o+sumO (B.drop (k+1))):=by
  conv=>lhs;rw [hspB]
  rw [Ya];rfl
 have hpos:=sumO_nonneg hcB2
 rw [Ya] at hsum
 simp only [sumO] at hsum
 have hwo:=hR.width
 have hd1:d.kind=1→1≤Jr d:=fun hk=>(hcd.width.2.2.1 hk).1
 have hNw:(N.length:Int)≤60000:=by omega
 have hrow: ∀x:GOp,blk x=blk o→True:=fun _ _=>trivial
 have hnext: ∀o' gone' g',¬stOf d o→StepE d o o' N N'→GoneI d (insRow o N) (insRow o' N') gone' g'→ErS A B d (k+1) (M++ [o']) gone':=by
  intro o' gone' g' hns hs hg
  refine ⟨hk,⟨insRow o N,insRow o' N',g',?_,hg,?_,?_⟩,by rw [List.length_append];have:=h.len;simp;omega⟩
  ·rw [htk,YG,eN];rfl
  ·have:=hg.len
   omega
  ·intro l l' hl
   rw [htk,List.append_assoc,List.append_assoc]
   exact hcont _ _ (.keep hns hs.same hs.names hs.right hg.gap hl)
 have hgp:Pls 60000 gone:=by
  rw [G.gone]
  have hgl:=G.len
  have hb:=blk_w (wid_nn d)
  split
  ·rename_i hk1
   have:=hd1 hk1
   exact ⟨⟨by dsimp only;omega,by dsimp only;omega,trivial⟩,fun r hr=>by rw [List.mem_singleton] at hr;subst hr;dsimp only;omega⟩
  ·exact ⟨trivial,fun r hr=>by cases hr⟩
 have hsame: ∀o',insRow o N=N→insRow o' N'=N'→GoneI d (insRow o N) (insRow o' N') gone g:=fun o' h1 h2=>by rw [h1,h2];exact G
 refine ⟨fun hst=> ?_,fun hns hk1=> ?_,fun hns hk2=> ?_,fun hns hk4=> ?_,hR.kind⟩
 ·refine ⟨hk,⟨N,N',g,?_,G,hle,?_⟩,by have:=h.len;omega⟩
  ·rw [htk,YG,←eN]
   exact (stOf_row hst N).symm
  ·intro l l' hl
   rw [htk,List.append_assoc]
   exact hcont _ _ (.skip hst hl)
 ·have hi:=hR.ins hk1
  have hct:=G.count
  refine ⟨⟨?_,?_⟩,hgp,by omega,fun hin=> ?_,fun hin=> ?_⟩
  ·rw [hct];have:=wid_nn d;split<;>omega
  ·rw [hct];have:=hcd.width;split<;>omega
  ·rcases (show d.kind=1∨d.kind≠1 from by omega) with hx | hx
   ·exact hx
   ·rw [hct,if_neg hx] at hin;omega
  ·obtain ⟨s1,s2,g',s3⟩:=step_ins hd1 (w:=sumO A+Jr d+sumO (B.take k)) hN G hR hk1 hin (by omega)
   refine ⟨s2,?_,hnext _ _ _ hns s1 s3⟩
   have hgp2:Pls (sumO A+Jr d+sumO (B.take k)) gone:=by
    have hgl:=G.len
    have hb:=blk_w (wid_nn d)
    refine ⟨hgp.norm,fun r hr=> ?_⟩
    rw [G.gone] at hr
    split at hr
    ·rw [List.mem_singleton] at hr;subst hr;dsimp only;omega
    ·cases hr
   exact (QH hgp2 (by omega) ⟨hi.1,hi.2.1⟩ hwo.1 (by omega)).1
 ·obtain ⟨c1,c2⟩:=hR.cov hk2 (by omega)
  refine ⟨hgp,⟨c2.norm,c2.below.mono (by omega)⟩,fun hin=> ?_,fun hin=> ?_⟩
  ·rcases (show d.kind=1∨d.kind≠1 from by omega) with hx | hx
   ·exact hx
   ·rw [G.gone,if_neg hx] at hin;exact absurd (He _) hin
  ·obtain ⟨s1,s2,s3,s4⟩:=step_hide hd1 (w:=sumO A+Jr d+sumO (B.take k)) hN G hR hk2 hin (by omega)
   have hz:Jr o=0:=wid_no (by omega)
   refine ⟨s2,s3.mono (by omega),⟨s4.norm,s4.below.mono (by omega)⟩,hnext _ _ _ hns s1 (hsame _ (KS hz N) (KS (by unfold Jr;rw [if_neg (show ¬o.kind=1 by omega)]) N'))⟩
 ·have hz:Jr o=0:=wid_no (by omega)
  exact hnext _ _ _ hns (step_st (by omega) hR hk4) (hsame _ (KS hz N) (KS hz N'))
theorem ErS.done {A B:List GOp} {d:GOp} {M:List GOp} {gone:List Rg} (h:ErS A B d B.length M gone):Er d (insRow d (rowN [] A)) (rowN [] A) B M:=by
 obtain ⟨N,N',g,eN,G,hle,hcont⟩:=h.ex
 have:=hcont [] [] .nil
 rw [List.take_length,List.append_nil,List.append_nil] at this
 exact this
theorem HG: ∀ {w T:Int} {l:List GOp} {o:GOp},CtxOk w l→o∈l→w+sumO l≤T→ ∃w',w'≤T∧Right w' o
 | w,T,x::l,o,h,hm,ht=>by
  have h2:=sumO_nonneg h.2
  have h3:=wid_nn x
  simp only [sumO] at ht
  rcases List.mem_cons.1 hm with rfl | hm
  ·exact ⟨w,by omega,h.1⟩
  ·exact HG h.2 hm (by omega)
theorem OrdOk.right {L:List GOp} (h:OrdOk L) {o:GOp} (ho:o∈L): ∃w',w'≤60000∧Right w' o:=HG h.ctx ho (by have:=h.le;omega)
theorem ErS.one {A B:List GOp} {d:GOp} {k:Nat} {M:List GOp} {gone:List Rg} (h:ErS A B d k M gone):gone.length≤1:=by
 obtain ⟨N,N',g,_,G,_⟩:=h.ex
 rw [G.gone];split<;>simp
def ErRes (B:List GOp) (A0:List GOp) (d:GOp) (ps:List Part):Value→List Part→List Fact→Prop:=fun v Lo fs=>
 Lo=ps∧((v= .tuple #[.slice none 0 0, .int .i64 23] ∧d.kind=1∧B≠ [] ∧fs= [])∨ ∃(M:List GOp) (A':Option Addr) (c':Nat),v= .tuple #[.slice A' (A0++M).length c', .int .i64 0] ∧Er d (insRow d (rowN [] A0)) (rowN [] A0) B M∧fs= [RdF opD A' c' (A0++M)])
theorem ErS.gpls {A B:List GOp} {d:GOp} {k:Nat} {M:List GOp} {gone:List Rg} (h:ErS A B d k M gone) (O:OrdOk (A++(d::B))) (hd4:d.kind≠4) {o:GOp} (ho:B[k]? =some o):Pls 60000 gone:=by
 obtain ⟨N,N',g,eN,G,hle,hcont⟩:=h.ex
 have hc:=O.ctx
 have hsum:=O.le
 rw [CtxOk.append,Int.zero_add] at hc
 obtain ⟨hcA,hcd,hcB⟩:=hc
 have hl0:((rowN [] A).length:Int)=sumO A:=by rw [Yq (w:=0) rfl hcA];omega
 have hl1:=hcd.rowLen hl0
 have hk:=h.le
 have hspB:B=B.take k++B.drop k:=(List.take_append_drop _ _).symm
 rw [hspB,CtxOk.append] at hcB
 have hN:(N.length:Int)=sumO A+Jr d+sumO (B.take k):=by rw [eN,Yq hl1 hcB.1]
 have hsB:sumO B=sumO (B.take k)+sumO (B.drop k):=by
  conv=>lhs;rw [hspB]
  rw [Ya]
 have hpos:=sumO_nonneg hcB.2
 rw [Ya] at hsum
 simp only [sumO] at hsum
 have hd1:d.kind=1→1≤Jr d:=fun hk=>(hcd.width.2.2.1 hk).1
 rw [G.gone]
 have hgl:=G.len
 have hb:=blk_w (wid_nn d)
 split
 ·rename_i hk1
  have:=hd1 hk1
  exact ⟨⟨by dsimp only;omega,by dsimp only;omega,trivial⟩,fun r hr=>by rw [List.mem_singleton] at hr;subst hr;dsimp only;omega⟩
 ·exact ⟨trivial,fun r hr=>by cases hr⟩
theorem erase_p (h m cap:Nat) (A:Option Addr) (H:Hist) (L:List MR) (hr:HR H L) (i0 i1:Int) (k:Nat) (hw:J5 H.ents i0 i1=some k) (hk4: ∀e,H.ents[k]? =some e→e.op.kind≠4) (hO:OrdOk H.ops) (A0 Bs:List GOp) (d:GOp) (hAB:H.ops=A0++(d::Bs)) (hA0:A0.length=k) (hx:H.ops.length≤1000000):Sp Tryz.prog 30 [.pointer (some ⟨h,0,none⟩), .agg #[.int .i64 i0, .int .i64 i1]] [hdP h A H.ops.length cap m H.total,mpP m L,mkP L] [barF,RdF opD A cap H.ops] (ErRes Bs A0 d [hdP h A H.ops.length cap m H.total,mpP m L,mkP L]):=by
 have hol:=K0 H
 have hlen:=hr.len
 have hod:H.ops[k]? =some d:=by rw [hAB,←hA0,List.getElem?_append_right (Nat.le_refl _),Nat.sub_self];rfl
 have hkl:k<H.ops.length:=by rw [hAB,List.length_append,List.length_cons];omega
 have hO':OrdOk (A0++(d::Bs)):=hAB ▸ hO
 obtain ⟨hke,hic,hin⟩:=KI hw
 have hde:H.ents[k].op=d:=by have h1:=QJ hke;rw [List.getElem?_eq_getElem hkl] at hod;exact h1.symm.trans (Option.some.inj hod)
 rw [hde] at hic hin
 have hd4:d.kind≠4:=fun h4=>hk4 _ (List.getElem?_eq_getElem hke) (by rw [hde];exact h4)
 have hfit: ∀x∈H.ops,Fit x:=fun x hx=>by obtain ⟨e,he,rfl⟩:=List.mem_map.1 hx;exact hr.fit e he
 have hmd:d∈H.ops:=List.mem_of_getElem? hod
 obtain ⟨wd,hwd,hRd⟩:=hO.right hmd
 have hd0:=hRd.own (by omega)
 have hbl:H.ops.length-(k+1)=Bs.length:=by rw [hAB,List.length_append,List.length_cons];omega
 have hdrop:H.ops.drop (k+1)=Bs:=by rw [hAB,←hA0];simp
 refine Sp.of (n:=104) ⟨_,Tryz.func30,V,V,V,V⟩ (Nat.le_of_ble_eq_true V) fun Ps As=>Jc (Ja (Jg V (J3 (cs:= [_,_]) V V (by decide) fun b3=>Lq (Jd V) (Lq (Jd V) (Je (Jf (Jc (Ja (Lq (Jb V) (Lq (Js (vs:= [_,_]) Un43 V JW V Jn V V) (Jg V (Kv (ZO h m cap A H L hr i0 i1 k hw hk4) (.n2 V V) (by decide) .z1 .z1 .z1 (Jl Mm1 Jx) fun _ _ _ q9=>?_))))))))))))
 obtain ⟨hk,j0,xb,xA,xc,hj,rfl,rfl,rfl⟩:=q9
 refine Lq (Jb V) (Lq (Ji (vs:= [_,_]) V V) (Lq (Ji (vs:= [_,_]) V V) (Lq (Jd V) (Lq (Jd V) (Je (Jf (Jc (Jc (Ja (Lq (Jb V) (Lq (Kr V V) (Je (Jf (Ju V V (Jo (Jf (Jc (Ja (Lq (Jb V) ?_)))))))))))))))))))
 refine Lq (Jb V) (Lq (JE V) (Lq (Jh (o':=0) Un122 V ti3 V V) (Lq (Jk (v:= .int .i64 k) Un3 V V (Jj (Jj (ownI (Yo hj)))) V) (Jg V (Kv (hops_o h m cap A H L hr k (by omega) hx) (.n3 V V V) (by decide) .z .z .z (Jl Mm1 Jx) fun _ _ _ q9=>?_)))))
 obtain ⟨v1,p1,css1,rfl,hr1,rfl,rfl⟩:=q9
 refine Lq (Jb V) (Lq (Ji (vs:= [_,_]) V V) (Lq (Ji (vs:= [_,_]) V V) (Lq (Jd V) (Lq (Jd V) (Je (Jf (JG [(8,_),(6,_),(5,_),(4,_),(3,_),(0,_)] (.m6 V V V V V V) (Jc (Ja (Lq (Jd V) (Je (Jf ?_))))))))))))
 refine VW (α:=Option Addr×Nat×List Rg)
  (fun (G,gc,gone)=> [(0, .pointer (some ⟨h,0,none⟩)),(3, .pointer (some ⟨b3,0,none⟩)),(6, .pointer (some ⟨xb,0,none⟩)),(8,v1),(10, .slice G gone.length gc)])
  (fun (G,gc,gone)=>(p1::hdP h A H.ops.length cap m H.total::mpP m L::mkP L:: [(b3,JB [.int .i64 i0, .int .i64 i1] 43)] ::Ps))
  (fun (G,gc,gone)=>(RdF rgD G gc gone::RepsF opD (H.ops.take k) css1::barF::RdF opD A cap H.ops::As))
  (fun (G,gc,gone)=>gone=if d.kind=1 then [⟨d.at_,d.at_+Jr d⟩] else []) ?_ ?_
 ·refine Jc (Kd (k:=k) Mm2 hod (op_open _) fun b6 q6 y6 e6=> ?_)
  cases e6
  refine JI _ _ [11] (.c 0 0 (.c 1 0 (.c 2 0 (.c 3 0 (.c 4 0 (.c 5 0 (.c 6 0 (.c 7 0 (.c 8 0 (.c 9 0 (.c 10 2 (.c 11 3 .nil)))))))))))) mixed (fun _ _ _ _ h=>h) (Sk5 (Sr)) (fun _ h=>h) (by kernel_rfl) (by decide) fun ws Z0=>Qe V (Jb V) (Qe V (JE V) (Qe V (Jh (o':=0) Un117 V Qi V V) (Qe V (Jk Un53 V V (Jj (Jn)) V) (Qe V (Jb V) (Qe V (JE V) (Qe V (Jh (o':=0) Un122 V ti3 V V) (Qe V (Jk (v:= .int .i64 k) Un3 V V (Jj (Jj (Jj (ownI (Yo hj))))) V) (Qe V (J0 Un53 JA V V (by omega) (by omega)) ?_))))))))
  refine Qe V (Kg (k:=0) (vs:= [_,_,_,_,_,_,_,_,_]) Un60 V JA V Mm0 V V V) (Jy V V (Jw (cs:= [_,_,_,_,_,_,_,_,_]) JA V (by decide) fun b11=> ?_))
  refine ⟨⟨(Sd (Sk5 (Sr))),Mm0⟩,?_⟩
  refine JK (Ka V V (Jq (cs':= [_,_,_,_,_,_,_,_,_]) (vs:= [_,_,_,_,_,_,_,_,_]) JA V V V V V (Nat.le_of_ble_eq_true V) .z (JJ (Jf (Jc (Kc (A:=RdF rgD none 0 []) (fun Z w hs=>RdS.nil _ _ _) (Ja (Lq (Jh (o':=0) Un60 V KM V V) (Lq (Jh (o':=2) Un58 V Yh V V) (Lq (Jk Un44 V V Jn V) (Lq (Kb V V) (Je (Jf ?_)))))))))))))
  refine JG [(47,_),(11,_),(10,_),(8,_),(6,_),(5,_),(4,_),(3,_),(0,_)] (.m9 V V V V V V V V V) (Jz V (fun h47=> ?_) (fun h47=> ?_))
  ·refine Ja (Lq (Js (vs:= [_,_,_,_,_,_,_,_,_]) Un60 V JA V Jn V V) (Jg V (Jm (covers_p d y6.1 y6.2 (hfit _ hmd) (by simpa using h47) hd0) (.n1 V) (by decide) (Jl Mm5 (Jl Mm3 Jx)) fun _ _ _ q9=>?_)))
   obtain ⟨A2,c2,rfl,rfl,rfl⟩:=q9
   refine Lq (Jd V) (Je (Ko ?_))
   refine ⟨(A2,c2,[⟨d.at_,d.at_+Jr d⟩]),?_,(.m5 V V V V V),(Sd (Sk5 (Sr))),(Jl Mm0 Tt5)⟩
   exact (if_pos (by simpa using h47)).symm
  ·refine Jo (Ko ?_)
   refine ⟨(none,0,[]),?_,(.m5 V V V V V),(Sd (Sk5 (Sr))),(Jl Mm0 Tt4)⟩
   exact (if_neg (by simpa using h47)).symm
 ·rintro ⟨G,gc,gone⟩ hM
  refine Jc (Jc ?_)
  have hE0:=ErS.zero (by exact hO'.ctx) hM
  refine QX Mm3 fun hcap hcap2=> ?_
  obtain ⟨Bc,hB⟩: ∃Bc,Bc=cutA A (k+1) cap 9:=⟨_,rfl⟩
  refine Kc (A:=RdF opD Bc (cap-(k+1)) Bs) (fun Z w hs=>by rw [hB,←hdrop];have h1:=RdS.cut (lo:=k+1) (hi:=H.ops.length) (m:=cap) (hs.facts _ Mm3) (by omega) (by omega) (by omega) (Nat.le_refl _);rw [List.take_length] at h1;exact h1) (JI _ _ [] (.c 0 0 (.c 1 0 (.c 2 0 (.c 3 0 (.c 4 0 (.c 5 0 (.c 6 0 (.c 7 0 (.c 8 0 (.c 9 0 (.c 10 0 (.c 11 0 .nil)))))))))))) mixed (fun _ _ _ _ h=>h) (Sk5 (Sr)) (fun _ h=>h) (by kernel_rfl) (by decide) fun ws Z0=>Qe V (Jb V) (Qe V (JE V) (Qe V (Jh (o':=0) Un117 V Qi V V) (Qe V (Jk Un53 V V (Jj (Jn)) V) (Qe V (Jb V) (Qe V (JE V) ?_))))))
  refine Qe V (Jh (o':=0) Un122 V ti3 V V) (Qe V (Jk (v:= .int .i64 k) Un3 V V (Jj (Jj (Jj (ownI (Yo hj))))) V) (Qe V (JQ V V (wr64 (by omega)) (c:=((k+1:Nat):Int))) (Qe V (X8 Un53 JA V V (by omega) (by omega)) (Qe V (J4 Un53 V) (Qe V (Jb V) (JK (JJ (Jf (JD ?_)))))))))
  have hA0e:H.ops.take k=A0++ [] :=by rw [hAB,←hA0];simp
  rw [hA0e]
  refine Ke (α:=Nat×Value×Part×List (List Value)×List GOp×Option Addr×Nat×List Rg) (fun (j,v,p,css,M,G,gc,gone)=>Bs.length-j)
   (fun (j,v,p,css,M,G,gc,gone)=> [(0, .pointer (some ⟨h,0,none⟩)),(3, .pointer (some ⟨b3,0,none⟩)),(8,v),(10, .slice G gone.length gc),(59, .slice Bc Bs.length (cap-(k+1))),(60, .int .i64 Bs.length),(61, .int .i64 j)])
   (fun (j,v,p,css,M,G,gc,gone)=>(p::hdP h A H.ops.length cap m H.total::mpP m L::mkP L:: [(b3,JB [.int .i64 i0, .int .i64 i1] 43)] ::Ps))
   (fun (j,v,p,css,M,G,gc,gone)=>(RepsF opD (A0++M) css::RdF rgD G gc gone::RdF opD Bc (cap-(k+1)) Bs::barF::RdF opD A cap H.ops::As))
   (fun (j,v,p,css,M,G,gc,gone)=>ErS A0 Bs d j M gone∧Row 60 9 v (A0++M).length css.flatten p)
   (0,v1,p1,css1,[],G,gc,gone) ?_ (.m7 rfl rfl rfl rfl (by rw [hB,←hbl];rfl) (by rw [←hbl];rfl) rfl) (Sk5 (Sr)) (Jl Mm3 (Jl Mm2 (Jl Mm1 Tt4))) ?_
  ·exact ⟨hE0,by rw [List.append_nil,hA0];exact hr1⟩
  ·rintro ⟨j,v,p,css,M,G,gc,gone⟩ hI
   have hml:=hI.1.len
   have hjl:=hI.1.le
   have hal:(A0++M).length=A0.length+M.length:=List.length_append
   have hol2:H.ops.length=A0.length+(Bs.length+1):=by rw [hAB,List.length_append,List.length_cons]
   refine Jc (Ja (Lq (Km V V) (Je (Jf (Jc (Jz V (fun h62=> ?_) (fun h62=> ?_)))))))
   ·refine Jo (Jf (Jc (JD (Jc ?_))))
    try simp only [Bp,Bq] at *
    have hj2:j<Bs.length:=by omega
    obtain ⟨o,ho⟩: ∃o,Bs[j]? =some o:=⟨_,List.getElem?_eq_getElem hj2⟩
    have hmo:o∈H.ops:=by rw [hAB];exact List.mem_append_right _ (List.mem_cons_of_mem _ (List.mem_of_getElem? ho))
    obtain ⟨wo,hwo,hRo⟩:=hO.right hmo
    obtain ⟨e0,e1,e2,e4,ek⟩:=hI.1.at_ hO' hd4 ho
    refine Kd (k:=j) Mm2 ho (op_open _) fun b11 q11 y11 e11=> ?_
    cases e11
    refine Ja (Lq (J0 Un53 JA V V (by omega) (by omega)) (Lq (Kg (k:=0) (vs:= [_,_,_,_,_,_,_,_,_]) Un60 V JA V Mm0 V V V) (Jg V (Jw (cs:= [_,_,_,_,_,_,_,_,_]) JA V (by decide) fun b13=>Jg V (Jq (cs':= [_,_,_,_,_,_,_,_,_]) (vs:= [_,_,_,_,_,_,_,_,_]) JA V V V V V (Nat.le_of_ble_eq_true V) .z (Je (Jf ?_)))))))
    refine VW (α:=Unit)
     (fun _=> [(0, .pointer (some ⟨h,0,none⟩)),(3, .pointer (some ⟨b3,0,none⟩)),(8,v),(10, .slice G gone.length gc),(59, .slice (some ⟨b11,q11,none⟩) Bs.length (cap-(k+1))),(60, .int .i64 Bs.length),(61, .int .i64 j),(13, .pointer (some ⟨b13,0,none⟩))])
     (fun _=>([(b13,JB (opC o y11.1 y11.2) 60)] ::p::hdP h A H.ops.length cap m H.total::mpP m L::mkP L:: [(b3,JB [.int .i64 i0, .int .i64 i1] 43)] ::Ps))
     (fun _=>(RdF rgD y11.1 y11.2 o.rs::RepsF opD (A0++M) css::RdF rgD G gc gone::RdF opD (some ⟨b11,q11,none⟩) (cap-(k+1)) Bs::barF::RdF opD A cap H.ops::As))
     (fun _=> ¬stOf d o) ?_ ?_
    ·refine Jc (Ja (Lq (Jh (o':=0) Un60 V KM V V) (Lq (Jh (o':=2) Un58 V Yh V V) (Lq (Jk Un44 V V Jn V) (Lq (Kb V V) (Lq (Jb V) (J1 (t:=69) V (fun g69=> ?_) (fun g69=> ?_))))))))
     ·refine Lg V V V g69 (Jh (o':=6) Un60 V JW V V) (Lg V V V g69 (Js (vs:= [_,_]) Un43 V JW V Jn V V) (Lg V V V g69 (Js (vs:= [_,_]) Un43 V JW V (Jj (Jj (Jj (Jj (Jj (Jn)))))) V V) (Lg V V V g69 (YS V V (eq43 _ _ _ _)) (Lq (JO V g69 V) (Je (Jf (Jz V (fun h74=> ?_) (fun h74=> ?_))))))))
      ·refine Kh (JH (J6 (Jf (Ja (Lq (JQ V V (wr64 (by omega)) (c:=((j+1:Nat):Int))) (Lq (Jb V) (Je (Ko ?_))))))))
       try simp only [Bp,Bq] at *
       refine ⟨(j+1,v,p,css,M,G,gc,gone),?_,(.m7 V V V V V V V),(Sd (Sk5 (Sr))),Tt2⟩
       exact ⟨by show Bs.length-(j+1)<Bs.length-j;omega,e0 ⟨g69,by rw [hic,hin];exact h74⟩,hI.2⟩
      ·refine Jo (Ko ?_)
       try simp only [Bp,Bq] at *
       refine ⟨(),?_,(.m8 V V V V V V V V),(Sk6 (Sr)),Tt1⟩
       exact fun ⟨s1,s2,s3⟩=>by first | exact absurd s1 g69 | (rw [hic,hin] at *;first | exact h74 ⟨s2,s3⟩ | exact h74 s2 s3 | exact (h74.elim (fun q=>q s2) (fun q=>q s3)))
     ·refine Ln V V V g69 (Ln V V V g69 (Ln V V V g69 (Ln V V V g69 (Lq (JL V g69 V) (Je (Jf (Ju V V (Jo (Ko ?_)))))))))
      try simp only [Bp,Bq] at *
      refine ⟨(),?_,(.m8 V V V V V V V V),(Sk6 (Sr)),Tt1⟩
      exact fun ⟨s1,s2,s3⟩=>by first | exact absurd s1 g69 | (rw [hic,hin] at *;first | exact h74 ⟨s2,s3⟩ | exact h74 s2 s3 | exact (h74.elim (fun q=>q s2) (fun q=>q s3)))
    ·rintro ⟨⟩ hns
     refine Jac (α:=Nat×GOp×Option Addr×Nat)
      (fun (b14,o2,A2,c2)=> [(0, .pointer (some ⟨h,0,none⟩)),(3, .pointer (some ⟨b3,0,none⟩)),(8,v),(10, .slice G gone.length gc),(59, .slice (some ⟨b11,q11,none⟩) Bs.length (cap-(k+1))),(60, .int .i64 Bs.length),(61, .int .i64 j),(13, .pointer (some ⟨b13,0,none⟩)),(14, .pointer (some ⟨b14,0,none⟩))])
      (fun (b14,o2,A2,c2)=>([(b14,JB (opC o2 A2 c2) 60)] :: [(b13,JB (opC o y11.1 y11.2) 60)] ::p::hdP h A H.ops.length cap m H.total::mpP m L::mkP L:: [(b3,JB [.int .i64 i0, .int .i64 i1] 43)] ::Ps))
      (fun (b14,o2,A2,c2)=>(RdF rgD A2 c2 o2.rs::RepsF opD (A0++M) css::RdF rgD G gc gone::RdF opD (some ⟨b11,q11,none⟩) (cap-(k+1)) Bs::barF::RdF opD A cap H.ops::As))
      (fun (b14,o2,A2,c2)=>(o.kind=1→(thrF gone o.at_ (Jr o)).2=0∧ErS A0 Bs d (j+1) (M++ [o2]) (thrF gone o.at_ (Jr o)).1)∧(o.kind≠1→ErS A0 Bs d (j+1) (M++ [o2]) gone)) ?_ ?_
     ·have hg1:=hI.1.one
      rcases ek with hk1 | hk2 | hk4o
      ·have hrs:=hRo.noRs (by omega)
       obtain ⟨q0,q1,q2,q3,q4⟩:=e1 hns hk1
       by_cases hin1:0<rankF o.at_ gone∧rankF o.at_ gone<countF gone
       ·refine Ja (Lq (Js (vs:= [_,_,_,_,_,_,_,_,_]) Un60 V JA V Jn V V) (Jg V (Jm (clone_o o y11.1 y11.2 (hfit _ hmo).rs) (.n1 V) (by decide) (Jl Mm0 Jx) fun _ _ _ q9=>?_)))
        obtain ⟨A5,c5,p5,rfl,hr5,rfl,rfl⟩:=q9
        refine Gd (A:=RepsF rgD o.rs (o.rs.map rgC)) (fun Z w _=>rgs_reps _ Z w) (QV (e:=rgD) (css:=o.rs.map rgC) hr5 .z V Mm0 fun A6 c6 e6=> ?_)
        obtain ⟨rfl,_,rfl⟩:=Value.slice.inj e6
        refine Lq (Jb V) (Jg V (Jm (wo_insE o A5 c5 G gc gone q1 hg1 hk1 q2 hin1) (.n2 V V) (by decide) (Jl Mm4 Jx) fun _ _ _ q9=>?_))
        obtain ⟨rfl,rfl,rfl⟩:=q9
        refine Lq (Jb V) (Lq (Ji (vs:= [_,_]) V V) (Lq (Ji (vs:= [_,_]) V V) (Jg V (Jw (cs:= [_,_,_,_,_,_,_,_,_]) JA V (by decide) fun b14=>Jg V (Jq (cs':= [_,_,_,_,_,_,_,_,_]) (vs:= [_,_,_,_,_,_,_,_,_]) JA V V V V V (Nat.le_of_ble_eq_true V) .z (Lq (Jd V) (Je (Jf (Jc (Ja (Lq (Jb V) (Lq (Kr V V) (Je (Jf (JS V V (Jc (Ja ?_)))))))))))))))))
        refine Lq (Jb V) (Lq (Jd V) (Lq (Jd V) (Je (Jf (Jp (Jt (JF (Jt (Jt (JF (Jt ?_)))))))))))
        refine ⟨_,[_,_,_],[],fun Z w hs=> .tmp V (.tmp V .nil),?_,fun Z w hs=>hs.out (Sd3 (Sk3 (Sd (Sr)))) Tt6⟩
        exact ⟨V, .inl ⟨V,q3 hin1,List.ne_nil_of_length_pos (by omega),V⟩⟩
       ·refine Ja (Lq (Js (vs:= [_,_,_,_,_,_,_,_,_]) Un60 V JA V Jn V V) (Jg V (Jm (clone_o o y11.1 y11.2 (hfit _ hmo).rs) (.n1 V) (by decide) (Jl Mm0 Jx) fun _ _ _ q9=>?_)))
        obtain ⟨A5,c5,p5,rfl,hr5,rfl,rfl⟩:=q9
        refine Gd (A:=RepsF rgD o.rs (o.rs.map rgC)) (fun Z w _=>rgs_reps _ Z w) (QV (e:=rgD) (css:=o.rs.map rgC) hr5 .z V Mm0 fun A6 c6 e6=> ?_)
        obtain ⟨rfl,_,rfl⟩:=Value.slice.inj e6
        refine Lq (Jb V) (Jg V (Jm (wo_ins o A5 c5 G gc gone q1 hg1 hk1 q2 hin1) (.n2 V V) (by decide) (Jl Mm4 Jx) fun _ _ _ q9=>?_))
        obtain ⟨rfl,rfl,rfl⟩:=q9
        refine Lq (Jb V) (Lq (Ji (vs:= [_,_]) V V) (Lq (Ji (vs:= [_,_]) V V) (Jg V (Jw (cs:= [_,_,_,_,_,_,_,_,_]) JA V (by decide) fun b14=>Jg V (Jq (cs':= [_,_,_,_,_,_,_,_,_]) (vs:= [_,_,_,_,_,_,_,_,_]) JA V V V V V (Nat.le_of_ble_eq_true V) .z (Lq (Jd V) (Je (Jf (Jc (Ja (Lq (Jb V) (Lq (Kr V V) (Je (Jf (Ju V V (Jo (Ko ?_)))))))))))))))))
        refine ⟨(b14,{ o with at_:=o.at_-rankF o.at_ gone },A5,c5),?_,(.m9 rfl rfl rfl rfl rfl rfl rfl rfl rfl),(Sk7 (Sr)),(Jl Mm0 Tt3)⟩
        exact ⟨fun _=>(q4 hin1).2,fun hne=>absurd hk1 hne⟩
      ·have hrne:=(hRo.cov hk2 (by omega)).1
       obtain ⟨q1,q2,q3,q4⟩:=e2 hns hk2
       by_cases hin1:meetF [] gone o.rs= []
       ·refine Ja (Lq (Js (vs:= [_,_,_,_,_,_,_,_,_]) Un60 V JA V Jn V V) (Jg V (Jm (clone_o o y11.1 y11.2 (hfit _ hmo).rs) (.n1 V) (by decide) (Jl Mm0 Jx) fun _ _ _ q9=>?_)))
        obtain ⟨A5,c5,p5,rfl,hr5,rfl,rfl⟩:=q9
        obtain ⟨_,⟨_,hz,_⟩ | ⟨b5,cap5,jk,e5,rfl,hc5,hl5,hm5⟩⟩:=hr5
        ·exact absurd (List.length_eq_zero_iff.1 hz) hrne
        obtain ⟨rfl,_,rfl⟩:=Value.slice.inj e5
        refine Lq (Jb V) (Jg V (JU (wo_hide o G gc gone q1 hg1 b5 c5 jk q2 hc5 hl5 hm5 hk2 hin1 ⟨(q4 hin1).1,(q4 hin1).2.1⟩ hrne) (.n2 V V) (by decide) .z (Jl Mm2 Jx) fun _ _ _ q9=>?_))
        obtain ⟨A7,c7,rfl,rfl,rfl⟩:=q9
        refine Lq (Jb V) (Lq (Ji (vs:= [_,_]) V V) (Lq (Ji (vs:= [_,_]) V V) (Jg V (Jw (cs:= [_,_,_,_,_,_,_,_,_]) JA V (by decide) fun b14=>Jg V (Jq (cs':= [_,_,_,_,_,_,_,_,_]) (vs:= [_,_,_,_,_,_,_,_,_]) JA V V V V V (Nat.le_of_ble_eq_true V) .z (Lq (Jd V) (Je (Jf (Jc (Ja (Lq (Jb V) (Lq (Kr V V) (Je (Jf (Ju V V (Jo (Ko ?_)))))))))))))))))
        refine ⟨(b14,{ o with rs:=packF [] (downR gone o.rs) },A7,c7),?_,(.m9 rfl rfl rfl rfl rfl rfl rfl rfl rfl),(Sk7 (Sr)),(Jl Mm0 Tt2)⟩
        exact ⟨fun h1=>by omega,fun _=>(q4 hin1).2.2.2⟩
       ·refine Ja (Lq (Js (vs:= [_,_,_,_,_,_,_,_,_]) Un60 V JA V Jn V V) (Jg V (Jm (clone_o o y11.1 y11.2 (hfit _ hmo).rs) (.n1 V) (by decide) (Jl Mm0 Jx) fun _ _ _ q9=>?_)))
        obtain ⟨A5,c5,p5,rfl,hr5,rfl,rfl⟩:=q9
        obtain ⟨_,⟨_,hz,_⟩ | ⟨b5,cap5,jk,e5,rfl,hc5,hl5,hm5⟩⟩:=hr5
        ·exact absurd (List.length_eq_zero_iff.1 hz) hrne
        obtain ⟨rfl,_,rfl⟩:=Value.slice.inj e5
        refine Lq (Jb V) (Jg V (JU (wo_hideE o G gc gone q1 hg1 b5 c5 jk q2 hc5 hl5 hm5 hk2 hin1) (.n2 V V) (by decide) .z (Jl Mm2 Jx) fun _ _ _ q9=>?_))
        obtain ⟨rfl,rfl,rfl⟩:=q9
        refine Lq (Jb V) (Lq (Ji (vs:= [_,_]) V V) (Lq (Ji (vs:= [_,_]) V V) (Jg V (Jw (cs:= [_,_,_,_,_,_,_,_,_]) JA V (by decide) fun b14=>Jg V (Jq (cs':= [_,_,_,_,_,_,_,_,_]) (vs:= [_,_,_,_,_,_,_,_,_]) JA V V V V V (Nat.le_of_ble_eq_true V) .z (Lq (Jd V) (Je (Jf (Jc (Ja (Lq (Jb V) (Lq (Kr V V) (Je (Jf (JS V V (Jc (Ja ?_)))))))))))))))))
        refine Lq (Jb V) (Lq (Jd V) (Lq (Jd V) (Je (Jf (Jp (Jt (JF (Jt (Jt (JF (Jt ?_)))))))))))
        refine ⟨_,[_,_,_],[],fun Z w hs=> .tmp V (.tmp V .nil),?_,fun Z w hs=>hs.out (Sd3 (Sk3 (Sd (Sr)))) Tt4⟩
        exact ⟨V, .inl ⟨V,q3 hin1,List.ne_nil_of_length_pos (by omega),V⟩⟩
      ·refine Ja (Lq (Js (vs:= [_,_,_,_,_,_,_,_,_]) Un60 V JA V Jn V V) (Jg V (Jm (clone_o o y11.1 y11.2 (hfit _ hmo).rs) (.n1 V) (by decide) (Jl Mm0 Jx) fun _ _ _ q9=>?_)))
       obtain ⟨A5,c5,p5,rfl,hr5,rfl,rfl⟩:=q9
       refine Gd (A:=RepsF rgD o.rs (o.rs.map rgC)) (fun Z w _=>rgs_reps _ Z w) (QV (e:=rgD) (css:=o.rs.map rgC) hr5 .z V Mm0 fun A6 c6 e6=> ?_)
       obtain ⟨rfl,_,rfl⟩:=Value.slice.inj e6
       refine Lq (Jb V) (Jg V (Jm (wo_st o A5 c5 G gc gone (hI.1.gpls hO' hd4 ho) hg1 hk4o) (.n2 V V) (by decide) (Jl Mm4 Jx) fun _ _ _ q9=>?_))
       obtain ⟨rfl,rfl,rfl⟩:=q9
       refine Lq (Jb V) (Lq (Ji (vs:= [_,_]) V V) (Lq (Ji (vs:= [_,_]) V V) (Jg V (Jw (cs:= [_,_,_,_,_,_,_,_,_]) JA V (by decide) fun b14=>Jg V (Jq (cs':= [_,_,_,_,_,_,_,_,_]) (vs:= [_,_,_,_,_,_,_,_,_]) JA V V V V V (Nat.le_of_ble_eq_true V) .z (Lq (Jd V) (Je (Jf (Jc (Ja (Lq (Jb V) (Lq (Kr V V) (Je (Jf (Ju V V (Jo (Ko ?_)))))))))))))))))
       refine ⟨(b14,o,A5,c5),?_,(.m9 V V V V V V V V V),(Sk7 (Sr)),(Jl Mm0 Tt3)⟩
       exact ⟨fun h1=>by omega,fun _=>e4 hns hk4o⟩
     ·rintro ⟨b14,o2,A2,c2⟩ ⟨hi1,hi2⟩
      refine Jc (Ja (Lq (Jb V) (Lq (Js (vs:= [_,_,_,_,_,_,_,_,_]) Un60 V JA V Jn V V) (Jg V (KF (cs:= [_,_,_,_,_,_,_,_,_]) Un53 JA (by decide) (by decide) V V V V (by decide) fun b87=>Jg V (KK (news:= [_,_,_,_,_,_,_,_,_]) Un53 JA V (by decide) V V hI.2 Jn V V (by omega) (by unfold maxLen;omega) (by decide) (DelAt.perm .z3) fun v88 p88 hr88=>Lq (Jd V) (Je (Jf (Jc (Qa (xs':=A0++(M++ [o2])) (u:=o2) (cs:=opC o2 A2 c2) Mm1 (fun Z w hs=>⟨A2,c2,V,hs.facts _ Mm0⟩) (List.append_assoc _ _ _).symm (Ja (Lq (Jh (o':=0) Un60 V KM V V) ?_))))))))))))
      refine Lq (Jh (o':=2) Un58 V Yh V V) (Lq (Jk Un44 V V (Jj (Jj (Jj (Jn)))) V) (Lq (Kb V V) (Je (Jf (Jz V (fun h92=> ?_) (fun h92=> ?_))))))
      ·refine JI _ _ [] (.c 0 0 (.c 1 0 (.c 2 0 (.c 3 0 (.c 4 2 (.c 5 2 (.c 6 0 (.c 7 0 (.c 8 0 (.c 9 0 .nil)))))))))) mixed (fun _ _ _ _ h=>h) (Sk8 (Sr)) (fun _ h=>h) (by kernel_rfl) (by decide) fun ws Z0=>Qe V (Jb V) (Qe V (Jh (o':=3) Un60 V ti3 V V) (Qe V (Jk Un3 V V (Jj (Jj (Jj (Jn)))) V) (Qe V (Js (vs:= [_,_,_,_,_,_,_,_,_]) Un60 V JA V (Jj (Jj (Jj (Jn)))) V V) ?_)))
       refine Jy V V (Jm (YC o y11.1 y11.2 (by have:=(hfit _ hmo).text;omega)) (.n1 V) (by decide) (Jl Mm6 Jx) fun _ _ _ q9=>?_)
       obtain ⟨rfl,rfl,rfl⟩:=q9
       refine ⟨⟨(Sk8 (Sr)),Mm0⟩,?_⟩
       refine Jy V V (Jm (VN G gc gone o.at_ (Jr o) (by have:=hI.1.one;omega)) (.n3 V V V) (by decide) (Jl Mm4 Jx) fun _ _ _ q9=>?_)
       obtain ⟨A3,c3,rfl,rfl,rfl⟩:=q9
       refine ⟨⟨(Sk8 (Sr)),Mm1⟩,?_⟩
       refine Qe V (Jb V) (Qe V (Ji (vs:= [_,_]) V V) (Qe V (Ji (vs:= [_,_]) V V) (Qe V (Jd V) (JK (JJ (J7 (Jf (JG [(10,_),(100,_),(93,_),(99,_),(98,_),(97,_),(96,_),(95,_),(94,_),(92,_),(91,_),(90,_),(89,_),(8,_),(88,_),(87,_),(86,_),(85,_),(0,_),(3,_),(59,_),(60,_),(61,_),(13,_),(14,_)] (.cons V (.m24 V V V V V V V V V V V V V V V V V V V V V V V V)) (Ja (Lq (JQ V V (wr64 (by omega)) (c:=((j+1:Nat):Int))) (Lq (Jb V) ?_)))))))))))
       refine Je (Ko ?_)
       refine ⟨(j+1,v88,p88,css++ [opC o2 A2 c2],M++ [o2],A3,c3,(thrF gone o.at_ (Jr o)).1),?_,(.m7 V V V V V V V),(Sk (Sd3 (Sk4 (Sr)))),(Jl Mm2 (Jl Mm0 Tt6))⟩
       exact ⟨by show Bs.length-(j+1)<Bs.length-j;omega,(hi1 (by simpa using h92)).2,(by rw [←List.append_assoc,List.length_append,List.flatten_append,show [opC o2 A2 c2].flatten=opC o2 A2 c2 from by simp];exact hr88)⟩
      ·refine Jo (J7 (Jf (Ja (Lq (JQ V V (wr64 (by omega)) (c:=((j+1:Nat):Int))) (Lq (Jb V) (Je (Ko ?_)))))))
       refine ⟨(j+1,v88,p88,css++ [opC o2 A2 c2],M++ [o2],G,gc,gone),?_,(.m7 V V V V V V V),(Sk (Sd3 (Sk4 (Sr)))),(Jl Mm0 Tt3)⟩
       exact ⟨by show Bs.length-(j+1)<Bs.length-j;omega,hi2 (by simpa using h92),(by rw [←List.append_assoc,List.length_append,List.flatten_append,show [opC o2 A2 c2].flatten=opC o2 A2 c2 from by simp];exact hr88)⟩
   ·refine Kh (JH (JH (J6 (Jf (Jc ?_)))))
    try simp only [Bp,Bq] at *
    obtain rfl:j=Bs.length:=by have:=hI.1.le;omega
    refine KJ (e:=opD) hI.2 .z V Mm0 fun A9 c9 e9=> ?_
    subst e9
    refine Ja (Lq (Jb V) (Lq (Jd V) (Lq (Jd V) (Je (Jf (Jp ?_))))))
    refine ⟨_,[_,_,_],[_],fun Z w hs=> .tmp V (.tmp V .nil),?_,fun Z w hs=>hs.out (Sk3 (Sd (Sr))) (Jl Mm0 Tt4)⟩
    exact ⟨V, .inr ⟨M,A9,c9,V,hI.1.done,V⟩⟩
def fltD:De (ByteArray×Int×Int) where
 sz:=3
 rep _ _ x cs:=cs= [.string x.1, .int .i64 x.2.1, .iface 77 (.int .i64 x.2.2)]
 len h:=by subst h;rfl
 one h:=by subst h;rfl
 stable _ _ _ _ _ h:=h
theorem flt_open (u:ByteArray×Int×Int): ∀Z w cs,fltD.rep Z w u cs→ ∃y:Unit,cs= [.string u.1, .int .i64 u.2.1, .iface 77 (.int .i64 u.2.2)] ∧ ∀B∈([] :List Fact),B.holds Z w:=fun _ _ _ h=>⟨(),h,fun _ h=>by cases h⟩
theorem bd118_0_1_2Xg37 (x0_:ByteArray) (x1_:Int) (x2_t:TypeId) (x2_v:Value) (w:World):(Instr.build 85 #[(0, .string x0_),(1, .int .i64 x1_),(2, .iface x2_t x2_v)]).run Tryz.prog w= .ok (.agg #[.string x0_, .int .i64 x1_, .iface x2_t x2_v]) w:=by kernel_rfl
theorem fault_x (s:ByteArray) (at_ e:Int) (he:e≠0):Sp Tryz.prog 29 [.string s, .int .i64 at_, .int .i64 e] [] [] (fun v Lo fs=> ∃p:Nat,v= .iface 83 (.pointer (some ⟨p,0,none⟩))∧Lo= [] ∧fs= [RdF fltD (some ⟨p,0,none⟩) 1 [(s,at_,e)]]):=by
 refine Sp.of (n:=16) ⟨_,Tryz.func29,V,V,V,V⟩ (Nat.le_of_ble_eq_true V) fun Ps As=>Jc (Ja (Lq (Jd V) (Je (Jf (Jc (Jc (Ja (Lq (Jb V) (Lq (Kb V V) (Je (Jf (Ju V (by simpa using he) (Jo (Jf (Jc (Ja (Lq (Jb V) ?_)))))))))))))))))
 refine Lq (Jb V) (Lq (Jb V) (Lq (Gp (by rw [Un77];rfl) V) (Lq (JY (.n3 V V V) (bd118_0_1_2Xg37 _ _ _ _)) (Jg V (J3 (cs:= [_,_,_]) V V (by decide) fun b14=>Lq (Gp (by rw [Un83];rfl) V) (Lq (Jd V) (Je (Jf (Jp ?_)))))))))
 refine ⟨_,[],[_],fun Z w hs=> .tmp V .nil,?_,fun Z w hs=>(hs.freeze1 (e:=fltD) (u:=(s,at_,e)) .z V).imp fun Z2 h2=>(h2.subParts (Sr)).subFacts (fun _ h=>h)⟩
 exact ⟨b14,V,V,V⟩
theorem inner_t (e:Int):Sp Tryz.prog 31 [.iface 77 (.int .i64 e), .int .i64 e] [] [] (Is (.bool true)):=by
 refine Sp.of (n:=13) ⟨_,Tryz.func31,V,V,V,V⟩ (Nat.le_of_ble_eq_true V) fun Ps As=>Jc (Ja (Lq (Jd V) (Je (Jf (Jc (Jc (Ja (Lq (Jb V) (Je (Jf (JD (Jc (Ja (Lq (ZF (by rw [Un77];rfl) V) (Lq (Ji (vs:= [_,_]) V V) (Lq (Ji (vs:= [_,_]) V V) (Je (Jf (JS V V (Jc (Ja ?_)))))))))))))))))))))
 refine Lq (Jd V) (Je (Jf (Jc (Ja (Lq (Jb V) (Lq (Jb V) (Lq (Kb V V) (Lq (Jd V) (Je (Jf (Jp (JF (Jt ?_)))))))))))))
 refine ⟨_,[],[],fun Z w hs=> .tmp V .nil,?_,fun Z w hs=>hs.out (Sr) (fun _ h=>h)⟩
 exact ⟨congrArg Value.bool (by simp),V,V⟩
theorem told_t (p:Nat) (s:ByteArray) (at_ e:Int) (he:e≠0):Sp Tryz.prog 12 [.iface 83 (.pointer (some ⟨p,0,none⟩)), .string s, .int .i64 at_, .int .i64 e] [] [RdF fltD (some ⟨p,0,none⟩) 1 [(s,at_,e)]] (Is (.bool true)):=by
 refine Sp.of (n:=44) ⟨_,Tryz.func12,V,V,V,V⟩ (Nat.le_of_ble_eq_true V) fun Ps As=>Jc (Ja (Lq (Jd V) (Je (Jf (Jc (Jc (Ja (Lq (Jb V) (Lq (Kb V V) (Je (Jf (Ju V (by simpa using he) (Jo (Jf (Jc (Jc (Ja (Lq (Jb V) ?_))))))))))))))))))
 refine Je (Jf (JD (Jc (Kd (k:=0) Mm0 V (flt_open _) fun b1 q1 y1 e1=> ?_))))
 cases e1
 refine Ja (Lq (ZF (by rw [Un83];rfl) V) (Lq (Ji (vs:= [_,_]) V V) (Lq (Ji (vs:= [_,_]) V V) (Je (Jf (JS V V (Jc (Ja (Lq (Jd V) (Je (Jf (Jc (Ja (Lq (Jb V) (Lq (Vf Un83 V V (by simp)) (Lq (Jb V) ?_))))))))))))))))
 refine Lg V V V V (Jb V) (Lg V V V V (JE V) (Lg V V V V (Jh (o':=_+0) Un85 V ti9 V V) (Lg V V V V (Kk (j:=0) Un9 V V Mm0 V V) (Lg V V V V (Jb V) (Lg V V V V (Gm V V) (Lq (JO V V V) (Lq (Jb V) (Lg V V V (str_beq.2 V) (Jb V) (Lg V V V (str_beq.2 V) (JE V) ?_)))))))))
 refine Lg V V V (str_beq.2 V) (Jh (o':=_+1) Un85 V ti3 V V) (Lg V V V (str_beq.2 V) (Kk (j:=1) Un3 V V Mm0 V V) (Lg V V V (str_beq.2 V) (Jb V) (Lg V V V (str_beq.2 V) (Kb V V) (Lq (JO V (str_beq.2 V) V) (Lq (Jb V) (Lg V V V (by simp) (Jb V) (Lg V V V (by simp) (JE V) (Lg V V V (by simp) (Jh (o':=_+2) Un85 V YE V V) (Lg V V V (by simp) (Kk (j:=2) Un49 V V Mm0 V V) ?_)))))))))
 refine Lg V V V (by simp) (Jb V) (KD V V V (by simp) (Jm (inner_t e) (.n2 V V) (by decide) Jx fun _ _ _ q9=>?_))
 obtain ⟨rfl,rfl,rfl⟩:=q9
 refine Lq (JO V (by simp) V) (Lq (Jd V) (Je (Jf (Jp (JF (Jt ?_))))))
 refine ⟨_,[],[],fun Z w hs=> .tmp V .nil,?_,fun Z w hs=>hs.out (Sr) Tt1⟩
 exact ⟨V,V,V⟩
def ErV (ps:List Part) (A0 Bs:List GOp) (d0:GOp):Value→List Part→List Fact→Prop:=fun v Lo fs=>
 Lo=ps∧((d0.kind=1∧ ∃p:Nat,v= .tuple #[.slice none 0 0, .iface 83 (.pointer (some ⟨p,0,none⟩))] ∧fs= [RdF fltD (some ⟨p,0,none⟩) 1 [(⟨#[69,114,97,115,101]⟩,0,23)]])∨ ∃(M:List GOp) (A':Option Addr) (c':Nat),v= .tuple #[.slice A' (A0++M).length c', .nilIface] ∧Er d0 (insRow d0 (rowN [] A0)) (rowN [] A0) Bs M∧fs= [RdF opD A' c' (A0++M)])
theorem erase_4 (h m cap:Nat) (A:Option Addr) (H:Hist) (L:List MR) (hr:HR H L) (i0 i1:Int) (k:Nat) (hw:J5 H.ents i0 i1=some k) (hk4: ∀e,H.ents[k]? =some e→e.op.kind=4):Sp Tryz.prog 30 [.pointer (some ⟨h,0,none⟩), .agg #[.int .i64 i0, .int .i64 i1]] [hdP h A H.ops.length cap m H.total,mpP m L,mkP L] [RdF opD A cap H.ops] (fun u Lo fs=>u= .tuple #[.slice none 0 0, .int .i64 63] ∧Lo= [hdP h A H.ops.length cap m H.total,mpP m L,mkP L] ∧fs= []):=by
 have hol:=K0 H
 have hlen:=hr.len
 refine Sp.of (n:=104) ⟨_,Tryz.func30,V,V,V,V⟩ (Nat.le_of_ble_eq_true V) fun Ps As=>Jc (Ja (Jg V (J3 (cs:= [_,_]) V V (by decide) fun b3=>Lq (Jd V) (Lq (Jd V) (Je (Jf (Jc (Ja (Lq (Jb V) (Lq (Js (vs:= [_,_]) Un43 V JW V Jn V V) (Jg V (Kv (edit_4 h m cap A H L hr i0 i1 k hw hk4) (.n2 V V) (by decide) .z1 .z1 .z1 (Jl Mm0 Jx) fun _ _ _ q9=>?_))))))))))))
 obtain ⟨rfl,rfl,rfl⟩:=q9
 refine Lq (Jb V) (Lq (Ji (vs:= [_,_]) V V) (Lq (Ji (vs:= [_,_]) V V) (Lq (Jd V) (Lq (Jd V) (Je (Jf (Jc (Jc (Ja (Lq (Jb V) (Lq (Kr V V) (Je (Jf (JS V V (Jc (Ja (Lq (Jb V) ?_)))))))))))))))))
 refine Lq (Jd V) (Lq (Jd V) (Je (Jf (Jp (Jt ?_)))))
 refine ⟨_,[_,_,_],[],fun Z w hs=> .tmp V (.tmp V .nil),?_,fun Z w hs=>hs.out (Sk3 (Sd (Sr))) (fun _ h=>h)⟩
 exact ⟨V,V,V⟩
theorem rErase_4 (d b:Nat) (cs:List Value) (T:TypeId) (h m cap:Nat) (A:Option Addr) (H:Hist) (L:List MR) (hr:HR H L) (i0 i1:Int) (k:Nat) (hw:J5 H.ents i0 i1=some k) (hk4: ∀e,H.ents[k]? =some e→e.op.kind=4):Sp Tryz.prog 11 [.pointer (some ⟨d,0,none⟩), .agg #[.int .i64 i0, .int .i64 i1]] [[(d,JB (.pointer (some ⟨h,0,none⟩):: .pointer (some ⟨b,0,none⟩)::cs) T)],hdP h A H.ops.length cap m H.total,mpP m L,mkP L] [RdF opD A cap H.ops] (fun v Lo fs=> ∃p:Nat,v= .tuple #[.slice none 0 0, .iface 83 (.pointer (some ⟨p,0,none⟩))] ∧Lo= [[(d,JB (.pointer (some ⟨h,0,none⟩):: .pointer (some ⟨b,0,none⟩)::cs) T)],hdP h A H.ops.length cap m H.total,mpP m L,mkP L] ∧fs= [RdF fltD (some ⟨p,0,none⟩) 1 [(⟨#[69,114,97,115,101]⟩,0,63)]]):=by
 refine Sp.of (n:=20) ⟨_,Tryz.func11,V,V,V,V⟩ (Nat.le_of_ble_eq_true V) fun Ps As=>Jc (Ja (Jg V (J3 (cs:= [_,_]) V V (by decide) fun b3=>Lq (Jd V) (Lq (Jd V) (Je (Jf (Jc (JI _ _ [] (.c 0 0 (.c 1 0 (.c 2 0 (.c 3 0 (.c 4 0 (.c 5 2 (.c 6 0 (.c 7 0 (.c 8 0 (.c 9 0 (.c 10 0 .nil))))))))))) mixed (fun _ _ _ _ h=>h) (Sk2 (Sd3 (Sr))) (fun _ h=>h) (by kernel_rfl) (by decide) fun ws Z0=>Qe V (Jb V) (Qe V (JE V) (Qe V (Jh (o':=0) Un34 V Vv V V) ?_))))))))))
 refine Qe V (Jk Un31 V V (Jj (Jn)) V) (Qe V (Js (vs:= [_,_]) Un43 V JW V Jn V V) (Jy V V (Kv (erase_4 h m cap A H L hr i0 i1 k hw hk4) (.n2 V V) (by decide) .z2 .z2 .z2 (Jl Mm1 Jx) fun _ _ _ q9=>?_)))
 obtain ⟨rfl,rfl,rfl⟩:=q9
 refine ⟨⟨(Sd3 (Sk2 (Sr))),Mm0⟩,?_⟩
 refine Qe V (Jb V) (Qe V (Ji (vs:= [_,_]) V V) (Qe V (Ji (vs:= [_,_]) V V) (Qe V (Jd V) (Qe V (Jd V) (JK (JJ (Jf (Jc (Ja (Lq (Jb V) (Lq (Jb V) (Jg V (Jm (fault_x ⟨#[69,114,97,115,101]⟩ 0 63 (by decide)) (.n3 V V V) (by decide) Jx fun _ _ _ q9=>?_)))))))))))))
 obtain ⟨p,rfl,rfl,rfl⟩:=q9
 refine Lq (Jd V) (Lq (Jd V) (Je (Jf (Jp ?_))))
 refine ⟨_,[_,_,_,_],[_],fun Z w hs=> .tmp V (.tmp V .nil),?_,fun Z w hs=>((((hs.pick .z2).pick .z2).pick .z2).pick .z4).out (Sk4 (Sd (Sr))) (Jl Mm0 Tt2)⟩
 exact ⟨p,V,V,V⟩
theorem rErase_p (d b:Nat) (cs:List Value) (T:TypeId) (h m cap:Nat) (A:Option Addr) (H:Hist) (L:List MR) (hr:HR H L) (i0 i1:Int) (k:Nat) (hw:J5 H.ents i0 i1=some k) (hk4: ∀e,H.ents[k]? =some e→e.op.kind≠4) (hO:OrdOk H.ops) (A0 Bs:List GOp) (d0:GOp) (hAB:H.ops=A0++(d0::Bs)) (hA0:A0.length=k) (hx:H.ops.length≤1000000):Sp Tryz.prog 11 [.pointer (some ⟨d,0,none⟩), .agg #[.int .i64 i0, .int .i64 i1]] [[(d,JB (.pointer (some ⟨h,0,none⟩):: .pointer (some ⟨b,0,none⟩)::cs) T)],hdP h A H.ops.length cap m H.total,mpP m L,mkP L] [barF,RdF opD A cap H.ops] (ErV [[(d,JB (.pointer (some ⟨h,0,none⟩):: .pointer (some ⟨b,0,none⟩)::cs) T)],hdP h A H.ops.length cap m H.total,mpP m L,mkP L] A0 Bs d0):=by
 refine Sp.of (n:=20) ⟨_,Tryz.func11,V,V,V,V⟩ (Nat.le_of_ble_eq_true V) fun Ps As=>Jc (Ja (Jg V (J3 (cs:= [_,_]) V V (by decide) fun b3=>Lq (Jd V) (Lq (Jd V) (Je (Jf (Jc (JI _ _ [] (.c 0 0 (.c 1 0 (.c 2 0 (.c 3 0 (.c 4 0 (.c 5 2 (.c 6 0 (.c 7 0 (.c 8 0 (.c 9 0 (.c 10 0 .nil))))))))))) mixed (fun _ _ _ _ h=>h) (Sk2 (Sd3 (Sr))) (fun _ h=>h) (by kernel_rfl) (by decide) fun ws Z0=>Qe V (Jb V) (Qe V (JE V) (Qe V (Jh (o':=0) Un34 V Vv V V) ?_))))))))))
 refine Qe V (Jk Un31 V V (Jj (Jn)) V) (Qe V (Js (vs:= [_,_]) Un43 V JW V Jn V V) (Jy V V (Kv (erase_p h m cap A H L hr i0 i1 k hw hk4 hO A0 Bs d0 hAB hA0 hx) (.n2 V V) (by decide) .z2 .z2 .z2 (Jl Mm1 (Jl Mm2 Jx)) fun _ _ _ q9=>?_)))
 obtain ⟨rfl,⟨rfl,hd1,hBne,rfl⟩ | ⟨Mm,A7,c7,rfl,hEr,rfl⟩⟩:=q9
 ·refine ⟨⟨(Sd3 (Sk2 (Sr))),Mm0⟩,?_⟩
  refine Qe V (Jb V) (Qe V (Ji (vs:= [_,_]) V V) (Qe V (Ji (vs:= [_,_]) V V) (Qe V (Jd V) (Qe V (Jd V) (JK (JJ (Jf (Jc (Ja (Lq (Jb V) (Lq (Jb V) (Jg V (Jm (fault_x ⟨#[69,114,97,115,101]⟩ 0 23 (by decide)) (.n3 V V V) (by decide) Jx fun _ _ _ q9=>?_)))))))))))))
  obtain ⟨p,rfl,rfl,rfl⟩:=q9
  refine Lq (Jd V) (Lq (Jd V) (Je (Jf (Jp ?_))))
  refine ⟨_,[_,_,_,_],[_],fun Z w hs=> .tmp V (.tmp V .nil),?_,fun Z w hs=>((((hs.pick .z2).pick .z2).pick .z2).pick .z4).out (Sk4 (Sd (Sr))) (Jl Mm0 Tt2)⟩
  exact ⟨V, .inl ⟨hd1,p,V,V⟩⟩
 ·refine ⟨⟨(Sd3 (Sk2 (Sr))),Mm1⟩,?_⟩
  refine Qe V (Jb V) (Qe V (Ji (vs:= [_,_]) V V) (Qe V (Ji (vs:= [_,_]) V V) (Qe V (Jd V) (Qe V (Jd V) (JK (JJ (Jf (Jc (Ja (Lq (Jb V) (Lq (Jb V) (Jg V (Jm (fault_0 _ _) (.n3 V V V) (by decide) Jx fun _ _ _ q9=>?_)))))))))))))
  obtain ⟨rfl,rfl,rfl⟩:=q9
  refine Lq (Jd V) (Lq (Jd V) (Je (Jf (Jp ?_))))
  refine ⟨_,[_,_,_,_],[_],fun Z w hs=> .tmp V (.tmp V .nil),?_,fun Z w hs=>((((hs.pick .z2).pick .z2).pick .z2).pick .z4).out (Sk4 (Sd (Sr))) (Jl Mm0 Tt2)⟩
  exact ⟨V, .inr ⟨Mm,A7,c7,V,hEr,V⟩⟩
theorem edit_kind {H:Hist} (hv:HV H) {k:Nat} (hk:k<H.ents.length):H.ents[k].op.kind=1∨H.ents[k].op.kind=2∨H.ents[k].op.kind=4:=by
 have hk2:k<H.ops.length:=by rw [Ky];exact hk
 have:=(CtxOk.at_ hk2 hv.ctx).kind
 have e:H.ops[k] =H.ents[k].op:=by simp [Hist.ops]
 rw [e] at this;exact this
def byE (e:Ent) (on:Bool):Int:=if (decide (e.op.kind=2)==on)=true then 1 else -1
structure TnI (D D2:DS) (k:Nat) (e:Ent):Prop where
 dv:DV D2
 row:D2.X=K5 e.now (byE e e.off) D.X
 pls:Pls D.X.length e.now
 ne:e.now≠ []
 up:byE e e.off=1→ ∀h:0<e.now.length,((D2.gap:Nat):Int)=e.now[0].lo
 dn:byE e e.off= -1→ ∀h:e.now.length-1<e.now.length,((D2.gap:Nat):Int)=e.now[e.now.length-1].hi
 hk:k<D2.H.ents.length
 en:D2.H.ents[k] =offE e (!e.off)
theorem tn_i {D:DS} (hv:DV D) (hm:D.made<1024) (hn:D.H.ops.length<900) {k:Nat} (hk:k<D.H.ents.length) (hk4:D.H.ents[k].op.kind≠4):TuD D D.H.ents[k].op.c D.H.ents[k].op.n D.H.ents[k].off k∧TnI D (statD D (D.H.ents[k].op.c,D.H.ents[k].op.n) D.H.ents[k].off k) k D.H.ents[k] :=by
 have hw:=Yg hv.di.hv.ids hk
 obtain ⟨i0,hi0⟩: ∃z,z=D.H.ents[k].op.c:=⟨_,rfl⟩
 obtain ⟨i1,hi1⟩: ∃z,z=D.H.ents[k].op.n:=⟨_,rfl⟩
 obtain ⟨on,hoff⟩: ∃z,D.H.ents[k].off=z:=⟨_,rfl⟩
 rw [←hi0,←hi1] at hw ⊢
 have hb0:byE D.H.ents[k] D.H.ents[k].off=byE D.H.ents[k] on:=by rw [hoff]
 have htu:=hv.tud hm hn hw hk hk4 on hoff
 have g:=hv.stat hm hn hw hk hk4 on
 have ho:=Ky D.H
 have he:=(end_stat hv.di.hv (o:=statO D (i0,i1) on) (by rw [←ho];exact g) rfl hk hw hoff).2
 rw [←ho] at he
 have he2:(mkH D (statO D (i0,i1) on)).ents=D.H.ents.set k (offE D.H.ents[k] (!on))++ [⟨statO D (i0,i1) on,[],false⟩] :=he
 have hek:(mkH D (statO D (i0,i1) on)).ents[k]'htu.hj=offE D.H.ents[k] (!on):=by
  simp only [he2]
  rw [List.getElem_append_left (by simpa using hk),List.getElem_set_self]
 have hpl:=hv.di.hv.pls _ (List.getElem_mem hk)
 have hr:=hv.di.row
 have hpX:Pls D.X.length D.H.ents[k].now:=by rw [hr];exact hpl
 have hne:D.H.ents[k].now≠ [] :=fun e=>hk4 ((hv.di.hv.edit _ (List.getElem_mem hk)).2 e)
 have hent:entE (offE D.H.ents[k] (!on))=⟨D.H.ents[k].op.c,D.H.ents[k].op.n,D.H.ents[k].op.kind, !(!on),D.H.ents[k].now,0,0⟩:=by
  unfold entE offE;rw [if_neg hk4]
 have hgap:(statD D (i0,i1) on k).gap=turnGap D.gap ⟨D.H.ents[k].op.c,D.H.ents[k].op.n,D.H.ents[k].op.kind, !(!on),D.H.ents[k].now,0,0⟩ on:=by
  show turnGap _ (entryF (mkH D (statO D (i0,i1) on)) k).1 on=_
  rw [Ys htu.hj,hek,hent]
 have hkd:=edit_kind hv.di.hv hk
 rw [hoff]
 refine ⟨htu,(hv.statD k htu.mkd).1,by rw [hb0];exact stat_row hv.di g hk hw hoff,hpX,hne,fun hb h=> ?_,fun hb h=> ?_,htu.hj,by rw [hoff];exact hek⟩
 all_goals rw [hb0] at hb
 ·rw [hgap]
  obtain ⟨r0,rest,er⟩:=List.exists_cons_of_ne_nil hne
  have hlast:D.H.ents[k].now.getLast? =some D.H.ents[k].now[D.H.ents[k].now.length-1] :=by rw [List.getLast?_eq_getElem?,List.getElem?_eq_getElem]
  have hlo:=Xi hpX.norm _ (List.getElem_mem h)
  have hc:(on==(D.H.ents[k].op.kind==1))=false:=by
   unfold byE at hb
   rcases hkd with h1 | h1 | h1
   ·rw [h1] at hb ⊢;cases on<;>first | rfl | (exfalso;revert hb;decide)
   ·rw [h1] at hb ⊢;cases on<;>first | rfl | (exfalso;revert hb;decide)
   ·exact absurd h1 hk4
  have h0:D.H.ents[k].now[0] =r0:=by simp only [er,List.getElem_cons_zero]
  unfold turnGap
  rw [hlast]
  simp only [er,hc]
  rw [h0] at hlo
  simp
  omega
 ·rw [hgap]
  obtain ⟨r0,rest,er⟩:=List.exists_cons_of_ne_nil hne
  have hlast:D.H.ents[k].now.getLast? =some D.H.ents[k].now[D.H.ents[k].now.length-1] :=by rw [List.getLast?_eq_getElem?,List.getElem?_eq_getElem]
  have hlo:=Xi hpX.norm _ (List.getElem_mem h)
  have hc:(on==(D.H.ents[k].op.kind==1))=true:=by
   unfold byE at hb
   rcases hkd with h1 | h1 | h1
   ·rw [h1] at hb ⊢;cases on<;>first | rfl | (exfalso;revert hb;decide)
   ·rw [h1] at hb ⊢;cases on<;>first | rfl | (exfalso;revert hb;decide)
   ·exact absurd h1 hk4
  generalize hz:D.H.ents[k].now[D.H.ents[k].now.length-1] =z at hlast hlo ⊢
  unfold turnGap
  rw [hlast]
  simp only [er,hc,if_true]
  omega
theorem entE_st {e:Ent} (h:e.op.kind=4):entE e=⟨e.op.c,e.op.n,4,e.op.on,[],e.op.tc,e.op.tn⟩:=by unfold entE;rw [if_pos h,h]
theorem entE_ed {e:Ent} (h:e.op.kind≠4):entE e=⟨e.op.c,e.op.n,e.op.kind, !e.off,e.now,0,0⟩:=by unfold entE;rw [if_neg h]
theorem HZ {D:DS} (hv:DV D) (h0:D.H.ops.length=0):textF D.X=⟨#[]⟩:=by
 have h1:=hv.total
 have h2:=hv.di.tot0
 have h3:=hv.di.row
 have:D.X= [] :=List.length_eq_zero_iff.1 (by omega)
 rw [this];rfl
theorem turn_v (M:DM) (D:DS) (ok:DkOk M D) (hv:DV D) (q:Nat) (hb:BdN (q+1) D) (k:Nat) (hk:k<D.H.ents.length) (e:Ent) (he:D.H.ents[k] =e) (hk4:e.op.kind≠4):Sp Tryz.prog 13 [.pointer (some ⟨M.d,0,none⟩), .agg #[.int .i64 e.op.c, .int .i64 e.op.n], .bool e.off] (KH M D) (barF::KY M D) (fun v Lo fs=> ∃(M2:DM) (D2:DS),TnI D D2 k e∧BdN q D2∧M2.d=M.d∧DkOk M2 D2∧v= .tuple #[opV (statO D (e.op.c,e.op.n) e.off) none 0, .nilIface] ∧Lo=KH M2 D2∧fs=KY M2 D2):=by
 subst he
 have hbd:=hb.bd
 have hbm:=hbd.m
 have hbn:=hbd.n
 have hlm:=ok.lm
 obtain ⟨htu,hI⟩:=tn_i hv (by omega) (by omega) hk hk4
 refine (turn_d M D ok (by omega) _ _ _ k k (Yg hv.di.hv.ids hk) hk hk4 V htu).mono ?_
 rintro v Lo fs ⟨M2,hd,hok,rfl,rfl,rfl⟩
 obtain ⟨h1,h2⟩:=hv.statD k htu.mkd
 exact ⟨M2,_,hI,h2.bdn hb,hd,hok,V,V,V⟩
def stN (d:GOp) (l:List GOp):Nat:=l.countP fun o=>decide (stOf d o)
theorem EE (d o:GOp) (l:List GOp):stN d (o::l)=stN d l+(if stOf d o then 1 else 0):=by
 unfold stN;rw [List.countP_cons];simp only [decide_eq_true_eq]
theorem Er.stN {d:GOp} {N N':List Nm} {l l':List GOp} (h:Er d N N' l l'):l'.length+stN d l=l.length:=by
 induction h with
 | nil=>rfl
 | skip h _ ih=>rw [EE,if_pos h,List.length_cons];omega
 | keep h _ _ _ _ _ ih=>rw [EE,if_neg h,List.length_cons,List.length_cons];omega
theorem Er.noSt {d:GOp} {N N':List Nm} {l l':List GOp} (h:Er d N N' l l'): ∀o∈l',¬stOf d o:=by
 induction h with
 | nil=>intro o ho;cases ho
 | skip _ _ ih=>exact ih
 | keep h hs _ _ _ _ ih=>
  intro x hx
  rcases List.mem_cons.1 hx with rfl | hx
  ·exact fun ⟨h1,h2,h3⟩=>h ⟨by rw [←hs.kind];exact h1,by rw [←hs.tc];exact h2,by rw [←hs.tn];exact h3⟩
  ·exact ih x hx
theorem noTgt {w:Int} {o:GOp} (h:Right w o) (hk:o.kind≠4):o.tc=0∧o.tn=0:=by
 have h1:=(h.head h.w0).2.2
 unfold extraF at h1
 simp only [Bool.or_eq_true,Bool.and_eq_true,decide_eq_true_eq,not_or,not_and] at h1
 have h2:=h1.2 hk
 constructor
 ·exact Classical.byContradiction fun h=>h2.1.1 h
 ·exact Classical.byContradiction fun h=>h2.1.2 h
theorem tgt_st {d o:GOp} {w:Int} (h:Right w o) (hd:1≤d.c) (h1:o.tc=d.c) (h2:o.tn=d.n):stOf d o:=by
 refine ⟨Classical.byContradiction fun hk=> ?_,h1,h2⟩
 have:=(noTgt h hk).1
 omega
theorem st_ahead {A B:List GOp} {d:GOp} (O:OrdOk (A++(d::B))): ∀o∈A,¬stOf d o:=by
 intro o ho ⟨h1,h2,h3⟩
 have ht:=(TgtOk.append.1 O.tgt).1
 have key: ∀ {l P:List GOp},TgtOk P l→o∈l→ ∃p,(p∈P∨p∈l)∧p.c=d.c∧p.n=d.n:=by
  intro l
  induction l with
  | nil=>intro P _ hm;cases hm
  | cons x l ih=>
   intro P ht hm
   rcases List.mem_cons.1 hm with rfl | hm
   ·obtain ⟨p,p1,p2,p3,_⟩:=ht.1 h1
    exact ⟨p, .inl p1,by rw [p2,h2],by rw [p3,h3]⟩
   ·obtain ⟨p,p1,p2⟩:=ih ht.2 hm
    rcases p1 with p1 | p1
    ·rcases List.mem_append.1 p1 with p1 | p1
     ·exact ⟨p, .inl p1,p2⟩
     ·exact ⟨p, .inr (by rw [List.mem_singleton.1 p1];exact List.mem_cons_self),p2⟩
    ·exact ⟨p, .inr (List.mem_cons_of_mem _ p1),p2⟩
 obtain ⟨p,p1 | p1,p2,p3⟩:=key ht ho
 ·cases p1
 ·have hn:=O.ids
  rw [List.map_append,List.nodup_append] at hn
  exact hn.2.2 _ (List.mem_map.2 ⟨p,p1,V⟩) _ (List.mem_map.2 ⟨d,List.mem_cons_self,V⟩) (by rw [p2,p3])
theorem erase_ids {A B M:List GOp} {d:GOp} (O:OrdOk (A++(d::B))) (hd4:d.kind≠4) (h:Er d (insRow d (rowN [] A)) (rowN [] A) B M) (hr: ∀o∈A++M,∃w,Right w o): ∀o∈A++M,(o.c==d.c && o.n==d.n)=false∧(o.tc==d.c && o.tn==d.n)=false:=by
 intro o ho
 have hdc:=EJ (O.idr d (List.mem_append_right _ List.mem_cons_self))
 constructor
 ·rw [←Bool.not_eq_true,Bool.and_eq_true,beq_iff_eq,beq_iff_eq]
  rintro ⟨h1,h2⟩
  have hn:=O.ids
  rw [List.map_append,List.map_cons,List.nodup_append,List.nodup_cons] at hn
  rcases List.mem_append.1 ho with ho | ho
  ·exact hn.2.2 _ (List.mem_map.2 ⟨o,ho,V⟩) _ List.mem_cons_self (by rw [h1,h2])
  ·exact hn.2.1.1 (h.subids.subset (List.mem_map.2 ⟨o,ho,by rw [h1,h2]⟩))
 ·rw [←Bool.not_eq_true,Bool.and_eq_true,beq_iff_eq,beq_iff_eq]
  rintro ⟨h1,h2⟩
  obtain ⟨w,hw⟩:=hr o ho
  have hs:=tgt_st hw hdc.1 h1 h2
  rcases List.mem_append.1 ho with ho | ho
  ·exact st_ahead O o ho hs
  ·exact h.noSt o ho hs
structure NvI (L:List GOp) (k:Nat) (H1:Hist) (X1:List Ce) (L1:List MR) (t1:Tr):Prop where
 le:k≤L.length
 di:DI k H1 X1
 ops:H1.ops=L.take k
 hr:HR H1 L1
 wt:Wf t1
 hX:t1.row=X1
theorem NvI.zero (L:List GOp):NvI L 0 ⟨[],0⟩ [] [] .nil:=⟨Nat.zero_le _,DI.zero,rfl,HR.zero,wnilT,rfl⟩
theorem NvI.next {L:List GOp} (O:OrdOk L) (hn:L.length<900) {k:Nat} {H1:Hist} {X1:List Ce} {L1:List MR} {t1:Tr} (h1:NvI L k H1 X1 L1 t1) (hk:k<L.length):
  ∃H2 eff,TkD H1 X1 k k L[k] H2 eff∧ ∀(L2:List MR) (t2:Tr),HR H2 L2→Wf t2→t2.row=JX eff X1→NvI L (k+1) H2 (JX eff X1) L2 t2:=by
 have g:=O.next h1.di.made (by omega) h1.ops (List.getElem?_eq_getElem hk)
 have hl1:H1.ops.length=k:=by rw [h1.ops,List.length_take];omega
 have ho:=h1.di.made.ops (by omega) g
 rw [List.take_of_length_le (by omega),List.drop_eq_nil_of_le (by omega),G4,h1.ops] at ho
 obtain ⟨H2,eff,T⟩:=h1.di.take g
 have e1:(putF H1 k L[k]).1=H2:=by rw [T.put]
 rw [e1] at ho
 exact ⟨H2,eff,T,fun L2 t2 a b c=>⟨by omega,T.next (by omega),by rw [ho,List.take_succ_eq_append_getElem hk];rfl,a,b,c⟩⟩
structure ErD (D:DS) (k:Nat) (A B:List GOp) (d:GOp):Prop where
 ab:D.H.ops=A++(d::B)
 al:A.length=k
 od:OrdOk D.H.ops
theorem er_d {D:DS} (hv:DV D) {k:Nat} (hk:k<D.H.ents.length):ErD D k (D.H.ops.take k) (D.H.ops.drop (k+1)) D.H.ents[k].op:=by
 have ho:=Ky D.H
 have hl:=hv.di.le
 have e:D.H.ops[k]'(by omega)=D.H.ents[k].op:=by simp [Hist.ops]
 refine ⟨?_,by rw [List.length_take];omega,hv.di.made.ord (by omega)⟩
 rw [←e,←List.drop_eq_getElem_cons (by omega),List.take_append_drop]
theorem er_off {D:DS} (hv:DV D) {k:Nat} (hk:k<D.H.ents.length) (hf:D.H.ents[k].off=true):lastOff D.H.ents[k].op.c D.H.ents[k].op.n false D.H.ops=true:=by
 have hl:=hv.di.le
 have ho:=(hv.di.made.ci (by omega)).off _ (List.getElem_mem hk)
 rw [←ho];exact hf
theorem er_ids {D:DS} {k:Nat} {A B M:List GOp} {d:GOp} (h:ErD D k A B d) (hd4:d.kind≠4) (hE:Er d (insRow d (rowN [] A)) (rowN [] A) B M):OrdOk (A++M)∧(∀o∈A++M,(o.c==d.c && o.n==d.n)=false∧(o.tc==d.c && o.tn==d.n)=false)∧(A++M).length<D.H.ops.length:=by
 have O:OrdOk (A++(d::B)):=h.ab ▸ h.od
 have O2:=hE.ord O hd4
 have hst:=hE.stN
 refine ⟨O2,erase_ids O hd4 hE (fun o ho=>by obtain ⟨w,_,hw⟩:=O2.right ho;exact ⟨w,hw⟩),?_⟩
 rw [h.ab,List.length_append,List.length_append,List.length_cons];omega
theorem er_vis {D:DS} (hv:DV D) {k:Nat} (hk:k<D.H.ents.length) {A B M:List GOp} {d:GOp} (h:ErD D k A B d) (hd:D.H.ents[k].op=d) (hd4:d.kind≠4) (hf:D.H.ents[k].off=true) (hE:Er d (insRow d (rowN [] A)) (rowN [] A) B M) {q:Nat} {H1:Hist} {X1:List Ce} {L1:List MR} {t1:Tr} (h1:NvI (A++M) q H1 X1 L1 t1) (hq:(A++M).length≤q):textF t1.row=textF D.X:=by
 have hl:=hv.di.le
 have hl1:=h1.di.le
 have e:=h1.ops
 rw [List.take_of_length_le hq] at e
 have ho:=er_off hv hk hf
 rw [hd] at ho
 have:=erase_text hv.di.made (by omega) h1.di.made (by omega) h.ab e hE hd4 ho
 unfold textF vbs
 rw [h1.hX,this]
theorem turn_w (M:DM) (D:DS) (ok:DkOk M D) (hv:DV D) (q:Nat) (hb:BdN (q+1) D) (k:Nat) (hk:k<D.H.ents.length) (e:Ent) (he:D.H.ents[k] =e) (hk4:e.op.kind≠4) (on:Bool) (hon:e.off=on):Sp Tryz.prog 13 [.pointer (some ⟨M.d,0,none⟩), .agg #[.int .i64 e.op.c, .int .i64 e.op.n], .bool on] (KH M D) (barF::KY M D) (fun v Lo fs=> ∃(M2:DM) (D2:DS),TnI D D2 k e∧BdN q D2∧M2.d=M.d∧DkOk M2 D2∧v= .tuple #[opV (statO D (e.op.c,e.op.n) e.off) none 0, .nilIface] ∧Lo=KH M2 D2∧fs=KY M2 D2):=by
 subst hon;exact turn_v M D ok hv q hb k hk e he hk4
theorem Jau (nd:Int) (B1:Option Addr) (cb:Nat) (acts:List GAct) (pick:Int):Sp Tryz.prog 3 [.agg #[.int .i64 nd, .slice B1 acts.length cb], .int .i64 pick] [] [barF,wordsF,RdF actD B1 cb acts] (Is (.bool true)):=by
 refine Sp.of (n:=167) ⟨_,Tryz.func3,V,V,V,V⟩ (Nat.le_of_ble_eq_true V) fun Ps As=>Jc (Ja (Jg V (J3 (cs:= [_,_]) V V (by decide) fun b2=>Lq (Jd V) (Je (Jf (Jc (Ja (Lq (Jh (o':=0) Un24 V ti3 V V) (Lq (Jk Un3 V V Jn V) (Jg V (Jm (Jbs nd) (.n1 V) (by decide) Jx fun _ _ _ q9=>?_)))))))))))
 obtain ⟨Rs,A1,c1,hR,rfl,rfl,rfl⟩:=q9
 refine Lq (Jd V) (Je (Jf (Jc (Jc ?_))))
 have hl0:0<Rs.length:=by have:=hR.len;omega
 refine Kd (k:=0) Mm0 (by rw [List.getElem?_map,List.getElem?_eq_getElem hl0];rfl) (pt_open _) fun b2 q2 y2 e2=> ?_
 cases e2
 refine Ja (Lq (Jb V) (Lq (Jat Un25 V) (Lq (Jb V) (KD V V V V (Jm (Ja7) .nil (by decide) (Jl Mm3 Jx) fun _ _ _ q9=>?_)))))
 obtain ⟨rfl,rfl,rfl⟩:=q9
 refine Lg V V V V (KU V) (Lq (JL V V V) (Je (Jf (Ju V V (Jo (Jf (Jc (Ja (Lq (Jb V) (Lq (Jh (o':=1) Un24 V Jcd V V) (Lq (Jk Un22 V V (Jj (Jn)) V) (Jg V (JU (Jax Rs [] hR (some ⟨b2,q2,none⟩) c1 acts B1 cb) (.n2 V V) (by decide) .z (Jl Mm3 (Jl Mm4 (Jl Mm2 (Jl Mm1 (Jl Mm5 Jx))))) fun _ _ _ q9=>?_)))))))))))))
 obtain ⟨Rs2,G2,hR2,hm2,rfl,rfl,rfl⟩:=q9
 refine Lq (Jd V) (Je (Jf (Jc (Jc (Ja (Lq (Jb V) (Lq (KU V) (Je (Jf (Ju V V (Jo (Jf (Jc ?_)))))))))))))
 obtain ⟨M0,D0,T0,rfl⟩:=hR2.hd
 refine Kd (k:=0) Mm2 (show _=some M0.d by rw [←hm2];rfl) (pt_open _) fun b7 q7 y7 e7=> ?_
 cases e7
 refine JC .z (Zf Mm1 ?_)
 have ok0:DkOk M0 D0:=hR2.ok _ List.mem_cons_self
 have hv0:DV D0:=hR2.dv _ List.mem_cons_self
 have hb0:BdN 2 D0:=hR2.bdn (by decide) List.mem_cons_self 2 (by decide)
 have hbn:=hb0.n
 have hbm:=hb0.m
 have hxl:=ok0.xl
 clear hm2
 refine Ja (Lq (Jb V) (Lq (J0 Un25 E3 V V (by omega) (by omega)) (Lq (Kk (j:=0) Un29 V V Mm3 V V) (Lq (Jd V) (Je (Jf (Jc (Jc (Ja (Lq (Jb V) (Lq (JE V) (Lq (Jh (o':=_+0) Un40 V YF V V) (Jg V (KE (Vc M0.d M0.h M0.m M0.b D0.H.ops.length M0.cap _ _ M0.A D0.H.total) (.n1 V) (by decide) .z .z Jx fun _ _ _ q9=>?_))))))))))))))
 obtain ⟨rfl,rfl,rfl⟩:=q9
 refine Lq (Kb V V) (Je (Jf (Jz V (fun h42=> ?_) (fun h42=> ?_))))
 ·refine Jc (Ja (Lq (Jb V) (Lq (JE V) (Lq (Jh (o':=_+0) Un40 V YF V V) (Jg V (KE (Vx M0.d M0.h M0.b _ _ M0.B M0.t ok0.wt (by have:=ok0.tl;omega)) (.n1 V) (by decide) .z .z3 (Jl Mm2 Jx) fun _ _ _ q9=>?_))))))
  obtain ⟨rfl,rfl,rfl⟩:=q9
  rw [ok0.row,HZ hv0 (by have h:=h42;simpa using h)]
  refine Lq (Gm V V) (Lq (Jd V) (Je (Jf (Jp (Jt ?_)))))
  refine ⟨_,[],[],fun Z w hs=> .tmp V .nil,?_,fun Z w hs=>hs.out (Sd9 (Sr)) Tt8⟩
  first | exact ⟨rfl,rfl,rfl⟩ | exact ⟨congrArg Value.bool (str_beq.2 rfl),rfl,rfl⟩ | exact ⟨congrArg Value.bool (decide_eq_true (by omega)),rfl,rfl⟩
 ·refine Jo (Jf ?_)
  refine VW (α:=Nat×Ent×Nat×Option Addr×Nat)
   (fun (k,e,b8,Ae,ce)=> [(7, .pointer (some ⟨M0.d,0,none⟩)),(8, .pointer (some ⟨b8,0,none⟩)),(9, .nilIface)])
   (fun (k,e,b8,Ae,ce)=>(dkB M0 D0::hdP M0.h M0.A D0.H.ops.length M0.cap M0.m D0.H.total::mpP M0.m M0.L::mkP M0.L::rpP M0.b M0.B::stP M0.s M0.vu M0.vr::M0.pu::M0.pr:: [(b8,JB (enC (entE e) Ae ce) 47)] ::Ps))
   (fun (k,e,b8,Ae,ce)=>(RdF opD M0.A M0.cap D0.H.ops::AllF M0.L nowF::TrF M0.B M0.t::barF::wordsF::RdF actD B1 cb acts::As))
   (fun (k,e,b8,Ae,ce)=>k<D0.H.ops.length∧ ∃h:k<D0.H.ents.length,D0.H.ents[k] =e) ?_ ?_
  ·refine JI _ _ [14] (.c 0 0 (.c 1 0 (.c 2 0 (.c 3 0 (.c 4 0 (.c 5 0 (.c 6 0 (.b (.c 7 2 (.b (.c 8 2 (.b (.c 9 2 (.c 10 0 (.c 11 0 (.c 12 1 (.c 13 2 (.c 14 3 (.c 15 1 .nil))))))) (.c 13 2 (.c 9 2 (.c 10 0 (.c 11 0 (.c 12 1 (.c 14 3 (.c 15 1 .nil))))))))) (.c 13 2 (.c 8 2 (.c 9 2 (.c 10 0 (.c 11 0 (.c 12 1 (.c 14 3 (.c 15 1 .nil)))))))))) (.c 13 2 (.c 7 2 (.c 8 2 (.c 9 2 (.c 10 0 (.c 11 0 (.c 12 1 (.c 14 3 (.c 15 1 .nil))))))))))))))))) mixed (fun _ _ _ _ h=>h) (Sd4 (Sk5 (Sr))) (fun _ h=>h) (by kernel_rfl) (by decide) fun ws Z0=>Qe V (Jb V) (Qe V (JE V) (Qe V (Jh (o':=_+0) Un40 V YF V V) (Qe V (Jb V) ?_)))
   refine Qe V (Jb V) (Qe V (JE V) (Qe V (Jh (o':=_+0) Un40 V YF V V) (K7 ?_ ?_)))
   ·refine Jy V V (KE (Vc M0.d M0.h M0.m M0.b D0.H.ops.length M0.cap _ _ M0.A D0.H.total) (.n1 V) (by decide) .z .z Jx fun _ _ _ q9=>?_)
    obtain ⟨rfl,rfl,rfl⟩:=q9
    refine ⟨⟨(Sd4 (Sk5 (Sr))),Mm0⟩,?_⟩
    refine K7 ?_ ?_
    ·refine Jy V V (Jm (KZ pick D0.H.ops.length (by have h:=h42;simp only [beq_eq_false_iff_ne,ne_eq] at h;omega)) (.n2 V V) (by decide) Jx fun _ _ _ q9=>?_)
     obtain ⟨k,hk,_,rfl,rfl,rfl⟩:=q9
     have hk2:k<D0.H.ents.length:=by rw [←Ky];exact hk
     have hwh:=Yg hv0.di.hv.ids hk2
     obtain ⟨e,he⟩: ∃z,D0.H.ents[k] =z:=⟨_,rfl⟩
     rw [he] at hwh
     refine ⟨⟨(Sd4 (Sk5 (Sr))),Mm0⟩,?_⟩
     refine K7 ?_ ?_
     ·refine Jy V V (J9 (VQ M0.d M0.b _ _ M0.h M0.m M0.cap M0.A D0.H M0.L ok0.hr k hk2) (.n2 V V) (by decide) (.n4 .z .z .z .z) (Jl Mm1 (Jl Mm2 Jx)) fun _ _ _ q9=>?_)
      obtain ⟨Ae,ce,rfl,rfl,rfl⟩:=q9
      rw [he]
      refine ⟨⟨(Sd4 (Sk5 (Sr))),Mm1⟩,?_⟩
      refine Qe V (Jb V) (Qe V (Ji (vs:= [_,_]) V V) (YY V (Ji (vs:= [_,_]) V V) (by decide) (Jy V V (Jw (cs:= [_,_,_,_,_,_,_]) YW V (by decide) fun b8=> ?_))))
      refine ⟨⟨(Sd5 (Sk5 (Sr))),Mm1⟩,?_⟩
      refine JK (Ka V V (Jq (cs':= [_,_,_,_,_,_,_]) (vs:= [_,_,_,_,_,_,_]) YW V V V V V (Nat.le_of_ble_eq_true V) .z (YL V (Jd V) (by decide) (Ks .z (Ks .z8 (Ks .z8 (Ks .z8 (Ks .z8 (Ks .z8 (Ks .z8 (Ks .z8 ?_)))))))))))
      refine Ks .z8 (JJ (Ko ?_))
      refine ⟨(k,e,b8,Ae,ce),?_,(.m3 V V V),(Sk9 (Sd (Sr))),(Jl Mm2 (Jl Mm3 (Jl Mm4 Tt10)))⟩
      exact ⟨hk,hk2,he⟩
     ·refine Jy V V (Jw (cs:= [_,_,_,_,_,_,_]) YW V (by decide) fun b8=> ?_)
      refine ⟨⟨(Sd5 (Sk5 (Sr))),Mm0⟩,?_⟩
      refine Jy V V (J9 (VQ M0.d M0.b _ _ M0.h M0.m M0.cap M0.A D0.H M0.L ok0.hr k hk2) (.n2 V V) (by decide) (.n4 .z1 .z1 .z1 .z1) (Jl Mm1 (Jl Mm2 Jx)) fun _ _ _ q9=>?_)
      obtain ⟨Ae,ce,rfl,rfl,rfl⟩:=q9
      rw [he]
      refine ⟨⟨(Sd5 (Sk5 (Sr))),Mm1⟩,?_⟩
      refine Qe V (Jb V) (Qe V (Ji (vs:= [_,_]) V V) (YY V (Ji (vs:= [_,_]) V V) (by decide) (JK (Ka V V (Jq (cs':= [_,_,_,_,_,_,_]) (vs:= [_,_,_,_,_,_,_]) YW V V V V V (Nat.le_of_ble_eq_true V) .z4 (YL V (Jd V) (by decide) (Ks .z4 (Ks .z8 (Ks .z8 (Ks .z8 (Ks .z8 ?_)))))))))))
      refine Ks .z8 (Ks .z8 (Ks .z8 (Ks .z8 (JJ (Ko ?_)))))
      refine ⟨(k,e,b8,Ae,ce),?_,(.m3 V V V),(Sk9 (Sd (Sr))),(Jl Mm2 (Jl Mm3 (Jl Mm4 Tt10)))⟩
      exact ⟨hk,hk2,he⟩
    ·refine Jy V V (Jw (cs:= [_,_,_,_,_,_,_]) YW V (by decide) fun b8=> ?_)
     refine ⟨⟨(Sd5 (Sk5 (Sr))),Mm0⟩,?_⟩
     refine Jy V V (Jm (KZ pick D0.H.ops.length (by have h:=h42;simp only [beq_eq_false_iff_ne,ne_eq] at h;omega)) (.n2 V V) (by decide) Jx fun _ _ _ q9=>?_)
     obtain ⟨k,hk,_,rfl,rfl,rfl⟩:=q9
     have hk2:k<D0.H.ents.length:=by rw [←Ky];exact hk
     have hwh:=Yg hv0.di.hv.ids hk2
     obtain ⟨e,he⟩: ∃z,D0.H.ents[k] =z:=⟨_,rfl⟩
     rw [he] at hwh
     refine ⟨⟨(Sd5 (Sk5 (Sr))),Mm0⟩,?_⟩
     refine Jy V V (J9 (VQ M0.d M0.b _ _ M0.h M0.m M0.cap M0.A D0.H M0.L ok0.hr k hk2) (.n2 V V) (by decide) (.n4 .z1 .z1 .z1 .z1) (Jl Mm1 (Jl Mm2 Jx)) fun _ _ _ q9=>?_)
     obtain ⟨Ae,ce,rfl,rfl,rfl⟩:=q9
     rw [he]
     refine ⟨⟨(Sd5 (Sk5 (Sr))),Mm1⟩,?_⟩
     refine Qe V (Jb V) (Qe V (Ji (vs:= [_,_]) V V) (YY V (Ji (vs:= [_,_]) V V) (by decide) (JK (Ka V V (Jq (cs':= [_,_,_,_,_,_,_]) (vs:= [_,_,_,_,_,_,_]) YW V V V V V (Nat.le_of_ble_eq_true V) .z4 (YL V (Jd V) (by decide) (Ks .z4 (Ks .z8 (Ks .z8 (Ks .z8 (Ks .z8 ?_)))))))))))
     refine Ks .z8 (Ks .z8 (Ks .z8 (Ks .z8 (JJ (Ko ?_)))))
     refine ⟨(k,e,b8,Ae,ce),?_,(.m3 V V V),(Sk9 (Sd (Sr))),(Jl Mm2 (Jl Mm3 (Jl Mm4 Tt10)))⟩
     exact ⟨hk,hk2,he⟩
   ·refine Jy V V (Jw (cs:= [_,_,_,_,_,_,_]) YW V (by decide) fun b8=> ?_)
    refine ⟨⟨(Sd5 (Sk5 (Sr))),Mm0⟩,?_⟩
    refine Jy V V (KE (Vc M0.d M0.h M0.m M0.b D0.H.ops.length M0.cap _ _ M0.A D0.H.total) (.n1 V) (by decide) .z1 .z1 Jx fun _ _ _ q9=>?_)
    obtain ⟨rfl,rfl,rfl⟩:=q9
    refine ⟨⟨(Sd5 (Sk5 (Sr))),Mm0⟩,?_⟩
    refine Jy V V (Jm (KZ pick D0.H.ops.length (by have h:=h42;simp only [beq_eq_false_iff_ne,ne_eq] at h;omega)) (.n2 V V) (by decide) Jx fun _ _ _ q9=>?_)
    obtain ⟨k,hk,_,rfl,rfl,rfl⟩:=q9
    have hk2:k<D0.H.ents.length:=by rw [←Ky];exact hk
    have hwh:=Yg hv0.di.hv.ids hk2
    obtain ⟨e,he⟩: ∃z,D0.H.ents[k] =z:=⟨_,rfl⟩
    rw [he] at hwh
    refine ⟨⟨(Sd5 (Sk5 (Sr))),Mm0⟩,?_⟩
    refine Jy V V (J9 (VQ M0.d M0.b _ _ M0.h M0.m M0.cap M0.A D0.H M0.L ok0.hr k hk2) (.n2 V V) (by decide) (.n4 .z .z .z1 .z1) (Jl Mm1 (Jl Mm2 Jx)) fun _ _ _ q9=>?_)
    obtain ⟨Ae,ce,rfl,rfl,rfl⟩:=q9
    rw [he]
    refine ⟨⟨(Sd5 (Sk5 (Sr))),Mm1⟩,?_⟩
    refine Qe V (Jb V) (Qe V (Ji (vs:= [_,_]) V V) (YY V (Ji (vs:= [_,_]) V V) (by decide) (JK (Ka V V (Jq (cs':= [_,_,_,_,_,_,_]) (vs:= [_,_,_,_,_,_,_]) YW V V V V V (Nat.le_of_ble_eq_true V) .z4 (YL V (Jd V) (by decide) (Ks .z4 (Ks .z8 (Ks .z8 (Ks .z8 (Ks .z8 ?_)))))))))))
    refine Ks .z8 (Ks .z8 (Ks .z8 (Ks .z8 (JJ (Ko ?_)))))
    refine ⟨(k,e,b8,Ae,ce),?_,(.m3 V V V),(Sk9 (Sd (Sr))),(Jl Mm2 (Jl Mm3 (Jl Mm4 Tt10)))⟩
    exact ⟨hk,hk2,he⟩
  ·rintro ⟨k,e,b8,Ae,ce⟩ ⟨hk,hk2,he⟩
   dsimp only
   have hk:k<D0.H.ops.length:=hk
   have hwh:=Yg hv0.di.hv.ids hk2
   rw [he] at hwh
   refine Jc (Jc (Ja (Lq (Jb V) (Lq (KW Un49 V) (Je (Jf (Ju V V (Jo (Jf (Jc (Jc ?_)))))))))))
   by_cases h4:e.op.kind=4
   ·rw [entE_st h4]
    dsimp only [enC]
    refine Ja (Lq (Jh (o':=2) Un47 V Yh V V) (Lq (Jk Un44 V V (Jj (Jj (Jj (Jj (Jj (Jj (Jj (Jj (Jn))))))))) V) (Lq (Kb V V) (Je (Jf (JS V V (Jc (JI _ _ [] (.c 0 0 (.c 1 0 (.c 2 0 (.c 3 0 (.c 4 0 (.c 5 2 (.c 6 0 (.c 7 0 (.c 8 0 (.c 9 0 (.c 10 0 .nil))))))))))) mixed (fun _ _ _ _ h=>h) (Sd4 (Sk5 (Sr))) (fun _ h=>h) (by kernel_rfl) (by decide) fun ws Z0=>Qe V (Jb V) (Qe V (JE V) (Qe V (Jh (o':=_+0) Un40 V YF V V) (Qe V (Jh (o':=0) Un47 V JW V V) ?_)))))))))))
    refine Qe V (Js (vs:= [_,_]) Un43 V JW V (Jj (Jj (Jj (Jj (Jn))))) V V) (Jy V V (J9 (rErase_4 M0.d M0.b _ _ M0.h M0.m M0.cap M0.A D0.H M0.L ok0.hr e.op.c e.op.n k hwh (fun x hx=>by rw [List.getElem?_eq_getElem hk2,he] at hx;rw [←Option.some.inj hx];exact h4)) (.n2 V V) (by decide) (.n4 .z .z .z .z) (Jl Mm1 Jx) fun _ _ _ q9=>?_))
    obtain ⟨fp,rfl,rfl,rfl⟩:=q9
    refine ⟨⟨(Sd4 (Sk5 (Sr))),Mm1⟩,?_⟩
    refine Qe V (Jb V) (Qe V (Ji (vs:= [_,_]) V V) (Qe V (Ji (vs:= [_,_]) V V) (Qe V (Jd V) (Qe V (Jd V) (JK (JJ (Jf (Jc (Ja (Lq (Jb V) (Jg V (Jm (told_t fp ⟨#[69,114,97,115,101]⟩ 0 63 (by decide)) (.n4 V V V V) (by decide) (Jl Mm0 Jx) fun _ _ _ q9=>?_))))))))))))
    obtain ⟨rfl,rfl,rfl⟩:=q9
    refine Lq (Jb V) (Lg V V V V (Jb V) (Lg V V V V (J4 Un53 V) (Lg V V V V (Kb V V) (Lq (JO V V V) (Lq (Jd V) (Je (Jf (Jp (Jt ?_)))))))))
    refine ⟨_,[],[],fun Z w hs=> .tmp V .nil,?_,fun Z w hs=>hs.out (Sd9 (Sr)) Tt5⟩
    first | exact ⟨rfl,rfl,rfl⟩ | exact ⟨congrArg Value.bool (str_beq.2 rfl),rfl,rfl⟩ | exact ⟨congrArg Value.bool (decide_eq_true (by omega)),rfl,rfl⟩
   ·rw [entE_ed h4]
    dsimp only [enC]
    refine Ja (Lq (Jh (o':=2) Un47 V Yh V V) (Lq (Jk Un44 V V (Jj (Jj (Jj (Jj (Jj (Jj (Jj (Jj (Jn))))))))) V) (Lq (Kb V V) (Je (Jf (Ju V (by simpa using h4) (Jo (Jf ?_))))))))
    refine VW (α:=DM×DS)
     (fun (M1,D1)=> [(7, .pointer (some ⟨M1.d,0,none⟩)),(8, .pointer (some ⟨b8,0,none⟩))])
     (fun (M1,D1)=>(dkB M1 D1::hdP M1.h M1.A D1.H.ops.length M1.cap M1.m D1.H.total::mpP M1.m M1.L::mkP M1.L::rpP M1.b M1.B::stP M1.s M1.vu M1.vr::M1.pu::M1.pr:: [(b8,JB [.int .i64 e.op.c, .int .i64 e.op.n, .int .i64 e.op.kind, .bool (!e.off), .slice Ae e.now.length ce, .int .i64 0, .int .i64 0] 47)] ::Ps))
     (fun (M1,D1)=>(RdF opD M1.A M1.cap D1.H.ops::AllF M1.L nowF::TrF M1.B M1.t::barF::wordsF::RdF actD B1 cb acts::As))
     (fun (M1,D1)=>DkOk M1 D1∧DV D1∧D1.H.ops.length≤800∧ ∃h:k<D1.H.ents.length,D1.H.ents[k] =offE e true) ?_ ?_
    ·refine Jc (JC .z8 (JC .z8 (JC .z8 (JC .z8 (JC .z8 (JC .z8 (JC .z8 (JC .z8 (JC .z8 ?_)))))))))
     refine Ja (Lq (Jh (o':=3) Un47 V ti4 V V) (Lq (Jk Un4 V V (Jj (Jj (Jj (Jj (Jj (Jj (Jj (Jj (Jn))))))))) V) (Je (Jf (Jz V (fun h83=> ?_) (fun h83=> ?_))))))
     ·refine Jc (Ja (Lq (Jb V) (Lq (Jh (o':=0) Un47 V JW V V) (Lq (Js (vs:= [_,_]) Un43 V JW V (Jj (Jj (Jj (Jj (Jj (Jj (Jj (Jj (Jn))))))))) V V) ?_))))
      have hof:e.off=false:=by have h:=h83;simpa using h
      refine Jg V (J9 (turn_w M0 D0 ok0 hv0 1 hb0 k hk2 e he h4 false hof) (.n3 V V V) (by decide) (.n8 .z .z .z .z .z .z .z .z) (Jl Mm3 (Jl Mm0 (Jl Mm1 (Jl Mm2 Jx)))) fun _ _ _ q9=>?_)
      obtain ⟨M1,D1,hI1,hb1,hd1,ok1,rfl,rfl,rfl⟩:=q9
      rw [←hd1]
      refine Lq (Jb V) (Lq (Ji (vs:= [_,_]) V V) (Lq (Ji (vs:= [_,_]) V V) (Jg V (Jw (cs:= [_,_,_,_,_,_,_,_,_]) JA V (by decide) fun b12=>Jg V (Jq (cs':= [_,_,_,_,_,_,_,_,_]) (vs:= [_,_,_,_,_,_,_,_,_]) JA V V V V V (Nat.le_of_ble_eq_true V) .z (Lq (Jd V) (Je (Jf (Jc (Ja (Lq (Jb V) (Lq (KW Un49 V) (Je (Jf (Ju V V (Jo (Ko ?_)))))))))))))))))
      refine ⟨(M1,D1),?_,(.m2 V V),(Sd (Sk9 (Sr))),(Jl Mm0 (Jl Mm1 (Jl Mm2 Tt6)))⟩
      refine ⟨ok1,hI1.dv,by show _≤800;have:=hb1.n;omega,hI1.hk,?_⟩
      rw [hI1.en,hof];rfl
     ·refine Jo (Ko ?_)
      refine ⟨(M0,D0),?_,(.m2 V V),(Sk9 (Sr)),(fun _ h=>h)⟩
      refine ⟨ok0,hv0,by show _≤800;omega,hk2,?_⟩
      rw [he]
      have hof:e.off=true:=by have h:=h83;simpa using h
      obtain ⟨eo,en,eb⟩:=e
      rw [show eb=true from hof];rfl
    ·rintro ⟨M1,D1⟩ ⟨ok1,hv1,hn1,hk1,hen1⟩
     dsimp only
     have ok1:DkOk M1 D1:=ok1
     have hv1:DV D1:=hv1
     have hn1:D1.H.ops.length≤800:=hn1
     have hw1:=Yg hv1.di.hv.ids hk1
     rw [hen1] at hw1
     obtain ⟨A0,hA0⟩: ∃z,z=D1.H.ops.take k:=⟨_,rfl⟩
     obtain ⟨Bs,hBs⟩: ∃z,z=D1.H.ops.drop (k+1):=⟨_,rfl⟩
     have hD:ErD D1 k A0 Bs e.op:=by have h:=er_d hv1 hk1;rw [hen1,←hA0,←hBs] at h;exact h
     have hk41: ∀x,D1.H.ents[k]? =some x→x.op.kind≠4:=fun x hx=>by rw [List.getElem?_eq_getElem hk1,hen1] at hx;rw [←Option.some.inj hx];exact h4
     have hoe1:=Ky D1.H
     have hx1:=ok1.xl
     refine Jc (JI _ _ [] (.c 0 0 (.c 1 0 (.c 2 0 (.c 3 0 (.c 4 0 (.c 5 2 (.c 6 0 (.c 7 0 (.c 8 0 (.c 9 0 (.c 10 0 .nil))))))))))) mixed (fun _ _ _ _ h=>h) (Sd4 (Sk5 (Sr))) (fun _ h=>h) (by kernel_rfl) (by decide) fun ws Z0=>Qe V (Jb V) (Qe V (JE V) (Qe V (Jh (o':=_+0) Un40 V YF V V) (Qe V (Jh (o':=0) Un47 V JW V V) (Qe V (Js (vs:= [_,_]) Un43 V JW V (Jj (Jj (Jj (Jj (Jn))))) V V) ?_)))))
     refine Jy V V (J9 (rErase_p M1.d M1.b _ _ M1.h M1.m M1.cap M1.A D1.H M1.L ok1.hr e.op.c e.op.n k hw1 hk41 hD.od A0 Bs e.op hD.ab hD.al (by omega)) (.n2 V V) (by decide) (.n4 .z .z .z .z) (Jl Mm4 (Jl Mm1 Jx)) fun _ _ _ q9=>?_)
     obtain ⟨rfl,⟨hd1,fp,rfl,rfl⟩ | ⟨Mm,A7,c7,rfl,hEr,rfl⟩⟩:=q9
     ·refine ⟨⟨(Sd4 (Sk5 (Sr))),Mm1⟩,?_⟩
      refine Qe V (Jb V) (Qe V (Ji (vs:= [_,_]) V V) (Qe V (Ji (vs:= [_,_]) V V) (Qe V (Jd V) (Qe V (Jd V) (JK (JJ (Jf (Jc (Jc (Ja (Lq (Jb V) (Lq (Ql Un49 V V) (Je (Jf (JS V V (Jc (Ja ?_)))))))))))))))))
      refine Lq (Jh (o':=2) Un47 V Yh V V) (Lq (Jk Un44 V V (Jj (Jj (Jj (Jj (Jj (Jj (Jj (Jj (Jn))))))))) V) (Lq (Kb V V) (Lq (Jb V) (Lg V V V (by rw [hd1];rfl) (Jb V) (KD V V V (by rw [hd1];rfl) (Jm (told_t fp ⟨#[69,114,97,115,101]⟩ 0 23 (by decide)) (.n4 V V V V) (by decide) (Jl Mm0 Jx) fun _ _ _ q9=>?_))))))
      obtain ⟨rfl,rfl,rfl⟩:=q9
      refine Lq (JO V (by rw [hd1];rfl) V) (Lq (Jd V) (Je (Jf (Jp (Jt ?_)))))
      refine ⟨_,[],[],fun Z w hs=> .tmp V .nil,?_,fun Z w hs=>hs.out (Sd9 (Sr)) Tt5⟩
      first | exact ⟨rfl,rfl,rfl⟩ | exact ⟨congrArg Value.bool (str_beq.2 rfl),rfl,rfl⟩ | exact ⟨congrArg Value.bool (decide_eq_true (by omega)),rfl,rfl⟩
     ·refine ⟨⟨(Sd4 (Sk5 (Sr))),Mm1⟩,?_⟩
      refine Qe V (Jb V) (Qe V (Ji (vs:= [_,_]) V V) (Qe V (Ji (vs:= [_,_]) V V) (Qe V (Jd V) (Qe V (Jd V) (JK (JJ (Jf (Jc (Jc (Ja (Lq (Jb V) (Lq (KW Un49 V) (Je (Jf (Ju V V (Jo (Jf (Jc ?_))))))))))))))))))
      obtain ⟨ML,hML⟩: ∃z,z=A0++Mm:=⟨_,rfl⟩
      rw [←hML]
      have hids:=er_ids hD h4 hEr
      rw [←hML] at hids
      obtain ⟨hO2,hids,hmlt⟩:=hids
      refine Ja (Jg V (Jm (EQ) .nil (by decide) Jx fun _ _ _ q9=>?_))
      obtain ⟨d,h,m,b,rfl,rfl,rfl⟩:=q9
      refine Lq (Jd V) (Je (Jf (Jc (Jc (Ja (Lq (Jb V) (Lq (KR Un63 V V (by simp)) (Je (Jf (Ju V (by simp) (Jo (Jf (Jc (Jc (Ja (Lq (Jd V) (Je (Jf (JD (JC .z13 ?_))))))))))))))))))))
      refine JC .z13 (JC .z13 (JC .z13 (JC .z13 (JC .z13 (JC .z13 (JC .z13 (JC .z13 (JC .z13 (JC .z13 ?_)))))))))
      refine JC .z13 (JC .z13 (JC .z13 ?_))
      refine Ke (α:=Nat×Hist×List Ce×List MR×Option Addr×Nat×Option Addr×Tr) (fun (i,H1,X1,L1,C1,cp1,E1,t1)=>ML.length-i)
       (fun (i,H1,X1,L1,C1,cp1,E1,t1)=> [(7, .pointer (some ⟨M1.d,0,none⟩)),(8, .pointer (some ⟨b8,0,none⟩)),(14, .slice A7 ML.length c7),(16, .pointer (some ⟨d,0,none⟩)),(17, .int .i64 i)])
       (fun (i,H1,X1,L1,C1,cp1,E1,t1)=>([(d,JB [.pointer (some ⟨h,0,none⟩), .pointer (some ⟨b,0,none⟩)] 34)] ::hdP h C1 H1.ops.length cp1 m H1.total::mpP m L1::mkP L1::rpP b E1::dkB M1 D1::hdP M1.h M1.A D1.H.ops.length M1.cap M1.m D1.H.total::mpP M1.m M1.L::mkP M1.L::rpP M1.b M1.B::stP M1.s M1.vu M1.vr::M1.pu::M1.pr:: [(b8,JB [.int .i64 e.op.c, .int .i64 e.op.n, .int .i64 e.op.kind, .bool (!e.off), .slice Ae e.now.length ce, .int .i64 0, .int .i64 0] 47)] ::Ps))
       (fun (i,H1,X1,L1,C1,cp1,E1,t1)=>(RdF opD C1 cp1 H1.ops::AllF L1 nowF::TrF E1 t1::RdF opD A7 c7 ML::RdF opD M1.A M1.cap D1.H.ops::AllF M1.L nowF::TrF M1.B M1.t::barF::wordsF::RdF actD B1 cb acts::As))
       (fun (i,H1,X1,L1,C1,cp1,E1,t1)=>NvI ML i H1 X1 L1 t1)
       (0,⟨[],0⟩,[],[],none,0,none, .nil) ?_ (.m5 rfl rfl rfl rfl rfl) (Sk14 (Sr)) (Jl Mm0 (Jl Mm1 (Jl Mm2 (Jl Mm3 Tt5)))) ?_
      ·exact NvI.zero _
      ·rintro ⟨i,H1,X1,L1,C1,cp1,E1,t1⟩ hI
       have hI:NvI ML i H1 X1 L1 t1:=hI
       have hile:=hI.le
       refine Jc (Jc (Ja (Lq (Jb V) (Lq (Jb V) (Lq (J4 Un53 V) (Lq (Km V V) (Je (Jf (Jz V (fun h117=> ?_) (fun h117=> ?_))))))))))
       ·refine Jo (Jf (Jc (JD (Jc (Jc ?_)))))
        have hq:i<ML.length:=by have h:=h117;simp only [decide_eq_true_eq] at h;omega
        obtain ⟨q1,q2⟩:=hids _ (List.getElem_mem hq)
        obtain ⟨H2,eff,hT,hNx⟩:=NvI.next hO2 (by omega) hI hq
        generalize hoo:ML[i] =oo at hT q1 q2
        refine Kd (k:=i) Mm3 (by rw [List.getElem?_eq_getElem hq,hoo]) (op_open _) fun b29 q29 y29 e29=> ?_
        cases e29
        refine JI _ _ [] (.c 0 0 (.c 1 0 (.c 2 0 (.c 3 0 (.c 4 0 (.c 5 0 (.c 6 0 (.c 7 0 (.c 8 0 (.c 9 0 (.c 10 0 (.c 11 0 (.c 12 0 (.c 13 0 (.c 14 0 (.c 15 0 (.c 16 0 (.c 17 0 (.c 18 0 .nil))))))))))))))))))) mixed (fun _ _ _ _ h=>h) (Sk14 (Sr)) (fun _ h=>h) (by kernel_rfl) (by decide) fun ws Z0=>Qe V (Jb V) (Qe V (Jb V) (Qe V (J0 Un53 JA V V (by omega) (by omega)) (Qe V (Jh (o':=_+0) Un60 V KM V V) ?_)))
        refine Qe V (Jh (o':=_+0) Un58 V JW V V) (Qe V (Kg (k:=0) (vs:= [_,_]) Un43 V JW V Mm0 V V V) (Qe V (Jh (o':=0) Un47 V JW V V) (Qe V (Js (vs:= [_,_]) Un43 V JW V (Jj (Jj (Jj (Jj (Jj (Jj (Jj (Jj (Jj (Jj (Jj (Jj (Jj (Jn)))))))))))))) V V) (Qe V (YS V V (eq43 _ _ _ _)) (Qe V (Jb V) (Kj V V V V q1 (Jb V) (by decide) (Kj V V V V q1 (Jb V) (by decide) (Kj V V V V q1 (J0 Un53 JA V V (by omega) (by omega)) (by decide) (Kj V V V V q1 (Jh (o':=_+6) Un60 V JW V V) (by decide) ?_)))))))))
        refine Kj V V V V q1 (Kg (k:=6) (vs:= [_,_]) Un43 V JW V Mm0 V V V) (by decide) (Kj V V V V q1 (Jh (o':=0) Un47 V JW V V) (by decide) (Kj V V V V q1 (Js (vs:= [_,_]) Un43 V JW V (Jj (Jj (Jj (Jj (Jj (Jj (Jj (Jj (Jj (Jj (Jj (Jj (Jj (Jn)))))))))))))) V V) (by decide) (Kj V V V V q1 (YS V V (eq43 _ _ _ _)) (by decide) (Qe V (JL V q1 V) (JK (JJ (Jf (Ju V q2 (Jo (Jf (Jc (Ja (Lq (Jb V) ?_)))))))))))))
        refine Lq (Jb V) (Lq (Jb V) (Lq (Jb V) (Lq (J0 Un53 JA V V (by omega) (by omega)) (Lq (Kg (k:=0) (vs:= [_,_,_,_,_,_,_,_,_]) Un60 V JA V Mm1 V V V) (Jg V (J9 (Xr d h m b [] 34 H1 L1 C1 cp1 E1 t1 i X1 i oo y29.1 y29.2 H2 eff hI.hr hI.wt hI.hX hI.di hT) (.n3 V V V) (by decide) (.n5 .z .z .z .z .z) (Jl Mm10 (Jl Mm3 (Jl Mm4 (Jl Mm5 (Jl Mm2 Jx))))) fun _ _ _ q9=>?_))))))
        obtain ⟨L2,C2,cp2,E2,t2,Ax,cx,rfl,hr2,wt2,hX2,rfl,rfl⟩:=q9
        refine Lq (Jb V) (Lq (Ji (vs:= [_,_]) V V) (Lq (Ji (vs:= [_,_]) V V) (Jg V (Jw (cs:= [_,_,_,_,_,_,_,_,_]) JA V (by decide) fun b18=>Jg V (Jq (cs':= [_,_,_,_,_,_,_,_,_]) (vs:= [_,_,_,_,_,_,_,_,_]) JA V V V V V (Nat.le_of_ble_eq_true V) .z (Lq (Jd V) (Je (Jf (Jc (Ja (Lq (Jb V) (Lq (KW Un49 V) (Je (Jf (Ju V V (Jo (J7 (Jf (Ja ?_)))))))))))))))))))
        refine Lq (Jb V) (Lq (JQ V V (wr64 (by omega)) (c:=((i+1:Nat):Int))) (Lq (Jd V) (Je (Ko ?_))))
        refine ⟨(i+1,H2,JX eff X1,L2,C2,cp2,E2,t2),?_,(.m5 V V V V V),(Sd (Sk14 (Sr))),(Jl Mm1 (Jl Mm2 (Jl Mm3 Tt10)))⟩
        exact ⟨by show _-(i+1)<_-i;omega,hNx L2 t2 hr2 wt2 hX2⟩
       ·refine Kh (JH (JH (J6 (Jf (Jc ?_)))))
        have hqn:ML.length≤i:=by have h:=h117;simp only [decide_eq_false_iff_not] at h;omega
        have hvis:textF t1.row=textF D1.X:=er_vis hv1 hk1 hD (by rw [hen1];rfl) h4 (by rw [hen1];rfl) hEr (hML ▸ hI) (hML ▸ hqn)
        have hXl:t1.row.length≤60000:=by rw [hI.hX];have h1:=hI.di.row;have h2:=hI.di.tot0;omega
        refine JI _ _ [] (.c 0 0 (.c 2 0 (.c 3 0 (.c 4 0 (.c 1 2 (.c 5 2 (.c 6 0 (.c 7 0 (.c 8 0 (.c 9 0 (.c 10 0 (.c 11 0 (.c 12 0 (.c 13 2 (.c 14 0 (.c 15 0 (.c 16 0 .nil))))))))))))))))) mixed (fun _ _ _ _ h=>h) (Sd (Sk3 (Sd3 (Sk2 (Sd (Sk (Sk (Sk (Sk (Sr)))))))))) (fun _ h=>h) (by kernel_rfl) (by decide) fun ws Z0=>Qe V (Jb V) (Qe V (Jb V) (Qe V (JE V) (Qe V (Jh (o':=_+0) Un40 V YF V V) ?_)))
        refine Jy V V (KE (Vx d h b [] 34 E1 t1 hI.wt (by omega)) (.n1 V) (by decide) .z .z3 (Jl Mm3 Jx) fun _ _ _ q9=>?_)
        obtain ⟨rfl,rfl,rfl⟩:=q9
        rw [hvis]
        refine ⟨⟨(Sd2 (Sk3 (Sd2 (Sk2 (Sd (Sk (Sk (Sk (Sk (Sr)))))))))),Mm0⟩,?_⟩
        refine Jy V V (KE (Vx M1.d M1.h M1.b _ _ M1.B M1.t ok1.wt (by have:=ok1.tl;omega)) (.n1 V) (by decide) .z5 .z8 (Jl Mm7 Jx) fun _ _ _ q9=>?_)
        obtain ⟨rfl,rfl,rfl⟩:=q9
        rw [ok1.row]
        refine ⟨⟨(Sd4 (Sk3 (Sd (Sk6 (Sr))))),Mm0⟩,?_⟩
        refine Qe V (Gm V V) (Qe V (Jb V) (Kj V V V V (str_beq.2 V) (Jb V) (by decide) (Kj V V V V (str_beq.2 V) (J4 Un53 V) (by decide) (Kj V V V V (str_beq.2 V) (Jb V) (by decide) (Kj V V V V (str_beq.2 V) (JE V) (by decide) (Kj V V V V (str_beq.2 V) (Jh (o':=_+0) Un40 V YF V V) (by decide) (Qh V V V V V (str_beq.2 V) (KE (Vc M1.d M1.h M1.m M1.b D1.H.ops.length M1.cap _ _ M1.A D1.H.total) (.n1 V) (by decide) .z .z6 Jx fun _ _ _ q9=>?_))))))))
        obtain ⟨rfl,rfl,rfl⟩:=q9
        refine ⟨⟨(Sd5 (Sk9 (Sr))),Mm0⟩,?_⟩
        refine Kj V V V V (str_beq.2 V) (Km V V) (by decide) (Qe V (JO V (str_beq.2 V) V) (Qe V (Jd V) (JK (JJ (Jf (Jp ?_))))))
        refine ⟨_,[],[],fun Z w hs=> .tmp V .nil,?_,fun Z w hs=>hs.out (Sd14 (Sr)) Tt8⟩
        first | exact ⟨rfl,rfl,rfl⟩ | exact ⟨congrArg Value.bool (str_beq.2 rfl),rfl,rfl⟩ | exact ⟨congrArg Value.bool (decide_eq_true (by omega)),rfl,rfl⟩
end Go.Proofs.YtggbpikbmnkiaaaGreatDoor
set_option maxRecDepth 100000
namespace Go.Proofs.YtggbpikbmnkiaaaGreatDoor.deskNever
open Go Go.GW Go.ChangeShapes Go.WideShapes Go.ChangeAt Go.RowKit
theorem own:ownKnob Tryz.prog.godebug=none:=by kernel_rfl
theorem contract (H:Type) (enc:TypeId×Value→H) (W:World) (base:Nat) (args:Array Value) (ds gs:List (DataW H)) (before:List MemPlace)
  (hval: ∀(j:Nat) t v,Tryz.f3.params[j]? =some t→args[j]? =some v→Value.okWide Tryz.prog W .any base t v)
  (hW:DataW.Whole enc Tryz.prog Tryz.f3.params.toList Rows.deskNeverSpec.vars false W args.toList ds gs before) (hL:laidMetH Tryz.prog Rows.deskNeverRow.laid W):
  Calls Tryz.prog 3 args W fun e W'=> ∃v,e= .returned v∧Rows.deskNeverSpec.post enc Tryz.prog Tryz.f3 false true false false W args v W':=by
 have hW':=hW
 have hlt:=hW.lt
 obtain ⟨p,q,hA0,hV,rfl,hfz,hnd⟩:=hW
 have hA:DataW.TrodAll enc Tryz.prog W 0 (fun _=>true) true Tryz.f3.params.toList args.toList ds p:=hA0
 rw [Tryz.params3] at hA hval
 obtain ⟨v0,v1,d0,d1,p0,p1,rfl,rfl,rfl,t0,t1⟩:=trodAll_two hA
 obtain ⟨rfl,rfl⟩:=trodVars_none hV
 clear hA0
 obtain ⟨n0,A0,c0,as0,rfl,hR0⟩:=room_arg (hval 0 24 v0 rfl rfl) t0
 obtain ⟨z1,rfl, -, -,wz1⟩:=open_int Un3 (hval 1 3 v1 rfl rfl) t1
 have hb:=Ja0 hL
 have hs:=Jb7 (W:=W) (As:= [barF,wordsF,RdF actD A0 c0 as0]) (fun A hA=>by
  simp only [List.mem_cons,List.not_mem_nil,or_false] at hA
  rcases hA with rfl | rfl | rfl
  ·exact ⟨hb.1.2,hb.1.1⟩
  ·exact ⟨hb.2.2,hb.2.1⟩
  ·exact hR0)
 refine ((Jau n0 A0 c0 as0 z1).calls _ W [] [NearF W (fun b=>b<W.heap.size)] hs).mono ?_
 rintro e W' ⟨v,rfl,Z',Lo,fs,⟨rfl,rfl,rfl⟩,h2⟩
 have hk:=h2.facts (NearF W (fun b=>b<W.heap.size)) (by simp)
 have hsame: ∀x∈p0++p1++ [],W.sameAt W' x:=fun x hx=>Jar hk (hlt x hx)
 exact ⟨_,V,post_plain (pa:=p0++p1) (pv:= []) hW' (fun _ _ _=>trodAll_cons_mk (shut_bool Un4 _) trodAll_mk0) (fun sp hsp=>trodAll_mk2 (WideElems.Trod_stays laidOk (by kernel_rfl) (of_decide_eq_true (by kernel_rfl)) t0 (fun x hx=>hsame x (by simp [hx])) (fun x hx=>hsp x (by simp [hx]))) (WideElems.Trod_stays laidOk (by kernel_rfl) (of_decide_eq_true (by kernel_rfl)) t1 (fun x hx=>hsame x (by simp [hx])) (fun x hx=>hsp x (by simp [hx])))) (fun _ _=>V) V (Ja1 hk _)⟩
noncomputable def laidWorld (os:Os):World:=
 { World.holding Tryz.prog os ⟨#[],#[.agg #[.int .i64 0, .slice none 0 0], .int .i64 0],[]⟩ with heap:=((((World.holding Tryz.prog os ⟨#[],#[.agg #[.int .i64 0, .slice none 0 0], .int .i64 0],[]⟩).heap.modify 0 fun
   | .cells _ t frozen=> .cells wordsC.toArray t frozen
   | o=>o).modify 1 fun
   | .cells _ t frozen=> .cells barC.toArray t frozen
   | o=>o).modify 2 fun
   | .cells _ t frozen=> .cells #[.iface 237 (.agg #[typeHandle Tryz.prog 49])] t frozen
   | o=>o) }
theorem laid_met (os:Os):laidMetH Tryz.prog Rows.deskNeverRow.laid ((laidWorld os).forCall (fun _ _=>0) ⟨#[],#[.agg #[.int .i64 0, .slice none 0 0], .int .i64 0],[]⟩).memory:=
 laidMetH_of_parts (laidMet_of_run' 8 (by kernel_rfl) (by kernel_rfl)) (by kernel_rfl)
theorem reads (os:Os) {H:Type} (enc:TypeId×Value→H): ∃places,DataW.whole enc Tryz.prog ((laidWorld os).forCall (fun _ _=>0) ⟨#[],#[.agg #[.int .i64 0, .slice none 0 0], .int .i64 0],[]⟩).memory Tryz.f3.params.toList Rows.deskNeverSpec.vars false (#[.agg #[.int .i64 0, .slice none 0 0], .int .i64 0] :Array Value).toList 8=some ([.agg [.lit (.int .i64 0), .nil], .lit (.int .i64 0)],[],places):=
 ⟨[],by kernel_rfl⟩
theorem lifted (os:Os) (started:os.Started) (H:Type) (enc:TypeId×Value→H) (F:Stop.Interp):
  ReturnsInHanded {} Tryz.checked os 3 .any ((OpenSpec.ofChange Rows.deskNeverSpec).preRow enc Tryz.prog Tryz.f3 Rows.deskNeverRow.domain false Rows.deskNeverRow.laid) (((OpenSpec.ofChange Rows.deskNeverSpec).at F).post enc Tryz.prog Tryz.f3 false true false false):=by
 obtain ⟨places,hx⟩:=reads os enc
 refine returnsInHanded_of_row (C:=Tryz.checked) (s:=OpenSpec.ofChange Rows.deskNeverSpec) own started (by kernel_rfl) Tryz.func3
  (witness_row_at (enc:=enc) (C:=Tryz.checked) false (laidWorld os) #[.agg #[.int .i64 0, .slice none 0 0], .int .i64 0] rfl (by kernel_rfl) (by kernel_rfl) (by kernel_rfl)
   (OpenSpec.preRow_of_cond 8 hx (by kernel_rfl) (fun k hk=>by cases hk) (by kernel_rfl) (laid_met os))) ?_
 intro W base args ds gs before hval hW _ _ _ hL _ _
 exact contract H enc W base args ds gs before hval hW hL
theorem said:Rows.DeskNeverSaid:=
 OpenClaim.holds_of_cond 3 Tryz.f3 rfl rfl rfl rfl rfl rfl rfl ⟨rfl,rfl,rfl,rfl,rfl⟩ rfl rfl rfl rfl rfl (by kernel_rfl) Tryz.func3 (by kernel_rfl)
  (of_decide_eq_true (by kernel_rfl)) (by unfold Func.isWrapper;first | (rw [if_pos (by decide +kernel)];kernel_rfl) | (rw [if_neg (by decide +kernel)];exact ⟨rfl,rfl⟩))
  (fun os started H enc _ F=>by rw [OpenClaim.pre_eq_preRow];exact lifted os started H enc F)
theorem plain (f : FuncId) (fn : Func) (hf : Tryz.pinned.checked.prog.funcNamed "redraft/redraftlaw08.DeskNever" = some f) (hfn : Tryz.pinned.checked.prog.funcs[f]? = some fn) :
  true=Tryz.pinned.checked.prog.looks [] ∧ ∀(j:Nat) t,fn.params[j]? =some t→Tryz.pinned.checked.prog.wantsStandIn t=false:=by
 obtain rfl : f = 3 := Option.some.inj ((show Tryz.prog.funcNamed "redraft/redraftlaw08.DeskNever" = some 3 by kernel_rfl).symm.trans hf) |>.symm
 obtain rfl:fn=Tryz.f3:=(Option.some.inj (Tryz.func3.symm.trans hfn)).symm
 refine ⟨by kernel_rfl,fun j t ht=> ?_⟩
 rw [Tryz.params3] at ht
 rcases j with _ | _ | j
 ·simp at ht;subst ht;kernel_rfl
 ·simp at ht;subst ht;kernel_rfl
 ·simp at ht
theorem card:Rows.DeskNeverCardSaid:=
 Claim7.holds_tied_plain_at .later [] _ _ _ _ said (fun _ h=>by cases h) (by kernel_rfl) (fun _ h=>by cases h) deskNever_row_tie rfl ⟨rfl,rfl⟩ (by kernel_rfl) rfl plain (by kernel_rfl)
#print axioms card
end Go.Proofs.YtggbpikbmnkiaaaGreatDoor.deskNever
