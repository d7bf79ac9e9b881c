/- Part of the proof that this claim's law answers true, whatever its arguments. Condition: the laid variables hold what their initialisers lay (the card ties that to the program's text). -/
import Derived.Test.YtgedhdmpiciikaaGreatDoorQC
set_option linter.unusedVariables false
set_option linter.unusedSimpArgs false
open Go.Proofs.Tryz renaming underlying1→Un1,underlying3→Un3,underlying4→Un4,underlying9→Un9,underlying20→Un20,underlying21→Un21,underlying22→Un22,underlying24→Un24,underlying25→Un25,underlying29→Un29,underlying30→Un30,underlying33→Un33,underlying34→Un34,underlying36→Un36,underlying38→Un38,underlying39→Un39,underlying40→Un40,underlying42→Un42,underlying43→Un43,underlying46→Un46,underlying47→Un47,underlying49→Un49,underlying50→Un50,underlying52→Un52,underlying54→Un54,underlying62→Un62,underlying67→Un67,underlying71→Un71,underlying74→Un74,underlying78→Un78,underlying93→Un93,underlying98→Un98,underlying116→Un116,underlying118→Un118,underlying121→Un121,underlying141→Un141,underlying143→Un143,underlying145→Un145,underlying149→Un149,underlying152→Un152,underlying154→Un154,underlying156→Un156,underlying157→Un157,underlying159→Un159,underlying160→Un160,underlying162→Un162,underlying167→Un167,underlying168→Un168,underlying170→Un170,underlying178→Un178,underlying188→Un188,underlying191→Un191,underlying195→Un195,underlying196→Un196,underlying198→Un198,underlying201→Un201,underlying213→Un213,underlying219→Un219
namespace Go.Proofs.YtgedhdmpiciikaaGreatDoor
open Go Go.GW
def ThrP (xs:List Rg) (at_ n:Int):Value→List Part→List Fact→Prop:=fun v Lo fs=>
 ∃(A':Option Addr) (c':Nat),v= .tuple #[.slice A' (thrF xs at_ n).1.length c', .int .i64 (thrF xs at_ n).2] ∧Lo= [] ∧fs= [RdF rgD A' c' (thrF xs at_ n).1]
set_option maxRecDepth 10000 in
theorem Xh (A:Option Addr) (c:Nat) (xs:List Rg) (at_ n:Int) (hl:xs.length≤4398046511104):Sp Tryz.prog 130 [.slice A xs.length c, .int .i64 at_, .int .i64 n] [] [RdF rgD A c xs] (ThrP xs at_ n):=by
 refine Sp.of (n:=78) ⟨_,Tryz.func130,O,O,O,O⟩ (Nat.le_of_ble_eq_true O) fun Ps As=>Jc (Ja (Lq (Jd O) (Lq (Jd O) (Je (Jf (Jc (Jc (Ja (Lq (Jb O) (Jg O (Jm (XW A c xs hl) (.n1 O) (by decide) (Jl Mm0 Jw) fun u1_1 Lo fs hres=> ?_)))))))))))
 obtain ⟨rfl,rfl,rfl⟩:=hres
 refine Lq (Jb O) (Lq (Jk (vs:= [_,_]) O O) (Lq (Jk (vs:= [_,_]) O O) (Lq (Jd O) (Lq (Jd O) (Je (Jf (Jc (Ja (Lq (Jb O) (Lq (Kz O O) (Je (Jf (JF [(20,_),(9,_),(7,_),(6,_),(0,_),(1,_),(2,_)] (.m7 O O O O O O O) ?_)))))))))))))
 refine Jy O (fun h20=> ?_) (fun h20=> ?_)
 ·refine Jc (Ja (Lq (Jb O) (Lq (Jd O) (Lq (Jd O) (Je (Jf (Jo (Js ?_))))))))
  refine ⟨_,[],[RdF rgD none 0 []],fun Z w hs=> .tmp O (.tmp O .nil),?_,fun Z w hs=>⟨Z,((hs.subParts (Sr)).subFacts (fun _ h=>h)).addFact (A:=RdF rgD none 0 []) (RdS.nil _ _ _)⟩⟩
  try simp only [Bp,Bq] at *
  have hF:thrF xs at_ n=_:=Ja1 (by omega)
  exact ⟨none,0,by rw [hF];rfl,O,by rw [hF]⟩
 ·refine Jp (Jf (Jc (Jc (Ja (Lq (Jb O) (Jg O (Jm (GT at_) (.n1 O) (by decide) Jw fun u4_1 Lo fs hres=> ?_)))))))
  obtain ⟨rfl,rfl,rfl⟩:=hres
  refine Lq (Jb O) (J4 (t:=24) O (fun g24=> ?_) (fun g24=> ?_))
  ·refine Ln O O O g24 (Ln O O O g24 (Lq (JP O g24 O) (Je (Jf (J1 O O (Jc (Ja (Lq (Jd O) (Lq (Jd O) (Je (Jf (Jo (Js ?_)))))))))))))
   refine ⟨_,[],[RdF rgD none 0 []],fun Z w hs=> .tmp O (.tmp O .nil),?_,fun Z w hs=>⟨Z,((hs.subParts (Sr)).subFacts (fun _ h=>h)).addFact (A:=RdF rgD none 0 []) (RdS.nil _ _ _)⟩⟩
   try simp only [Bp,Bq] at *
   have hF:thrF xs at_ n=_:=EH (by omega) (by omega)
   exact ⟨none,0,by rw [hF];rfl,O,by rw [hF]⟩
  ·refine Lg O O O g24 (Jb O) (Ks O O O g24 (Jm (GT n) (.n1 O) (by decide) Jw fun u4_4 Lo fs hres=> ?_))
   obtain ⟨rfl,rfl,rfl⟩:=hres
   refine Lq (JH O g24 O) (Je (Jf (Jy O (fun h27=> ?_) (fun h27=> ?_))))
   ·refine Jc (Ja (Lq (Jd O) (Lq (Jd O) (Je (Jf (Jo (Js ?_)))))))
    refine ⟨_,[],[RdF rgD none 0 []],fun Z w hs=> .tmp O (.tmp O .nil),?_,fun Z w hs=>⟨Z,((hs.subParts (Sr)).subFacts (fun _ h=>h)).addFact (A:=RdF rgD none 0 []) (RdS.nil _ _ _)⟩⟩
    try simp only [Bp,Bq] at *
    have hF:thrF xs at_ n=_:=EH (by omega) (by omega)
    exact ⟨none,0,by rw [hF];rfl,O,by rw [hF]⟩
   ·refine Jp (Jf (Jc (Jc (Ja (Lq (Jb O) (Lq (J3 Un50 O) (Lq (Kl O O) (Je (Jf (JF [(30,_),(7,_),(6,_),(0,_),(1,_),(2,_)] (.m6 O O O O O O) (Jy O (fun h30=> ?_) (fun h30=> ?_))))))))))))
    ·refine Jc ?_
     try simp only [Bp,Bq] at *
     have hk0:xs.length-1<xs.length:=by omega
     have hg:=EA (by omega) hk0
     refine Kd (k:=(xs.length-1)) Mm0 (List.getElem?_eq_getElem hk0) (rg_open _) fun b7 q7 y7 e7=> ?_
     cases e7
     refine Ja (Lq (Jb O) (Lq (Jb O) (Lq (J3 Un50 O) (Lq (KP O O (by rw [wr64 (by omega)];omega) (c:=((xs.length-1:Nat):Int))) (Lq (J7 Un50 KZ O O (by omega) (by omega)) (Lq (Jh (o':=_+1) Un74 O ti3 O O) (Lq (Kb (j:=1) Un3 O O Mm0 O O) (Lq (Jd O) (Je (Jf ?_))))))))))
     refine JF [(10,_),(7,_),(6,_),(0,_),(1,_),(2,_)] (.m6 O O O O O O) (Jc (Ja (Lq (Jb O) (Lq (Jb O) (Lq (Kl O O) (Lq (Jb O) (J4 (t:=41) O (fun g41=> ?_) (fun g41=> ?_))))))))
     ·refine Lg O O O g41 (Jb O) (Lg O O O g41 (Jb O) (Lg O O O g41 (JU O O (wr64 (by omega))) (Lg O O O g41 (Kl O O) (Lq (JP O g41 O) (Je (Jf (JF [(46,_),(7,_),(6,_),(0,_),(1,_),(2,_)] (.m6 O O O O O O) (Jy O (fun h46=> ?_) (fun h46=> ?_)))))))))
      ·refine Jc (Ja (Lq (Jd O) (Lq (Jd O) (Je (Jf (Jo (Js ?_)))))))
       refine ⟨_,[],[RdF rgD none 0 []],fun Z w hs=> .tmp O (.tmp O .nil),?_,fun Z w hs=>⟨Z,((hs.subParts (Sr)).subFacts Tt1).addFact (A:=RdF rgD none 0 []) (RdS.nil _ _ _)⟩⟩
       try simp only [Bp,Bq] at *
       have hF:thrF xs at_ n=_:=Zd (by omega) (by omega) (by omega) ⟨by omega,by omega⟩
       exact ⟨none,0,by rw [hF];rfl,O,by rw [hF]⟩
      ·refine Jp (Jf (Jc (Ja (Lq (Jd O) (Je (Jf (Jc (Jc (Ja (Lq (Jb O) (Lq (J3 Un50 O) (Lq (Jb O) (Je (Jf (JE ?_)))))))))))))))
       try simp only [Bp,Bq] at *
       have hC:(ckF xs).2=0:=by omega
       have hl2:=(QL hC).1
       have hOK:thrF xs at_ n=boundF (thrL at_ n [] xs):=by
        first
        | exact XN (by omega) (by omega) hk0 (by omega)
        | (obtain rfl:xs= [] :=List.length_eq_zero_iff.1 (by omega);exact V3 (by omega))
       refine Ky ?_
       refine Kf (α:=Nat×List Rg×Value×Part) (fun (k,acc,v,p)=>xs.length-k)
        (fun (k,acc,v,p)=> [(1, .int .i64 at_),(2, .int .i64 n),(11,v),(47, .slice (some ⟨b7,q7,none⟩) xs.length c),(48, .int .i64 xs.length),(49, .int .i64 k)])
        (fun (k,acc,v,p)=>p::Ps)
        (fun (k,acc,v,p)=>(RdF rgD (some ⟨b7,q7,none⟩) c xs::As))
        (fun (k,acc,v,p)=>ThI xs at_ n k acc v p)
        (0,[], .slice none 0 0,[]) ?_ (.m6 rfl rfl rfl rfl rfl rfl) (Sk (Sr)) Tt1 ?_
       ·exact ⟨Nat.zero_le _,Row.nil _ _,by simp,O⟩
       ·rintro ⟨k,acc,v,p⟩ hI
        refine Jc (Ja (Lq (Km O O) (Je (Jf (Jc (Jy O (fun h50=> ?_) (fun h50=> ?_)))))))
        ·refine Jp (Jf (Jc (JE (Jc ?_))))
         have hk:k<xs.length:=by simpa using h50
         have hg2:=EA hC hk
         refine Kd (k:=k) Mm0 (List.getElem?_eq_getElem hk) (rg_open _) fun b13 q13 y13 e13=> ?_
         cases e13
         refine Ja (Lq (J7 Un50 KZ O O (by omega) (by omega)) (Lq (Kq (k:=0) (vs:= [_,_]) Un74 O KZ O Mm0 O O O) (Jg O (Ju (cs:= [_,_]) KZ O (by decide) fun b13=>Jg O (Jq (cs':= [_,_]) (vs:= [_,_]) KZ O O O O O (Nat.le_of_ble_eq_true O) .z (Je (Jf (Jc (Ja (Lq (Jb O) (Lq (Jh (o':=0) Un74 O ti3 O O) (Lq (Jj Un3 O O Jn O) (Lq (Jh (o':=1) Un74 O ti3 O O) ?_)))))))))))))
         refine Lq (Jj Un3 O O Jn O) (Lq (Jb O) (Lq (Gj O O) (Jg O (JR (Ea v acc p xs[k].lo (min xs[k].hi at_) hI.row (by have:=hI.len;have:=hI.le;omega)) (.n3 O O O) (by decide) .z1 Jw fun va Lo fs hres=> ?_))))
         obtain ⟨pa,hra,rfl,rfl⟩:=hres
         refine Lq (Jd O) (Je (Jf (Ja (Lq (Jb O) (Lq (Jh (o':=0) Un74 O ti3 O O) (Lq (Jj Un3 O O (Ji (Jn)) O) (Lq (Jb O) (Lq (VR O O) (Lq (Jb O) (Lq (JU O O (wr64 (by omega))) (Lq (Jh (o':=1) Un74 O ti3 O O) ?_)))))))))))
         refine Lq (Jj Un3 O O (Ji (Jn)) O) (Lq (Jb O) (Lq (JU O O (wr64 (by omega))) (Jg O (JR (Ea va (addF acc xs[k].lo (min xs[k].hi at_)) pa (max xs[k].lo at_+n) (xs[k].hi+n) hra (by have:=hI.len;have:=hI.le;have:=VA acc xs[k].lo (min xs[k].hi at_);omega)) (.n3 O O O) (by decide) .z Jw fun vb Lo fs hres=> ?_))))
         obtain ⟨pb,hrb,rfl,rfl⟩:=hres
         refine Lq (Jd O) (Je (Ka (Jf (Ja (Lq (JU O O (wr64 (by omega))) (Lq (Jb O) (Je (Kp ?_))))))))
         refine ⟨(k+1,addF (addF acc xs[k].lo (min xs[k].hi at_)) (max xs[k].lo at_+n) (xs[k].hi+n),vb,pb),?_,(.m6 O O O O O O),(Sk (Sd (Sr))),Tt1⟩
         exact ⟨by show xs.length-(k+1)<xs.length-k;omega,hI.next hk hrb⟩
        ·refine Kk (JL (JL (Kc (Jf (Jc ?_)))))
         have hD:=hI.done (by simpa using h50)
         refine Ke (A:=RepsF rgD acc (acc.map rgC)) (fun Z w _=>rgs_reps acc Z w) (KJ (e:=rgD) (css:=acc.map rgC) hI.row .z O Mm0 fun Af cf ef=> ?_)
         subst ef
         by_cases hb:acc.length>32768
         ·refine Ja (Lq (Jb O) (Jg O (Jm (bounded_1 Af cf acc hb) (.n1 O) (by decide) Jw fun u17_1 Lo fs hres=> ?_)))
          obtain ⟨rfl,rfl,rfl⟩:=hres
          refine Lq (Jk (vs:= [_,_]) O O) (Lq (Jk (vs:= [_,_]) O O) (Lq (Jd O) (Lq (Jd O) (Je (Jf (Jo ?_))))))
          refine ⟨_,[],[RdF rgD none 0 []],fun Z w hs=> .tmp O (.tmp O .nil),?_,fun Z w hs=>⟨Z,((hs.subParts (Sr)).subFacts Tt2).addFact (A:=RdF rgD none 0 []) (RdS.nil _ _ _)⟩⟩
          have hF:thrF xs at_ n=([],21):=by rw [hOK,hD];unfold boundF;rw [if_pos hb]
          exact ⟨none,0,by rw [hF];rfl,O,by rw [hF]⟩
         ·refine Ja (Lq (Jb O) (Jg O (Jm (bounded_2 Af cf acc hb) (.n1 O) (by decide) Jw fun u17_1 Lo fs hres=> ?_)))
          obtain ⟨rfl,rfl,rfl⟩:=hres
          refine Lq (Jk (vs:= [_,_]) O O) (Lq (Jk (vs:= [_,_]) O O) (Lq (Jd O) (Lq (Jd O) (Je (Jf (Jo ?_))))))
          refine ⟨_,[],[RdF rgD Af cf acc],fun Z w hs=> .tmp O (.tmp O .nil),?_,fun Z w hs=>hs.out (Sr) (Jl Mm0 Tt2)⟩
          have hF:thrF xs at_ n=(acc,0):=by rw [hOK,hD];unfold boundF;rw [if_neg hb]
          exact ⟨Af,cf,by rw [hF];rfl,O,by rw [hF]⟩
     ·refine Ln O O O g41 (Ln O O O g41 (Ln O O O g41 (Ln O O O g41 (Lq (JH O g41 O) (Je (Jf (JF [(46,_),(7,_),(6,_),(0,_),(1,_),(2,_)] (.m6 O O O O O O) (Jv O O (Jp (Jf (Jc (Ja (Lq (Jd O) (Je (Jf (Jc (Jc (Ja ?_))))))))))))))))))
      refine Lq (Jb O) (Lq (J3 Un50 O) (Lq (Jb O) (Je (Jf (JE ?_)))))
      try simp only [Bp,Bq] at *
      have hC:(ckF xs).2=0:=by omega
      have hl2:=(QL hC).1
      have hOK:thrF xs at_ n=boundF (thrL at_ n [] xs):=by
       first
       | exact XN (by omega) (by omega) hk0 (by omega)
       | (obtain rfl:xs= [] :=List.length_eq_zero_iff.1 (by omega);exact V3 (by omega))
      refine Ky ?_
      refine Kf (α:=Nat×List Rg×Value×Part) (fun (k,acc,v,p)=>xs.length-k)
       (fun (k,acc,v,p)=> [(1, .int .i64 at_),(2, .int .i64 n),(11,v),(47, .slice (some ⟨b7,q7,none⟩) xs.length c),(48, .int .i64 xs.length),(49, .int .i64 k)])
       (fun (k,acc,v,p)=>p::Ps)
       (fun (k,acc,v,p)=>(RdF rgD (some ⟨b7,q7,none⟩) c xs::As))
       (fun (k,acc,v,p)=>ThI xs at_ n k acc v p)
       (0,[], .slice none 0 0,[]) ?_ (.m6 rfl rfl rfl rfl rfl rfl) (Sk (Sr)) Tt1 ?_
      ·exact ⟨Nat.zero_le _,Row.nil _ _,by simp,O⟩
      ·rintro ⟨k,acc,v,p⟩ hI
       refine Jc (Ja (Lq (Km O O) (Je (Jf (Jc (Jy O (fun h50=> ?_) (fun h50=> ?_)))))))
       ·refine Jp (Jf (Jc (JE (Jc ?_))))
        have hk:k<xs.length:=by simpa using h50
        have hg2:=EA hC hk
        refine Kd (k:=k) Mm0 (List.getElem?_eq_getElem hk) (rg_open _) fun b13 q13 y13 e13=> ?_
        cases e13
        refine Ja (Lq (J7 Un50 KZ O O (by omega) (by omega)) (Lq (Kq (k:=0) (vs:= [_,_]) Un74 O KZ O Mm0 O O O) (Jg O (Ju (cs:= [_,_]) KZ O (by decide) fun b13=>Jg O (Jq (cs':= [_,_]) (vs:= [_,_]) KZ O O O O O (Nat.le_of_ble_eq_true O) .z (Je (Jf (Jc (Ja (Lq (Jb O) (Lq (Jh (o':=0) Un74 O ti3 O O) (Lq (Jj Un3 O O Jn O) (Lq (Jh (o':=1) Un74 O ti3 O O) ?_)))))))))))))
        refine Lq (Jj Un3 O O Jn O) (Lq (Jb O) (Lq (Gj O O) (Jg O (JR (Ea v acc p xs[k].lo (min xs[k].hi at_) hI.row (by have:=hI.len;have:=hI.le;omega)) (.n3 O O O) (by decide) .z1 Jw fun va Lo fs hres=> ?_))))
        obtain ⟨pa,hra,rfl,rfl⟩:=hres
        refine Lq (Jd O) (Je (Jf (Ja (Lq (Jb O) (Lq (Jh (o':=0) Un74 O ti3 O O) (Lq (Jj Un3 O O (Ji (Jn)) O) (Lq (Jb O) (Lq (VR O O) (Lq (Jb O) (Lq (JU O O (wr64 (by omega))) (Lq (Jh (o':=1) Un74 O ti3 O O) ?_)))))))))))
        refine Lq (Jj Un3 O O (Ji (Jn)) O) (Lq (Jb O) (Lq (JU O O (wr64 (by omega))) (Jg O (JR (Ea va (addF acc xs[k].lo (min xs[k].hi at_)) pa (max xs[k].lo at_+n) (xs[k].hi+n) hra (by have:=hI.len;have:=hI.le;have:=VA acc xs[k].lo (min xs[k].hi at_);omega)) (.n3 O O O) (by decide) .z Jw fun vb Lo fs hres=> ?_))))
        obtain ⟨pb,hrb,rfl,rfl⟩:=hres
        refine Lq (Jd O) (Je (Ka (Jf (Ja (Lq (JU O O (wr64 (by omega))) (Lq (Jb O) (Je (Kp ?_))))))))
        refine ⟨(k+1,addF (addF acc xs[k].lo (min xs[k].hi at_)) (max xs[k].lo at_+n) (xs[k].hi+n),vb,pb),?_,(.m6 O O O O O O),(Sk (Sd (Sr))),Tt1⟩
        exact ⟨by show xs.length-(k+1)<xs.length-k;omega,hI.next hk hrb⟩
       ·refine Kk (JL (JL (Kc (Jf (Jc ?_)))))
        have hD:=hI.done (by simpa using h50)
        refine Ke (A:=RepsF rgD acc (acc.map rgC)) (fun Z w _=>rgs_reps acc Z w) (KJ (e:=rgD) (css:=acc.map rgC) hI.row .z O Mm0 fun Af cf ef=> ?_)
        subst ef
        by_cases hb:acc.length>32768
        ·refine Ja (Lq (Jb O) (Jg O (Jm (bounded_1 Af cf acc hb) (.n1 O) (by decide) Jw fun u17_1 Lo fs hres=> ?_)))
         obtain ⟨rfl,rfl,rfl⟩:=hres
         refine Lq (Jk (vs:= [_,_]) O O) (Lq (Jk (vs:= [_,_]) O O) (Lq (Jd O) (Lq (Jd O) (Je (Jf (Jo ?_))))))
         refine ⟨_,[],[RdF rgD none 0 []],fun Z w hs=> .tmp O (.tmp O .nil),?_,fun Z w hs=>⟨Z,((hs.subParts (Sr)).subFacts Tt2).addFact (A:=RdF rgD none 0 []) (RdS.nil _ _ _)⟩⟩
         have hF:thrF xs at_ n=([],21):=by rw [hOK,hD];unfold boundF;rw [if_pos hb]
         exact ⟨none,0,by rw [hF];rfl,O,by rw [hF]⟩
        ·refine Ja (Lq (Jb O) (Jg O (Jm (bounded_2 Af cf acc hb) (.n1 O) (by decide) Jw fun u17_1 Lo fs hres=> ?_)))
         obtain ⟨rfl,rfl,rfl⟩:=hres
         refine Lq (Jk (vs:= [_,_]) O O) (Lq (Jk (vs:= [_,_]) O O) (Lq (Jd O) (Lq (Jd O) (Je (Jf (Jo ?_))))))
         refine ⟨_,[],[RdF rgD Af cf acc],fun Z w hs=> .tmp O (.tmp O .nil),?_,fun Z w hs=>hs.out (Sr) (Jl Mm0 Tt2)⟩
         have hF:thrF xs at_ n=(acc,0):=by rw [hOK,hD];unfold boundF;rw [if_neg hb]
         exact ⟨Af,cf,by rw [hF];rfl,O,by rw [hF]⟩
    ·refine Jp (Jf (Jc (Ja (Lq (Jd O) (Je (Jf (Jc (Jc (Ja (Lq (Jb O) (Lq (J3 Un50 O) (Lq (Jb O) (Je (Jf (JE ?_)))))))))))))))
     try simp only [Bp,Bq] at *
     have hC:(ckF xs).2=0:=by omega
     have hl2:=(QL hC).1
     have hOK:thrF xs at_ n=boundF (thrL at_ n [] xs):=by
      first
      | exact XN (by omega) (by omega) hk0 (by omega)
      | (obtain rfl:xs= [] :=List.length_eq_zero_iff.1 (by omega);exact V3 (by omega))
     refine Ky ?_
     refine Kf (α:=Nat×List Rg×Value×Part) (fun (k,acc,v,p)=>xs.length-k)
      (fun (k,acc,v,p)=> [(1, .int .i64 at_),(2, .int .i64 n),(11,v),(47, .slice A xs.length c),(48, .int .i64 xs.length),(49, .int .i64 k)])
      (fun (k,acc,v,p)=>p::Ps)
      (fun (k,acc,v,p)=>(RdF rgD A c xs::As))
      (fun (k,acc,v,p)=>ThI xs at_ n k acc v p)
      (0,[], .slice none 0 0,[]) ?_ (.m6 rfl rfl rfl rfl rfl rfl) (Sk (Sr)) (fun _ h=>h) ?_
     ·exact ⟨Nat.zero_le _,Row.nil _ _,by simp,O⟩
     ·rintro ⟨k,acc,v,p⟩ hI
      refine Jc (Ja (Lq (Km O O) (Je (Jf (Jc (Jy O (fun h50=> ?_) (fun h50=> ?_)))))))
      ·refine Jp (Jf (Jc (JE (Jc ?_))))
       have hk:k<xs.length:=by simpa using h50
       have hg2:=EA hC hk
       refine Kd (k:=k) Mm0 (List.getElem?_eq_getElem hk) (rg_open _) fun b13 q13 y13 e13=> ?_
       cases e13
       refine Ja (Lq (J7 Un50 KZ O O (by omega) (by omega)) (Lq (Kq (k:=0) (vs:= [_,_]) Un74 O KZ O Mm0 O O O) (Jg O (Ju (cs:= [_,_]) KZ O (by decide) fun b13=>Jg O (Jq (cs':= [_,_]) (vs:= [_,_]) KZ O O O O O (Nat.le_of_ble_eq_true O) .z (Je (Jf (Jc (Ja (Lq (Jb O) (Lq (Jh (o':=0) Un74 O ti3 O O) (Lq (Jj Un3 O O Jn O) (Lq (Jh (o':=1) Un74 O ti3 O O) ?_)))))))))))))
       refine Lq (Jj Un3 O O Jn O) (Lq (Jb O) (Lq (Gj O O) (Jg O (JR (Ea v acc p xs[k].lo (min xs[k].hi at_) hI.row (by have:=hI.len;have:=hI.le;omega)) (.n3 O O O) (by decide) .z1 Jw fun va Lo fs hres=> ?_))))
       obtain ⟨pa,hra,rfl,rfl⟩:=hres
       refine Lq (Jd O) (Je (Jf (Ja (Lq (Jb O) (Lq (Jh (o':=0) Un74 O ti3 O O) (Lq (Jj Un3 O O (Ji (Jn)) O) (Lq (Jb O) (Lq (VR O O) (Lq (Jb O) (Lq (JU O O (wr64 (by omega))) (Lq (Jh (o':=1) Un74 O ti3 O O) ?_)))))))))))
       refine Lq (Jj Un3 O O (Ji (Jn)) O) (Lq (Jb O) (Lq (JU O O (wr64 (by omega))) (Jg O (JR (Ea va (addF acc xs[k].lo (min xs[k].hi at_)) pa (max xs[k].lo at_+n) (xs[k].hi+n) hra (by have:=hI.len;have:=hI.le;have:=VA acc xs[k].lo (min xs[k].hi at_);omega)) (.n3 O O O) (by decide) .z Jw fun vb Lo fs hres=> ?_))))
       obtain ⟨pb,hrb,rfl,rfl⟩:=hres
       refine Lq (Jd O) (Je (Ka (Jf (Ja (Lq (JU O O (wr64 (by omega))) (Lq (Jb O) (Je (Kp ?_))))))))
       refine ⟨(k+1,addF (addF acc xs[k].lo (min xs[k].hi at_)) (max xs[k].lo at_+n) (xs[k].hi+n),vb,pb),?_,(.m6 O O O O O O),(Sk (Sd (Sr))),Tt1⟩
       exact ⟨by show xs.length-(k+1)<xs.length-k;omega,hI.next hk hrb⟩
      ·refine Kk (JL (JL (Kc (Jf (Jc ?_)))))
       have hD:=hI.done (by simpa using h50)
       refine Ke (A:=RepsF rgD acc (acc.map rgC)) (fun Z w _=>rgs_reps acc Z w) (KJ (e:=rgD) (css:=acc.map rgC) hI.row .z O Mm0 fun Af cf ef=> ?_)
       subst ef
       by_cases hb:acc.length>32768
       ·refine Ja (Lq (Jb O) (Jg O (Jm (bounded_1 Af cf acc hb) (.n1 O) (by decide) Jw fun u17_1 Lo fs hres=> ?_)))
        obtain ⟨rfl,rfl,rfl⟩:=hres
        refine Lq (Jk (vs:= [_,_]) O O) (Lq (Jk (vs:= [_,_]) O O) (Lq (Jd O) (Lq (Jd O) (Je (Jf (Jo ?_))))))
        refine ⟨_,[],[RdF rgD none 0 []],fun Z w hs=> .tmp O (.tmp O .nil),?_,fun Z w hs=>⟨Z,((hs.subParts (Sr)).subFacts Tt2).addFact (A:=RdF rgD none 0 []) (RdS.nil _ _ _)⟩⟩
        have hF:thrF xs at_ n=([],21):=by rw [hOK,hD];unfold boundF;rw [if_pos hb]
        exact ⟨none,0,by rw [hF];rfl,O,by rw [hF]⟩
       ·refine Ja (Lq (Jb O) (Jg O (Jm (bounded_2 Af cf acc hb) (.n1 O) (by decide) Jw fun u17_1 Lo fs hres=> ?_)))
        obtain ⟨rfl,rfl,rfl⟩:=hres
        refine Lq (Jk (vs:= [_,_]) O O) (Lq (Jk (vs:= [_,_]) O O) (Lq (Jd O) (Lq (Jd O) (Je (Jf (Jo ?_))))))
        refine ⟨_,[],[RdF rgD Af cf acc],fun Z w hs=> .tmp O (.tmp O .nil),?_,fun Z w hs=>hs.out (Sr) (Jl Mm0 Tt2)⟩
        have hF:thrF xs at_ n=(acc,0):=by rw [hOK,hD];unfold boundF;rw [if_neg hb]
        exact ⟨Af,cf,by rw [hF];rfl,O,by rw [hF]⟩
set_option maxRecDepth 10000 in
theorem ZW (s t:ByteArray):Sp Tryz.prog 150 [.string s, .string t] [] [] (Is (.bool (prefF s t))):=by
 refine Sp.of (n:=18) ⟨_,Tryz.func150,O,O,O,O⟩ (Nat.le_of_ble_eq_true O) fun Ps As=>Jc (Ja (Lq (Jd O) (Je (Jf (Jc (Ja (Lq (Jb O) (Lq (Hk Un9 O) (Lq (Jb O) (Lq (Hk Un9 O) (Lq (Yz O O) (Lq (Jb O) ?_))))))))))))
 refine J4 (t:=10) O (fun g10=> ?_) (fun g10=> ?_)
 ·refine Lg O O O g10 (Jb O) (Lg O O O g10 (Jb O) (Lg O O O g10 (Hk Un9 O) (Lg O O O g10 (Hi Un9 O O (by omega) (by simpa using g10)) (Lg O O O g10 (Jb O) (Lg O O O g10 (Gh O O) (Lq (JP O g10 O) (Lq (Jd O) (Je (Jf (JF [(4,_)] (.m1 O) ?_))))))))))
  refine Jo ?_
  refine ⟨_,[],[],fun Z w hs=> .tmp O .nil,?_,fun Z w hs=>hs.out (Sr) (fun _ h=>h)⟩
  exact ⟨by unfold prefF;simp at g10;simp [tup,g10] <;>omega,O,O⟩
 ·refine Ln O O O g10 (Ln O O O g10 (Ln O O O g10 (Ln O O O g10 (Ln O O O g10 (Ln O O O g10 (Lq (JH O g10 O) (Lq (Jd O) (Je (Jf (JF [(4,_)] (.m1 O) ?_))))))))))
  refine Jo ?_
  refine ⟨_,[],[],fun Z w hs=> .tmp O .nil,?_,fun Z w hs=>hs.out (Sr) (fun _ h=>h)⟩
  exact ⟨by unfold prefF;simp at g10;simp [tup,g10] <;>omega,O,O⟩
set_option maxRecDepth 10000 in
theorem Zf (s t:ByteArray):Sp Tryz.prog 120 [.string s, .string t] [] [] (Is (.bool (prefF s t))):=by
 refine Sp.of (n:=8) ⟨_,Tryz.func120,O,O,O,O⟩ (Nat.le_of_ble_eq_true O) fun Ps As=>Jc (Ja (Lq (Jd O) (Je (Jf (Jc (Ja (Lq (Jb O) (Lq (Jb O) (Jg O (Jm (ZW s t) (.n2 O O) (by decide) Jw fun u1_2 Lo fs hres=> ?_))))))))))
 obtain ⟨rfl,rfl,rfl⟩:=hres
 refine Lq (Jd O) (Je (Jf (Jo ?_)))
 refine ⟨_,[],[],fun Z w hs=> .tmp O .nil,?_,fun Z w hs=>hs.out (Sr) (fun _ h=>h)⟩
 exact ⟨O,O,O⟩
set_option maxRecDepth 10000 in
theorem Jap (s:ByteArray) (p:Nat) (c:Int) (hp:p≤s.size):Sp Tryz.prog 83 [.string s, .int .i64 p, .int .i32 c] [] [] (Is (.bool (begF s p c))):=by
 refine Sp.of (n:=15) ⟨_,Tryz.func83,O,O,O,O⟩ (Nat.le_of_ble_eq_true O) fun Ps As=>Jc (Ja (Lq (Jd O) (Je (Jf (Jc (Ja (Lq (Jb O) (Lq (Kz O O) (Lq (Jb O) (J4 (t:=9) O (fun g9=> ?_) (fun g9=> ?_)))))))))))
 ·refine Ln O O O g9 (Ln O O O g9 (Ln O O O g9 (Ln O O O g9 (Lq (JP O g9 O) (Lq (Jd O) (Je (Jf (Jo ?_))))))))
  refine ⟨_,[],[],fun Z w hs=> .tmp O .nil,?_,fun Z w hs=>hs.out (Sr) (fun _ h=>h)⟩
  exact ⟨by unfold begF;simp at g9;simp [tup,g9],O,O⟩
 ·refine Lg O O O g9 (Jb O) (Lg O O O g9 (Jb O) (Lg O O O g9 (Hh Un9 O O (by omega) (by omega)) (Ks O O O g9 (Jm (Zf (s.extract p s.size) fffd) (.n2 O O) (by decide) Jw fun u1_6 Lo fs hres=> ?_))))
  obtain ⟨rfl,rfl,rfl⟩:=hres
  refine Lq (JH O g9 O) (Lq (Jd O) (Je (Jf (Jo ?_))))
  refine ⟨_,[],[],fun Z w hs=> .tmp O .nil,?_,fun Z w hs=>hs.out (Sr) (fun _ h=>h)⟩
  exact ⟨by unfold begF;simp at g9;simp [tup,g9],O,O⟩
def LetI (c:Int) (k:Nat):Prop:=k≤5∧ ∀(j:Nat) (h:j<barL.length),j<k→ ¬(barL[j].1≤c∧c≤barL[j].2)
theorem LetI.hit {c:Int} {k:Nat} (hk:k<barL.length) (h:barL[k].1≤c∧c≤barL[k].2):letF c=false:=by
 unfold letF
 have:(barL.all fun b=> !(decide (b.1≤c) && decide (c≤b.2)))=false:=by
  rw [List.all_eq_false]
  exact ⟨_,List.getElem_mem hk,by simp [h]⟩
 rw [this];rfl
theorem LetI.next {c:Int} {k:Nat} (h:LetI c k) (hk:k<barL.length) (hn: ¬(barL[k].1≤c∧c≤barL[k].2)):LetI c (k+1):=by
 refine ⟨hk,fun j hj hjk=> ?_⟩
 by_cases e:j=k
 ·subst e;exact hn
 ·exact h.2 j hj (by omega)
theorem LetI.done {c:Int} {k:Nat} (h:LetI c k) (hk: ¬(k:Int)<5):letF c=decide (c % 65536<65534):=by
 unfold letF
 have:(barL.all fun b=> !(decide (b.1≤c) && decide (c≤b.2)))=true:=by
  rw [List.all_eq_true]
  intro b hb
  obtain ⟨j,hj,rfl⟩:=List.mem_iff_getElem.1 hb
  have hj5:j<5:=hj
  have:=h.2 j hj (by omega)
  simpa [-not_and,Decidable.not_and_iff_not_or_not] using this
 rw [this];rfl
set_option maxRecDepth 10000 in
theorem Jbb (c:Int):Sp Tryz.prog 84 [.int .i32 c] [] [barF] (Is (.bool (letF c))):=by
 refine Sp.of (n:=23) ⟨_,Tryz.func84,O,O,O,O⟩ (Nat.le_of_ble_eq_true O) fun Ps As=>Jc (Ja (Lq (Jd O) (Je (Jf (Jc (Jc (Ja (Lq (Kq (k:=0) (vs:=barC) Un196 O Jco O Mm0 O O O) (Lq (Jb O) (Je (Jf (JE ?_))))))))))))
 refine Kf (α:=Nat) (fun k=>5-k)
  (fun k=> [(0, .int .i32 c),(5, .agg barC.toArray),(6, .int .i64 k)])
  (fun k=>Ps)
  (fun k=>(barF::As))
  (fun k=>LetI c k)
  0 ?_ (.m3 rfl rfl rfl) (Sr) (fun _ h=>h) ?_
 ·exact ⟨Nat.zero_le _,fun j hj hjk=>absurd hjk (by omega)⟩
 ·rintro k hI
  refine Jc (Ja (Lq (Km O O) (Je (Jf (Jc (Jy O (fun h7=> ?_) (fun h7=> ?_)))))))
  ·refine Jp (Jf (Jc (JE (Jc ?_))))
   try simp only [Bp,Bq] at *
   have hk:k<barL.length:=by show k<5;omega
   refine Ja (Lq (ZS Un196 Un195 O ZH O O (by omega) (by omega) (Jci k hk)) (Jg O (Ju (cs:= [_,_]) ZH O (by decide) fun b4=>Jg O (Jq (cs':= [_,_]) (vs:= [_,_]) ZH O O O O O (Nat.le_of_ble_eq_true O) .z (Je (Jf (Jc (Ja (Lq (Jh (o':=0) Un195 O V1 O O) (Lq (Jj Un21 O O Jn O) (Lq (Jb O) (Lq (YW O O) (Lq (Jb O) ?_)))))))))))))
   refine J4 (t:=13) O (fun g13=> ?_) (fun g13=> ?_)
   ·refine Lg O O O g13 (Jb O) (Lg O O O g13 (Jh (o':=1) Un195 O V1 O O) (Lg O O O g13 (Jj Un21 O O Jn O) (Lg O O O g13 (YW O O) (Lq (JP O g13 O) (Je (Jf (Jy O (fun h18=> ?_) (fun h18=> ?_))))))))
    ·refine Jc (Ja (Lq (Jd O) (Je (Jf (Jo (JG (Js (Js (JG (Js ?_))))))))))
     refine ⟨_,[],[],fun Z w hs=> .tmp O .nil,?_,fun Z w hs=>hs.out (Sd (Sr)) (fun _ h=>h)⟩
     try simp only [Bp,Bq] at *
     first
      | exact ⟨by rw [hI.done (by omega)];rfl,rfl,rfl⟩
      | exact ⟨by rw [LetI.hit hk (by omega)];rfl,rfl,rfl⟩
    ·refine Jp (Ka (Jf (Ja (Lq (JU O O (wr64 (by omega))) (Lq (Jb O) (Je (Kp ?_)))))))
     refine ⟨k+1,?_,(.m3 O O O),(Sd (Sr)),(fun _ h=>h)⟩
     try simp only [Bp,Bq] at *
     exact ⟨by omega,hI.next hk (by omega)⟩
   ·refine Ln O O O g13 (Ln O O O g13 (Ln O O O g13 (Ln O O O g13 (Lq (JH O g13 O) (Je (Jf (Jv O O (Jp (Ka (Jf (Ja (Lq (JU O O (wr64 (by omega))) (Lq (Jb O) (Je (Kp ?_)))))))))))))))
    refine ⟨k+1,?_,(.m3 O O O),(Sd (Sr)),(fun _ h=>h)⟩
    try simp only [Bp,Bq] at *
    exact ⟨by omega,hI.next hk (by omega)⟩
  ·refine Kk (JL (JL (Kc (Jf (Jc (Ja (Lq (Jb O) (Lq (Vk O O (i32_and65535 _)) (Lq (Km O O) (Lq (Jd O) (Je (Jf (Jo ?_)))))))))))))
   refine ⟨_,[],[],fun Z w hs=> .tmp O .nil,?_,fun Z w hs=>hs.out (Sr) (fun _ h=>h)⟩
   try simp only [Bp,Bq] at *
   first
    | exact ⟨by rw [hI.done (by omega)];rfl,rfl,rfl⟩
    | exact ⟨by rw [LetI.hit hk (by omega)];rfl,rfl,rfl⟩
structure UtI (s:ByteArray) (p k:Nat):Prop where
 le:p≤s.size
 kp:k≤p
 eq:utF s=utAt s p k
set_option maxRecDepth 10000 in
theorem VC (s:ByteArray) (hs:s.size≤4611686018427387904):Sp Tryz.prog 46 [.string s] [] [barF] (Is (.tuple #[.int .i64 (utF s).1, .int .i64 (utF s).2.1, .int .i64 (utF s).2.2])):=by
 refine Sp.of (n:=27) ⟨_,Tryz.func46,O,O,O,O⟩ (Nat.le_of_ble_eq_true O) fun Ps As=>Jc (Ja (Lq (Jd O) (Lq (Jd O) (Lq (Jd O) (Je (Jf (Jc (Ja (Lq (Jd O) (Je (Jf (Jc (Jc (Ja (Lq (Jb O) (Jg O (Ef Un9 O (by decide) fun b9=> ?_)))))))))))))))))
 refine Je (Jf (JE ?_))
 refine Kf (α:=Nat×Nat) (fun (p,k)=>s.size-p)
  (fun (p,k)=> [(0, .string s),(9, .pointer (some ⟨b9,0,none⟩)),(5, .int .i64 k)])
  (fun (p,k)=>([(b9, .stringIter s p)] ::Ps))
  (fun (p,k)=>(barF::As))
  (fun (p,k)=>UtI s p k)
  (0,0) ?_ (.m3 rfl rfl rfl) (Sk (Sr)) (fun _ h=>h) ?_
 ·exact ⟨Nat.zero_le _,Nat.le_refl _,O⟩
 ·rintro ⟨p,k⟩ hI
  have hle:=hI.le
  have hkp:=hI.kp
  refine Jc ?_
  by_cases hp:p<s.size
  ·refine Ja (Jg O (Eg O hp .z (by decide) (Lq (Jk (vs:= [_,_,_]) O O) (Je (Jf (Jc (J1 O O (Jp (Jf (JE (Jc (Ja (Lq (Jk (vs:= [_,_,_]) O O) (Lq (Jk (vs:= [_,_,_]) O O) (Lq (Jd O) (Lq (Jd O) (Je (Jf (Jc (Jc (Ja ?_)))))))))))))))))))))
   refine Lq (Jb O) (Lq (Jb O) (Lq (Jb O) (Jg O (Jm (Jap s p (Utf8.decode s p).1 (by omega)) (.n3 O O O) (by decide) Jw fun u5_3 Lo fs hres=> ?_))))
   obtain ⟨rfl,rfl,rfl⟩:=hres
   refine Lq (KL O) (Je (Jf (Jy O (fun h18=> ?_) (fun h18=> ?_))))
   ·refine Jc (Ja (Lq (Jb O) (Lq (Jd O) (Lq (Jd O) (Lq (Jd O) (Je (Jf (Jo (Js (JG (Js (JG (Js ?_)))))))))))))
    refine ⟨_,[],[],fun Z w hs=> .tmp O (.tmp O (.tmp O .nil)),?_,fun Z w hs=>hs.out (Sd (Sr)) (fun _ h=>h)⟩
    first
     | (have hF:=hI.eq.trans (utAt_end hp);exact ⟨by rw [hF];rfl,rfl,rfl⟩)
     | (have hF:=hI.eq.trans (utAt_utf8 hp (by simp_all));exact ⟨by rw [hF];rfl,rfl,rfl⟩)
     | (have hF:=hI.eq.trans (utAt_rune hp (by simp_all) (by simp_all));exact ⟨by rw [hF];rfl,rfl,rfl⟩)
   ·refine Jp (Jf (Jc (Jc (Ja (Lq (Jb O) (Jg O (Jm (Jbb (Utf8.decode s p).1) (.n1 O) (by decide) (Jl Mm0 Jw) fun u7_1 Lo fs hres=> ?_)))))))
    obtain ⟨rfl,rfl,rfl⟩:=hres
    refine Lq (KL O) (Je (Jf (Jy O (fun h22=> ?_) (fun h22=> ?_))))
    ·refine Jc (Ja (Lq (Jb O) (Lq (Jd O) (Lq (Jd O) (Lq (Jd O) (Je (Jf (Jo (Js (JG (Js (JG (Js ?_)))))))))))))
     refine ⟨_,[],[],fun Z w hs=> .tmp O (.tmp O (.tmp O .nil)),?_,fun Z w hs=>hs.out (Sd (Sr)) (fun _ h=>h)⟩
     first
      | (have hF:=hI.eq.trans (utAt_end hp);exact ⟨by rw [hF];rfl,rfl,rfl⟩)
      | (have hF:=hI.eq.trans (utAt_utf8 hp (by simp_all));exact ⟨by rw [hF];rfl,rfl,rfl⟩)
      | (have hF:=hI.eq.trans (utAt_rune hp (by simp_all) (by simp_all));exact ⟨by rw [hF];rfl,rfl,rfl⟩)
    ·refine Jp (Jf (Ja (Lq (Jb O) (Lq (JU O O (wr64 (by omega)) (c:=((k+1:Nat):Int))) (Lq (Jd O) (Je (Ka (Kp ?_))))))))
     have hd:=decode_pos s p
     have hd2:=decode_leP hp
     refine ⟨(p+(Utf8.decode s p).2,k+1),?_,(.m3 O O O),(Sk (Sr)),(fun _ h=>h)⟩
     try simp only [Bp,Bq] at *
     exact ⟨by show s.size-(p+(Utf8.decode s p).2)<s.size-p;omega,by show p+(Utf8.decode s p).2≤s.size;exact hd2,by show k+1≤p+(Utf8.decode s p).2;omega,by rw [hI.eq,utAt_next hp (by simp_all) (by simp_all)]⟩
  ·refine Ja (Jg O (Eh O Jn hp (by decide) (Lq (Jk (vs:= [_]) O O) (Je (Jf (Jc (Jv O O (Kk (JL (JL (Kc (Jf (Jc (Ja (Lq (Jb O) (Lq (Jd O) (Lq (Jd O) (Lq (Jd O) (Je (Jf (Jo ?_)))))))))))))))))))))
   refine ⟨_,[],[],fun Z w hs=> .tmp O (.tmp O (.tmp O .nil)),?_,fun Z w hs=>hs.out (Sd (Sr)) (fun _ h=>h)⟩
   first
    | (have hF:=hI.eq.trans (utAt_end hp);exact ⟨by rw [hF];rfl,rfl,rfl⟩)
    | (have hF:=hI.eq.trans (utAt_utf8 hp (by simp_all));exact ⟨by rw [hF];rfl,rfl,rfl⟩)
    | (have hF:=hI.eq.trans (utAt_rune hp (by simp_all) (by simp_all));exact ⟨by rw [hF];rfl,rfl,rfl⟩)
set_option maxRecDepth 10000 in
theorem YM (o:GOp) (A:Option Addr) (c:Nat) (hs:o.text.size≤4611686018427387904):Sp Tryz.prog 105 [opV o A c] [] [barF] (Is (.int .i64 (Jx o))):=by
 refine Sp.of (n:=18) ⟨_,Tryz.func105,O,O,O,O⟩ (Nat.le_of_ble_eq_true O) fun Ps As=>Jc (Ja (Jg O (J9 (cs:= [_,_,_,_,_,_,_,_,_]) O O (by decide) fun b1=>Lq (Jd O) (Je (Jf (Jc (Jc (Ja (Lq (Jh (o':=0) Un52 O KW O O) (Lq (Jh (o':=2) Un49 O Yt O O) (Lq (Jj Un47 O O Jn O) (Lq (Kz O O) (Je (Jf ?_))))))))))))))
 refine Jy O (fun h9=> ?_) (fun h9=> ?_)
 ·refine Jc (Ja (Lq (Jd O) (Je (Jf (Jo (Js ?_))))))
  refine ⟨_,[],[],fun Z w hs=> .tmp O .nil,?_,fun Z w hs=>hs.out (Sd (Sr)) (fun _ h=>h)⟩
  try simp only [Bp,Bq] at *
  exact ⟨congrArg (Value.int .i64) (by unfold Jx;first | (simp_all;done) | (simp_all;repeat' split;all_goals omega) | (repeat' split;all_goals first | rfl | omega)),rfl,rfl⟩
 ·refine Jp (Jf (Jc (Ja (Lq (Jh (o':=4) Un52 O ti9 O O) (Lq (Jj Un9 O O Jn O) (Jg O (Jm (VC o.text hs) (.n1 O) (by decide) (Jl Mm0 Jw) fun u3_2 Lo fs hres=> ?_)))))))
  obtain ⟨rfl,rfl,rfl⟩:=hres
  refine Lq (Jb O) (Lq (Jk (vs:= [_,_,_]) O O) (Lq (Jk (vs:= [_,_,_]) O O) (Lq (Jk (vs:= [_,_,_]) O O) (Lq (Jd O) (Lq (Jd O) (Lq (Jd O) (Je (Jf (JF [(3,_),(2,_)] (.m2 O O) (Jc (Ja ?_)))))))))))
  refine Lq (Jb O) (Lq (Jd O) (Je (Jf (Jo ?_))))
  refine ⟨_,[],[],fun Z w hs=> .tmp O .nil,?_,fun Z w hs=>hs.out (Sd (Sr)) (fun _ h=>h)⟩
  try simp only [Bp,Bq] at *
  exact ⟨congrArg (Value.int .i64) (by unfold Jx;first | (simp_all;done) | (simp_all;repeat' split;all_goals omega) | (repeat' split;all_goals first | rfl | omega)),rfl,rfl⟩
theorem bd25Xw8 (w:World):(Instr.build 46 #[]).run Tryz.prog w= .ok (.agg #[.int .i64 0, .int .i64 0]) w:=by kernel_rfl
set_option maxRecDepth 10000 in
theorem HS (o:GOp) (A:Option Addr) (c:Nat):Sp Tryz.prog 132 [opV o A c] [] [] (Is (.bool (extraF o))):=by
 refine Sp.of (n:=56) ⟨_,Tryz.func132,O,O,O,O⟩ (Nat.le_of_ble_eq_true O) fun Ps As=>Jc (Ja (Jg O (J9 (cs:= [_,_,_,_,_,_,_,_,_]) O O (by decide) fun b1=>Lq (Jd O) (Je (Jf (Jc (Ja (Lq (Jh (o':=0) Un52 O KW O O) (Lq (Jh (o':=2) Un49 O Yt O O) (Lq (Jj Un47 O O Jn O) (Lq (Kh O O) (Lq (Jd O) ?_))))))))))))
 refine Je (Jf (Jc (Ja (Lq (Jh (o':=0) Un52 O KW O O) (Lq (Jh (o':=2) Un49 O Yt O O) (Lq (Jj Un47 O O Jn O) (Lq (Kh O O) (Lq (Jb O) (J4 (t:=14) O (fun g14=> ?_) (fun g14=> ?_))))))))))
 ·refine Ln O O O g14 (Ln O O O g14 (Ln O O O g14 (Ln O O O g14 (Lq (JP O g14 O) (Lq (Jd O) (Je (Jf (JF [(4,_),(3,_),(2,_),(1,_)] (.m4 O O O O) (Jc (Ja (Lq (Jh (o':=0) Un52 O KW O O) ?_)))))))))))
  refine Lq (Jh (o':=2) Un49 O Yt O O) (Lq (Jj Un47 O O Jn O) (Lq (Kh O O) (Lq (Jd O) (Je (Jf (Jc (Jc (Ja (Lq (Jb O) (Lq (KL O) (Lq (Jb O) (J4 (t:=26) O (fun g26=> ?_) (fun g26=> ?_)))))))))))))
  ·refine Lg O O O g26 (Jh (o':=3) Un52 O ti3 O O) (Lg O O O g26 (Jj Un3 O O Jn O) (Lg O O O g26 (Kz O O) (Lg O O O g26 (Jb O) (J4 (t:=30) O (fun g30=> ?_) (fun g30=> ?_)))))
   ·refine Ln O O O g30 (Ln O O O g30 (Ln O O O g30 (Lg O O O g26 (JP O g30 O) (Lq (JP O g26 O) (Je (Jf (JF [(35,_),(5,_),(4,_),(2,_),(1,_)] (.m5 O O O O O) (J1 O O (Jc (Ja (Lq (Jd O) (Je (Jf (Jo (Js ?_)))))))))))))))
    refine ⟨_,[],[],fun Z w hs=> .tmp O .nil,?_,fun Z w hs=>hs.out (Sd (Sr)) (fun _ h=>h)⟩
    try simp only [Bp,Bq] at *
    exact ⟨congrArg (Value.bool) (by unfold extraF;first | (simp_all;done) | (simp_all;repeat' split;all_goals omega) | (repeat' split;all_goals first | rfl | omega)),rfl,rfl⟩
   ·refine Lg O O O g30 (Jh (o':=4) Un52 O ti9 O O) (Lg O O O g30 (Jj Un9 O O Jn O) (Lg O O O g30 (Gg O O) (Lg O O O g26 (JH O g30 O) (Lq (JP O g26 O) (Je (Jf (JF [(35,_),(5,_),(4,_),(2,_),(1,_)] (.m5 O O O O O) (Jy O (fun h35=> ?_) (fun h35=> ?_)))))))))
    ·refine Jc (Ja (Lq (Jd O) (Je (Jf (Jo (Js ?_))))))
     refine ⟨_,[],[],fun Z w hs=> .tmp O .nil,?_,fun Z w hs=>hs.out (Sd (Sr)) (fun _ h=>h)⟩
     try simp only [Bp,Bq] at *
     exact ⟨congrArg (Value.bool) (by unfold extraF;first | (simp_all;done) | (simp_all;repeat' split;all_goals omega) | (repeat' split;all_goals first | rfl | omega)),rfl,rfl⟩
    ·refine Jp (Jf (Jc (Jc (Ja (Lq (Jb O) (Lq (KL O) (Lq (Jb O) (Ln O O O O (Ln O O O O (Ln O O O O (Ln O O O O (Lq (JH O O O) (Je (Jf (Jv O O (Jp (Jf (Jc (Ja ?_)))))))))))))))))))
     refine Lq (Jb O) (Lq (KL O) (Lq (Jb O) (J4 (t:=46) O (fun g46=> ?_) (fun g46=> ?_))))
     ·refine Lg O O O g46 (Jh (o':=6) Un52 O JW O O) (Lg O O O g46 (Jt (vs:= [_,_]) Un46 O JW O Jn O O) (Lg O O O g46 (JZ .nil (bd25Xw8)) (Lg O O O g46 (Yq O O (eq46 _ _ _ _)) (Lg O O O g46 (Jb O) (J4 (t:=51) O (fun g51=> ?_) (fun g51=> ?_))))))
      ·refine Ln O O O g51 (Ln O O O g51 (Lg O O O g46 (JP O g51 O) (Lq (JP O g46 O) (Lq (Jd O) (Je (Jf (JF [(2,_)] (.m1 O) (Jo ?_))))))))
       refine ⟨_,[],[],fun Z w hs=> .tmp O .nil,?_,fun Z w hs=>hs.out (Sd (Sr)) (fun _ h=>h)⟩
       try simp only [Bp,Bq] at *
       exact ⟨congrArg (Value.bool) (by unfold extraF;first | (simp_all;done) | (simp_all;repeat' split;all_goals omega) | (repeat' split;all_goals first | rfl | omega)),rfl,rfl⟩
      ·refine Lg O O O g51 (Jh (o':=8) Un52 O ti4 O O) (Lg O O O g51 (Jj Un4 O O Jn O) (Lg O O O g46 (JH O g51 O) (Lq (JP O g46 O) (Lq (Jd O) (Je (Jf (JF [(2,_)] (.m1 O) (Jo ?_))))))))
       refine ⟨_,[],[],fun Z w hs=> .tmp O .nil,?_,fun Z w hs=>hs.out (Sd (Sr)) (fun _ h=>h)⟩
       try simp only [Bp,Bq] at *
       exact ⟨congrArg (Value.bool) (by unfold extraF;first | (simp_all;done) | (simp_all;repeat' split;all_goals omega) | (repeat' split;all_goals first | rfl | omega)),rfl,rfl⟩
     ·refine Ln O O O g46 (Ln O O O g46 (Ln O O O g46 (Ln O O O g46 (Ln O O O g46 (Yo O O O (by decide) (Yo O O O (by decide) (Ln O O O g46 (Lq (JH O g46 O) (Lq (Jd O) ?_)))))))))
      refine Je (Jf (JF [(2,_)] (.m1 O) (Jo ?_)))
      refine ⟨_,[],[],fun Z w hs=> .tmp O .nil,?_,fun Z w hs=>hs.out (Sd (Sr)) (fun _ h=>h)⟩
      try simp only [Bp,Bq] at *
      exact ⟨congrArg (Value.bool) (by unfold extraF;first | (simp_all;done) | (simp_all;repeat' split;all_goals omega) | (repeat' split;all_goals first | rfl | omega)),rfl,rfl⟩
  ·refine Ln O O O g26 (Ln O O O g26 (Ln O O O g26 (Ln O O O g26 (Yo O O O (by decide) (Yo O O O (by decide) (Yo O O O (by decide) (Ln O O O g26 (Lq (JH O g26 O) (Je (Jf ?_))))))))))
   refine JF [(35,_),(5,_),(4,_),(2,_),(1,_)] (.m5 O O O O O) (Jv O O (Jp (Jf (Jc (Jc (Ja (Lq (Jb O) (Lq (KL O) (Lq (Jb O) (Ln O O O O (Ln O O O O (Ln O O O O (Ln O O O O (Lq (JH O O O) ?_))))))))))))))
   refine Je (Jf (Jv O O (Jp (Jf (Jc (Ja (Lq (Jb O) (Lq (KL O) (Lq (Jb O) (J4 (t:=46) O (fun g46=> ?_) (fun g46=> ?_)))))))))))
   ·refine Lg O O O g46 (Jh (o':=6) Un52 O JW O O) (Lg O O O g46 (Jt (vs:= [_,_]) Un46 O JW O Jn O O) (Lg O O O g46 (JZ .nil (bd25Xw8)) (Lg O O O g46 (Yq O O (eq46 _ _ _ _)) (Lg O O O g46 (Jb O) (J4 (t:=51) O (fun g51=> ?_) (fun g51=> ?_))))))
    ·refine Ln O O O g51 (Ln O O O g51 (Lg O O O g46 (JP O g51 O) (Lq (JP O g46 O) (Lq (Jd O) (Je (Jf (JF [(2,_)] (.m1 O) (Jo ?_))))))))
     refine ⟨_,[],[],fun Z w hs=> .tmp O .nil,?_,fun Z w hs=>hs.out (Sd (Sr)) (fun _ h=>h)⟩
     try simp only [Bp,Bq] at *
     exact ⟨congrArg (Value.bool) (by unfold extraF;first | (simp_all;done) | (simp_all;repeat' split;all_goals omega) | (repeat' split;all_goals first | rfl | omega)),rfl,rfl⟩
    ·refine Lg O O O g51 (Jh (o':=8) Un52 O ti4 O O) (Lg O O O g51 (Jj Un4 O O Jn O) (Lg O O O g46 (JH O g51 O) (Lq (JP O g46 O) (Lq (Jd O) (Je (Jf (JF [(2,_)] (.m1 O) (Jo ?_))))))))
     refine ⟨_,[],[],fun Z w hs=> .tmp O .nil,?_,fun Z w hs=>hs.out (Sd (Sr)) (fun _ h=>h)⟩
     try simp only [Bp,Bq] at *
     exact ⟨congrArg (Value.bool) (by unfold extraF;first | (simp_all;done) | (simp_all;repeat' split;all_goals omega) | (repeat' split;all_goals first | rfl | omega)),rfl,rfl⟩
   ·refine Ln O O O g46 (Ln O O O g46 (Ln O O O g46 (Ln O O O g46 (Ln O O O g46 (Yo O O O (by decide) (Yo O O O (by decide) (Ln O O O g46 (Lq (JH O g46 O) (Lq (Jd O) ?_)))))))))
    refine Je (Jf (JF [(2,_)] (.m1 O) (Jo ?_)))
    refine ⟨_,[],[],fun Z w hs=> .tmp O .nil,?_,fun Z w hs=>hs.out (Sd (Sr)) (fun _ h=>h)⟩
    try simp only [Bp,Bq] at *
    exact ⟨congrArg (Value.bool) (by unfold extraF;first | (simp_all;done) | (simp_all;repeat' split;all_goals omega) | (repeat' split;all_goals first | rfl | omega)),rfl,rfl⟩
 ·refine Lg O O O g14 (Jh (o':=0) Un52 O KW O O) (Lg O O O g14 (Jh (o':=2) Un49 O Yt O O) (Lg O O O g14 (Jj Un47 O O Jn O) (Lg O O O g14 (Kh O O) (Lq (JH O g14 O) (Lq (Jd O) (Je (Jf (JF [(4,_),(3,_),(2,_),(1,_)] (.m4 O O O O) (Jc (Ja (Lq (Jh (o':=0) Un52 O KW O O) ?_)))))))))))
  refine Lq (Jh (o':=2) Un49 O Yt O O) (Lq (Jj Un47 O O Jn O) (Lq (Kh O O) (Lq (Jd O) (Je (Jf (Jc (Jc (Ja (Lq (Jb O) (Lq (KL O) (Lq (Jb O) (J4 (t:=26) O (fun g26=> ?_) (fun g26=> ?_)))))))))))))
  ·refine Lg O O O g26 (Jh (o':=3) Un52 O ti3 O O) (Lg O O O g26 (Jj Un3 O O Jn O) (Lg O O O g26 (Kz O O) (Lg O O O g26 (Jb O) (J4 (t:=30) O (fun g30=> ?_) (fun g30=> ?_)))))
   ·refine Ln O O O g30 (Ln O O O g30 (Ln O O O g30 (Lg O O O g26 (JP O g30 O) (Lq (JP O g26 O) (Je (Jf (JF [(35,_),(5,_),(4,_),(2,_),(1,_)] (.m5 O O O O O) (J1 O O (Jc (Ja (Lq (Jd O) (Je (Jf (Jo (Js ?_)))))))))))))))
    refine ⟨_,[],[],fun Z w hs=> .tmp O .nil,?_,fun Z w hs=>hs.out (Sd (Sr)) (fun _ h=>h)⟩
    try simp only [Bp,Bq] at *
    exact ⟨congrArg (Value.bool) (by unfold extraF;first | (simp_all;done) | (simp_all;repeat' split;all_goals omega) | (repeat' split;all_goals first | rfl | omega)),rfl,rfl⟩
   ·refine Lg O O O g30 (Jh (o':=4) Un52 O ti9 O O) (Lg O O O g30 (Jj Un9 O O Jn O) (Lg O O O g30 (Gg O O) (Lg O O O g26 (JH O g30 O) (Lq (JP O g26 O) (Je (Jf (JF [(35,_),(5,_),(4,_),(2,_),(1,_)] (.m5 O O O O O) (Jy O (fun h35=> ?_) (fun h35=> ?_)))))))))
    ·refine Jc (Ja (Lq (Jd O) (Je (Jf (Jo (Js ?_))))))
     refine ⟨_,[],[],fun Z w hs=> .tmp O .nil,?_,fun Z w hs=>hs.out (Sd (Sr)) (fun _ h=>h)⟩
     try simp only [Bp,Bq] at *
     exact ⟨congrArg (Value.bool) (by unfold extraF;first | (simp_all;done) | (simp_all;repeat' split;all_goals omega) | (repeat' split;all_goals first | rfl | omega)),rfl,rfl⟩
    ·refine Jp (Jf (Jc (Jc (Ja (Lq (Jb O) (Lq (KL O) (Lq (Jb O) (J4 (t:=38) O (fun g38=> ?_) (fun g38=> ?_)))))))))
     ·refine Lg O O O g38 (Jh (o':=5) Un52 O Ya O O) (Lg O O O g38 (Jj Un50 O O Jn O) (Lg O O O g38 (J3 Un50 O) (Lg O O O g38 (Kl O O) (Lq (JP O g38 O) (Je (Jf (Jy O (fun h43=> ?_) (fun h43=> ?_))))))))
      ·refine Jc (Ja (Lq (Jd O) (Je (Jf (Jo (Js ?_))))))
       refine ⟨_,[],[],fun Z w hs=> .tmp O .nil,?_,fun Z w hs=>hs.out (Sd (Sr)) (fun _ h=>h)⟩
       try simp only [Bp,Bq] at *
       exact ⟨congrArg (Value.bool) (by unfold extraF;first | (simp_all;done) | (simp_all;repeat' split;all_goals omega) | (repeat' split;all_goals first | rfl | omega)),rfl,rfl⟩
      ·refine Jp (Jf (Jc (Ja (Lq (Jb O) (Lq (KL O) (Lq (Jb O) (J4 (t:=46) O (fun g46=> ?_) (fun g46=> ?_))))))))
       ·refine Lg O O O g46 (Jh (o':=6) Un52 O JW O O) (Lg O O O g46 (Jt (vs:= [_,_]) Un46 O JW O Jn O O) (Lg O O O g46 (JZ .nil (bd25Xw8)) (Lg O O O g46 (Yq O O (eq46 _ _ _ _)) (Lg O O O g46 (Jb O) (J4 (t:=51) O (fun g51=> ?_) (fun g51=> ?_))))))
        ·refine Ln O O O g51 (Ln O O O g51 (Lg O O O g46 (JP O g51 O) (Lq (JP O g46 O) (Lq (Jd O) (Je (Jf (JF [(2,_)] (.m1 O) (Jo ?_))))))))
         refine ⟨_,[],[],fun Z w hs=> .tmp O .nil,?_,fun Z w hs=>hs.out (Sd (Sr)) (fun _ h=>h)⟩
         try simp only [Bp,Bq] at *
         exact ⟨congrArg (Value.bool) (by unfold extraF;first | (simp_all;done) | (simp_all;repeat' split;all_goals omega) | (repeat' split;all_goals first | rfl | omega)),rfl,rfl⟩
        ·refine Lg O O O g51 (Jh (o':=8) Un52 O ti4 O O) (Lg O O O g51 (Jj Un4 O O Jn O) (Lg O O O g46 (JH O g51 O) (Lq (JP O g46 O) (Lq (Jd O) (Je (Jf (JF [(2,_)] (.m1 O) (Jo ?_))))))))
         refine ⟨_,[],[],fun Z w hs=> .tmp O .nil,?_,fun Z w hs=>hs.out (Sd (Sr)) (fun _ h=>h)⟩
         try simp only [Bp,Bq] at *
         exact ⟨congrArg (Value.bool) (by unfold extraF;first | (simp_all;done) | (simp_all;repeat' split;all_goals omega) | (repeat' split;all_goals first | rfl | omega)),rfl,rfl⟩
       ·refine Ln O O O g46 (Ln O O O g46 (Ln O O O g46 (Ln O O O g46 (Ln O O O g46 (Yo O O O (by decide) (Yo O O O (by decide) (Ln O O O g46 (Lq (JH O g46 O) (Lq (Jd O) ?_)))))))))
        refine Je (Jf (JF [(2,_)] (.m1 O) (Jo ?_)))
        refine ⟨_,[],[],fun Z w hs=> .tmp O .nil,?_,fun Z w hs=>hs.out (Sd (Sr)) (fun _ h=>h)⟩
        try simp only [Bp,Bq] at *
        exact ⟨congrArg (Value.bool) (by unfold extraF;first | (simp_all;done) | (simp_all;repeat' split;all_goals omega) | (repeat' split;all_goals first | rfl | omega)),rfl,rfl⟩
     ·refine Ln O O O g38 (Ln O O O g38 (Ln O O O g38 (Ln O O O g38 (Lq (JH O g38 O) (Je (Jf (Jv O O (Jp (Jf (Jc (Ja (Lq (Jb O) (Lq (KL O) (Lq (Jb O) (J4 (t:=46) O (fun g46=> ?_) (fun g46=> ?_))))))))))))))))
      ·refine Lg O O O g46 (Jh (o':=6) Un52 O JW O O) (Lg O O O g46 (Jt (vs:= [_,_]) Un46 O JW O Jn O O) (Lg O O O g46 (JZ .nil (bd25Xw8)) (Lg O O O g46 (Yq O O (eq46 _ _ _ _)) (Lg O O O g46 (Jb O) (J4 (t:=51) O (fun g51=> ?_) (fun g51=> ?_))))))
       ·refine Ln O O O g51 (Ln O O O g51 (Lg O O O g46 (JP O g51 O) (Lq (JP O g46 O) (Lq (Jd O) (Je (Jf (JF [(2,_)] (.m1 O) (Jo ?_))))))))
        refine ⟨_,[],[],fun Z w hs=> .tmp O .nil,?_,fun Z w hs=>hs.out (Sd (Sr)) (fun _ h=>h)⟩
        try simp only [Bp,Bq] at *
        exact ⟨congrArg (Value.bool) (by unfold extraF;first | (simp_all;done) | (simp_all;repeat' split;all_goals omega) | (repeat' split;all_goals first | rfl | omega)),rfl,rfl⟩
       ·refine Lg O O O g51 (Jh (o':=8) Un52 O ti4 O O) (Lg O O O g51 (Jj Un4 O O Jn O) (Lg O O O g46 (JH O g51 O) (Lq (JP O g46 O) (Lq (Jd O) (Je (Jf (JF [(2,_)] (.m1 O) (Jo ?_))))))))
        refine ⟨_,[],[],fun Z w hs=> .tmp O .nil,?_,fun Z w hs=>hs.out (Sd (Sr)) (fun _ h=>h)⟩
        try simp only [Bp,Bq] at *
        exact ⟨congrArg (Value.bool) (by unfold extraF;first | (simp_all;done) | (simp_all;repeat' split;all_goals omega) | (repeat' split;all_goals first | rfl | omega)),rfl,rfl⟩
      ·refine Ln O O O g46 (Ln O O O g46 (Ln O O O g46 (Ln O O O g46 (Ln O O O g46 (Yo O O O (by decide) (Yo O O O (by decide) (Ln O O O g46 (Lq (JH O g46 O) (Lq (Jd O) ?_)))))))))
       refine Je (Jf (JF [(2,_)] (.m1 O) (Jo ?_)))
       refine ⟨_,[],[],fun Z w hs=> .tmp O .nil,?_,fun Z w hs=>hs.out (Sd (Sr)) (fun _ h=>h)⟩
       try simp only [Bp,Bq] at *
       exact ⟨congrArg (Value.bool) (by unfold extraF;first | (simp_all;done) | (simp_all;repeat' split;all_goals omega) | (repeat' split;all_goals first | rfl | omega)),rfl,rfl⟩
  ·refine Ln O O O g26 (Ln O O O g26 (Ln O O O g26 (Ln O O O g26 (Yo O O O (by decide) (Yo O O O (by decide) (Yo O O O (by decide) (Ln O O O g26 (Lq (JH O g26 O) (Je (Jf ?_))))))))))
   refine JF [(35,_),(5,_),(4,_),(2,_),(1,_)] (.m5 O O O O O) (Jv O O (Jp (Jf (Jc (Jc (Ja (Lq (Jb O) (Lq (KL O) (Lq (Jb O) (J4 (t:=38) O (fun g38=> ?_) (fun g38=> ?_)))))))))))
   ·refine Lg O O O g38 (Jh (o':=5) Un52 O Ya O O) (Lg O O O g38 (Jj Un50 O O Jn O) (Lg O O O g38 (J3 Un50 O) (Lg O O O g38 (Kl O O) (Lq (JP O g38 O) (Je (Jf (Jy O (fun h43=> ?_) (fun h43=> ?_))))))))
    ·refine Jc (Ja (Lq (Jd O) (Je (Jf (Jo (Js ?_))))))
     refine ⟨_,[],[],fun Z w hs=> .tmp O .nil,?_,fun Z w hs=>hs.out (Sd (Sr)) (fun _ h=>h)⟩
     try simp only [Bp,Bq] at *
     exact ⟨congrArg (Value.bool) (by unfold extraF;first | (simp_all;done) | (simp_all;repeat' split;all_goals omega) | (repeat' split;all_goals first | rfl | omega)),rfl,rfl⟩
    ·refine Jp (Jf (Jc (Ja (Lq (Jb O) (Lq (KL O) (Lq (Jb O) (J4 (t:=46) O (fun g46=> ?_) (fun g46=> ?_))))))))
     ·refine Lg O O O g46 (Jh (o':=6) Un52 O JW O O) (Lg O O O g46 (Jt (vs:= [_,_]) Un46 O JW O Jn O O) (Lg O O O g46 (JZ .nil (bd25Xw8)) (Lg O O O g46 (Yq O O (eq46 _ _ _ _)) (Lg O O O g46 (Jb O) (J4 (t:=51) O (fun g51=> ?_) (fun g51=> ?_))))))
      ·refine Ln O O O g51 (Ln O O O g51 (Lg O O O g46 (JP O g51 O) (Lq (JP O g46 O) (Lq (Jd O) (Je (Jf (JF [(2,_)] (.m1 O) (Jo ?_))))))))
       refine ⟨_,[],[],fun Z w hs=> .tmp O .nil,?_,fun Z w hs=>hs.out (Sd (Sr)) (fun _ h=>h)⟩
       try simp only [Bp,Bq] at *
       exact ⟨congrArg (Value.bool) (by unfold extraF;first | (simp_all;done) | (simp_all;repeat' split;all_goals omega) | (repeat' split;all_goals first | rfl | omega)),rfl,rfl⟩
      ·refine Lg O O O g51 (Jh (o':=8) Un52 O ti4 O O) (Lg O O O g51 (Jj Un4 O O Jn O) (Lg O O O g46 (JH O g51 O) (Lq (JP O g46 O) (Lq (Jd O) (Je (Jf (JF [(2,_)] (.m1 O) (Jo ?_))))))))
       refine ⟨_,[],[],fun Z w hs=> .tmp O .nil,?_,fun Z w hs=>hs.out (Sd (Sr)) (fun _ h=>h)⟩
       try simp only [Bp,Bq] at *
       exact ⟨congrArg (Value.bool) (by unfold extraF;first | (simp_all;done) | (simp_all;repeat' split;all_goals omega) | (repeat' split;all_goals first | rfl | omega)),rfl,rfl⟩
     ·refine Ln O O O g46 (Ln O O O g46 (Ln O O O g46 (Ln O O O g46 (Ln O O O g46 (Yo O O O (by decide) (Yo O O O (by decide) (Ln O O O g46 (Lq (JH O g46 O) (Lq (Jd O) ?_)))))))))
      refine Je (Jf (JF [(2,_)] (.m1 O) (Jo ?_)))
      refine ⟨_,[],[],fun Z w hs=> .tmp O .nil,?_,fun Z w hs=>hs.out (Sd (Sr)) (fun _ h=>h)⟩
      try simp only [Bp,Bq] at *
      exact ⟨congrArg (Value.bool) (by unfold extraF;first | (simp_all;done) | (simp_all;repeat' split;all_goals omega) | (repeat' split;all_goals first | rfl | omega)),rfl,rfl⟩
   ·refine Ln O O O g38 (Ln O O O g38 (Ln O O O g38 (Ln O O O g38 (Lq (JH O g38 O) (Je (Jf (Jv O O (Jp (Jf (Jc (Ja (Lq (Jb O) (Lq (KL O) (Lq (Jb O) (J4 (t:=46) O (fun g46=> ?_) (fun g46=> ?_))))))))))))))))
    ·refine Lg O O O g46 (Jh (o':=6) Un52 O JW O O) (Lg O O O g46 (Jt (vs:= [_,_]) Un46 O JW O Jn O O) (Lg O O O g46 (JZ .nil (bd25Xw8)) (Lg O O O g46 (Yq O O (eq46 _ _ _ _)) (Lg O O O g46 (Jb O) (J4 (t:=51) O (fun g51=> ?_) (fun g51=> ?_))))))
     ·refine Ln O O O g51 (Ln O O O g51 (Lg O O O g46 (JP O g51 O) (Lq (JP O g46 O) (Lq (Jd O) (Je (Jf (JF [(2,_)] (.m1 O) (Jo ?_))))))))
      refine ⟨_,[],[],fun Z w hs=> .tmp O .nil,?_,fun Z w hs=>hs.out (Sd (Sr)) (fun _ h=>h)⟩
      try simp only [Bp,Bq] at *
      exact ⟨congrArg (Value.bool) (by unfold extraF;first | (simp_all;done) | (simp_all;repeat' split;all_goals omega) | (repeat' split;all_goals first | rfl | omega)),rfl,rfl⟩
     ·refine Lg O O O g51 (Jh (o':=8) Un52 O ti4 O O) (Lg O O O g51 (Jj Un4 O O Jn O) (Lg O O O g46 (JH O g51 O) (Lq (JP O g46 O) (Lq (Jd O) (Je (Jf (JF [(2,_)] (.m1 O) (Jo ?_))))))))
      refine ⟨_,[],[],fun Z w hs=> .tmp O .nil,?_,fun Z w hs=>hs.out (Sd (Sr)) (fun _ h=>h)⟩
      try simp only [Bp,Bq] at *
      exact ⟨congrArg (Value.bool) (by unfold extraF;first | (simp_all;done) | (simp_all;repeat' split;all_goals omega) | (repeat' split;all_goals first | rfl | omega)),rfl,rfl⟩
    ·refine Ln O O O g46 (Ln O O O g46 (Ln O O O g46 (Ln O O O g46 (Ln O O O g46 (Yo O O O (by decide) (Yo O O O (by decide) (Ln O O O g46 (Lq (JH O g46 O) (Lq (Jd O) ?_)))))))))
     refine Je (Jf (JF [(2,_)] (.m1 O) (Jo ?_)))
     refine ⟨_,[],[],fun Z w hs=> .tmp O .nil,?_,fun Z w hs=>hs.out (Sd (Sr)) (fun _ h=>h)⟩
     try simp only [Bp,Bq] at *
     exact ⟨congrArg (Value.bool) (by unfold extraF;first | (simp_all;done) | (simp_all;repeat' split;all_goals omega) | (repeat' split;all_goals first | rfl | omega)),rfl,rfl⟩
set_option maxRecDepth 10000 in
theorem Gz (o:GOp) (A:Option Addr) (c:Nat) (total:Int) (hs:o.text.size≤4611686018427387904) (ht:0≤total∧total≤1048576):Sp Tryz.prog 133 [opV o A c, .int .i64 total] [] [barF] (Is (.int .i64 (insF o total))):=by
 refine Sp.of (n:=40) ⟨_,Tryz.func133,O,O,O,O⟩ (Nat.le_of_ble_eq_true O) fun Ps As=>Jc (Ja (Jg O (J9 (cs:= [_,_,_,_,_,_,_,_,_]) O O (by decide) fun b2=>Lq (Jd O) (Je (Jf (Jc (Ja (Lq (Jh (o':=4) Un52 O ti9 O O) (Lq (Jj Un9 O O Jn O) (Jg O (Jm (VC o.text hs) (.n1 O) (by decide) (Jl Mm0 Jw) fun u1_2 Lo fs hres=> ?_)))))))))))
 obtain ⟨rfl,rfl,rfl⟩:=hres
 refine Lq (Jb O) (Lq (Jk (vs:= [_,_,_]) O O) (Lq (Jk (vs:= [_,_,_]) O O) (Lq (Jk (vs:= [_,_,_]) O O) (Lq (Jd O) (Lq (Jd O) (Lq (Jd O) (Je (Jf (JF [(7,_),(5,_),(4,_),(2,_),(1,_)] (.m5 O O O O O) (Jc (JE (Jc (Ja ?_)))))))))))))
 refine Lq (Jb O) (Lq (Kz O O) (Lq (Jd O) (Je (Jf (Jy O (fun h15=> ?_) (fun h15=> ?_))))))
 ·refine Jc (Ja (Lq (Jb O) (Lq (Jd O) (Je (Jf (Jo (JG (Js ?_))))))))
  refine ⟨_,[],[],fun Z w hs=> .tmp O .nil,?_,fun Z w hs=>hs.out (Sd (Sr)) (fun _ h=>h)⟩
  try simp only [Bp,Bq] at *
  exact ⟨congrArg (Value.int .i64) (by unfold insF;first | (simp_all;done) | (simp_all;repeat' split;all_goals omega) | (repeat' split;all_goals first | rfl | omega)),rfl,rfl⟩
 ·refine Jc (Ja (Lq (Jb O) (Lq (Kh O O) (Lq (Jd O) (Je (Jf (Jy O (fun h19=> ?_) (fun h19=> ?_))))))))
  ·refine Jc (Ja (Lq (Jd O) (Je (Jf (Jo (JG (Js ?_)))))))
   refine ⟨_,[],[],fun Z w hs=> .tmp O .nil,?_,fun Z w hs=>hs.out (Sd (Sr)) (fun _ h=>h)⟩
   try simp only [Bp,Bq] at *
   exact ⟨congrArg (Value.int .i64) (by unfold insF;first | (simp_all;done) | (simp_all;repeat' split;all_goals omega) | (repeat' split;all_goals first | rfl | omega)),rfl,rfl⟩
  ·refine Jc (Ja (Lq (Jb O) (Lq (Kl O O) (Lq (Jd O) (Je (Jf (JF [(22,_),(5,_),(4,_),(2,_),(1,_)] (.m5 O O O O O) (Jy O (fun h22=> ?_) (fun h22=> ?_)))))))))
   ·refine Jc (Ja (Lq (Jd O) (Je (Jf (Jo (JG (Js ?_)))))))
    refine ⟨_,[],[],fun Z w hs=> .tmp O .nil,?_,fun Z w hs=>hs.out (Sd (Sr)) (fun _ h=>h)⟩
    try simp only [Bp,Bq] at *
    exact ⟨congrArg (Value.int .i64) (by unfold insF;first | (simp_all;done) | (simp_all;repeat' split;all_goals omega) | (repeat' split;all_goals first | rfl | omega)),rfl,rfl⟩
   ·refine Jc (Ja (Lq (Jh (o':=3) Un52 O ti3 O O) (Lq (Jj Un3 O O Jn O) (Lq (Km O O) (Lq (Jb O) (J4 (t:=29) O (fun g29=> ?_) (fun g29=> ?_)))))))
    ·refine Ln O O O g29 (Ln O O O g29 (Ln O O O g29 (Ln O O O g29 (Lq (JP O g29 O) (Lq (Jd O) (Je (Jf (JF [(25,_),(5,_),(4,_),(1,_)] (.m4 O O O O) (J1 O O (Jc (Ja (Lq (Jd O) ?_))))))))))))
     refine Je (Jf (Jo (JG (Js ?_))))
     refine ⟨_,[],[],fun Z w hs=> .tmp O .nil,?_,fun Z w hs=>hs.out (Sd (Sr)) (fun _ h=>h)⟩
     try simp only [Bp,Bq] at *
     exact ⟨congrArg (Value.int .i64) (by unfold insF;first | (simp_all;done) | (simp_all;repeat' split;all_goals omega) | (repeat' split;all_goals first | rfl | omega)),rfl,rfl⟩
    ·refine Lg O O O g29 (Jh (o':=3) Un52 O ti3 O O) (Lg O O O g29 (Jj Un3 O O Jn O) (Lg O O O g29 (Jb O) (Lg O O O g29 (Kl O O) (Lq (JH O g29 O) (Lq (Jd O) (Je (Jf (JF [(25,_),(5,_),(4,_),(1,_)] (.m4 O O O O) (Jy O (fun h25=> ?_) (fun h25=> ?_))))))))))
     ·refine Jc (Ja (Lq (Jd O) (Je (Jf (Jo (JG (Js ?_)))))))
      refine ⟨_,[],[],fun Z w hs=> .tmp O .nil,?_,fun Z w hs=>hs.out (Sd (Sr)) (fun _ h=>h)⟩
      try simp only [Bp,Bq] at *
      exact ⟨congrArg (Value.int .i64) (by unfold insF;first | (simp_all;done) | (simp_all;repeat' split;all_goals omega) | (repeat' split;all_goals first | rfl | omega)),rfl,rfl⟩
     ·refine Jc ?_
      have hu:=Zz o.text
      try simp only [Bp,Bq] at *
      refine Ja (Lq (Jb O) (Lq (Jb O) (Lq (JU O O (wr64 (by omega))) (Lq (Kl O O) (Lq (Jd O) (Je (Jf (Jy O (fun h35=> ?_) (fun h35=> ?_)))))))))
      ·refine Jc (Ja (Lq (Jd O) (Je (Jf (Jo (JG (Js ?_)))))))
       refine ⟨_,[],[],fun Z w hs=> .tmp O .nil,?_,fun Z w hs=>hs.out (Sd (Sr)) (fun _ h=>h)⟩
       try simp only [Bp,Bq] at *
       exact ⟨congrArg (Value.int .i64) (by unfold insF;first | (simp_all;done) | (simp_all;repeat' split;all_goals omega) | (repeat' split;all_goals first | rfl | omega)),rfl,rfl⟩
      ·refine Jp (Ka (Jf (Jc (Ja (Lq (Jd O) (Je (Jf (Jo ?_))))))))
       refine ⟨_,[],[],fun Z w hs=> .tmp O .nil,?_,fun Z w hs=>hs.out (Sd (Sr)) (fun _ h=>h)⟩
       try simp only [Bp,Bq] at *
       exact ⟨congrArg (Value.int .i64) (by unfold insF;first | (simp_all;done) | (simp_all;repeat' split;all_goals omega) | (repeat' split;all_goals first | rfl | omega)),rfl,rfl⟩
set_option maxRecDepth 10000 in
theorem VT (A:Option Addr) (c:Nat) (xs:List Rg) (total:Int) (hl:xs.length≤4398046511104):Sp Tryz.prog 134 [.slice A xs.length c, .int .i64 total] [] [RdF rgD A c xs] (Is (.int .i64 (YV xs total))):=by
 refine Sp.of (n:=27) ⟨_,Tryz.func134,O,O,O,O⟩ (Nat.le_of_ble_eq_true O) fun Ps As=>Jc (Ja (Lq (Jd O) (Je (Jf (Jc (Jc (Ja (Lq (Jb O) (Lq (J3 Un50 O) (Lq (Kh O O) (Je (Jf (Jy O (fun h9=> ?_) (fun h9=> ?_))))))))))))))
 ·refine Jc (Ja (Lq (Jd O) (Je (Jf (Jo (Js ?_))))))
  refine ⟨_,[],[],fun Z w hs=> .tmp O .nil,?_,fun Z w hs=>hs.out (Sr) (fun _ h=>h)⟩
  try simp only [Bp,Bq] at *
  first
   | exact ⟨by rw [Qx (by omega)];rfl,rfl,rfl⟩
   | exact ⟨by rw [Yy hk0 (by omega),if_pos (by omega)];rfl,rfl,rfl⟩
   | exact ⟨by rw [Yy hk0 (by omega),if_neg (by omega)];rfl,rfl,rfl⟩
   | exact ⟨by rw [QV (by omega) (by omega)];rfl,rfl,rfl⟩
 ·refine Jp (Jf (Jc (Jc (Ja (Lq (Jb O) (Jg O (Jm (XW A c xs hl) (.n1 O) (by decide) (Jl Mm0 Jw) fun u3_1 Lo fs hres=> ?_)))))))
  obtain ⟨rfl,rfl,rfl⟩:=hres
  refine Lq (Jb O) (Lq (Jk (vs:= [_,_]) O O) (Lq (Jk (vs:= [_,_]) O O) (Lq (Jd O) (Lq (Jd O) (Je (Jf (Jc (Ja (Lq (Jb O) (Lq (Kz O O) (Je (Jf (JF [(16,_),(6,_),(4,_),(0,_),(1,_)] (.m5 O O O O O) ?_)))))))))))))
  refine Jy O (fun h16=> ?_) (fun h16=> ?_)
  ·refine Jc (Ja (Lq (Jb O) (Lq (Jd O) (Je (Jf (Jo (Js ?_)))))))
   refine ⟨_,[],[],fun Z w hs=> .tmp O .nil,?_,fun Z w hs=>hs.out (Sr) (fun _ h=>h)⟩
   try simp only [Bp,Bq] at *
   first
    | exact ⟨by rw [Qx (by omega)];rfl,rfl,rfl⟩
    | exact ⟨by rw [Yy hk0 (by omega),if_pos (by omega)];rfl,rfl,rfl⟩
    | exact ⟨by rw [Yy hk0 (by omega),if_neg (by omega)];rfl,rfl,rfl⟩
    | exact ⟨by rw [QV (by omega) (by omega)];rfl,rfl,rfl⟩
  ·refine Jp (Jf (Jc (Jc ?_)))
   try simp only [Bp,Bq] at *
   have hk0:xs.length-1<xs.length:=by omega
   refine Kd (k:=(xs.length-1)) Mm0 (List.getElem?_eq_getElem hk0) (rg_open _) fun b6 q6 y6 e6=> ?_
   cases e6
   refine Ja (Lq (Jb O) (Lq (Jb O) (Lq (J3 Un50 O) (Lq (KP O O (by rw [wr64 (by omega)];omega) (c:=((xs.length-1:Nat):Int))) (Lq (J7 Un50 KZ O O (by omega) (by omega)) (Lq (Jh (o':=_+1) Un74 O ti3 O O) (Lq (Kb (j:=1) Un3 O O Mm0 O O) (Lq (Jb O) (Lq (Kl O O) ?_)))))))))
   refine Je (Jf (JF [(26,_),(4,_)] (.m2 O O) (Jy O (fun h26=> ?_) (fun h26=> ?_))))
   ·refine Jc (Ja (Lq (Jd O) (Je (Jf (Jo (Js ?_))))))
    refine ⟨_,[],[],fun Z w hs=> .tmp O .nil,?_,fun Z w hs=>hs.out (Sr) Tt1⟩
    try simp only [Bp,Bq] at *
    first
     | exact ⟨by rw [Qx (by omega)];rfl,rfl,rfl⟩
     | exact ⟨by rw [Yy hk0 (by omega),if_pos (by omega)];rfl,rfl,rfl⟩
     | exact ⟨by rw [Yy hk0 (by omega),if_neg (by omega)];rfl,rfl,rfl⟩
     | exact ⟨by rw [QV (by omega) (by omega)];rfl,rfl,rfl⟩
   ·refine Jp (Jf (Jc (Ja (Lq (Jd O) (Je (Jf (Jo ?_)))))))
    refine ⟨_,[],[],fun Z w hs=> .tmp O .nil,?_,fun Z w hs=>hs.out (Sr) Tt1⟩
    try simp only [Bp,Bq] at *
    first
     | exact ⟨by rw [Qx (by omega)];rfl,rfl,rfl⟩
     | exact ⟨by rw [Yy hk0 (by omega),if_pos (by omega)];rfl,rfl,rfl⟩
     | exact ⟨by rw [Yy hk0 (by omega),if_neg (by omega)];rfl,rfl,rfl⟩
     | exact ⟨by rw [QV (by omega) (by omega)];rfl,rfl,rfl⟩
set_option maxRecDepth 10000 in
theorem Qf (o:GOp) (A:Option Addr) (c:Nat) (total:Int) (hs:o.text.size≤4611686018427387904) (hl:o.rs.length≤4398046511104):Sp Tryz.prog 107 [opV o A c, .int .i64 total] [] [barF,RdF rgD A c o.rs] (Is (.int .i64 (checkF o total))):=by
 refine Sp.of (n:=65) ⟨_,Tryz.func107,O,O,O,O⟩ (Nat.le_of_ble_eq_true O) fun Ps As=>Jc (Ja (Jg O (J9 (cs:= [_,_,_,_,_,_,_,_,_]) O O (by decide) fun b2=>Lq (Jd O) (Je (Jf (Jc (JE (Jc (Ja (Lq (Jb O) (Lq (Km O O) (Lq (Jb O) (J4 (t:=8) O (fun g8=> ?_) (fun g8=> ?_))))))))))))))
 ·refine Ln O O O g8 (Ln O O O g8 (Lq (JP O g8 O) (Lq (Jd O) (Je (Jf (J1 O O (Jc (Ja (Lq (Jd O) (Je (Jf (Jo (JG (Js ?_))))))))))))))
  refine ⟨_,[],[],fun Z w hs=> .tmp O .nil,?_,fun Z w hs=>hs.out (Sd (Sr)) (fun _ h=>h)⟩
  try simp only [Bp,Bq] at *
  exact ⟨congrArg (Value.int .i64) (by unfold checkF rightF;simp_all<;>omega),O,O⟩
 ·refine Lg O O O g8 (Jb O) (Lg O O O g8 (Kl O O) (Lq (JH O g8 O) (Lq (Jd O) (Je (Jf (Jy O (fun h5=> ?_) (fun h5=> ?_)))))))
  ·refine Jc (Ja (Lq (Jd O) (Je (Jf (Jo (JG (Js ?_)))))))
   refine ⟨_,[],[],fun Z w hs=> .tmp O .nil,?_,fun Z w hs=>hs.out (Sd (Sr)) (fun _ h=>h)⟩
   try simp only [Bp,Bq] at *
   exact ⟨congrArg (Value.int .i64) (by unfold checkF rightF;simp_all<;>omega),O,O⟩
  ·refine Jc (Ja (Lq (Jh (o':=0) Un52 O KW O O) (Lq (Jh (o':=2) Un49 O Yt O O) (Lq (Jj Un47 O O Jn O) (Lq (Km O O) (Lq (Jb O) (J4 (t:=17) O (fun g17=> ?_) (fun g17=> ?_))))))))
   ·refine Ln O O O g17 (Ln O O O g17 (Ln O O O g17 (Ln O O O g17 (Lq (JP O g17 O) (Lq (Jd O) (Je (Jf (JF [(12,_),(4,_),(2,_),(1,_)] (.m4 O O O O) (J1 O O (Jc (Ja (Lq (Jd O) ?_))))))))))))
    refine Je (Jf (Jo (JG (Js ?_))))
    refine ⟨_,[],[],fun Z w hs=> .tmp O .nil,?_,fun Z w hs=>hs.out (Sd (Sr)) (fun _ h=>h)⟩
    try simp only [Bp,Bq] at *
    exact ⟨congrArg (Value.int .i64) (by unfold checkF rightF;simp_all<;>omega),O,O⟩
   ·refine Lg O O O g17 (Jh (o':=0) Un52 O KW O O) (Lg O O O g17 (Jh (o':=2) Un49 O Yt O O) (Lg O O O g17 (Jj Un47 O O Jn O) (Lg O O O g17 (Kl O O) (Lq (JH O g17 O) (Lq (Jd O) (Je (Jf (JF [(12,_),(4,_),(2,_),(1,_)] (.m4 O O O O) (Jy O (fun h12=> ?_) (fun h12=> ?_))))))))))
    ·refine Jc (Ja (Lq (Jd O) (Je (Jf (Jo (JG (Js ?_)))))))
     refine ⟨_,[],[],fun Z w hs=> .tmp O .nil,?_,fun Z w hs=>hs.out (Sd (Sr)) (fun _ h=>h)⟩
     try simp only [Bp,Bq] at *
     exact ⟨congrArg (Value.int .i64) (by unfold checkF rightF;simp_all<;>omega),O,O⟩
    ·refine Jc (Ja (Lq (Jh (o':=0) Un52 O KW O O) (Lq (Jh (o':=0) Un49 O JW O O) (Lq (Jt (vs:= [_,_]) Un46 O JW O Jn O O) (Lq (JZ .nil (bd25Xw8)) (Lq (Yq O O (eq46 _ _ _ _)) (Lq (Jb O) (J4 (t:=29) O (fun g29=> ?_) (fun g29=> ?_)))))))))
     ·refine Lg O O O g29 (Jh (o':=0) Un52 O KW O O) (Lg O O O g29 (Jh (o':=0) Un49 O JW O O) (Lg O O O g29 (Jt (vs:= [_,_]) Un46 O JW O Jn O O) (Ks O O O g29 (Jm (Em o.c o.n) (.n1 O) (by decide) Jw fun u5_9 Lo fs hres=> ?_))))
      obtain ⟨rfl,rfl,rfl⟩:=hres
      refine Lg O O O g29 (KL O) (Lq (JP O g29 O) (Lq (Jd O) (Je (Jf (JF [(23,_),(4,_),(2,_),(1,_)] (.m4 O O O O) (Jy O (fun h23=> ?_) (fun h23=> ?_)))))))
      ·refine Jc (Ja (Lq (Jd O) (Je (Jf (Jo (JG (Js ?_)))))))
       refine ⟨_,[],[],fun Z w hs=> .tmp O .nil,?_,fun Z w hs=>hs.out (Sd (Sr)) (fun _ h=>h)⟩
       try simp only [Bp,Bq] at *
       exact ⟨congrArg (Value.int .i64) (by unfold checkF rightF;simp_all<;>omega),O,O⟩
      ·refine Jc (Ja (Lq (Jt (vs:= [_,_,_,_,_,_,_,_,_]) Un52 O JD O Jn O O) (Jg O (Jm (HS o A c) (.n1 O) (by decide) Jw fun u7_1 Lo fs hres=> ?_))))
       obtain ⟨rfl,rfl,rfl⟩:=hres
       refine Lq (Jd O) (Je (Jf (Jy O (fun h36=> ?_) (fun h36=> ?_))))
       ·refine Jc (Ja (Lq (Jd O) (Je (Jf (Jo (JG (Js ?_)))))))
        refine ⟨_,[],[],fun Z w hs=> .tmp O .nil,?_,fun Z w hs=>hs.out (Sd (Sr)) (fun _ h=>h)⟩
        try simp only [Bp,Bq] at *
        exact ⟨congrArg (Value.int .i64) (by unfold checkF rightF;simp_all<;>omega),O,O⟩
       ·refine Jp (Ka (Jf (Jc (Jc (Ja (Lq (Jh (o':=0) Un52 O KW O O) (Lq (Jh (o':=2) Un49 O Yt O O) (Lq (Jj Un47 O O Jn O) (Je (Jf (JE (Jc (Ja (Lq (Kh O O) (Lq (Jd O) (Je (Jf (Jy O (fun h42=> ?_) (fun h42=> ?_)))))))))))))))))))
        ·refine Jc (Ja (Lq (Jt (vs:= [_,_,_,_,_,_,_,_,_]) Un52 O JD O Jn O O) (Lq (Jb O) ?_)))
         try simp only [Bp,Bq] at *
         refine Jg O (Jm (Gz o A c total hs ⟨by omega,by omega⟩) (.n2 O O) (by decide) (Jl Mm0 Jw) fun u11_2 Lo fs hres=> ?_)
         obtain ⟨rfl,rfl,rfl⟩:=hres
         refine Lq (Jd O) (Je (Jf (JF [(4,_),(2,_),(1,_)] (.m3 O O O) (Jo (JG (Js ?_))))))
         refine ⟨_,[],[],fun Z w hs=> .tmp O .nil,?_,fun Z w hs=>hs.out (Sd (Sr)) (fun _ h=>h)⟩
         try simp only [Bp,Bq] at *
         exact ⟨congrArg (Value.int .i64) (by unfold checkF rightF;simp_all<;>omega),O,O⟩
        ·refine Jc (Ja (Lq (Kh O O) (Lq (Jd O) (Je (Jf (JF [(47,_),(4,_),(2,_),(1,_)] (.m4 O O O O) (Jy O (fun h47=> ?_) (fun h47=> ?_))))))))
         ·refine Jc (Jc (Ja (Lq (Jh (o':=6) Un52 O JW O O) (Lq (Jt (vs:= [_,_]) Un46 O JW O Jn O O) (Jg O (Jm (Em o.tc o.tn) (.n1 O) (by decide) Jw fun u13_2 Lo fs hres=> ?_))))))
          obtain ⟨rfl,rfl,rfl⟩:=hres
          refine Lq (KL O) (Lq (Jb O) (J4 (t:=53) O (fun g53=> ?_) (fun g53=> ?_)))
          ·refine Ln O O O g53 (Ln O O O g53 (Ln O O O g53 (Ln O O O g53 (Ln O O O g53 (Ln O O O g53 (Lq (JP O g53 O) (Je (Jf (JF [(60,_),(4,_),(2,_),(1,_)] (.m4 O O O O) (J1 O O (Jc (Ja ?_))))))))))))
           refine Lq (Jd O) (Je (Jf (Jo (Js (JG (Js ?_))))))
           refine ⟨_,[],[],fun Z w hs=> .tmp O .nil,?_,fun Z w hs=>hs.out (Sd (Sr)) (fun _ h=>h)⟩
           try simp only [Bp,Bq] at *
           exact ⟨congrArg (Value.int .i64) (by unfold checkF rightF;simp_all<;>omega),O,O⟩
          ·refine Lg O O O g53 (Jh (o':=6) Un52 O JW O O) (Lg O O O g53 (Jt (vs:= [_,_]) Un46 O JW O Jn O O) (Lg O O O g53 (Jh (o':=0) Un52 O KW O O) (Lg O O O g53 (Jh (o':=0) Un49 O JW O O) (Lg O O O g53 (Jt (vs:= [_,_]) Un46 O JW O Jn O O) (Lg O O O g53 (Qo O O (eq46 _ _ _ _)) (Lq (JH O g53 O) (Je (Jf (JF [(60,_),(4,_),(2,_),(1,_)] (.m4 O O O O) (Jy O (fun h60=> ?_) (fun h60=> ?_)))))))))))
           ·refine Jc (Ja (Lq (Jd O) (Je (Jf (Jo (Js (JG (Js ?_))))))))
            refine ⟨_,[],[],fun Z w hs=> .tmp O .nil,?_,fun Z w hs=>hs.out (Sd (Sr)) (fun _ h=>h)⟩
            try simp only [Bp,Bq] at *
            exact ⟨congrArg (Value.int .i64) (by unfold checkF rightF;simp_all<;>omega),O,O⟩
           ·refine Jp (Jf (Jc (Ja (Lq (Jd O) (Je (Jf (Jo (JG (Js ?_)))))))))
            refine ⟨_,[],[],fun Z w hs=> .tmp O .nil,?_,fun Z w hs=>hs.out (Sd (Sr)) (fun _ h=>h)⟩
            try simp only [Bp,Bq] at *
            exact ⟨congrArg (Value.int .i64) (by unfold checkF rightF;simp_all<;>omega),O,O⟩
         ·refine Jp (Ka (Jf (Jc (Ja (Lq (Jh (o':=5) Un52 O Ya O O) (Lq (Jj Un50 O O Jn O) (Lq (Jb O) (Jg O (Jm (VT A c o.rs total hl) (.n2 O O) (by decide) (Jl Mm1 Jw) fun u16_3 Lo fs hres=> ?_)))))))))
          obtain ⟨rfl,rfl,rfl⟩:=hres
          refine Lq (Jd O) (Je (Jf (Jo ?_)))
          refine ⟨_,[],[],fun Z w hs=> .tmp O .nil,?_,fun Z w hs=>hs.out (Sd (Sr)) (fun _ h=>h)⟩
          try simp only [Bp,Bq] at *
          exact ⟨congrArg (Value.int .i64) (by unfold checkF rightF;simp_all<;>omega),O,O⟩
     ·refine Ln O O O g29 (Ln O O O g29 (Ln O O O g29 (Ln O O O g29 (Ln O O O g29 (Lq (JH O g29 O) (Lq (Jd O) (Je (Jf (JF [(23,_),(4,_),(2,_),(1,_)] (.m4 O O O O) (Jv O O (Jc (Ja ?_))))))))))))
      refine Lq (Jt (vs:= [_,_,_,_,_,_,_,_,_]) Un52 O JD O Jn O O) (Jg O (Jm (HS o A c) (.n1 O) (by decide) Jw fun u7_1 Lo fs hres=> ?_))
      obtain ⟨rfl,rfl,rfl⟩:=hres
      refine Lq (Jd O) (Je (Jf (Jy O (fun h36=> ?_) (fun h36=> ?_))))
      ·refine Jc (Ja (Lq (Jd O) (Je (Jf (Jo (JG (Js ?_)))))))
       refine ⟨_,[],[],fun Z w hs=> .tmp O .nil,?_,fun Z w hs=>hs.out (Sd (Sr)) (fun _ h=>h)⟩
       try simp only [Bp,Bq] at *
       exact ⟨congrArg (Value.int .i64) (by unfold checkF rightF;simp_all<;>omega),O,O⟩
      ·refine Jp (Ka (Jf (Jc (Jc (Ja (Lq (Jh (o':=0) Un52 O KW O O) (Lq (Jh (o':=2) Un49 O Yt O O) (Lq (Jj Un47 O O Jn O) (Je (Jf (JE (Jc (Ja (Lq (Kh O O) (Lq (Jd O) (Je (Jf (Jy O (fun h42=> ?_) (fun h42=> ?_)))))))))))))))))))
       ·refine Jc (Ja (Lq (Jt (vs:= [_,_,_,_,_,_,_,_,_]) Un52 O JD O Jn O O) (Lq (Jb O) ?_)))
        try simp only [Bp,Bq] at *
        refine Jg O (Jm (Gz o A c total hs ⟨by omega,by omega⟩) (.n2 O O) (by decide) (Jl Mm0 Jw) fun u11_2 Lo fs hres=> ?_)
        obtain ⟨rfl,rfl,rfl⟩:=hres
        refine Lq (Jd O) (Je (Jf (JF [(4,_),(2,_),(1,_)] (.m3 O O O) (Jo (JG (Js ?_))))))
        refine ⟨_,[],[],fun Z w hs=> .tmp O .nil,?_,fun Z w hs=>hs.out (Sd (Sr)) (fun _ h=>h)⟩
        try simp only [Bp,Bq] at *
        exact ⟨congrArg (Value.int .i64) (by unfold checkF rightF;simp_all<;>omega),O,O⟩
       ·refine Jc (Ja (Lq (Kh O O) (Lq (Jd O) (Je (Jf (JF [(47,_),(4,_),(2,_),(1,_)] (.m4 O O O O) (Jy O (fun h47=> ?_) (fun h47=> ?_))))))))
        ·refine Jc (Jc (Ja (Lq (Jh (o':=6) Un52 O JW O O) (Lq (Jt (vs:= [_,_]) Un46 O JW O Jn O O) (Jg O (Jm (Em o.tc o.tn) (.n1 O) (by decide) Jw fun u13_2 Lo fs hres=> ?_))))))
         obtain ⟨rfl,rfl,rfl⟩:=hres
         refine Lq (KL O) (Lq (Jb O) (J4 (t:=53) O (fun g53=> ?_) (fun g53=> ?_)))
         ·refine Ln O O O g53 (Ln O O O g53 (Ln O O O g53 (Ln O O O g53 (Ln O O O g53 (Ln O O O g53 (Lq (JP O g53 O) (Je (Jf (JF [(60,_),(4,_),(2,_),(1,_)] (.m4 O O O O) (J1 O O (Jc (Ja ?_))))))))))))
          refine Lq (Jd O) (Je (Jf (Jo (Js (JG (Js ?_))))))
          refine ⟨_,[],[],fun Z w hs=> .tmp O .nil,?_,fun Z w hs=>hs.out (Sd (Sr)) (fun _ h=>h)⟩
          try simp only [Bp,Bq] at *
          exact ⟨congrArg (Value.int .i64) (by unfold checkF rightF;simp_all<;>omega),O,O⟩
         ·refine Lg O O O g53 (Jh (o':=6) Un52 O JW O O) (Lg O O O g53 (Jt (vs:= [_,_]) Un46 O JW O Jn O O) (Lg O O O g53 (Jh (o':=0) Un52 O KW O O) (Lg O O O g53 (Jh (o':=0) Un49 O JW O O) (Lg O O O g53 (Jt (vs:= [_,_]) Un46 O JW O Jn O O) (Lg O O O g53 (Qo O O (eq46 _ _ _ _)) (Lq (JH O g53 O) (Je (Jf (JF [(60,_),(4,_),(2,_),(1,_)] (.m4 O O O O) (Jy O (fun h60=> ?_) (fun h60=> ?_)))))))))))
          ·refine Jc (Ja (Lq (Jd O) (Je (Jf (Jo (Js (JG (Js ?_))))))))
           refine ⟨_,[],[],fun Z w hs=> .tmp O .nil,?_,fun Z w hs=>hs.out (Sd (Sr)) (fun _ h=>h)⟩
           try simp only [Bp,Bq] at *
           exact ⟨congrArg (Value.int .i64) (by unfold checkF rightF;simp_all<;>omega),O,O⟩
          ·refine Jp (Jf (Jc (Ja (Lq (Jd O) (Je (Jf (Jo (JG (Js ?_)))))))))
           refine ⟨_,[],[],fun Z w hs=> .tmp O .nil,?_,fun Z w hs=>hs.out (Sd (Sr)) (fun _ h=>h)⟩
           try simp only [Bp,Bq] at *
           exact ⟨congrArg (Value.int .i64) (by unfold checkF rightF;simp_all<;>omega),O,O⟩
        ·refine Jp (Ka (Jf (Jc (Ja (Lq (Jh (o':=5) Un52 O Ya O O) (Lq (Jj Un50 O O Jn O) (Lq (Jb O) (Jg O (Jm (VT A c o.rs total hl) (.n2 O O) (by decide) (Jl Mm1 Jw) fun u16_3 Lo fs hres=> ?_)))))))))
         obtain ⟨rfl,rfl,rfl⟩:=hres
         refine Lq (Jd O) (Je (Jf (Jo ?_)))
         refine ⟨_,[],[],fun Z w hs=> .tmp O .nil,?_,fun Z w hs=>hs.out (Sd (Sr)) (fun _ h=>h)⟩
         try simp only [Bp,Bq] at *
         exact ⟨congrArg (Value.int .i64) (by unfold checkF rightF;simp_all<;>omega),O,O⟩
set_option maxRecDepth 10000 in
theorem Jbx (o:GOp) (A:Option Addr) (c:Nat) (hf:Fit o):Sp Tryz.prog 149 [opV o A c] [] [barF,RdF rgD A c o.rs] (Is (.int .i64 (ownF o))):=by
 refine Sp.of (n:=23) ⟨_,Tryz.func149,O,O,O,O⟩ (Nat.le_of_ble_eq_true O) fun Ps As=>Jc (Ja (Jg O (J9 (cs:= [_,_,_,_,_,_,_,_,_]) O O (by decide) fun b1=>Lq (Jd O) (Je (Jf (Jc (Jc (Ja (Lq (Jh (o':=0) Un52 O KW O O) (Lq (Jh (o':=2) Un49 O Yt O O) (Lq (Jj Un47 O O Jn O) (Lq (Kh O O) (Lq (Jb O) ?_)))))))))))))
 refine J4 (t:=7) O (fun g7=> ?_) (fun g7=> ?_)
 ·refine Lg O O O g7 (Jh (o':=3) Un52 O ti3 O O) (Lg O O O g7 (Jj Un3 O O Jn O) (Lg O O O g7 (Yz O O) (Lq (JP O g7 O) (Lq (Jb O) (J4 (t:=12) O (fun g12=> ?_) (fun g12=> ?_))))))
  ·refine Lg O O O g12 (Jh (o':=3) Un52 O ti3 O O) (Lg O O O g12 (Jj Un3 O O Jn O) (Lg O O O g12 (YW O O) (Lq (JP O g12 O) (Je (Jf (JF [(16,_),(2,_),(1,_)] (.m3 O O O) (Jy O (fun h16=> ?_) (fun h16=> ?_))))))))
   ·refine Jc (Ja (Lq (Jt (vs:= [_,_,_,_,_,_,_,_,_]) Un52 O JD O Jn O O) (Lq (Jh (o':=3) Un52 O ti3 O O) (Lq (Jj Un3 O O Jn O) (Jg O (Jm (Qf o A c o.at_ (by have:=hf.text;omega) hf.rs) (.n2 O O) (by decide) (Jl Mm0 (Jl Mm1 Jw)) fun u2_3 Lo fs hres=> ?_))))))
    obtain ⟨rfl,rfl,rfl⟩:=hres
    refine Lq (Jd O) (Je (Jf (Jo (Js ?_))))
    refine ⟨_,[],[],fun Z w hs=> .tmp O .nil,?_,fun Z w hs=>hs.out (Sd (Sr)) (fun _ h=>h)⟩
    try simp only [Bp,Bq] at *
    exact ⟨congrArg (Value.int .i64) (by unfold ownF;first | (simp_all;done) | (simp_all;intros;omega) | (simp_all;repeat' split;all_goals omega) | (repeat' split;all_goals first | rfl | omega)),rfl,rfl⟩
   ·refine Jp (Jf (Jc (Ja (Lq (Jt (vs:= [_,_,_,_,_,_,_,_,_]) Un52 O JD O Jn O O) (Jg O (Jm (Qf o A c 1048576 (by have:=hf.text;omega) hf.rs) (.n2 O O) (by decide) (Jl Mm0 (Jl Mm1 Jw)) fun u3_1 Lo fs hres=> ?_))))))
    obtain ⟨rfl,rfl,rfl⟩:=hres
    refine Lq (Jd O) (Je (Jf (Jo ?_)))
    refine ⟨_,[],[],fun Z w hs=> .tmp O .nil,?_,fun Z w hs=>hs.out (Sd (Sr)) (fun _ h=>h)⟩
    try simp only [Bp,Bq] at *
    exact ⟨congrArg (Value.int .i64) (by unfold ownF;first | (simp_all;done) | (simp_all;intros;omega) | (simp_all;repeat' split;all_goals omega) | (repeat' split;all_goals first | rfl | omega)),rfl,rfl⟩
  ·refine Ln O O O g12 (Ln O O O g12 (Ln O O O g12 (Lq (JH O g12 O) (Je (Jf (JF [(16,_),(2,_),(1,_)] (.m3 O O O) (Jv O O (Jp (Jf (Jc (Ja (Lq (Jt (vs:= [_,_,_,_,_,_,_,_,_]) Un52 O JD O Jn O O) (Jg O (Jm (Qf o A c 1048576 (by have:=hf.text;omega) hf.rs) (.n2 O O) (by decide) (Jl Mm0 (Jl Mm1 Jw)) fun u3_1 Lo fs hres=> ?_))))))))))))))
   obtain ⟨rfl,rfl,rfl⟩:=hres
   refine Lq (Jd O) (Je (Jf (Jo ?_)))
   refine ⟨_,[],[],fun Z w hs=> .tmp O .nil,?_,fun Z w hs=>hs.out (Sd (Sr)) (fun _ h=>h)⟩
   try simp only [Bp,Bq] at *
   exact ⟨congrArg (Value.int .i64) (by unfold ownF;first | (simp_all;done) | (simp_all;intros;omega) | (simp_all;repeat' split;all_goals omega) | (repeat' split;all_goals first | rfl | omega)),rfl,rfl⟩
 ·refine Ln O O O g7 (Ln O O O g7 (Ln O O O g7 (Lq (JH O g7 O) (Lq (Jb O) (Ln O O O O (Ln O O O O (Ln O O O O (Lq (JH O O O) (Je (Jf ?_))))))))))
  refine JF [(16,_),(2,_),(1,_)] (.m3 O O O) (Jv O O (Jp (Jf (Jc (Ja (Lq (Jt (vs:= [_,_,_,_,_,_,_,_,_]) Un52 O JD O Jn O O) (Jg O (Jm (Qf o A c 1048576 (by have:=hf.text;omega) hf.rs) (.n2 O O) (by decide) (Jl Mm0 (Jl Mm1 Jw)) fun u3_1 Lo fs hres=> ?_))))))))
  obtain ⟨rfl,rfl,rfl⟩:=hres
  refine Lq (Jd O) (Je (Jf (Jo ?_)))
  refine ⟨_,[],[],fun Z w hs=> .tmp O .nil,?_,fun Z w hs=>hs.out (Sd (Sr)) (fun _ h=>h)⟩
  try simp only [Bp,Bq] at *
  exact ⟨congrArg (Value.int .i64) (by unfold ownF;first | (simp_all;done) | (simp_all;intros;omega) | (simp_all;repeat' split;all_goals omega) | (repeat' split;all_goals first | rfl | omega)),rfl,rfl⟩
structure OwI (xs:List GOp) (k:Nat):Prop where
 le:k≤xs.length
 eq:ownsF xs=ownsF (xs.drop k)
theorem OwI.next {xs:List GOp} {k:Nat} (h:OwI xs k) (hk:k<xs.length) (h0:ownF xs[k] =0):OwI xs (k+1):=by
 refine ⟨hk,?_⟩
 rw [h.eq,List.drop_eq_getElem_cons hk,ownsF,if_neg (by simpa using h0)]
theorem OwI.bad {xs:List GOp} {k:Nat} (h:OwI xs k) (hk:k<xs.length) (h0:ownF xs[k] ≠0):ownsF xs=ownF xs[k] :=by
 rw [h.eq,List.drop_eq_getElem_cons hk,ownsF,if_pos h0]
theorem OwI.done {xs:List GOp} {k:Nat} (h:OwI xs k) (hk: ¬k<xs.length):ownsF xs=0:=by
 rw [h.eq,List.drop_eq_nil_of_le (by omega)];rfl
set_option maxRecDepth 10000 in
theorem ZX (A:Option Addr) (c:Nat) (xs:List GOp) (hf: ∀o∈xs,Fit o) (hl:xs.length≤4398046511104):Sp Tryz.prog 127 [.slice A xs.length c] [] [barF,RdF opD A c xs] (Is (.int .i64 (ownsF xs))):=by
 refine Sp.of (n:=18) ⟨_,Tryz.func127,O,O,O,O⟩ (Nat.le_of_ble_eq_true O) fun Ps As=>Jc (Ja (Lq (Jd O) (Je (Jf (Jc (Jc (Ja (Lq (Jb O) (Lq (J3 Un78 O) (Lq (Jb O) (Je (Jf (JE ?_)))))))))))))
 refine Kf (α:=Nat) (fun k=>xs.length-k)
  (fun k=> [(6, .slice A xs.length c),(7, .int .i64 xs.length),(8, .int .i64 k)])
  (fun k=>Ps)
  (fun k=>(barF::RdF opD A c xs::As))
  (fun k=>OwI xs k)
  0 ?_ (.m3 rfl rfl rfl) (Sr) (fun _ h=>h) ?_
 ·exact ⟨Nat.zero_le _,O⟩
 ·rintro k hI
  refine Jc (Ja (Lq (Km O O) (Je (Jf (Jc (Jy O (fun h9=> ?_) (fun h9=> ?_)))))))
  ·refine Jp (Jf (Jc (JE (Jc ?_))))
   have hk:k<xs.length:=by simpa using h9
   refine Kd (k:=k) Mm1 (List.getElem?_eq_getElem hk) (op_open _) fun b3 q3 y3 e3=> ?_
   cases e3
   refine Ja (Lq (J7 Un78 JD O O (by omega) (by omega)) (Lq (Kq (k:=0) (vs:= [_,_,_,_,_,_,_,_,_]) Un52 O JD O Mm0 O O O) (Jg O (Ju (cs:= [_,_,_,_,_,_,_,_,_]) JD O (by decide) fun b4=>Jg O (Jq (cs':= [_,_,_,_,_,_,_,_,_]) (vs:= [_,_,_,_,_,_,_,_,_]) JD O O O O O (Nat.le_of_ble_eq_true O) .z (Je (Jf (Jc (Ja (Lq (Jt (vs:= [_,_,_,_,_,_,_,_,_]) Un52 O JD O Jn O O) (Jg O (Jm (Jbx xs[k] y3.1 y3.2 (hf _ (List.getElem_mem hk))) (.n1 O) (by decide) (Jl Mm2 (Jl Mm1 Jw)) fun u4_1 Lo fs hres=> ?_))))))))))))
   obtain ⟨rfl,rfl,rfl⟩:=hres
   refine Lq (Jd O) (Je (Jf (Jc (Ja (Lq (Jb O) (Lq (Kz O O) (Je (Jf (Jy O (fun h15=> ?_) (fun h15=> ?_))))))))))
   ·refine Jc (Ja (Lq (Jb O) (Lq (Jd O) (Je (Jf (Jo (JG (Js (Js (JG (Js ?_)))))))))))
    refine ⟨_,[],[],fun Z w hs=> .tmp O .nil,?_,fun Z w hs=>hs.out (Sd (Sr)) Tt2⟩
    try simp only [Bp,Bq] at *
    first
     | exact ⟨by rw [hI.done (by omega)];rfl,rfl,rfl⟩
     | exact ⟨by rw [hI.bad hk (by omega)];rfl,rfl,rfl⟩
   ·refine Jp (Ka (Jf (Ja (Lq (JU O O (wr64 (by omega))) (Lq (Jb O) (Je (Kp ?_)))))))
    refine ⟨k+1,?_,(.m3 O O O),(Sd (Sr)),Tt2⟩
    try simp only [Bp,Bq] at *
    exact ⟨by omega,hI.next hk (by omega)⟩
  ·refine Kk (JL (JL (Kc (Jf (Jc (Ja (Lq (Jd O) (Je (Jf (Jo ?_))))))))))
   refine ⟨_,[],[],fun Z w hs=> .tmp O .nil,?_,fun Z w hs=>hs.out (Sr) (fun _ h=>h)⟩
   try simp only [Bp,Bq] at *
   first
    | exact ⟨by rw [hI.done (by omega)];rfl,rfl,rfl⟩
    | exact ⟨by rw [hI.bad hk (by omega)];rfl,rfl,rfl⟩
theorem bd31Xw9 (w:World):(Instr.build 52 #[]).run Tryz.prog w= .ok (.agg #[.int .i64 0, .int .i64 0, .int .i64 0, .int .i64 0, .string ⟨#[]⟩, .slice none 0 0, .int .i64 0, .int .i64 0, .bool false]) w:=by kernel_rfl
set_option maxRecDepth 10000 in
theorem HP (a:GOp) (A:Option Addr) (c:Nat) (at_:Int) (hs:a.text.size≤2305843009213693952) (ha: -4611686018427387904≤at_∧at_≤4611686018427387904):Sp Tryz.prog 155 [opV a A c, .int .i64 at_] [] [barF] (OpP (movedF a at_)):=by
 refine Sp.of (n:=16) ⟨_,Tryz.func155,O,O,O,O⟩ (Nat.le_of_ble_eq_true O) fun Ps As=>Jc (Ja (Jg O (J9 (cs:= [_,_,_,_,_,_,_,_,_]) O O (by decide) fun b2=>Jg O (Ju (cs:= [_,_,_,_,_,_,_,_,_]) JD O (by decide) fun b4=>Lq (Jd O) (Je (Jf (Jc (Jc (Ke (A:=RdF rgD none 0 []) (fun Z w hs=>RdS.nil _ _ _) ?_)))))))))
 have hw:=KV a
 refine Ja (Lq (Jb O) (Lq (Jt (vs:= [_,_,_,_,_,_,_,_,_]) Un52 O JD O (Ji (Jn)) O O) (Jg O (Jm (YM a A c (by omega)) (.n1 O) (by decide) (Jl Mm1 Jw) fun u1_2 Lo fs hres=> ?_))))
 obtain ⟨rfl,rfl,rfl⟩:=hres
 refine Lq (JU O O (wr64 (by omega))) (Lq (Kl O O) (Je (Jf (Jy O (fun h10=> ?_) (fun h10=> ?_)))))
 ·refine Jc (Ja (Lq (JZ .nil (bd31Xw9)) (Jg O (Jq (cs':= [_,_,_,_,_,_,_,_,_]) (vs:= [_,_,_,_,_,_,_,_,_]) JD O O O O O (Nat.le_of_ble_eq_true O) .z (Lq (Jd O) (Je (Jf (Jo (Js ?_)))))))))
  refine ⟨_,[],[RdF rgD none 0 []],fun Z w hs=>JV hs Un52 O JD O Jn O (.tmp O .nil),?_,fun Z w hs=>hs.out (Sd (Sd (Sr))) (fun _ h=>h)⟩
  try simp only [Bp,Bq] at *
  exact ⟨none,0,by unfold movedF;first | (rw [if_pos (by omega)];rfl) | (rw [if_neg (by omega)];rfl),O,by unfold movedF;first | (rw [if_pos (by omega)];rfl) | (rw [if_neg (by omega)])⟩
 ·refine Jp (Jf (Jc (Ja (Lq (Jb O) (Lq (Jh (o':=3) Un52 O ti3 O O) (Jg O (JJ ti3 O O O .z3 .z1 (Je (Jf (Jc (Ja (Lq (Jh (o':=5) Un52 O Ya O O) (Jg O (JJ Ya O O O .z5 .z1 (Je (Jf (Jc (Ja (Lq (Jt (vs:= [_,_,_,_,_,_,_,_,_]) Un52 O JD O (Ji (Jn)) O O) (Jg O (Jq (cs':= [_,_,_,_,_,_,_,_,_]) (vs:= [_,_,_,_,_,_,_,_,_]) JD O O O O O (Nat.le_of_ble_eq_true O) .z ?_)))))))))))))))))))))
  refine Lq (Jd O) (Je (Jf (JF [(5,_),(4,_)] (.m2 O O) (Jo ?_))))
  refine ⟨_,[],[RdF rgD none 0 []],fun Z w hs=>JV hs Un52 O JD O Jn O (.tmp O .nil),?_,fun Z w hs=>hs.out (Sd (Sd (Sr))) (fun _ h=>h)⟩
  try simp only [Bp,Bq] at *
  exact ⟨none,0,by unfold movedF;first | (rw [if_pos (by omega)];rfl) | (rw [if_neg (by omega)];rfl),O,by unfold movedF;first | (rw [if_pos (by omega)];rfl) | (rw [if_neg (by omega)])⟩
set_option maxRecDepth 10000 in
theorem EO (a:GOp) (A A2:Option Addr) (c c2:Nat) (l:List Rg) (e:Int):Sp Tryz.prog 156 [opV a A c, .slice A2 l.length c2, .int .i64 e] [] [RdF rgD A2 c2 l] (OpP (rangedF a l e)):=by
 refine Sp.of (n:=15) ⟨_,Tryz.func156,O,O,O,O⟩ (Nat.le_of_ble_eq_true O) fun Ps As=>Jc (Ja (Jg O (J9 (cs:= [_,_,_,_,_,_,_,_,_]) O O (by decide) fun b3=>Jg O (Ju (cs:= [_,_,_,_,_,_,_,_,_]) JD O (by decide) fun b6=>Lq (Jd O) (Je (Jf (Jc (Jc (Ke (A:=RdF rgD none 0 []) (fun Z w hs=>RdS.nil _ _ _) (Ja (Lq (Jb O) (Lq (Kz O O) ?_))))))))))))
 refine Je (Jf (Jy O (fun h9=> ?_) (fun h9=> ?_)))
 ·refine Jc (Ja (Lq (JZ .nil (bd31Xw9)) (Lq (Jb O) (Jg O (Jq (cs':= [_,_,_,_,_,_,_,_,_]) (vs:= [_,_,_,_,_,_,_,_,_]) JD O O O O O (Nat.le_of_ble_eq_true O) .z (Lq (Jd O) (Je (Jf (Jo (Js ?_))))))))))
  refine ⟨_,[],[RdF rgD none 0 []],fun Z w hs=>JV hs Un52 O JD O Jn O (.tmp O .nil),?_,fun Z w hs=>hs.out (Sd (Sd (Sr))) (fun _ h=>h)⟩
  try simp only [Bp,Bq] at *
  exact ⟨none,0,by unfold rangedF;rw [if_pos (by omega)];rfl,O,by unfold rangedF;rw [if_pos (by omega)];rfl⟩
 ·refine Jp (Jf (Jc (Ja (Lq (Jb O) (Lq (Jh (o':=5) Un52 O Ya O O) (Jg O (JJ Ya O O O .z5 .z1 (Je (Jf (Jc (Ja (Lq (Jt (vs:= [_,_,_,_,_,_,_,_,_]) Un52 O JD O (Ji (Jn)) O O) (Jg O (Jq (cs':= [_,_,_,_,_,_,_,_,_]) (vs:= [_,_,_,_,_,_,_,_,_]) JD O O O O O (Nat.le_of_ble_eq_true O) .z (Lq (Jd O) (Je (Jf (Jo ?_))))))))))))))))))
  refine ⟨_,[],[RdF rgD A2 c2 l],fun Z w hs=>JV hs Un52 O JD O Jn O (.tmp O .nil),?_,fun Z w hs=>hs.out (Sd (Sd (Sr))) (Jl Mm1 Tt1)⟩
  try simp only [Bp,Bq] at *
  exact ⟨A2,c2,by unfold rangedF;rw [if_neg (by omega)];rfl,O,by unfold rangedF;rw [if_neg (by omega)]⟩
set_option maxRecDepth 10000 in
theorem G0 (a b:GOp) (Aa Ab:Option Addr) (ca cb:Nat) (earlier:Bool) (ha:Fit a) (hb:Fit b):Sp Tryz.prog 129 [opV a Aa ca,opV b Ab cb, .bool earlier] [] [barF,RdF rgD Aa ca a.rs] (OpP (JK a b earlier)):=by
 refine Sp.of (n:=71) ⟨_,Tryz.func129,O,O,O,O⟩ (Nat.le_of_ble_eq_true O) fun Ps As=>Jc (Ja (Jg O (J9 (cs:= [_,_,_,_,_,_,_,_,_]) O O (by decide) fun b3=>Jg O (J9 (cs:= [_,_,_,_,_,_,_,_,_]) O O (by decide) fun b4=>Jg O (Ju (cs:= [_,_,_,_,_,_,_,_,_]) JD O (by decide) fun b6=>Lq (Jd O) (Je (Jf (Jc (Jc (Ke (A:=RdF rgD none 0 []) (fun Z w hs=>RdS.nil _ _ _) (Ja (Lq (Jt (vs:= [_,_,_,_,_,_,_,_,_]) Un52 O JD O (Ji (Ji (Jn))) O O) ?_))))))))))))
 refine Lq (Jt (vs:= [_,_,_,_,_,_,_,_,_]) Un52 O JD O (Ji (Jn)) O O) (Jg O (Jm (Jbg a b Aa Ab ca cb) (.n2 O O) (by decide) Jw fun u1_2 Lo fs hres=> ?_))
 obtain ⟨rfl,rfl,rfl⟩:=hres
 refine Je (Jf (Jy O (fun h13=> ?_) (fun h13=> ?_)))
 ·refine Jc (Ja (Lq (JZ .nil (bd31Xw9)) (Jg O (Jq (cs':= [_,_,_,_,_,_,_,_,_]) (vs:= [_,_,_,_,_,_,_,_,_]) JD O O O O O (Nat.le_of_ble_eq_true O) .z (Lq (Jd O) (Je (Jf (Jo (Js ?_)))))))))
  refine ⟨_,[],[RdF rgD none 0 []],fun Z w hs=>JV hs Un52 O JD O Jn O (.tmp O .nil),?_,fun Z w hs=>hs.out (Sd (Sd (Sd (Sr)))) (fun _ h=>h)⟩
  try simp only [Bp,Bq] at *
  have hF:JK a b earlier=(zeroOp,50):=by
   unfold JK clashF
   first | exact if_pos ‹_› | (simp_all;done) | (simp_all;omega) | (repeat' split;all_goals first | rfl | omega | (simp_all;done) | (simp_all;omega))
  exact ⟨none,0,by rw [hF];rfl,O,by first | (rw [hF];done) | (rw [hF];rfl)⟩
 ·refine Jp (Jf (Jc (Jc (Ja (Lq (Jh (o':=0) Un52 O KW O O) (Lq (Jh (o':=2) Un49 O Yt O O) (Lq (Jj Un47 O O (Ji (Jn)) O) (Lq (Kz O O) (Je (Jf (JF [(18,_),(7,_),(6,_),(4,_),(3,_),(2,_)] (.m6 O O O O O O) (Jy O (fun h18=> ?_) (fun h18=> ?_)))))))))))))
  ·refine Jc (Ja (Lq (Jt (vs:= [_,_,_,_,_,_,_,_,_]) Un52 O JD O (Ji (Ji (Jn))) O O) (Jg O (Jm (YY a Aa ca ha.rs) (.n1 O) (by decide) (Jl Mm2 Jw) fun u4_1 Lo fs hres=> ?_))))
   obtain ⟨A1,c1,rfl,rfl,rfl⟩:=hres
   refine Jg O (Jq (cs':= [_,_,_,_,_,_,_,_,_]) (vs:= [_,_,_,_,_,_,_,_,_]) JD O O O O O (Nat.le_of_ble_eq_true O) .z (Lq (Jd O) (Je (Jf (Jo (Js ?_))))))
   refine ⟨_,[],[RdF rgD A1 c1 a.rs],fun Z w hs=>JV hs Un52 O JD O Jn O (.tmp O .nil),?_,fun Z w hs=>hs.out (Sd (Sd (Sd (Sr)))) (Jl Mm0 Tt2)⟩
   try simp only [Bp,Bq] at *
   have hF:JK a b earlier=(a,0):=by
    unfold JK clashF
    first | exact if_pos ‹_› | (simp_all;done) | (simp_all;omega) | (repeat' split;all_goals first | rfl | omega | (simp_all;done) | (simp_all;omega))
   exact ⟨A1,c1,by rw [hF];rfl,O,by first | (rw [hF];done) | (rw [hF];rfl)⟩
  ·refine Jp (Jf (Jc (Ja (Lq (Jt (vs:= [_,_,_,_,_,_,_,_,_]) Un52 O JD O (Ji (Jn)) O O) (Jg O (Jm (YM b Ab cb (by have:=hb.text;omega)) (.n1 O) (by decide) (Jl Mm1 Jw) fun u5_1 Lo fs hres=> ?_))))))
   obtain ⟨rfl,rfl,rfl⟩:=hres
   refine Lq (Jd O) (Je (Jf (Jc (Jc (Ja (Lq (Jh (o':=0) Un52 O KW O O) (Lq (Jh (o':=2) Un49 O Yt O O) (Lq (Jj Un47 O O (Ji (Ji (Jn))) O) (Je (Jf (JE (Jc (Ja (Lq (Kh O O) (Lq (Jd O) (Je (Jf (JF [(26,_),(25,_),(8,_),(7,_),(6,_),(4,_),(3,_),(2,_)] (.m8 O O O O O O O O) ?_))))))))))))))))))
   refine Jy O (fun h26=> ?_) (fun h26=> ?_)
   ·refine Jc (Ja (Lq (Jh (o':=3) Un52 O ti3 O O) (Lq (Jj Un3 O O (Ji (Jn)) O) (Lq (Jh (o':=3) Un52 O ti3 O O) (Lq (Jj Un3 O O (Ji (Ji (Jn))) O) (Lq (Km O O) (Lq (Jb O) (J4 (t:=33) O (fun g33=> ?_) (fun g33=> ?_)))))))))
    ·refine Ln O O O g33 (Ln O O O g33 (Ln O O O g33 (Ln O O O g33 (Ln O O O g33 (Ln O O O g33 (Yo O O O (by decide) (Ln O O O g33 (Lq (JP O g33 O) (Je (Jf ?_))))))))))
     refine JF [(42,_),(8,_),(7,_),(6,_),(3,_)] (.m5 O O O O O) (J1 O O (Jc (Ja (Lq (Jt (vs:= [_,_,_,_,_,_,_,_,_]) Un52 O JD O (Ji (Ji (Jn))) O O) (Lq (Jh (o':=3) Un52 O ti3 O O) (Lq (Jj Un3 O O (Ji (Ji (Jn))) O) (Lq (Jb O) (Lq (JU O O (wr64 (by have:=ha.lo;have:=ha.hi;have:=hb.text;have:=KV b;omega))) (Jg O (Jm (HP a Aa ca (a.at_+Jx b) ha.text (by have:=ha.lo;have:=ha.hi;have:=hb.text;have:=KV b;omega)) (.n2 O O) (by decide) (Jl Mm1 Jw) fun u9_5 Lo fs hres=> ?_))))))))))
     obtain ⟨A2,c2,rfl,rfl,rfl⟩:=hres
     refine Lq (Jk (vs:= [_,_]) O O) (Lq (Jk (vs:= [_,_]) O O) (Jg O (Jq (cs':= [_,_,_,_,_,_,_,_,_]) (vs:= [_,_,_,_,_,_,_,_,_]) JD O O O O O (Nat.le_of_ble_eq_true O) .z (Lq (Jd O) (Je (Jf (Jo (JG (Js ?_)))))))))
     refine ⟨_,[],[RdF rgD A2 c2 (movedF a (a.at_+Jx b)).1.rs],fun Z w hs=>JV hs Un52 O JD O Jn O (.tmp O .nil),?_,fun Z w hs=>hs.out (Sd (Sd (Sd (Sr)))) (Jl Mm0 Tt2)⟩
     try simp only [Bp,Bq] at *
     have hF:JK a b earlier=movedF a (a.at_+Jx b):=by
      unfold JK clashF
      first | exact if_pos ‹_› | (simp_all;done) | (simp_all;omega) | (repeat' split;all_goals first | rfl | omega | (simp_all;done) | (simp_all;omega))
     exact ⟨A2,c2,by rw [hF];rfl,O,by first | (rw [hF];done) | (rw [hF];rfl)⟩
    ·refine Lg O O O g33 (Jh (o':=3) Un52 O ti3 O O) (Lg O O O g33 (Jj Un3 O O (Ji (Jn)) O) (Lg O O O g33 (Jh (o':=3) Un52 O ti3 O O) (Lg O O O g33 (Jj Un3 O O (Ji (Ji (Jn))) O) (Lg O O O g33 (Kh O O) (Lg O O O g33 (Jb O) (J4 (t:=39) O (fun g39=> ?_) (fun g39=> ?_)))))))
     ·refine Lg O O O g39 (Jb O) (Lg O O O g33 (JP O g39 O) (Lq (JH O g33 O) (Je (Jf (JF [(42,_),(8,_),(7,_),(6,_),(3,_)] (.m5 O O O O O) (Jy O (fun h42=> ?_) (fun h42=> ?_)))))))
      ·refine Jc (Ja (Lq (Jt (vs:= [_,_,_,_,_,_,_,_,_]) Un52 O JD O (Ji (Ji (Jn))) O O) (Lq (Jh (o':=3) Un52 O ti3 O O) (Lq (Jj Un3 O O (Ji (Ji (Jn))) O) (Lq (Jb O) (Lq (JU O O (wr64 (by have:=ha.lo;have:=ha.hi;have:=hb.text;have:=KV b;omega))) (Jg O (Jm (HP a Aa ca (a.at_+Jx b) ha.text (by have:=ha.lo;have:=ha.hi;have:=hb.text;have:=KV b;omega)) (.n2 O O) (by decide) (Jl Mm1 Jw) fun u9_5 Lo fs hres=> ?_))))))))
       obtain ⟨A2,c2,rfl,rfl,rfl⟩:=hres
       refine Lq (Jk (vs:= [_,_]) O O) (Lq (Jk (vs:= [_,_]) O O) (Jg O (Jq (cs':= [_,_,_,_,_,_,_,_,_]) (vs:= [_,_,_,_,_,_,_,_,_]) JD O O O O O (Nat.le_of_ble_eq_true O) .z (Lq (Jd O) (Je (Jf (Jo (JG (Js ?_)))))))))
       refine ⟨_,[],[RdF rgD A2 c2 (movedF a (a.at_+Jx b)).1.rs],fun Z w hs=>JV hs Un52 O JD O Jn O (.tmp O .nil),?_,fun Z w hs=>hs.out (Sd (Sd (Sd (Sr)))) (Jl Mm0 Tt2)⟩
       try simp only [Bp,Bq] at *
       have hF:JK a b earlier=movedF a (a.at_+Jx b):=by
        unfold JK clashF
        first | exact if_pos ‹_› | (simp_all;done) | (simp_all;omega) | (repeat' split;all_goals first | rfl | omega | (simp_all;done) | (simp_all;omega))
       exact ⟨A2,c2,by rw [hF];rfl,O,by first | (rw [hF];done) | (rw [hF];rfl)⟩
      ·refine Jp (Ka (Jf (Jc (Ja (Lq (Jt (vs:= [_,_,_,_,_,_,_,_,_]) Un52 O JD O (Ji (Ji (Jn))) O O) (Jg O (Jm (YY a Aa ca ha.rs) (.n1 O) (by decide) (Jl Mm2 Jw) fun u14_1 Lo fs hres=> ?_)))))))
       obtain ⟨A1,c1,rfl,rfl,rfl⟩:=hres
       refine Jg O (Jq (cs':= [_,_,_,_,_,_,_,_,_]) (vs:= [_,_,_,_,_,_,_,_,_]) JD O O O O O (Nat.le_of_ble_eq_true O) .z (Lq (Jd O) (Je (Jf (Jo ?_)))))
       refine ⟨_,[],[RdF rgD A1 c1 a.rs],fun Z w hs=>JV hs Un52 O JD O Jn O (.tmp O .nil),?_,fun Z w hs=>hs.out (Sd (Sd (Sd (Sr)))) (Jl Mm0 Tt2)⟩
       try simp only [Bp,Bq] at *
       have hF:JK a b earlier=(a,0):=by
        unfold JK clashF
        first | exact if_pos ‹_› | (simp_all;done) | (simp_all;omega) | (repeat' split;all_goals first | rfl | omega | (simp_all;done) | (simp_all;omega))
       exact ⟨A1,c1,by rw [hF];rfl,O,by first | (rw [hF];done) | (rw [hF];rfl)⟩
     ·refine Ln O O O g39 (Lg O O O g33 (JH O g39 O) (Lq (JH O g33 O) (Je (Jf (JF [(42,_),(8,_),(7,_),(6,_),(3,_)] (.m5 O O O O O) (Jv O O (Jp (Ka (Jf (Jc (Ja (Lq (Jt (vs:= [_,_,_,_,_,_,_,_,_]) Un52 O JD O (Ji (Ji (Jn))) O O) (Jg O (Jm (YY a Aa ca ha.rs) (.n1 O) (by decide) (Jl Mm2 Jw) fun u14_1 Lo fs hres=> ?_))))))))))))))
      obtain ⟨A1,c1,rfl,rfl,rfl⟩:=hres
      refine Jg O (Jq (cs':= [_,_,_,_,_,_,_,_,_]) (vs:= [_,_,_,_,_,_,_,_,_]) JD O O O O O (Nat.le_of_ble_eq_true O) .z (Lq (Jd O) (Je (Jf (Jo ?_)))))
      refine ⟨_,[],[RdF rgD A1 c1 a.rs],fun Z w hs=>JV hs Un52 O JD O Jn O (.tmp O .nil),?_,fun Z w hs=>hs.out (Sd (Sd (Sd (Sr)))) (Jl Mm0 Tt2)⟩
      try simp only [Bp,Bq] at *
      have hF:JK a b earlier=(a,0):=by
       unfold JK clashF
       first | exact if_pos ‹_› | (simp_all;done) | (simp_all;omega) | (repeat' split;all_goals first | rfl | omega | (simp_all;done) | (simp_all;omega))
      exact ⟨A1,c1,by rw [hF];rfl,O,by first | (rw [hF];done) | (rw [hF];rfl)⟩
   ·refine Jc (Jc (Ja (Lq (Kh O O) (Lq (Jd O) (Je (Jf (Jy O (fun h51=> ?_) (fun h51=> ?_))))))))
    ·refine Jp (Jf (J1 O h51 (Jc (Ja (Lq (Jh (o':=5) Un52 O Ya O O) (Lq (Jj Un50 O O (Ji (Ji (Jn))) O) (Lq (Jh (o':=3) Un52 O ti3 O O) (Lq (Jj Un3 O O (Ji (Jn)) O) (Lq (Jb O) (Jg O (Jm (Xh Aa ca a.rs b.at_ (Jx b) ha.rs) (.n3 O O O) (by decide) (Jl Mm2 Jw) fun u12_5 Lo fs hres=> ?_)))))))))))
     obtain ⟨A3,c3,rfl,rfl,rfl⟩:=hres
     refine Lq (Jb O) (Lq (Jk (vs:= [_,_]) O O) (Lq (Jk (vs:= [_,_]) O O) (Lq (Jd O) (Lq (Jd O) (Je (Jf (JF [(10,_),(9,_),(7,_),(6,_),(3,_)] (.m5 O O O O O) (Jc (Ja (Lq (Jt (vs:= [_,_,_,_,_,_,_,_,_]) Un52 O JD O (Ji (Ji (Jn))) O O) (Lq (Jb O) ?_)))))))))))
     refine Lq (Jb O) (Jg O (Jm (EO a Aa A3 ca c3 (thrF a.rs b.at_ (Jx b)).1 (thrF a.rs b.at_ (Jx b)).2) (.n3 O O O) (by decide) (Jl Mm0 Jw) fun u13_3 Lo fs hres=> ?_))
     obtain ⟨A4,c4,rfl,rfl,rfl⟩:=hres
     refine Lq (Jk (vs:= [_,_]) O O) (Lq (Jk (vs:= [_,_]) O O) (Jg O (Jq (cs':= [_,_,_,_,_,_,_,_,_]) (vs:= [_,_,_,_,_,_,_,_,_]) JD O O O O O (Nat.le_of_ble_eq_true O) .z (Lq (Jd O) (Je (Jf (Jo (JG (Js ?_)))))))))
     refine ⟨_,[],[RdF rgD A4 c4 (rangedF a (thrF a.rs b.at_ (Jx b)).1 (thrF a.rs b.at_ (Jx b)).2).1.rs],fun Z w hs=>JV hs Un52 O JD O Jn O (.tmp O .nil),?_,fun Z w hs=>hs.out (Sd (Sd (Sd (Sr)))) (Jl Mm0 Tt3)⟩
     try simp only [Bp,Bq] at *
     have hF:JK a b earlier=rangedF a (thrF a.rs b.at_ (Jx b)).1 (thrF a.rs b.at_ (Jx b)).2:=by
      unfold JK clashF
      first | exact if_pos ‹_› | (simp_all;done) | (simp_all;omega) | (repeat' split;all_goals first | rfl | omega | (simp_all;done) | (simp_all;omega))
     exact ⟨A4,c4,by rw [hF];rfl,O,by first | (rw [hF];done) | (rw [hF];rfl)⟩
    ·refine Ja (Lq (Kh O O) (Lq (Jd O) (Je (Jf (Jy O (fun h51=> ?_) (fun h51=> ?_))))))
     ·refine Jc (Ja (Lq (Jh (o':=5) Un52 O Ya O O) (Lq (Jj Un50 O O (Ji (Ji (Jn))) O) (Lq (Jh (o':=3) Un52 O ti3 O O) (Lq (Jj Un3 O O (Ji (Jn)) O) (Lq (Jb O) (Jg O (Jm (Xh Aa ca a.rs b.at_ (Jx b) ha.rs) (.n3 O O O) (by decide) (Jl Mm2 Jw) fun u12_5 Lo fs hres=> ?_))))))))
      obtain ⟨A3,c3,rfl,rfl,rfl⟩:=hres
      refine Lq (Jb O) (Lq (Jk (vs:= [_,_]) O O) (Lq (Jk (vs:= [_,_]) O O) (Lq (Jd O) (Lq (Jd O) (Je (Jf (JF [(10,_),(9,_),(7,_),(6,_),(3,_)] (.m5 O O O O O) (Jc (Ja (Lq (Jt (vs:= [_,_,_,_,_,_,_,_,_]) Un52 O JD O (Ji (Ji (Jn))) O O) (Lq (Jb O) ?_)))))))))))
      refine Lq (Jb O) (Jg O (Jm (EO a Aa A3 ca c3 (thrF a.rs b.at_ (Jx b)).1 (thrF a.rs b.at_ (Jx b)).2) (.n3 O O O) (by decide) (Jl Mm0 Jw) fun u13_3 Lo fs hres=> ?_))
      obtain ⟨A4,c4,rfl,rfl,rfl⟩:=hres
      refine Lq (Jk (vs:= [_,_]) O O) (Lq (Jk (vs:= [_,_]) O O) (Jg O (Jq (cs':= [_,_,_,_,_,_,_,_,_]) (vs:= [_,_,_,_,_,_,_,_,_]) JD O O O O O (Nat.le_of_ble_eq_true O) .z (Lq (Jd O) (Je (Jf (Jo (JG (Js ?_)))))))))
      refine ⟨_,[],[RdF rgD A4 c4 (rangedF a (thrF a.rs b.at_ (Jx b)).1 (thrF a.rs b.at_ (Jx b)).2).1.rs],fun Z w hs=>JV hs Un52 O JD O Jn O (.tmp O .nil),?_,fun Z w hs=>hs.out (Sd (Sd (Sd (Sr)))) (Jl Mm0 Tt3)⟩
      try simp only [Bp,Bq] at *
      have hF:JK a b earlier=rangedF a (thrF a.rs b.at_ (Jx b)).1 (thrF a.rs b.at_ (Jx b)).2:=by
       unfold JK clashF
       first | exact if_pos ‹_› | (simp_all;done) | (simp_all;omega) | (repeat' split;all_goals first | rfl | omega | (simp_all;done) | (simp_all;omega))
      exact ⟨A4,c4,by rw [hF];rfl,O,by first | (rw [hF];done) | (rw [hF];rfl)⟩
     ·refine Jp (Ka (Jf (Jc (Ja (Lq (Jt (vs:= [_,_,_,_,_,_,_,_,_]) Un52 O JD O (Ji (Ji (Jn))) O O) (Jg O (Jm (YY a Aa ca ha.rs) (.n1 O) (by decide) (Jl Mm2 Jw) fun u14_1 Lo fs hres=> ?_)))))))
      obtain ⟨A1,c1,rfl,rfl,rfl⟩:=hres
      refine Jg O (Jq (cs':= [_,_,_,_,_,_,_,_,_]) (vs:= [_,_,_,_,_,_,_,_,_]) JD O O O O O (Nat.le_of_ble_eq_true O) .z (Lq (Jd O) (Je (Jf (Jo ?_)))))
      refine ⟨_,[],[RdF rgD A1 c1 a.rs],fun Z w hs=>JV hs Un52 O JD O Jn O (.tmp O .nil),?_,fun Z w hs=>hs.out (Sd (Sd (Sd (Sr)))) (Jl Mm0 Tt2)⟩
      try simp only [Bp,Bq] at *
      have hF:JK a b earlier=(a,0):=by
       unfold JK clashF
       first | exact if_pos ‹_› | (simp_all;done) | (simp_all;omega) | (repeat' split;all_goals first | rfl | omega | (simp_all;done) | (simp_all;omega))
      exact ⟨A1,c1,by rw [hF];rfl,O,by first | (rw [hF];done) | (rw [hF];rfl)⟩
set_option maxRecDepth 10000 in
theorem E0 (A:Option Addr) (c:Nat) (xs:List GOp) (hf: ∀o∈xs,Fit o) (hl:xs.length≤1000000000):Sp Tryz.prog 128 [.slice A xs.length c] [] [RdF opD A c xs] (fun v Lo fs=> ∃p css,RowS 52 9 v xs.length css.flatten p∧Lo= [p] ∧fs= [RepsF opD xs css]):=by
 refine Sp.of (n:=22) ⟨_,Tryz.func128,O,O,O,O⟩ (Nat.le_of_ble_eq_true O) fun Ps As=>Jc (Ja (Lq (Jd O) (Je (Jf (Jc (Ja (Lq (Jb O) (Lq (J3 Un78 O) (Jg O (Jaw Un78 JD O O (by omega) (by unfold maxLen;omega) (by decide) fun v0 p0 hr0=>Lq (Jd O) (Je (Jf (Jc (Jc (Ja (Lq (Jb O) ?_))))))))))))))))
 refine Lq (J3 Un78 O) (Lq (Jb O) (Je (Jf (JE (Ke (A:=RepsF opD (xs.take 0) []) (fun Z w hs=>Reps.nil) ?_)))))
 refine Kf (α:=Nat×Value×Part×List (List Value)) (fun (k,v,p,css)=>xs.length-k)
  (fun (k,v,p,css)=> [(9, .slice A xs.length c),(10, .int .i64 xs.length),(11, .int .i64 k),(3,v)])
  (fun (k,v,p,css)=>(p::Ps))
  (fun (k,v,p,css)=>(RepsF opD (xs.take k) css::RdF opD A c xs::As))
  (fun (k,v,p,css)=>k≤xs.length∧RowS 52 9 v k css.flatten p)
  (0,v0,p0,[]) ?_ (.m4 rfl rfl rfl rfl) (Sr) (fun _ h=>h) ?_
 ·exact ⟨Nat.zero_le _,hr0⟩
 ·rintro ⟨k,v,p,css⟩ hI
  have hle:k≤xs.length:=hI.1
  refine Jc (Ja (Lq (Km O O) (Je (Jf (Jc (Jy O (fun h12=> ?_) (fun h12=> ?_)))))))
  ·refine Jp (Jf (Jc (JE (Jc ?_))))
   have hk:k<xs.length:=by simpa using h12
   refine Kd (k:=k) Mm1 (List.getElem?_eq_getElem hk) (op_open _) fun b4 q4 y4 e4=> ?_
   cases e4
   refine Ja (Lq (J7 Un78 JD O O (by omega) (by omega)) (Lq (Kq (k:=0) (vs:= [_,_,_,_,_,_,_,_,_]) Un52 O JD O Mm0 O O O) (Jg O (Ju (cs:= [_,_,_,_,_,_,_,_,_]) JD O (by decide) fun b5=>Jg O (Jq (cs':= [_,_,_,_,_,_,_,_,_]) (vs:= [_,_,_,_,_,_,_,_,_]) JD O O O O O (Nat.le_of_ble_eq_true O) .z (Je (Jf (Ja (Lq (Jb O) (Lq (Jt (vs:= [_,_,_,_,_,_,_,_,_]) Un52 O JD O Jn O O) (Jg O (Jm (YY xs[k] y4.1 y4.2 (hf _ (List.getElem_mem hk)).rs) (.n1 O) (by decide) (Jl Mm1 Jw) fun u5_2 Lo fs hres=> ?_))))))))))))
   obtain ⟨A1,c1,rfl,rfl,rfl⟩:=hres
   refine Jg O (KF (cs:= [_,_,_,_,_,_,_,_,_]) Un78 JD (by decide) (by decide) O O O O (by decide) fun b18=>Jg O (KH (news:= [_,_,_,_,_,_,_,_,_]) Un78 JD O (by decide) O O hI.2.row Jn O O (by omega) (by unfold maxLen;omega) (by decide) (DelAt.perm .z2) fun v19 p19 hr19=>Lq (Jd O) (Je (Ka (Jf (Vi (u:=xs[k]) (cs:=opC xs[k] A1 c1) Mm3 (fun Z w hs=>⟨A1,c1,O,hs.facts _ Mm0⟩) (List.take_succ_eq_append_getElem hk) (Ja (Lq (JU O O (wr64 (by omega))) (Lq (Jb O) (Je (Kp ?_)))))))))))
   refine ⟨(k+1,v19,p19,css++ [opC xs[k] A1 c1]),?_,(.m4 O O O O),(Sk (Sd (Sd (Sr)))),(Jl Mm0 Tt5)⟩
   refine ⟨by show xs.length-(k+1)<xs.length-k;omega,by show k+1≤xs.length;omega,?_⟩
   have:=hr19.toS (by omega)
   rw [List.flatten_append,show [opC xs[k] A1 c1].flatten=opC xs[k] A1 c1 from by simp]
   exact this
  ·refine Kk (JL (JL (Kc (Jf (Jc (Ja (Lq (Jb O) (Lq (Jd O) (Je (Jf (Jo ?_)))))))))))
   refine ⟨_,[p],[RepsF opD (xs.take k) css],fun Z w hs=> .tmp O .nil,?_,fun Z w hs=>hs.out (Sk (Sr)) (fun _ h=>h)⟩
   try simp only [Bp,Bq] at *
   obtain rfl:k=xs.length:=by omega
   exact ⟨p,css,hI.2,O,by rw [List.take_length]⟩
set_option maxRecDepth 10000 in
theorem Jbf (A B:Option Addr) (c d:Nat) (xs ys:List GOp) (hx: ∀o∈xs,Fit o) (hy: ∀o∈ys,Fit o) (hlx:xs.length≤1000000000) (hly:ys.length≤1000000000):Sp Tryz.prog 103 [.slice A xs.length c, .slice B ys.length d] [] [barF,RdF opD A c xs,RdF opD B d ys] (CrP (crossF xs ys)):=by
 refine Sp.of (n:=71) ⟨_,Tryz.func103,O,O,O,O⟩ (Nat.le_of_ble_eq_true O) fun Ps As=>Jc (Ja (Lq (Jd O) (Lq (Jd O) (Lq (Jd O) (Je (Jf (Jc (Jc (Ke (A:=RdF opD none 0 []) (fun Z w hs=>RdS.nil _ _ _) (Ja (Lq (Jb O) (Jg O (Jm (ZX A c xs hx (by omega)) (.n1 O) (by decide) (Jl Mm1 (Jl Mm2 Jw)) fun u1_1 Lo fs hres=> ?_)))))))))))))
 obtain ⟨rfl,rfl,rfl⟩:=hres
 refine Lq (Jd O) (Je (Jf (Jc (Ja (Lq (Jb O) (Lq (Kz O O) (Je (Jf (Jy O (fun h14=> ?_) (fun h14=> ?_))))))))))
 ·refine Jc (Ja (Lq (Jb O) (Lq (Jd O) (Lq (Jd O) (Lq (Jd O) (Je (Jf (Jo (Js ?_)))))))))
  refine ⟨_,[],[RdF opD none 0 [],RdF opD none 0 []],fun Z w hs=> .tmp O (.tmp O (.tmp O .nil)),?_,fun Z w hs=>hs.out (Sr) (Jl Mm0 (Jl Mm0 Tt1))⟩
  try simp only [Bp,Bq] at *
  have hF:crossF xs ys=_:=EZ (by omega)
  exact ⟨none,0,none,0,by rw [hF];rfl,O,by rw [hF]⟩
 ·refine Jp (Jf (Jc (Jc (Ja (Lq (Jb O) (Jg O (Jm (ZX B d ys hy (by omega)) (.n1 O) (by decide) (Jl Mm1 (Jl Mm3 Jw)) fun u4_1 Lo fs hres=> ?_)))))))
  obtain ⟨rfl,rfl,rfl⟩:=hres
  refine Lq (Jd O) (Je (Jf (Jc (Ja (Lq (Jb O) (Lq (Kz O O) (Je (Jf (Jy O (fun h19=> ?_) (fun h19=> ?_))))))))))
  ·refine Jc (Ja (Lq (Jb O) (Lq (Jd O) (Lq (Jd O) (Lq (Jd O) (Je (Jf (JF [(6,_),(5,_),(4,_),(0,_),(1,_)] (.m5 O O O O O) (Jo (Js ?_))))))))))
   refine ⟨_,[],[RdF opD none 0 [],RdF opD none 0 []],fun Z w hs=> .tmp O (.tmp O (.tmp O .nil)),?_,fun Z w hs=>hs.out (Sr) (Jl Mm0 (Jl Mm0 Tt1))⟩
   try simp only [Bp,Bq] at *
   have hF:crossF xs ys=_:=EY (by omega) (by omega)
   exact ⟨none,0,none,0,by rw [hF];rfl,O,by rw [hF]⟩
  ·refine Jp (Jf (Jc (Ja (Lq (Jb O) (Jg O (Jm (E0 A c xs hx hlx) (.n1 O) (by decide) (Jl Mm2 Jw) fun u7_1 Lo fs hres=> ?_))))))
   obtain ⟨pF0,cssF0,hF0,rfl,rfl⟩:=hres
   refine Lq (Jd O) (Je (Jf (JF [(4,_),(6,_),(5,_),(1,_)] (.m4 O O O O) (Jc (Ja (Lq (Jb O) (Jg O (Jm (E0 B d ys hy hly) (.n1 O) (by decide) (Jl Mm4 Jw) fun u8_1 Lo fs hres=> ?_))))))))
   obtain ⟨pL0,cssL0,hL0,rfl,rfl⟩:=hres
   refine Lq (Jd O) (Je (Jf (Jc (Jc ?_))))
   try simp only [Bp,Bq] at *
   obtain ⟨hF1,bF,cF,jF,rfl,rfl,hF2,hF3,hF4⟩:=hF0
   obtain ⟨hL1,bL,cL,jL,rfl,rfl,hL2,hL3,hL4⟩:=hL0
   refine Ja (Lq (Jb O) (Lq (J3 Un78 O) (Lq (Jb O) (Je (Jf (JE ?_))))))
   refine Kf (α:=Nat×List GOp×List GOp×List (List Value)×List (List Value)) (fun (i,F,L,cssF,cssL)=>ys.length-i)
    (fun (i,F,L,cssF,cssL)=> [(4, .slice (some ⟨bF,0,none⟩) xs.length cF),(5, .slice (some ⟨bL,0,none⟩) ys.length cL),(26, .int .i64 ys.length),(27, .int .i64 i)])
    (fun (i,F,L,cssF,cssL)=>([(bL,JB (cssL.flatten++jL) 52)] :: [(bF,JB (cssF.flatten++jF) 52)] ::Ps))
    (fun (i,F,L,cssF,cssL)=>(RepsF opD L cssL::RepsF opD F cssF::RdF opD none 0 [] ::barF::RdF opD A c xs::RdF opD B d ys::As))
    (fun (i,F,L,cssF,cssL)=>CoI xs ys F L i)
    (0,xs,ys,cssF0,cssL0) ?_ (.m4 rfl rfl rfl rfl) (Sk (Sk (Sr))) (fun _ h=>h) ?_
   ·exact CoI.zero hx hy
   ·rintro ⟨i,F,L,cssF,cssL⟩ hI
    refine Jc (Ja (Lq (Km O O) (Je (Jf (Jc (Jy O (fun h28=> ?_) (fun h28=> ?_)))))))
    ·refine Jp (Jf (Jc (JE (Jc (Ja (Lq (Jb O) (Lq (Jd O) (Je (Jf (Jc (Ja (Lq (Jb O) (Lq (J3 Un78 O) (Lq (Jb O) (Je (Jf (JE ?_)))))))))))))))))
     have hi:i<L.length:=by simp only [decide_eq_true_eq] at h28;have:=hI.lenL;omega
     refine Ke (A:=RepsF opD (L.set i L[i]) cssL) (fun Z w hs=>by rw [List.set_getElem_self];exact hs.facts _ Mm0) ?_
     refine Kf (α:=Nat×List GOp×GOp×List (List Value)×List (List Value)) (fun (k,G,l,cssG,cssM)=>xs.length-k)
      (fun (k,G,l,cssG,cssM)=> [(4, .slice (some ⟨bF,0,none⟩) xs.length cF),(5, .slice (some ⟨bL,0,none⟩) ys.length cL),(26, .int .i64 ys.length),(27, .int .i64 i),(7, .int .i64 i),(31, .int .i64 xs.length),(32, .int .i64 k)])
      (fun (k,G,l,cssG,cssM)=>([(bL,JB (cssM.flatten++jL) 52)] :: [(bF,JB (cssG.flatten++jF) 52)] ::Ps))
      (fun (k,G,l,cssG,cssM)=>(RepsF opD (L.set i l) cssM::RepsF opD G cssG::RdF opD none 0 [] ::barF::RdF opD A c xs::RdF opD B d ys::As))
      (fun (k,G,l,cssG,cssM)=>CiI L[i] F G l k)
      (0,F,L[i],cssF,cssL) ?_ (.m7 rfl rfl rfl rfl rfl rfl rfl) (Sk (Sk (Sr))) (Jl Mm0 Tt2) ?_
     ·exact CiI.zero hI.fitF (hI.fitL _ (List.getElem_mem hi))
     ·rintro ⟨k,G,l,cssG,cssM⟩ hI2
      refine Jc (Ja (Lq (Km O O) (Je (Jf (Jc (Jy O (fun h33=> ?_) (fun h33=> ?_)))))))
      ·refine Jp (Jf (Jc (JE (Jc (Ja (Lq (Jb O) (Lq (Jd O) (Je (Jf (Jc ?_))))))))))
       have hk:k<G.length:=by simp only [decide_eq_true_eq] at h33;have:=hI.lenF;have:=hI2.len;omega
       have hi2:i<ys.length:=by have:=hI.lenL;omega
       have hk2:k<xs.length:=by have:=hI.lenF;have:=hI2.len;omega
       refine HX (k:=i) (u:=l) Mm0 (by simp [hi]) (op_open _) fun yl hyl=>HX (k:=k) Mm2 (List.getElem?_eq_getElem hk) (op_open _) fun yf hyf=> ?_
       refine Vh Mm2 fun hlM hlsM=>Vh Mm3 fun hlG hlsG=> ?_
       rw [List.length_set] at hlM
       refine JI _ _ [11] (.c 0 0 (.c 1 0 (.c 2 0 (.c 3 0 (.c 4 0 (.c 5 0 (.c 6 0 (.c 7 0 (.c 8 4 (.c 9 4 (.c 10 2 (.c 11 3 .nil)))))))))))) mixed (fun _ _ _ _ h=>h) (Sk (Sk (Sr))) (fun _ h=>h) (by kernel_rfl) (by decide) fun ws Z0=>Qe O (Jb O) (Qe O (Jb O) (Qe O (Yb Un78 JD O O (by omega) (by omega)) (Qe O (HL (i:=i) Un52 O JD O (by simp) Jn hlsM hyl) (Qe O (Jb O) (Qe O (Jb O) (Qe O (Yb Un78 JD O O (by omega) (by omega)) (Qe O (HL (i:=k) Un52 O JD O (by simp) (Ji (Jn)) hlsG hyf) ?_)))))))
       refine Ed O O (cs1:= [_,_,_,_,_,_,_,_,_]) (cs2:= [_,_,_,_,_,_,_,_,_]) JD O JD O (by decide) (by decide) (by decide) (Sk (Sk (Sr))) Mm0 fun b9 b10=>Jz O O (Jq (cs':= [_,_,_,_,_,_,_,_,_]) (vs:= [_,_,_,_,_,_,_,_,_]) JD O O O O O (Nat.le_of_ble_eq_true O) .z1 ?_)
       refine ⟨⟨(Sd (Sd (Sk (Sk (Sr))))),Mm0⟩,?_⟩
       refine JN (J8 O O (Jq (cs':= [_,_,_,_,_,_,_,_,_]) (vs:= [_,_,_,_,_,_,_,_,_]) JD O O O O O (Nat.le_of_ble_eq_true O) .z (JM (Jf (Jc (Jc (Ja (Lq (Jb O) (Lq (Jb O) (Lq (Jt (vs:= [_,_,_,_,_,_,_,_,_]) Un52 O JD O (Ji (Jn)) O O) (Lq (Jt (vs:= [_,_,_,_,_,_,_,_,_]) Un52 O JD O Jn O O) (Jg O (Jm (G0 l G[k] yl.1 yf.1 yl.2 yf.2 true hI2.fitl (hI2.fit _ (List.getElem_mem hk))) (.n3 O O O) (by decide) (Jl Mm6 (Jl Mm2 Jw)) fun u16_4 Lo fs hres=> ?_)))))))))))))
       obtain ⟨A1,c1,rfl,rfl,rfl⟩:=hres
       refine Lq (Jb O) (Lq (Jk (vs:= [_,_]) O O) (Lq (Jk (vs:= [_,_]) O O) (Lq (Yb Un78 JD O O (by omega) (by omega)) (Jg O (Ee (i:=i) (c:=opC (JK l G[k] true).1 A1 c1) JD O (by simp) O O O hlsM (by omega) .z2 (GH (xs':=L.set i (JK l G[k] true).1) i Mm4 (fun Z w hs=>⟨A1,c1,O,hs.facts _ Mm0⟩) (by rw [List.set_set]) (Lq (Jd O) (Je (Jf (Jc (Ja (Lq (Jb O) (Lq (Kz O O) ?_)))))))))))))
       refine Je (Jf (Jy O (fun h53=> ?_) (fun h53=> ?_)))
       ·refine Jc (Ja (Lq (Jb O) (Lq (Jd O) (Lq (Jd O) (Lq (Jd O) (Je (Jf (Jo (Js (JG (Js (Js (JG (JG (Js (Js (JG (Js ?_))))))))))))))))))
        refine ⟨_,[],[RdF opD none 0 [],RdF opD none 0 []],fun Z w hs=> .tmp O (.tmp O (.tmp O .nil)),?_,fun Z w hs=>hs.out (Sd (Sd (Sd (Sd (Sr))))) (Jl Mm7 (Jl Mm7 Tt8))⟩
        try simp only [Bp,Bq] at *
        have hF:crossF xs ys=_:=Gv (by omega) (by omega) (hI.err hi (hI2.err1 hk (by omega)))
        exact ⟨none,0,none,0,by rw [hF];rfl,O,by rw [hF]⟩
       ·refine Jp (Jf (Jc (Ja (Lq (Jb O) (Lq (Jb O) (Lq (Jt (vs:= [_,_,_,_,_,_,_,_,_]) Un52 O JD O Jn O O) (Lq (Jt (vs:= [_,_,_,_,_,_,_,_,_]) Un52 O JD O (Ji (Jn)) O O) (Jg O (Jm (G0 G[k] l yf.1 yl.1 yf.2 yl.2 false (hI2.fit _ (List.getElem_mem hk)) hI2.fitl) (.n3 O O O) (by decide) (Jl Mm8 (Jl Mm3 Jw)) fun u19_4 Lo fs hres=> ?_)))))))))
        obtain ⟨A2,c2,rfl,rfl,rfl⟩:=hres
        refine Lq (Jb O) (Lq (Jk (vs:= [_,_]) O O) (Lq (Jk (vs:= [_,_]) O O) (Lq (Yb Un78 JD O O (by omega) (by omega)) (Jg O (Ee (i:=k) (c:=opC (JK G[k] l false).1 A2 c2) JD O (by simp) O O O hlsG (by omega) .z3 (GH k Mm7 (fun Z w hs=>⟨A2,c2,O,hs.facts _ Mm0⟩) O (Lq (Jd O) (Je (Jf (Jc (Ja (Lq (Jb O) (Lq (Kz O O) ?_)))))))))))))
        refine Je (Jf (Jy O (fun h65=> ?_) (fun h65=> ?_)))
        ·refine Jc (Ja (Lq (Jb O) (Lq (Jd O) (Lq (Jd O) (Lq (Jd O) (Je (Jf (Jo (JG (Js (Js (JG (JG (Js (Js (JG (Js ?_)))))))))))))))))
         refine ⟨_,[],[RdF opD none 0 [],RdF opD none 0 []],fun Z w hs=> .tmp O (.tmp O (.tmp O .nil)),?_,fun Z w hs=>hs.out (Sd (Sd (Sd (Sd (Sr))))) (Jl Mm9 (Jl Mm9 Tt10))⟩
         try simp only [Bp,Bq] at *
         have hF:crossF xs ys=_:=Gv (by omega) (by omega) (hI.err hi (hI2.err2 hk (by omega) (by omega)))
         exact ⟨none,0,none,0,by rw [hF];rfl,O,by rw [hF]⟩
        ·refine Jp (Ka (Jf (Ja (Lq (JU O O (wr64 (by omega))) (Lq (Jb O) (Je (Kp ?_)))))))
         refine ⟨(k+1,G.set k (JK G[k] l false).1,(JK l G[k] true).1,cssG.set k (opC (JK G[k] l false).1 A2 c2),cssM.set i (opC (JK l G[k] true).1 A1 c1)),?_,(.m7 O O O O O O O),(Sd (Sd (Sk (Sk (Sr))))),(Jl Mm2 (Jl Mm0 Tt9))⟩
         try simp only [Bp,Bq] at *
         exact ⟨by show xs.length-(k+1)<xs.length-k;omega,hI2.next hk (by omega) (by omega)⟩
      ·refine Kk (JL (JL (Kc (Ka (Jf (Ja (Lq (JU O O (wr64 (by have:=hI.lenL;omega))) (Lq (Jb O) (Je (Kp ?_))))))))))
       refine ⟨(i+1,G,L.set i l,cssG,cssM),?_,(.m4 O O O O),(Sk (Sk (Sr))),(fun _ h=>h)⟩
       try simp only [Bp,Bq] at *
       exact ⟨by show ys.length-(i+1)<ys.length-i;omega,hI.next hi (hI2.done (by have:=hI.lenF;have:=hI2.len;omega)) hI2.len hI2.fit hI2.fitl⟩
    ·refine Kk (JL (JL (Kc (Jf (Jc ?_)))))
     try simp only [Bp,Bq] at *
     have hcr:=hI.done (by have:=hI.lenL;omega)
     refine Vh Mm0 fun hlL hlsL=>Vh Mm1 fun hlF hlsF=>KJ (e:=opD) (css:=cssL) (xs:=L) (Row.again hL1 hL2 hL3 hL4 (by have:=hI.lenL;omega) hlsL) .z (by have:=hI.lenL;omega) Mm0 fun AL cL' eL=> ?_
     obtain ⟨rfl,_,rfl⟩:=Value.slice.inj eL
     refine KJ (e:=opD) (css:=cssF) (xs:=F) (Row.again hF1 hF2 hF3 hF4 (by have:=hI.lenF;omega) hlsF) .z (by have:=hI.lenF;omega) Mm2 fun AF cF' eF=> ?_
     obtain ⟨rfl,_,rfl⟩:=Value.slice.inj eF
     refine Ja (Lq (Jb O) (Lq (Jb O) (Lq (Jd O) (Lq (Jd O) (Lq (Jd O) (Je (Jf (Jo ?_))))))))
     refine ⟨_,[],[RdF opD (some ⟨bF,0,none⟩) cF F,RdF opD (some ⟨bL,0,none⟩) cL L],fun Z w hs=> .tmp O (.tmp O (.tmp O .nil)),?_,fun Z w hs=>hs.out (Sr) (Jl Mm0 (Jl Mm1 Tt5))⟩
     have hF:=Gu (by omega) (by omega) hcr
     exact ⟨some ⟨bF,0,none⟩,cF,some ⟨bL,0,none⟩,cL,by rw [hF,hI.lenF,hI.lenL];rfl,O,by rw [hF]⟩
theorem K6 (H:Hist):H.ops.length=H.ents.length:=by simp [Hist.ops]
theorem Va {H:Hist} {k:Nat} (h:k<H.ents.length):H.ops[k]'(by rw [K6];exact h)=H.ents[k].op:=by simp [Hist.ops]
theorem bd97_1Xw12 (x1_:Option Nat) (w:World):(Instr.build 159 #[(1, .map x1_)]).run Tryz.prog w= .ok (.agg #[.slice none 0 0, .map x1_, .int .i64 0]) w:=by kernel_rfl
set_option maxRecDepth 10000 in
theorem Jcu:Sp Tryz.prog 68 [] [] [] (fun v Lo fs=> ∃h m,v= .pointer (some ⟨h,0,none⟩)∧Lo= [hdP h none 0 0 m 0,mpP m [],mkP []] ∧fs= [RdF opD none 0 [],AllF ([] :List MR) nowF]):=by
 refine Sp.of (n:=4) ⟨_,Tryz.func68,rfl,rfl,rfl,rfl⟩ (Nat.le_of_ble_eq_true rfl) fun Ps As=>Jc (Ja (Lq (Jd rfl) (Je (Jf (Jc (Ky (Ke (A:=AllF ([] :List MR) nowF) (fun Z w hs x hx=>by cases hx) (Ke (A:=RdF opD none 0 []) (fun Z w hs=>RdS.nil _ _ _) (Ja (Jg rfl (Hz (by decide) fun b1=>Lq (JZ (.n1 rfl) (bd97_1Xw12 _)) ?_)))))))))))
 refine Jg O (J9 (cs:= [_,_,_]) O O (by decide) fun b3=>Lq (Jd O) (Je (Jf (Jo ?_))))
 refine ⟨_,[_,_,_],[_,_],fun Z w hs=> .tmp O .nil,?_,fun Z w hs=>hs.out (Sk (Sk (Sk (Sr)))) (fun _ h=>h)⟩
 exact ⟨b3,b1,O,O,O⟩
set_option maxRecDepth 10000 in
theorem Ho (h m len cap:Nat) (A:Option Addr) (total:Int):Sp Tryz.prog 58 [.pointer (some ⟨h,0,none⟩)] [hdP h A len cap m total] [] (fun v Lo fs=>v= .int .i64 len∧Lo= [hdP h A len cap m total] ∧fs= []):=by
 refine Sp.of (n:=8) ⟨_,Tryz.func58,O,O,O,O⟩ (Nat.le_of_ble_eq_true O) fun Ps As=>Jc (Ja (Lq (Jd O) (Je (Jf (Jc (Ja (Lq (Jb O) (Lq (JC O) (Lq (Jh (o':=0) Un159 O QA O O) (Lq (Jj Un78 O O Jn O) (Lq (J3 Un78 O) (Lq (Jd O) ?_))))))))))))
 refine Je (Jf (Jo ?_))
 refine ⟨_,[_],[],fun Z w hs=> .tmp O .nil,?_,fun Z w hs=>hs.out (Sk (Sr)) (fun _ h=>h)⟩
 exact ⟨O,O,O⟩
set_option maxRecDepth 10000 in
theorem Jaq (h m cap:Nat) (A:Option Addr) (H:Hist) (L:List MR) (hr:HR H L) (i:Nat) (hi:i≤H.ents.length):Sp Tryz.prog 126 [.pointer (some ⟨h,0,none⟩), .int .i64 i] [hdP h A H.ops.length cap m H.total] [barF,RdF opD A cap H.ops] (fun v Lo fs=>v= .int .i64 (KQ H i)∧Lo= [hdP h A H.ops.length cap m H.total] ∧fs= []):=by
 have hol:=K6 H
 have hlen:=hr.len
 refine Sp.of (n:=25) ⟨_,Tryz.func126,O,O,O,O⟩ (Nat.le_of_ble_eq_true O) fun Ps As=>Jc (Ja (Lq (Jd O) (Je (Jf (Jc (Ja (Lq (Jd O) (Je (Jf (Jc (Jc (Xe Mm1 fun hcap hcap2=> ?_))))))))))))
 obtain ⟨B,hB⟩: ∃B,B=cutA A 0 cap 9:=⟨_,rfl⟩
 refine Ke (A:=RdF opD B cap (H.ops.take i)) (fun Z w hs=>by rw [hB];exact RdS.cut (lo:=0) (hi:=i) (m:=cap) (hs.facts _ Mm1) (Nat.zero_le _) (by omega) (by omega) (Nat.le_refl _)) (Ja (Lq (Jb O) (Lq (JC O) (Lq (Jh (o':=0) Un159 O QA O O) (Lq (Jj Un78 O O Jn O) (Lq (Jb O) (Lq (HM Un78 JD O O (by omega) (by omega)) (Lq (J3 Un78 O) (Lq (Jb O) ?_)))))))))
 refine Je (Jf (JE ?_))
 refine Kf (α:=Nat) (fun k=>i-k)
  (fun k=> [(5, .int .i64 (sumW (H.ents.take k))),(13, .slice B i cap),(14, .int .i64 i),(15, .int .i64 k)])
  (fun k=>(hdP h A H.ops.length cap m H.total::Ps))
  (fun k=>(RdF opD B cap (H.ops.take i)::barF::RdF opD A cap H.ops::As))
  (fun k=>k≤i)
  0 ?_ (.m4 rfl (by rw [hB];rfl) rfl rfl) (Sk (Sr)) (fun _ h=>h) ?_
 ·exact Nat.zero_le _
 ·rintro k hI
  refine Jc (Ja (Lq (Km O O) (Je (Jf (Jc (Jy O (fun h16=> ?_) (fun h16=> ?_)))))))
  ·refine Jp (Jf (Jc (JE (Jc ?_))))
   try simp only [Bp,Bq] at *
   have hk:k<(H.ops.take i).length:=by rw [List.length_take];omega
   have hke:k<H.ents.length:=by rw [List.length_take] at hk;omega
   have hop:(H.ops.take i)[k] =H.ents[k].op:=by rw [List.getElem_take,Va]
   refine Kd (k:=k) Mm0 (List.getElem?_eq_getElem hk) (op_open _) fun b4 q4 y4 e4=> ?_
   cases e4
   refine Ja (Lq (J7 Un78 JD O O (by omega) (by omega)) (Lq (Kq (k:=0) (vs:= [_,_,_,_,_,_,_,_,_]) Un52 O JD O Mm0 O O O) (Jg O (Ju (cs:= [_,_,_,_,_,_,_,_,_]) JD O (by decide) fun b7=>Jg O (Jq (cs':= [_,_,_,_,_,_,_,_,_]) (vs:= [_,_,_,_,_,_,_,_,_]) JD O O O O O (Nat.le_of_ble_eq_true O) .z (Je (Jf (Ja (Lq (Jb O) (Lq (Jt (vs:= [_,_,_,_,_,_,_,_,_]) Un52 O JD O Jn O O) (Jg O (Jm (YM (H.ops.take i)[k] y4.1 y4.2 (by have:=(hr.fit _ (List.getElem_mem hke)).text;rw [hop];omega)) (.n1 O) (by decide) (Jl Mm3 Jw) fun u5_2 Lo fs hres=> ?_))))))))))))
   obtain ⟨rfl,rfl,rfl⟩:=hres
   refine Lq (JU O O (wr64 (by have h1:=HE (H.ents.take k) (fun e he=>hr.wid e (List.mem_of_mem_take he));have h2:=hr.wid _ (List.getElem_mem hke);have h3:=KV (H.ops.take i)[k];rw [hop] at h3;rw [hop];rw [List.length_take] at h1;omega))) (Lq (Jd O) (Je (Ka (Jf (Ja (Lq (JU O O (wr64 (by omega))) (Lq (Jb O) (Je (Kp ?_)))))))))
   have hsum:sumW (H.ents.take k)+Jx (H.ops.take i)[k] =sumW (H.ents.take (k+1)):=by
    rw [List.take_succ_eq_append_getElem hke,Xt,hop];simp [sumW]
   refine ⟨k+1,?_,(.m4 (congrArg (fun z=>some (Value.int .i64 z)) hsum) O O O),(Sd (Sk (Sr))),Tt2⟩
   exact ⟨by omega,by omega⟩
  ·refine Kk (JL (JL (Kc (Jf (Jc (Ja (Lq (Jb O) (Lq (Jd O) (Je (Jf (Jo ?_)))))))))))
   try simp only [Bp,Bq] at *
   obtain rfl:k=i:=by omega
   refine ⟨_,[_],[],fun Z w hs=> .tmp O .nil,?_,fun Z w hs=>hs.out (Sk (Sr)) Tt1⟩
   exact ⟨O,O,O⟩
theorem keyT:KeyT Tryz.prog 46:=⟨⟨3,_,_,Un46,Un3,ti3⟩,eq46⟩
theorem bd25Xw13 (w:World):(Instr.build 46 #[]).run Tryz.prog w= .ok (.agg #[.int .i64 0, .int .i64 0]) w:=by kernel_rfl
set_option maxRecDepth 10000 in
theorem Jcd (h m cap:Nat) (A:Option Addr) (H:Hist) (L:List MR) (hr:HR H L) (i:Int) (o:GOp) (Ao:Option Addr) (co:Nat) (ho:Fit o):Sp Tryz.prog 102 [.pointer (some ⟨h,0,none⟩), .int .i64 i,opV o Ao co] [hdP h A H.ops.length cap m H.total,mpP m L,mkP L] [barF,RdF opD A cap H.ops,RdF rgD Ao co o.rs] (HIs (.int .i64 (fitsF H i o)) [hdP h A H.ops.length cap m H.total,mpP m L,mkP L]):=by
 have hol:=K6 H
 have hlen:=hr.len
 refine Sp.of (n:=91) ⟨_,Tryz.func102,O,O,O,O⟩ (Nat.le_of_ble_eq_true O) fun Ps As=>Jc (Ja (Jg O (J9 (cs:= [_,_,_,_,_,_,_,_,_]) O O (by decide) fun b5=>Lq (Jd O) (Je (Jf (Jc (Jc (Ja (Lq (Jb O) (Lq (Km O O) (Lq (Jb O) (J4 (t:=11) O (fun g11=> ?_) (fun g11=> ?_)))))))))))))
 ·refine Ln O O O g11 (Ln O O O g11 (Ln O O O g11 (Ln O O O g11 (Ln O O O g11 (Ln O O O g11 (Ln O O O g11 (Lq (JP O g11 O) (Je (Jf (JF [(19,_),(6,_),(5,_),(0,_),(1,_)] (.m5 O O O O O) ?_))))))))))
  refine J1 O O (Jc (Ja (Lq (Jd O) (Je (Jf (Jo (Js ?_)))))))
  refine ⟨_,[_,_,_],[],fun Z w hs=> .tmp O .nil,?_,fun Z w hs=>hs.out (Sd (Sk (Sk (Sk (Sr))))) (fun _ h=>h)⟩
  try simp only [Bp,Bq] at *
  refine ⟨congrArg (Value.int .i64) ?_,O,O⟩
  unfold fitsF fitsT fitsRest
  first | (simp_all;done) | (simp_all;omega) | (repeat' split;all_goals first | rfl | omega | (simp_all;done) | (simp_all;omega))
 ·refine Lg O O O g11 (Jb O) (Lg O O O g11 (Jb O) (Lg O O O g11 (JC O) (Lg O O O g11 (Jh (o':=0) Un159 O QA O O) (Lg O O O g11 (Jj Un78 O O (Ji (Jn)) O) (Lg O O O g11 (J3 Un78 O) (Lg O O O g11 (Kl O O) (Lq (JH O g11 O) (Je (Jf (JF [(19,_),(6,_),(5,_),(0,_),(1,_)] (.m5 O O O O O) ?_))))))))))
  refine Jy O (fun h19=> ?_) (fun h19=> ?_)
  ·refine Jc (Ja (Lq (Jd O) (Je (Jf (Jo (Js ?_))))))
   refine ⟨_,[_,_,_],[],fun Z w hs=> .tmp O .nil,?_,fun Z w hs=>hs.out (Sd (Sk (Sk (Sk (Sr))))) (fun _ h=>h)⟩
   try simp only [Bp,Bq] at *
   refine ⟨congrArg (Value.int .i64) ?_,O,O⟩
   unfold fitsF fitsT fitsRest
   first | (simp_all;done) | (simp_all;omega) | (repeat' split;all_goals first | rfl | omega | (simp_all;done) | (simp_all;omega))
  ·refine Jp (Jf (Jc (Jc ?_)))
   try simp only [Bp,Bq] at *
   obtain ⟨i,rfl⟩: ∃k:Nat,i=(k:Int):=⟨i.toNat,by omega⟩
   refine JI _ _ [] (.c 0 0 (.c 1 0 (.c 2 0 (.c 3 2 (.c 4 2 (.c 5 0 .nil)))))) mixed (fun _ _ _ _ h=>h) (Sk (Sd (Sk (Sk (Sr))))) (fun _ h=>h) (by kernel_rfl) (by decide) fun ws Z0=>Qe O (Jt (vs:= [_,_,_,_,_,_,_,_,_]) Un52 O JD O Jn O O) (Qe O (Jb O) (Qe O (Jb O) (Jz O O (JR (Jaq h m cap A H L hr i (by omega)) (.n2 O O) (by decide) .z1 (Jl Mm1 (Jl Mm2 Jw)) fun u3_3 Lo fs hres=> ?_))))
   obtain ⟨rfl,rfl,rfl⟩:=hres
   refine ⟨⟨(Sd (Sk (Sk (Sk (Sr))))),Mm0⟩,?_⟩
   refine Jz O O (Jm (Qf o Ao co (KQ H i) (by have:=ho.text;omega) ho.rs) (.n2 O O) (by decide) (Jl Mm1 (Jl Mm3 Jw)) fun u3_4 Lo fs hres=> ?_)
   obtain ⟨rfl,rfl,rfl⟩:=hres
   refine ⟨⟨(Sd (Sk (Sk (Sk (Sr))))),Mm0⟩,?_⟩
   refine Qe O (Jd O) (JN (JM (Jf (Jc (Ja (Lq (Jb O) (Lq (Kz O O) (Je (Jf (Jy O (fun h26=> ?_) (fun h26=> ?_)))))))))))
   ·refine Jc (Ja (Lq (Jb O) (Lq (Jd O) (Je (Jf (JF [(6,_),(5,_),(0,_),(1,_)] (.m4 O O O O) (Jo (Js ?_))))))))
    refine ⟨_,[_,_,_],[],fun Z w hs=> .tmp O .nil,?_,fun Z w hs=>hs.out (Sk (Sd (Sk (Sk (Sr))))) Tt1⟩
    try simp only [Bp,Bq] at *
    refine ⟨congrArg (Value.int .i64) ?_,O,O⟩
    unfold fitsF fitsT fitsRest
    first | (simp_all;done) | (simp_all;omega) | (repeat' split;all_goals first | rfl | omega | (simp_all;done) | (simp_all;omega))
   ·refine Jp (Jf (Jc (JE (Jc (Ja (Lq (Jh (o':=0) Un52 O KW O O) (Lq (Jh (o':=2) Un49 O Yt O O) (Lq (Jj Un47 O O (Ji (Jn)) O) (Lq (Kh O O) (Lq (Jd O) (Je (Jf (JF [(28,_),(6,_),(5,_),(0,_),(1,_)] (.m5 O O O O O) (Jy O (fun h28=> ?_) (fun h28=> ?_)))))))))))))))
    ·refine Jc (Ja (Lq (Jd O) (Je (Jf (Jo (JG (Js ?_)))))))
     refine ⟨_,[_,_,_],[],fun Z w hs=> .tmp O .nil,?_,fun Z w hs=>hs.out (Sk (Sd (Sk (Sk (Sr))))) Tt1⟩
     try simp only [Bp,Bq] at *
     refine ⟨congrArg (Value.int .i64) ?_,O,O⟩
     unfold fitsF fitsT fitsRest
     first | (simp_all;done) | (simp_all;omega) | (repeat' split;all_goals first | rfl | omega | (simp_all;done) | (simp_all;omega))
    ·refine Jc (Ja (Lq (Jh (o':=0) Un52 O KW O O) (Lq (Jh (o':=0) Un49 O JW O O) (Lq (Jt (vs:= [_,_]) Un46 O JW O (Ji (Jn)) O O) (Lq (JZ .nil (bd25Xw13)) (Lq (Qo O O (eq46 _ _ _ _)) (Lq (Jd O) (Je (Jf (Jy O (fun h33=> ?_) (fun h33=> ?_)))))))))))
     ·refine Jc (Ja (Lq (Jd O) (Je (Jf (Jo (JG (Js ?_)))))))
      refine ⟨_,[_,_,_],[],fun Z w hs=> .tmp O .nil,?_,fun Z w hs=>hs.out (Sk (Sd (Sk (Sk (Sr))))) Tt1⟩
      try simp only [Bp,Bq] at *
      refine ⟨congrArg (Value.int .i64) ?_,O,O⟩
      unfold fitsF fitsT fitsRest
      first | (simp_all;done) | (simp_all;omega) | (repeat' split;all_goals first | rfl | omega | (simp_all;done) | (simp_all;omega))
     ·refine Jc ?_
      cases hwd:JX H.ents o.c o.n with
      | none=>
       have hgd:=hr.look0 hwd
       refine JI _ _ [] (.c 0 0 (.c 1 0 (.c 2 0 (.c 3 0 (.c 4 0 (.c 5 0 (.c 6 0 (.c 7 0 (.c 8 0 (.c 9 0 .nil)))))))))) mixed (fun _ _ _ _ h=>h) (Sk (Sk (Sk (Sk (Sr))))) (fun _ h=>h) (by kernel_rfl) (by decide) fun ws Z0=>Qe O (Jb O) (Qe O (JC O) (Qe O (Jh (o':=1) Un159 O Qi O O) (Qe O (Jj Un157 O O Jn O) (Qe O (Jh (o':=0) Un52 O KW O O) (Qe O (Jh (o':=0) Un49 O JW O O) (Qe O (Jt (vs:= [_,_]) Un46 O JW O (Ji (Jn)) O O) (Qe O (XT keyT hgd Un157 Qw O O (Ji (Ji (Jn)))) (Qe O (QW Un160 O O (by simp)) ?_))))))))
       refine Qe O (Jd O) (JN (JM (Jf (JF [(39,_),(6,_),(5,_),(0,_),(1,_)] (.m5 O O O O O) (Jv O O (Jp (Ka (Jf (Jc (Jc (Ja (Lq (Jh (o':=0) Un52 O KW O O) (Lq (Jh (o':=2) Un49 O Yt O O) (Lq (Jj Un47 O O (Ji (Jn)) O) (Lq (Kh O O) (Je (Jf ?_)))))))))))))))))
       refine Jy O (fun h52=> ?_) (fun h52=> ?_)
       ·refine Jc ?_
        cases hwt:JX H.ents o.tc o.tn with
        | none=>
         have hgt:=hr.look0 hwt
         refine JI _ _ [] (.c 0 0 (.c 1 0 (.c 2 0 (.c 3 0 (.c 4 0 (.c 5 0 (.c 6 0 (.c 7 0 .nil)))))))) mixed (fun _ _ _ _ h=>h) (Sk (Sk (Sk (Sk (Sr))))) (fun _ h=>h) (by kernel_rfl) (by decide) fun ws Z0=>Qe O (Jb O) (Qe O (JC O) (Qe O (Jh (o':=1) Un159 O Qi O O) (Qe O (Jj Un157 O O Jn O) (Qe O (Jh (o':=6) Un52 O JW O O) (Qe O (Jt (vs:= [_,_]) Un46 O JW O (Ji (Jn)) O O) (Qe O (XT keyT hgt Un157 Qw O O (Ji (Ji (Jn)))) (Qe O (Jd O) (JN (JM ?_)))))))))
         refine Jf (JF [(8,_),(6,_),(5,_),(0,_),(1,_)] (.m5 O O O O O) (Jc (Jc (Ja (Lq (Jb O) (Lq (KN Un160 O O (by simp)) (Lq (Jb O) (Ln O O O O (Ln O O O O (Ln O O O O (Ln O O O O ?_)))))))))))
         refine Ln O O O O (Ln O O O O (Lq (JP O O O) (Je (Jf (JF [(69,_),(8,_),(6,_),(5,_),(0,_)] (.m5 O O O O O) (J1 O O (Jc (Ja (Lq (Jd O) (Je (Jf (Jo (Js (Js ?_))))))))))))))
         refine ⟨_,[_,_,_],[],fun Z w hs=> .tmp O .nil,?_,fun Z w hs=>hs.out (Sk (Sd (Sk (Sk (Sr))))) Tt3⟩
         try simp only [Bp,Bq] at *
         refine ⟨congrArg (Value.int .i64) ?_,O,O⟩
         unfold fitsF fitsT fitsRest
         first | (simp_all;done) | (simp_all;omega) | (repeat' split;all_goals first | rfl | omega | (simp_all;done) | (simp_all;omega))
        | some kt=>
         obtain ⟨hkt,jt,xt,hct,hnt,hjt,hmt,hgt⟩:=hr.look1 hwt
         obtain ⟨xmt,xbt,xAt,xct⟩:=xt
         obtain rfl:xmt=markAt kt H.ents[kt] :=hmt
         refine JI _ _ [] (.c 0 0 (.c 1 0 (.c 2 0 (.c 3 0 (.c 4 0 (.c 5 0 (.c 6 0 (.c 7 0 .nil)))))))) mixed (fun _ _ _ _ h=>h) (Sk (Sk (Sk (Sk (Sr))))) (fun _ h=>h) (by kernel_rfl) (by decide) fun ws Z0=>Qe O (Jb O) (Qe O (JC O) (Qe O (Jh (o':=1) Un159 O Qi O O) (Qe O (Jj Un157 O O Jn O) (Qe O (Jh (o':=6) Un52 O JW O O) (Qe O (Jt (vs:= [_,_]) Un46 O JW O (Ji (Jn)) O O) (Qe O (Y7 keyT hgt Un157 Qw O O (Ji (Ji (Jn)))) (Qe O (Jd O) (JN (JM ?_)))))))))
         refine Jf (JF [(8,_),(6,_),(5,_),(0,_),(1,_)] (.m5 O O O O O) (Jc (Jc (Ja (Lq (Jb O) (Lq (KN Un160 O O (by simp)) (Lq (Jb O) (Lg O O O O (Jb O) (Lg O O O O (JC O) (Lg O O O O (Jh (o':=0) Un162 O ti3 O O) (Lg O O O O (Jj (v:= .int .i64 (kt:Int)) Un3 O O (Ji (Ji (Ji (ownI (YE hjt))))) O) ?_)))))))))))
         refine Lg O O O O (Jb O) (Lg O O O O (Yz O O) (Lq (JH O O O) (Je (Jf (JF [(69,_),(8,_),(6,_),(5,_),(0,_)] (.m5 O O O O O) (Jy O (fun h69=> ?_) (fun h69=> ?_)))))))
         ·refine Jc (Ja (Lq (Jd O) (Je (Jf (Jo (Js (Js ?_)))))))
          refine ⟨_,[_,_,_],[],fun Z w hs=> .tmp O .nil,?_,fun Z w hs=>hs.out (Sk (Sd (Sk (Sk (Sr))))) Tt3⟩
          try simp only [Bp,Bq] at *
          refine ⟨congrArg (Value.int .i64) ?_,O,O⟩
          unfold fitsF fitsT fitsRest
          first | (simp_all;done) | (simp_all;omega) | (repeat' split;all_goals first | rfl | omega | (simp_all;done) | (simp_all;omega))
         ·refine Jp (Jf (Jc ?_))
          have hko:kt<H.ops.length:=by omega
          refine Kd (k:=kt) Mm4 (List.getElem?_eq_getElem hko) (op_open _) fun bo qo yo eo=> ?_
          cases eo
          have hop:=Va hkt
          refine JI _ _ [] (.c 0 0 (.c 1 0 (.c 2 0 (.c 3 0 (.c 4 0 (.c 5 0 (.c 6 0 (.c 7 0 (.c 8 0 (.c 9 0 (.c 10 0 (.c 11 0 (.c 12 0 .nil))))))))))))) mixed (fun _ _ _ _ h=>h) (Sk (Sk (Sk (Sk (Sr))))) (fun _ h=>h) (by kernel_rfl) (by decide) fun ws Z0=>Qe O (Jb O) (Qe O (JC O) (Qe O (Jh (o':=0) Un159 O QA O O) (Qe O (Jj Un78 O O Jn O) (Qe O (Jb O) (Qe O (JC O) (Qe O (Jh (o':=0) Un162 O ti3 O O) (Qe O (Jj (v:= .int .i64 (kt:Int)) Un3 O O (Ji (Ji (Ji (ownI (YE hjt))))) O) (Qe O (J7 Un78 JD O O (by omega) (by omega)) ?_))))))))
          refine Qe O (Jh (o':=_+0) Un52 O KW O O) (Qe O (Jh (o':=_+2) Un49 O Yt O O) (Qe O (Kb (j:=2) Un47 O O Mm0 O O) (Qe O (Kh O O) (JN (JM (Jf (JF [(82,_),(6,_),(5,_),(0,_)] (.m4 O O O O) (Jy O (fun h82=> ?_) (fun h82=> ?_)))))))))
          ·refine Jc (Ja (Lq (Jd O) (Je (Jf (Jo (Js ?_))))))
           refine ⟨_,[_,_,_],[],fun Z w hs=> .tmp O .nil,?_,fun Z w hs=>hs.out (Sk (Sd (Sk (Sk (Sr))))) Tt6⟩
           try simp only [Bp,Bq] at *
           refine ⟨congrArg (Value.int .i64) ?_,O,O⟩
           unfold fitsF fitsT fitsRest
           first | (simp_all;done) | (simp_all;omega) | (repeat' split;all_goals first | rfl | omega | (simp_all;done) | (simp_all;omega))
          ·refine Jp (Jf (Jc (Jc (JI _ _ [] (.c 0 0 (.c 1 0 (.c 2 0 (.c 3 0 (.c 4 0 (.c 5 2 (.c 6 0 (.c 7 0 .nil)))))))) mixed (fun _ _ _ _ h=>h) (Sk (Sk (Sk (Sk (Sr))))) (fun _ h=>h) (by kernel_rfl) (by decide) fun ws Z0=>Qe O (Jb O) (Qe O (JC O) (Qe O (Jh (o':=2) Un159 O ti3 O O) (Qe O (Jj Un3 O O Jn O) (Qe O (Jt (vs:= [_,_,_,_,_,_,_,_,_]) Un52 O JD O (Ji (Jn)) O O) (Jz O O (Jm (YM o Ao co (by have:=ho.text;omega)) (.n1 O) (by decide) (Jl Mm7 Jw) fun u18_5 Lo fs hres=> ?_))))))))))
           obtain ⟨rfl,rfl,rfl⟩:=hres
           refine ⟨⟨(Sk (Sk (Sk (Sk (Sr))))),Mm0⟩,?_⟩
           refine Qe O (JU O O (wr64 (by have:=hr.tot;have:=KV o;have:=ho.text;omega))) (Qe O (Kl O O) (JN (JM (Jf (Jy O (fun h90=> ?_) (fun h90=> ?_))))))
           ·refine Jc (Ja (Lq (Jd O) (Je (Jf (Jo (Js ?_))))))
            refine ⟨_,[_,_,_],[],fun Z w hs=> .tmp O .nil,?_,fun Z w hs=>hs.out (Sk (Sd (Sk (Sk (Sr))))) Tt7⟩
            try simp only [Bp,Bq] at *
            refine ⟨congrArg (Value.int .i64) ?_,O,O⟩
            unfold fitsF fitsT fitsRest
            first | (simp_all;done) | (simp_all;omega) | (repeat' split;all_goals first | rfl | omega | (simp_all;done) | (simp_all;omega))
           ·refine Jp (Jf (Jc (Ja (Lq (Jd O) (Je (Jf (Jo ?_)))))))
            refine ⟨_,[_,_,_],[],fun Z w hs=> .tmp O .nil,?_,fun Z w hs=>hs.out (Sk (Sd (Sk (Sk (Sr))))) Tt7⟩
            try simp only [Bp,Bq] at *
            refine ⟨congrArg (Value.int .i64) ?_,O,O⟩
            unfold fitsF fitsT fitsRest
            first | (simp_all;done) | (simp_all;omega) | (repeat' split;all_goals first | rfl | omega | (simp_all;done) | (simp_all;omega))
       ·refine Jp (Jf (Jc (Jc (JI _ _ [] (.c 0 0 (.c 1 0 (.c 2 0 (.c 3 0 (.c 4 0 (.c 5 2 (.c 6 0 (.c 7 0 .nil)))))))) mixed (fun _ _ _ _ h=>h) (Sk (Sk (Sk (Sk (Sr))))) (fun _ h=>h) (by kernel_rfl) (by decide) fun ws Z0=>Qe O (Jb O) (Qe O (JC O) (Qe O (Jh (o':=2) Un159 O ti3 O O) (Qe O (Jj Un3 O O Jn O) (Qe O (Jt (vs:= [_,_,_,_,_,_,_,_,_]) Un52 O JD O (Ji (Jn)) O O) (Jz O O (Jm (YM o Ao co (by have:=ho.text;omega)) (.n1 O) (by decide) (Jl Mm3 Jw) fun u18_5 Lo fs hres=> ?_))))))))))
        obtain ⟨rfl,rfl,rfl⟩:=hres
        refine ⟨⟨(Sk (Sk (Sk (Sk (Sr))))),Mm0⟩,?_⟩
        refine Qe O (JU O O (wr64 (by have:=hr.tot;have:=KV o;have:=ho.text;omega))) (Qe O (Kl O O) (JN (JM (Jf (JF [(90,_),(6,_)] (.m2 O O) (Jy O (fun h90=> ?_) (fun h90=> ?_)))))))
        ·refine Jc (Ja (Lq (Jd O) (Je (Jf (Jo (Js ?_))))))
         refine ⟨_,[_,_,_],[],fun Z w hs=> .tmp O .nil,?_,fun Z w hs=>hs.out (Sk (Sd (Sk (Sk (Sr))))) Tt3⟩
         try simp only [Bp,Bq] at *
         refine ⟨congrArg (Value.int .i64) ?_,O,O⟩
         unfold fitsF fitsT fitsRest
         first | (simp_all;done) | (simp_all;omega) | (repeat' split;all_goals first | rfl | omega | (simp_all;done) | (simp_all;omega))
        ·refine Jp (Jf (Jc (Ja (Lq (Jd O) (Je (Jf (Jo ?_)))))))
         refine ⟨_,[_,_,_],[],fun Z w hs=> .tmp O .nil,?_,fun Z w hs=>hs.out (Sk (Sd (Sk (Sk (Sr))))) Tt3⟩
         try simp only [Bp,Bq] at *
         refine ⟨congrArg (Value.int .i64) ?_,O,O⟩
         unfold fitsF fitsT fitsRest
         first | (simp_all;done) | (simp_all;omega) | (repeat' split;all_goals first | rfl | omega | (simp_all;done) | (simp_all;omega))
      | some kd=>
       obtain ⟨hkd,jd,xd,hcd,hnd,hjd,hmd,hgd⟩:=hr.look1 hwd
       obtain ⟨xmd,xbd,xAd,xcd⟩:=xd
       obtain rfl:xmd=markAt kd H.ents[kd] :=hmd
       refine JI _ _ [] (.c 0 0 (.c 1 0 (.c 2 0 (.c 3 0 (.c 4 0 (.c 5 0 (.c 6 0 (.c 7 0 (.c 8 0 (.c 9 0 .nil)))))))))) mixed (fun _ _ _ _ h=>h) (Sk (Sk (Sk (Sk (Sr))))) (fun _ h=>h) (by kernel_rfl) (by decide) fun ws Z0=>Qe O (Jb O) (Qe O (JC O) (Qe O (Jh (o':=1) Un159 O Qi O O) (Qe O (Jj Un157 O O Jn O) (Qe O (Jh (o':=0) Un52 O KW O O) (Qe O (Jh (o':=0) Un49 O JW O O) (Qe O (Jt (vs:= [_,_]) Un46 O JW O (Ji (Jn)) O O) (Qe O (Y7 keyT hgd Un157 Qw O O (Ji (Ji (Jn)))) (Qe O (QW Un160 O O (by simp)) ?_))))))))
       refine Qe O (Jd O) (JN (JM (Jf (JF [(39,_),(6,_),(5,_),(0,_),(1,_)] (.m5 O O O O O) (J1 O O (Jc (Ja (Lq (Jd O) (Je (Jf (Jo (JG (Js ?_)))))))))))))
       refine ⟨_,[_,_,_],[],fun Z w hs=> .tmp O .nil,?_,fun Z w hs=>hs.out (Sk (Sd (Sk (Sk (Sr))))) Tt2⟩
       try simp only [Bp,Bq] at *
       refine ⟨congrArg (Value.int .i64) ?_,O,O⟩
       unfold fitsF fitsT fitsRest
       first | (simp_all;done) | (simp_all;omega) | (repeat' split;all_goals first | rfl | omega | (simp_all;done) | (simp_all;omega))
def slC (x:List Rg×Option Addr×Nat):Value:= .slice x.2.1 x.1.length x.2.2
def slsF (ys:List (List Rg×Option Addr×Nat)):Fact:=AllF ys fun x=>RdF rgD x.2.1 x.2.2 x.1
structure MvI (ents:List Ent) (at_ n:Int) (k:Nat) (ys:List (List Rg×Option Addr×Nat)):Prop where
 le:k≤ents.length
 len:ys.length=k
 eq:movedAll ents at_ n=(match movedAll (ents.drop k) at_ n with | .error e=> .error e | .ok ls=> .ok (ys.map Prod.fst++ls))
theorem MvI.err {ents:List Ent} {at_ n:Int} {k:Nat} {ys:List (List Rg×Option Addr×Nat)} (h:MvI ents at_ n k ys) (hk:k<ents.length) (h1:(thrF ents[k].now at_ n).2≠0):movedAll ents at_ n= .error (thrF ents[k].now at_ n).2:=by
 rw [h.eq,List.drop_eq_getElem_cons hk,movedAll,if_pos h1]
theorem MvI.next {ents:List Ent} {at_ n:Int} {k:Nat} {ys:List (List Rg×Option Addr×Nat)} (h:MvI ents at_ n k ys) (hk:k<ents.length) (h1: ¬(thrF ents[k].now at_ n).2≠0) (A:Option Addr) (c:Nat):MvI ents at_ n (k+1) (ys++ [((thrF ents[k].now at_ n).1,A,c)]):=by
 refine ⟨hk,by simp [h.len],?_⟩
 rw [h.eq,List.drop_eq_getElem_cons hk,movedAll,if_neg h1]
 cases movedAll (ents.drop (k+1)) at_ n with
 | error e=>rfl
 | ok ls=>simp
theorem MvI.done {ents:List Ent} {at_ n:Int} {k:Nat} {ys:List (List Rg×Option Addr×Nat)} (h:MvI ents at_ n k ys) (hk: ¬k<ents.length):movedAll ents at_ n= .ok (ys.map Prod.fst):=by
 rw [h.eq,List.drop_eq_nil_of_le (by have:=h.le;omega)]
 simp [movedAll]
theorem sls_reps {ys:List (List Rg×Option Addr×Nat)} {Z:Nat→Prop} {w:World} (h:(slsF ys).holds Z w):Reps (rsl.rep Z w) (ys.map Prod.fst) (ys.map fun x=> [slC x]):=by
 induction ys with
 | nil=>exact .nil
 | cons y ys ih=>exact .cons ⟨y.2.1,y.2.2,rfl,h y List.mem_cons_self⟩ (ih fun x hx=>h x (List.mem_cons_of_mem _ hx))
theorem sls_flat (ys:List (List Rg×Option Addr×Nat)):(ys.map fun x=> [slC x]).flatten=ys.map slC:=by
 induction ys with
 | nil=>rfl
 | cons y ys ih=>simp [ih]
def MvP (r:Except Int (List (List Rg))) (ps:List Part):Value→List Part→List Fact→Prop:=fun v Lo fs=>Lo=ps∧
 match r with
 | .error e=>v= .tuple #[.slice none 0 0, .int .i64 e] ∧fs= []
 | .ok ls=> ∃A c,v= .tuple #[.slice A ls.length c, .int .i64 0] ∧fs= [RdF rsl A c ls]
set_option maxRecDepth 10000 in
theorem ES (h m cap:Nat) (A:Option Addr) (H:Hist) (L:List MR) (hr:HR H L) (at_ n:Int):Sp Tryz.prog 104 [.pointer (some ⟨h,0,none⟩), .int .i64 at_, .int .i64 n] [hdP h A H.ops.length cap m H.total,mpP m L,mkP L] [RdF opD A cap H.ops,AllF L nowF] (MvP (movedAll H.ents at_ n) [hdP h A H.ops.length cap m H.total,mpP m L,mkP L]):=by
 have hol:=K6 H
 have hlen:=hr.len
 refine Sp.of (n:=55) ⟨_,Tryz.func104,O,O,O,O⟩ (Nat.le_of_ble_eq_true O) fun Ps As=>Jc (Ja (Lq (Jd O) (Lq (Jd O) (Je (Jf (Jc (Ja (Lq (Jb O) (Lq (JC O) (Lq (Jh (o':=0) Un159 O QA O O) (Lq (Jj Un78 O O Jn O) (Lq (J3 Un78 O) ?_))))))))))))
 refine Jg O (Jav Un178 Ya O O O (by omega) (by unfold maxLen;omega) (by decide) fun bo=>Lq (Jd O) (Je (Jf (Jc (Jc (Ja (Lq (Jb O) (Lq (JC O) (Lq (Jh (o':=0) Un159 O QA O O) (Lq (Jj Un78 O O (Ji (Jn)) O) (Lq (J3 Un78 O) (Lq (Jb O) (Je (Jf ?_))))))))))))))
 refine JF [(24,_),(23,_),(22,_),(8,_),(7,_),(6,_),(0,_),(1,_),(2,_)] (.m9 rfl rfl rfl rfl rfl rfl rfl rfl rfl) (JE (Ke (A:=slsF []) (fun Z w hs x hx=>by cases hx) ?_))
 refine Kf (α:=Nat×List (List Rg×Option Addr×Nat)) (fun (k,ys)=>H.ops.length-k)
  (fun (k,ys)=> [(0, .pointer (some ⟨h,0,none⟩)),(1, .int .i64 at_),(2, .int .i64 n),(8, .slice (some ⟨bo,0,none⟩) H.ops.length H.ops.length),(22, .slice A H.ops.length cap),(23, .int .i64 H.ops.length),(24, .int .i64 k)])
  (fun (k,ys)=>([(bo,JB (ys.map slC++List.replicate (H.ops.length-k) (Value.slice none 0 0)) 50)] ::hdP h A H.ops.length cap m H.total::mpP m L::mkP L::Ps))
  (fun (k,ys)=>(slsF ys::RdF opD A cap H.ops::AllF L nowF::As))
  (fun (k,ys)=>MvI H.ents at_ n k ys)
  (0,[]) ?_ (.m7 rfl rfl rfl rfl rfl rfl rfl) (Sk (Sk (Sk (Sk (Sr))))) (fun _ h=>h) ?_
 ·exact ⟨Nat.zero_le _,rfl,by cases hq:movedAll H.ents at_ n<;>simp [hq]⟩
 ·rintro ⟨k,ys⟩ hI
  refine Jc (Ja (Lq (Km O O) (Je (Jf (Jc (Jy O (fun h25=> ?_) (fun h25=> ?_)))))))
  ·refine Jp (Jf (Jc (JE (Jc ?_))))
   try simp only [Bp,Bq] at *
   have hke:k<H.ents.length:=by omega
   have hk:k<H.ops.length:=by omega
   have hop:=Va hke
   refine Kd (k:=k) Mm1 (List.getElem?_eq_getElem hk) (op_open _) fun b4 q4 y4 e4=> ?_
   cases e4
   refine Ja (Lq (Jb O) (Lq (J7 Un78 JD O O (by omega) (by omega)) (Lq (Kq (k:=0) (vs:= [_,_,_,_,_,_,_,_,_]) Un52 O JD O Mm0 O O O) (Jg O (Ju (cs:= [_,_,_,_,_,_,_,_,_]) JD O (by decide) fun b10=>Lq (Jd O) (Jg O (Jq (cs':= [_,_,_,_,_,_,_,_,_]) (vs:= [_,_,_,_,_,_,_,_,_]) JD O O O O O (Nat.le_of_ble_eq_true O) .z (Je (Jf (Jc ?_))))))))))
   obtain ⟨jm,xm,hjm,hxm,hgm⟩:=hr.look hke
   obtain ⟨xk,xb,xA,xc⟩:=xm
   obtain rfl:xk=markAt k H.ents[k] :=hxm
   rw [←hop] at hgm
   refine Hy _ Mm4 (List.mem_of_getElem? hjm) (JI _ _ [] (.c 0 0 (.c 1 0 (.c 2 0 (.c 3 0 (.c 4 0 (.c 5 0 (.c 6 0 (.c 7 0 (.c 8 0 (.c 9 0 (.c 10 0 (.c 11 0 (.c 12 0 (.c 13 2 (.c 14 0 (.c 15 0 (.c 16 0 (.c 17 0 (.c 18 0 .nil))))))))))))))))))) mixed (fun _ _ _ _ h=>h) (Sk (Sk (Sk (Sk (Sk (Sr)))))) (fun _ h=>h) (by kernel_rfl) (by decide) fun ws Z0=>Qe O (Jb O) (Qe O (JC O) (Qe O (Jh (o':=1) Un159 O Qi O O) (Qe O (Jj Un157 O O (Ji (Ji (Jn))) O) (Qe O (Jh (o':=0) Un52 O KW O O) (Qe O (Jh (o':=0) Un49 O JW O O) ?_))))))
   refine Qe O (Jt (vs:= [_,_]) Un46 O JW O Jn O O) (Qe O (Y7 keyT hgm Un157 Qw O O (Ji (Ji (Ji (Jn))))) (Qe O (JC O) (Qe O (Jh (o':=1) Un162 O Ya O O) (Qe O (Jj Un50 O O (Ji (Ji (Ji (Ji (ownI (YE hjm)))))) O) (Qe O (Jb O) (Qe O (Jb O) (Jz O O (Jm (Xh xA xc H.ents[k].now at_ n (hr.now _ (List.getElem_mem hke))) (.n3 O O O) (by decide) (Jl Mm1 Jw) fun u5_13 Lo fs hres=> ?_))))))))
   obtain ⟨A3,c3,rfl,rfl,rfl⟩:=hres
   refine ⟨⟨(Sk (Sk (Sk (Sk (Sk (Sr)))))),Mm1⟩,?_⟩
   refine Qe O (Jb O) (Qe O (Jk (vs:= [_,_]) O O) (Qe O (Jk (vs:= [_,_]) O O) (Qe O (Jd O) (Qe O (Jd O) (JN (JM (Jf (Jc (Jc (Ja (Lq (Jb O) (Lq (Kz O O) (Je (Jf ?_))))))))))))))
   refine Jy O (fun h47=> ?_) (fun h47=> ?_)
   ·refine Jc (Ja (Lq (Jb O) (Lq (Jd O) (Lq (Jd O) (Je (Jf (Jo (Js (JG (Js (Js (JG (Js ?_)))))))))))))
    refine ⟨_,[_,_,_],[],fun Z w hs=> .tmp O (.tmp O .nil),?_,fun Z w hs=>hs.out (Sd (Sd (Sk (Sk (Sk (Sr)))))) Tt6⟩
    try simp only [Bp,Bq] at *
    refine ⟨O,?_⟩
    rw [hI.err hke (by omega)]
    exact ⟨O,O⟩
   ·refine Jp (Jf ?_)
    try simp only [Bp,Bq] at *
    have hrep:List.replicate (H.ops.length-k) (Value.slice none 0 0)= .slice none 0 0::List.replicate (H.ops.length-(k+1)) (Value.slice none 0 0):=by rw [show H.ops.length-k=(H.ops.length-(k+1))+1 from by omega,List.replicate_succ]
    have hyl:=hI.len
    refine Ja (Lq (Jb O) (Lq (Jb O) (Lq (Jb O) (Lq (Yb Un178 Ya O O (by omega) (by omega)) (Jg O (K2 Ya O O O (by rw [List.length_append,List.length_map,List.length_replicate];omega) .z1 (Je (Ka (Jf ?_)))))))))
    have hcell:(ys.map slC++List.replicate (H.ops.length-k) (Value.slice none 0 0)).set ((k:Int).toNat* 1) (.slice A3 (thrF (H.ents[k].now) at_ n).1.length c3)=(ys++ [((thrF H.ents[k].now at_ n).1,A3,c3)]).map slC++List.replicate (H.ops.length-(k+1)) (Value.slice none 0 0):=by
     have hk0:(k:Int).toNat* 1=(ys.map slC).length:=by rw [List.length_map];omega
     rw [hk0,List.set_append_right _ _ (Nat.le_refl _),Nat.sub_self,hrep];simp [slC]
    refine Ke (A:=slsF (ys++ [((thrF H.ents[k].now at_ n).1,A3,c3)])) (fun Z w hs x hx=> ?_) ?_
    ·rcases List.mem_append.1 hx with hx | hx
     ·exact hs.facts _ Mm5 x hx
     ·obtain rfl:=List.mem_singleton.1 hx;exact hs.facts _ Mm0
    rw [hcell]
    refine Ja (Lq (JU O O (wr64 (by omega))) (Lq (Jb O) (Je (Kp ?_))))
    refine ⟨(k+1,ys++ [((thrF H.ents[k].now at_ n).1,A3,c3)]),?_,(.m7 O O O O O O O),(Sd (Sk (Sk (Sk (Sk (Sr)))))),(Jl Mm0 Tt7)⟩
    exact ⟨by show H.ops.length-(k+1)<H.ops.length-k;omega,hI.next hke (by omega) A3 c3⟩
  ·refine Kk (JL (JL (Kc (Jf (Jc ?_)))))
   try simp only [Bp,Bq] at *
   have hyl:=hI.len
   have hle:=hI.le
   have hdone:=hI.done (by omega)
   refine Ke (A:=RepsF rsl (ys.map Prod.fst) (ys.map fun x=> [slC x])) (fun Z w hs=>sls_reps (hs.facts _ Mm0)) ?_
   have hrow:Row 50 rsl.sz (.slice (some ⟨bo,0,none⟩) H.ops.length H.ops.length) H.ops.length (ys.map fun x=> [slC x]).flatten [(bo,JB (ys.map slC++List.replicate (H.ops.length-k) (Value.slice none 0 0)) 50)] :=by
    rw [sls_flat]
    exact ⟨by rw [List.length_map];show _=_*1;omega, .inr ⟨bo,_,_,rfl,rfl,by rw [List.length_append,List.length_map,List.length_replicate];show _=_*1;omega,Nat.le_refl _,by unfold maxLen;omega⟩⟩
   refine KJ (e:=rsl) (css:=ys.map fun x=> [slC x]) (xs:=ys.map Prod.fst) hrow .z (by rw [List.length_map];omega) Mm0 fun Ao co eo=> ?_
   obtain ⟨rfl,_,rfl⟩:=Value.slice.inj eo
   refine Ja (Lq (Jb O) (Lq (Jd O) (Lq (Jd O) (Je (Jf (Jo ?_))))))
   refine ⟨_,[_,_,_],[_],fun Z w hs=> .tmp O (.tmp O .nil),?_,fun Z w hs=>hs.out (Sk (Sk (Sk (Sr)))) (Jl Mm0 Tt3)⟩
   refine ⟨O,?_⟩
   rw [hdone]
   exact ⟨_,_,by rw [List.length_map,hyl,show k=H.ops.length from by omega];rfl,rfl⟩
def OpR (r:GOp) (ps:List Part):Value→List Part→List Fact→Prop:=fun v Lo fs=> ∃(A':Option Addr) (c':Nat),v=opV r A' c'∧Lo=ps∧fs= [RdF rgD A' c' r.rs]
theorem bd28_1Xw15 (x1_:Int) (w:World):(Instr.build 49 #[(1, .int .i64 x1_)]).run Tryz.prog w= .ok (.agg #[.int .i64 0, .int .i64 0, .int .i64 x1_]) w:=by kernel_rfl
theorem bd31_0_3Xw15 (x0_0a0:Int) (x0_0a1:Int) (x0_1:Int) (x3_A:Option Addr) (x3_n x3_c:Nat) (w:World):(Instr.build 52 #[(0, .agg #[.int .i64 x0_0a0, .int .i64 x0_0a1, .int .i64 x0_1]),(3, .slice x3_A x3_n x3_c)]).run Tryz.prog w= .ok (.agg #[.int .i64 x0_0a0, .int .i64 x0_0a1, .int .i64 x0_1, .int .i64 0, .string ⟨#[]⟩, .slice x3_A x3_n x3_c, .int .i64 0, .int .i64 0, .bool false]) w:=by kernel_rfl
set_option maxRecDepth 10000 in
theorem ZE (h m cap:Nat) (A:Option Addr) (H:Hist) (L:List MR) (hr:HR H L) (xs:List GOp) (tot:Int) (hx:xs=H.ops) (j k:Nat) (xb:Nat) (xA:Option Addr) (xc:Nat) (hk:k<H.ents.length) (hj:L[j]? =some ⟨markAt k H.ents[k],xb,xA,xc⟩) (on:Bool):Sp Tryz.prog 93 [.pointer (some ⟨h,0,none⟩), .pointer (some ⟨xb,0,none⟩), .bool on] [hdP h A xs.length cap m tot,mkP L] [RdF opD A cap xs,AllF L nowF] (OpR (turnF H.ents[k] on) [hdP h A xs.length cap m tot,mkP L]):=by
 subst hx
 have hol:=K6 H
 have hlen:=hr.len
 refine Sp.of (n:=31) ⟨_,Tryz.func93,O,O,O,O⟩ (Nat.le_of_ble_eq_true O) fun Ps As=>Jc (Ja (Jg O (Ju (cs:= [_,_,_,_,_,_,_,_,_]) JD O (by decide) fun b6=>Je (Jf (Jc (Ja (Lq (Jd O) (Je (Jf (Jc (Jc ?_)))))))))))
 have hko:k<H.ops.length:=by omega
 have hop:=Va hk
 refine Kd (k:=k) Mm0 (List.getElem?_eq_getElem hko) (op_open _) fun bo qo yo eo=> ?_
 cases eo
 refine Hy _ Mm3 (List.mem_of_getElem? hj) (JI _ _ [] (.c 0 0 (.c 1 0 (.c 2 0 (.c 3 0 (.c 4 0 (.c 5 0 (.c 6 0 (.c 7 0 (.c 8 0 (.c 9 0 (.c 10 0 (.c 11 0 (.c 12 0 (.c 13 0 (.c 14 0 .nil))))))))))))))) mixed (fun _ _ _ _ h=>h) (Sk (Sk (Sk (Sr)))) (fun _ h=>h) (by kernel_rfl) (by decide) fun ws Z0=>Qe O (Jb O) (Qe O (JC O) (Qe O (Jh (o':=0) Un159 O QA O O) (Qe O (Jj Un78 O O (Ji (Jn)) O) (Qe O (Jb O) (Qe O (JC O) (Qe O (Jh (o':=0) Un162 O ti3 O O) (Qe O (Jj (v:= .int .i64 (k:Int)) Un3 O O (Ji (Ji (ownI (YE hj)))) O) ?_))))))))
 refine Qe O (J7 Un78 JD O O (by omega) (by omega)) (Qe O (Jh (o':=_+0) Un52 O KW O O) (Qe O (Jh (o':=_+2) Un49 O Yt O O) (Qe O (Kb (j:=2) Un47 O O Mm1 O O) (Qe O (Kh O O) (Qe O (Jb O) (Qe O (q_beql' Un4 O O) (JN (JM (Jf (JF [(22,_),(7,_),(6,_),(1,_)] (.m4 O O O O) ?_))))))))))
 refine Jy O (fun h22=> ?_) (fun h22=> ?_)
 ·refine Ja (Lq (Jd O) (Je (Jf (Jc (Ja (Lq (Jb O) (Lq (JZ (.n1 O) (bd28_1Xw15 _)) (Lq (Jb O) (Lq (JC O) (Lq (Jh (o':=1) Un162 O Ya O O) (Lq (Jj Un50 O O (Ji (Ji (ownI (YE hj)))) O) (Lq (JZ (.n2 O O) (bd31_0_3Xw15 _ _ _ _ _ _)) ?_))))))))))))
  refine Jg rfl (Jm (YY { zeroOp with kind:=2,rs:=H.ents[k].now } xA xc (hr.now _ (List.getElem_mem hk))) (.n1 rfl) (by decide) (Jl Mm1 Jw) fun u4_7 Lo fs hres=> ?_)
  obtain ⟨A1,c1,rfl,rfl,rfl⟩:=hres
  refine Jg O (Jq (cs':= [_,_,_,_,_,_,_,_,_]) (vs:= [_,_,_,_,_,_,_,_,_]) JD O O O O O (Nat.le_of_ble_eq_true O) .z (Je (Jf (Jo ?_))))
  refine ⟨_,[_,_],[_],fun Z w hs=>JV hs Un52 O JD O Jn O .nil,?_,fun Z w hs=>hs.out (Sd (Sk (Sk (Sr)))) (Jl Mm0 Tt5)⟩
  try simp only [Bp,Bq] at *
  rw [hop] at h22
  have hT:turnF H.ents[k] on= { zeroOp with kind:=2,rs:=H.ents[k].now } :=by unfold turnF;cases on<;>simp_all
  exact ⟨A1,c1,by rw [hT];rfl,O,by rw [hT]⟩
 ·refine Jp (Jf (Jc (Ja (Lq (Jb rfl) (Lq (JZ (.n1 rfl) (bd28_1Xw15 _)) (Lq (Jb rfl) (Lq (JC rfl) (Lq (Jh (o':=1) Un162 rfl Ya rfl rfl) (Lq (Jj Un50 rfl rfl (Ji (Ji (ownI (YE hj)))) rfl) (Lq (JZ (.n2 rfl rfl) (bd31_0_3Xw15 _ _ _ _ _ _)) (Jg rfl (Jm (YY { zeroOp with kind:=3,rs:=H.ents[k].now } xA xc (hr.now _ (List.getElem_mem hk))) (.n1 rfl) (by decide) (Jl Mm1 Jw) fun u4_7 Lo fs hres=> ?_))))))))))))
  obtain ⟨A1,c1,rfl,rfl,rfl⟩:=hres
  refine Jg O (Jq (cs':= [_,_,_,_,_,_,_,_,_]) (vs:= [_,_,_,_,_,_,_,_,_]) JD O O O O O (Nat.le_of_ble_eq_true O) .z (Je (Jf (Jo ?_))))
  refine ⟨_,[_,_],[_],fun Z w hs=>JV hs Un52 O JD O Jn O .nil,?_,fun Z w hs=>hs.out (Sd (Sk (Sk (Sr)))) (Jl Mm0 Tt5)⟩
  try simp only [Bp,Bq] at *
  rw [hop] at h22
  have hT:turnF H.ents[k] on= { zeroOp with kind:=3,rs:=H.ents[k].now } :=by unfold turnF;cases on<;>simp_all
  exact ⟨A1,c1,by rw [hT];rfl,O,by rw [hT]⟩
def TdP (H:Hist) (i:Nat) (o:GOp) (h m cap:Nat) (A:Option Addr) (L:List MR):Value→List Part→List Fact→Prop:=fun v Lo fs=>
 ∃(L':List MR) (A':Option Addr) (c':Nat),HR ⟨(turnedF H i o).1,H.total⟩ L'∧keys L'=keys L∧v=opV (turnedF H i o).2 A' c'∧Lo= [hdP h A H.ops.length cap m H.total,mpP m L,mkP L'] ∧fs= [RdF rgD A' c' (turnedF H i o).2.rs,AllF L' nowF]
structure TdI (H:Hist) (i:Nat) (o:GOp) (k:Nat):Prop where
 le:k≤(H.ops.drop i).length
 eq:Yg (H.ents.drop i) o.tc o.tn=Yg (H.ents.drop (i+k)) o.tc o.tn
theorem XA (e:Ent) (l:List Ent) (c n:Int):Yg (e::l) c n=((decide (e.op.kind=4) && (decide (e.op.tc=c) && decide (e.op.tn=n))) || Yg l c n):=rfl
theorem TdI.hit {H:Hist} {i:Nat} {o:GOp} {k:Nat} (h:TdI H i o k) (hk:i+k<H.ents.length) (h1:H.ents[i+k].op.kind=4∧H.ents[i+k].op.tc=o.tc∧H.ents[i+k].op.tn=o.tn):Yg (H.ents.drop i) o.tc o.tn=true:=by
 rw [h.eq,List.drop_eq_getElem_cons hk,XA];simp [h1]
theorem TdI.next {H:Hist} {i:Nat} {o:GOp} {k:Nat} (h:TdI H i o k) (hk:i+k<H.ents.length) (h1: ¬(H.ents[i+k].op.kind=4∧H.ents[i+k].op.tc=o.tc∧H.ents[i+k].op.tn=o.tn)):TdI H i o (k+1):=by
 refine ⟨by rw [List.length_drop,K6];omega,?_⟩
 rw [h.eq,List.drop_eq_getElem_cons hk,XA]
 have:(decide (H.ents[i+k].op.kind=4) && (decide (H.ents[i+k].op.tc=o.tc) && decide (H.ents[i+k].op.tn=o.tn)))=false:=by
  rw [Bool.eq_false_iff];intro hh;simp at hh;exact h1 hh
 rw [this,Bool.false_or];rfl
theorem TdI.done {H:Hist} {i:Nat} {o:GOp} {k:Nat} (h:TdI H i o k) (hk: ¬i+k<H.ents.length):Yg (H.ents.drop i) o.tc o.tn=false:=by
 rw [h.eq,List.drop_eq_nil_of_le (by omega)];rfl
theorem H8 {H:Hist} {i:Nat} {o:GOp} (h:Yg (H.ents.drop i) o.tc o.tn=true):turnedF H i o=(H.ents,zeroOp):=by unfold turnedF;rw [if_pos h]
theorem H7 {H:Hist} {i:Nat} {o:GOp} {k:Nat} (h:Yg (H.ents.drop i) o.tc o.tn=false) (hw:JX H.ents o.tc o.tn=some k) (hk:k<H.ents.length) (h2:H.ents[k].off= !o.on):turnedF H i o=(H.ents,zeroOp):=by
 unfold turnedF;rw [if_neg (by rw [h];decide),hw];simp only [List.getElem?_eq_getElem hk,if_pos h2]
theorem H6 {H:Hist} {i:Nat} {o:GOp} {k:Nat} (h:Yg (H.ents.drop i) o.tc o.tn=false) (hw:JX H.ents o.tc o.tn=some k) (hk:k<H.ents.length) (h2: ¬H.ents[k].off= !o.on):turnedF H i o=(H.ents.set k (offE H.ents[k] (!o.on)),turnF H.ents[k] o.on):=by
 unfold turnedF;rw [if_neg (by rw [h];decide),hw];simp only [List.getElem?_eq_getElem hk,if_neg h2]
theorem bd31Xw15 (w:World):(Instr.build 52 #[]).run Tryz.prog w= .ok (.agg #[.int .i64 0, .int .i64 0, .int .i64 0, .int .i64 0, .string ⟨#[]⟩, .slice none 0 0, .int .i64 0, .int .i64 0, .bool false]) w:=by kernel_rfl
set_option maxRecDepth 10000 in
theorem ZD (h m cap:Nat) (A:Option Addr) (H:Hist) (L:List MR) (hr:HR H L) (i:Nat) (hi:i≤H.ents.length) (o:GOp) (Ao:Option Addr) (co k:Nat) (hw:JX H.ents o.tc o.tn=some k):Sp Tryz.prog 106 [.pointer (some ⟨h,0,none⟩), .int .i64 i,opV o Ao co] [hdP h A H.ops.length cap m H.total,mpP m L,mkP L] [RdF opD A cap H.ops,AllF L nowF] (TdP H i o h m cap A L):=by
 have hol:=K6 H
 have hlen:=hr.len
 obtain ⟨hk,j,x,hc,hn,hj,hm,hg⟩:=hr.look1 hw
 obtain ⟨xm,xb,xA,xc⟩:=x
 obtain rfl:xm=markAt k H.ents[k] :=hm
 refine Sp.of (n:=61) ⟨_,Tryz.func106,O,O,O,O⟩ (Nat.le_of_ble_eq_true O) fun Ps As=>Jc (Ja (Jg O (J9 (cs:= [_,_,_,_,_,_,_,_,_]) O O (by decide) fun b5=>Jg O (Ju (cs:= [_,_,_,_,_,_,_,_,_]) JD O (by decide) fun b6=>Je (Jf (Jc (Jc (Ke (A:=RdF rgD none 0 []) (fun Z w hs=>RdS.nil _ _ _) (Xe Mm1 fun hcap hcap2=> ?_)))))))))
 obtain ⟨B,hB⟩: ∃B,B=cutA A i cap 9:=⟨_,rfl⟩
 have hdl:H.ops.length-i=(H.ops.drop i).length:=by rw [List.length_drop]
 refine Ke (A:=RdF opD B (cap-i) (H.ops.drop i)) (fun Z w hs=>by rw [hB];have h1:=RdS.cut (lo:=i) (hi:=H.ops.length) (m:=cap) (hs.facts _ Mm1) (by omega) (by omega) (by omega) (Nat.le_refl _);rw [List.take_length] at h1;exact h1) (Ja (Lq (Jb O) (Lq (JC O) (Lq (Jh (o':=0) Un159 O QA O O) (Lq (Jj Un78 O O (Ji (Ji (Jn))) O) (Lq (Jb O) (Lq (Ep Un78 JD O O (by omega) (by omega)) (Lq (J3 Un78 O) (Lq (Jb O) ?_)))))))))
 refine Je (Jf (JE ?_))
 refine Kf (α:=Nat) (fun q=>(H.ops.drop i).length-q)
  (fun q=> [(0, .pointer (some ⟨h,0,none⟩)),(5, .pointer (some ⟨b5,0,none⟩)),(6, .pointer (some ⟨b6,0,none⟩)),(15, .slice B (H.ops.drop i).length (cap-i)),(16, .int .i64 (H.ops.drop i).length),(17, .int .i64 q)])
  (fun q=>([(b6,JB (opC zeroOp none 0) 52)] :: [(b5,JB (opC o Ao co) 52)] ::hdP h A H.ops.length cap m H.total::mpP m L::mkP L::Ps))
  (fun q=>(RdF opD B (cap-i) (H.ops.drop i)::RdF rgD none 0 [] ::RdF opD A cap H.ops::AllF L nowF::As))
  (fun q=>TdI H i o q)
  0 ?_ (.m6 rfl rfl rfl (by rw [hB,←hdl];rfl) (by rw [←hdl];rfl) rfl) (Sk (Sk (Sk (Sk (Sk (Sr)))))) (fun _ h=>h) ?_
 ·exact ⟨Nat.zero_le _,O⟩
 ·rintro q hI
  refine Jc (Ja (Lq (Km O O) (Je (Jf (Jc (Jy O (fun h18=> ?_) (fun h18=> ?_)))))))
  ·refine Jp (Jf (Jc (JE (Jc ?_))))
   try simp only [Bp,Bq] at *
   have hq:q<(H.ops.drop i).length:=by omega
   have hqe:i+q<H.ents.length:=by rw [List.length_drop] at hq;omega
   have hop:(H.ops.drop i)[q] =H.ents[i+q].op:=by rw [List.getElem_drop,Va]
   refine Kd (k:=q) Mm0 (List.getElem?_eq_getElem hq) (op_open _) fun b3 q3 y3 e3=> ?_
   cases e3
   refine Ja (Lq (J7 Un78 JD O O (by omega) (by omega)) (Lq (Kq (k:=0) (vs:= [_,_,_,_,_,_,_,_,_]) Un52 O JD O Mm0 O O O) (Jg O (Ju (cs:= [_,_,_,_,_,_,_,_,_]) JD O (by decide) fun b8=>Jg O (Jq (cs':= [_,_,_,_,_,_,_,_,_]) (vs:= [_,_,_,_,_,_,_,_,_]) JD O O O O O (Nat.le_of_ble_eq_true O) .z (Je (Jf (Jc (Ja (Lq (Jh (o':=0) Un52 O KW O O) (Lq (Jh (o':=2) Un49 O Yt O O) (Lq (Jj Un47 O O Jn O) (Lq (Kh O O) ?_)))))))))))))
   refine Lq (Jb O) (J4 (t:=25) O (fun g25=> ?_) (fun g25=> ?_))
   ·refine Lg O O O g25 (Jh (o':=6) Un52 O JW O O) (Lg O O O g25 (Jt (vs:= [_,_]) Un46 O JW O Jn O O) (Lg O O O g25 (Jh (o':=6) Un52 O JW O O) (Lg O O O g25 (Jt (vs:= [_,_]) Un46 O JW O (Ji (Ji (Jn))) O O) (Lg O O O g25 (Qo O O (eq46 _ _ _ _)) (Lq (JP O g25 O) (Je (Jf (Jy O (fun h31=> ?_) (fun h31=> ?_)))))))))
    ·refine Jc (Ja (Lq (JZ .nil (bd31Xw15)) (Jg O (Jq (cs':= [_,_,_,_,_,_,_,_,_]) (vs:= [_,_,_,_,_,_,_,_,_]) JD O O O O O (Nat.le_of_ble_eq_true O) .z1 (Je (Jf (Jo (JG (Js (Js (JG (Js ?_))))))))))))
     refine ⟨_,[_,_,_],[_,_],fun Z w hs=>JV hs Un52 O JD O (Ji (Jn)) O .nil,?_,fun Z w hs=>hs.out (Sd (Sd (Sd (Sk (Sk (Sk (Sr))))))) (Jl Mm3 (Jl Mm5 Tt4))⟩
     try simp only [Bp,Bq] at *
     have hF:turnedF H i o=_:=H8 (hI.hit hqe (by rw [←hop];exact ⟨g25,h31.1,h31.2⟩))
     exact ⟨L,none,0,by rw [hF];exact hr,O,by rw [hF];rfl,O,by rw [hF];rfl⟩
    ·refine Jp (Ka (Jf (Ja (Lq (JU O O (wr64 (by omega))) (Lq (Jb O) (Je (Kp ?_)))))))
     try simp only [Bp,Bq] at *
     refine ⟨q+1,?_,(.m6 O O O O O O),(Sd (Sk (Sk (Sk (Sk (Sk (Sr))))))),Tt2⟩
     exact ⟨by omega,hI.next hqe (fun ⟨e1,e2,e3⟩=>by rw [←hop] at e1 e2 e3;first | exact absurd e1 g25 | (rcases h31 with h31 | h31;exact h31 e2;exact h31 e3))⟩
   ·refine Ln O O O g25 (Ln O O O g25 (Ln O O O g25 (Ln O O O g25 (Ln O O O g25 (Lq (JH O g25 O) (Je (Jf (Jv O O (Jp (Ka (Jf (Ja (Lq (JU O O (wr64 (by omega))) (Lq (Jb O) (Je (Kp ?_))))))))))))))))
    try simp only [Bp,Bq] at *
    refine ⟨q+1,?_,(.m6 O O O O O O),(Sd (Sk (Sk (Sk (Sk (Sk (Sr))))))),Tt2⟩
    exact ⟨by omega,hI.next hqe (fun ⟨e1,e2,e3⟩=>by rw [←hop] at e1 e2 e3;first | exact absurd e1 g25 | (rcases h31 with h31 | h31;exact h31 e2;exact h31 e3))⟩
  ·refine Kk (JL (JL (Kc (Jf (Jc (JI _ _ [] (.c 0 0 (.c 1 0 (.c 2 0 (.c 3 0 (.c 4 0 (.c 5 0 (.c 6 0 (.c 7 0 .nil)))))))) mixed (fun _ _ _ _ h=>h) (Sk (Sk (Sk (Sk (Sk (Sr)))))) (fun _ h=>h) (by kernel_rfl) (by decide) fun ws Z0=>Qe O (Jb O) (Qe O (JC O) (Qe O (Jh (o':=1) Un159 O Qi O O) (Qe O (Jj Un157 O O (Ji (Ji (Jn))) O) (Qe O (Jh (o':=6) Un52 O JW O O) (Qe O (Jt (vs:= [_,_]) Un46 O JW O (Ji (Jn)) O O) (Qe O (Y7 keyT hg Un157 Qw O O (Ji (Ji (Ji (Jn))))) (Qe O (Jd O) ?_)))))))))))))
   refine JN (JM (Jf (JF [(9,_),(0,_),(5,_),(6,_)] (.m4 O O O O) (Jc (Jc (JI _ _ [] (.c 0 0 (.c 1 0 (.c 2 0 (.c 3 0 (.c 4 0 (.c 5 0 (.c 6 0 (.c 7 0 .nil)))))))) mixed (fun _ _ _ _ h=>h) (Sk (Sk (Sk (Sk (Sk (Sr)))))) (fun _ h=>h) (by kernel_rfl) (by decide) fun ws Z0=>Qe O (Jb O) (Qe O (JC O) (Qe O (Jh (o':=2) Un162 O ti4 O O) (Qe O (Jj (v:= .bool H.ents[k].off) Un4 O O (Ji (Ji (Ji (Ji (ownI (YE hj)))))) O) (Qe O (Jh (o':=8) Un52 O ti4 O O) ?_))))))))))
   refine Qe O (Jj Un4 O O (Ji (Jn)) O) (Qe O (KL O) (Qe O (q_beql' Un4 O O) (JN (JM (Jf (Jy O (fun h48=> ?_) (fun h48=> ?_)))))))
   ·refine Jc (Ja (Lq (JZ .nil (bd31Xw15)) (Jg O (Jq (cs':= [_,_,_,_,_,_,_,_,_]) (vs:= [_,_,_,_,_,_,_,_,_]) JD O O O O O (Nat.le_of_ble_eq_true O) .z (Je (Jf (Jo (Js ?_))))))))
    refine ⟨_,[_,_,_],[_,_],fun Z w hs=>JV hs Un52 O JD O Jn O .nil,?_,fun Z w hs=>hs.out (Sd (Sd (Sk (Sk (Sk (Sr)))))) (Jl Mm3 (Jl Mm5 Tt4))⟩
    try simp only [Bp,Bq] at *
    have hF:turnedF H i o=_:=H7 (hI.done (by have:=hI.le;rw [List.length_drop] at this;omega)) hw hk (by simpa using h48)
    exact ⟨L,none,0,by rw [hF];exact hr,O,by rw [hF];rfl,O,by rw [hF];rfl⟩
   ·refine Jp (Jf (Jc (Ja (Lq (Jb O) (Lq (Jh (o':=8) Un52 O ti4 O O) (Lq (Jj Un4 O O (Ji (Jn)) O) (Lq (KL O) (Lq (JC O) (Lq (Jh (o':=2) Un162 O ti4 O O) (Jg O (Xq (i:=j) ti4 O O O (XV hj) .z2 .z4 (Je (Jf (JF [(9,_),(0,_),(5,_),(6,_)] (.m4 O O O O) ?_))))))))))))))
    refine Jc ?_
    try simp only [Bp,Bq] at *
    have hmk:(mkP L).set j (xb,JB [.int .i64 (markAt k H.ents[k]).num, .slice xA (markAt k H.ents[k]).now.length xc, .bool (!o.on)] 162)=mkP (L.set j ⟨markAt k (offE H.ents[k] (!o.on)),xb,xA,xc⟩):=by rw [Es];rfl
    rw [hmk]
    have hr':=hr.upd hk hj rfl (offE H.ents[k] (!o.on)) rfl (hr.now H.ents[k] (List.getElem_mem hk)) xA xc
    refine Ke (A:=AllF (L.set j ⟨markAt k (offE H.ents[k] (!o.on)),xb,xA,xc⟩) nowF) (fun Z w hs=>Er (hs.facts _ Mm5) (hs.facts _ Mm5 ⟨markAt k H.ents[k],xb,xA,xc⟩ (List.mem_of_getElem? hj))) (Ja (Lq (Jb O) (Lq (Jb O) (Lq (Jh (o':=8) Un52 O ti4 O O) (Lq (Jj Un4 O O (Ji (Jn)) O) ?_)))))
    refine Jg rfl (Kv (ZE h m cap A _ _ hr' H.ops H.total (Gs hk (offE H.ents[k] (!o.on)) rfl H.total).symm j k xb xA xc (by simpa using hk) (by rw [List.getElem?_set_self (by rcases Nat.lt_or_ge j L.length with hh | hh;exact hh;rw [List.getElem?_eq_none hh] at hj;cases hj)];simp) o.on) (.n3 rfl rfl rfl) (by decide) .z2 .z3 (Jl Mm5 (Jl Mm0 Jw)) fun u11_4 Lo fs hres=> ?_)
    obtain ⟨A1,c1,rfl,rfl,rfl⟩:=hres
    refine Jg O (Jq (cs':= [_,_,_,_,_,_,_,_,_]) (vs:= [_,_,_,_,_,_,_,_,_]) JD O O O O O (Nat.le_of_ble_eq_true O) .z2 (Je (Jf (Jo ?_))))
    refine ⟨_,[_,_,_],[_,_],fun Z w hs=>JV hs Un52 O JD O (Ji (Ji (Jn))) O .nil,?_,fun Z w hs=>(((hs.pick .z1).pick .z4).pick .z2).out (Sk (Sk (Sk (Sd (Sd (Sr)))))) (Jl Mm0 (Jl Mm1 Tt6))⟩
    have hF:=H6 (hI.done (by have:=hI.le;rw [List.length_drop] at this;omega)) hw hk (by simpa using h48)
    refine ⟨L.set j ⟨markAt k (offE H.ents[k] (!o.on)),xb,xA,xc⟩,A1,c1,by rw [hF];exact hr',Gp hj O O O,?_,O,?_⟩
    ·rw [hF];simp only [List.getElem_set_self];rfl
    ·rw [hF];simp only [List.getElem_set_self];rfl
structure GEn where
 c:Int
 n:Int
 kind:Int
 on:Bool
 rs:List Rg
 tc:Int
 tn:Int
def enC (e:GEn) (A:Option Addr) (c:Nat):List Value:= [.int .i64 e.c, .int .i64 e.n, .int .i64 e.kind, .bool e.on, .slice A e.rs.length c, .int .i64 e.tc, .int .i64 e.tn]
def enV (e:GEn) (A:Option Addr) (c:Nat):Value:= .agg (enC e A c).toArray
def entE (e:Ent):GEn:=if e.op.kind=4 then ⟨e.op.c,e.op.n,e.op.kind,e.op.on,[],e.op.tc,e.op.tn⟩ else ⟨e.op.c,e.op.n,e.op.kind, !e.off,e.now,0,0⟩
def entryF (H:Hist) (i:Int):GEn×Int:=match H.ents[i.toNat]? with
 | none=>(⟨0,0,0,false,[],0,0⟩,12)
 | some e=>if i<0 then (⟨0,0,0,false,[],0,0⟩,12) else (entE e,0)
theorem Gt {H:Hist} {i:Int} (h:i<0∨i≥H.ents.length):entryF H i=(⟨0,0,0,false,[],0,0⟩,12):=by
 unfold entryF
 cases hq:H.ents[i.toNat]? with
 | none=>rfl
 | some e=>
  rcases h with h | h
  ·simp [h]
  ·rw [List.getElem?_eq_none (by omega)] at hq;cases hq
theorem Yh {H:Hist} {k:Nat} (h:k<H.ents.length):entryF H k=(entE H.ents[k],0):=by
 unfold entryF
 rw [Int.toNat_natCast,List.getElem?_eq_getElem h]
 simp only [if_neg (by omega: ¬(k:Int)<0)]
def EnP (r:GEn×Int) (ps:List Part):Value→List Part→List Fact→Prop:=fun v Lo fs=> ∃(A':Option Addr) (c':Nat),v= .tuple #[enV r.1 A' c', .int .i64 r.2] ∧Lo=ps∧fs= [RdF rgD A' c' r.1.rs]
theorem bd42Xw16 (w:World):(Instr.build 62 #[]).run Tryz.prog w= .ok (.agg #[.int .i64 0, .int .i64 0, .int .i64 0, .bool false, .slice none 0 0, .int .i64 0, .int .i64 0]) w:=by kernel_rfl
theorem bd42_0_1_2_4Xw16 (x0_a0:Int) (x0_a1:Int) (x1_:Int) (x2_:Bool) (x4_a0:Int) (x4_a1:Int) (w:World):(Instr.build 62 #[(0, .agg #[.int .i64 x0_a0, .int .i64 x0_a1]),(1, .int .i64 x1_),(2, .bool x2_),(4, .agg #[.int .i64 x4_a0, .int .i64 x4_a1])]).run Tryz.prog w= .ok (.agg #[.int .i64 x0_a0, .int .i64 x0_a1, .int .i64 x1_, .bool x2_, .slice none 0 0, .int .i64 x4_a0, .int .i64 x4_a1]) w:=by kernel_rfl
theorem bd31_3Xw16 (x3_A:Option Addr) (x3_n x3_c:Nat) (w:World):(Instr.build 52 #[(3, .slice x3_A x3_n x3_c)]).run Tryz.prog w= .ok (.agg #[.int .i64 0, .int .i64 0, .int .i64 0, .int .i64 0, .string ⟨#[]⟩, .slice x3_A x3_n x3_c, .int .i64 0, .int .i64 0, .bool false]) w:=by kernel_rfl
theorem fd31_3Xw16 (x00a0:Int) (x00a1:Int) (x01:Int) (x1:Int) (x2:ByteArray) (x3A:Option Addr) (x3n x3c:Nat) (x4a0:Int) (x4a1:Int) (x5:Bool) (w:World):(Instr.field 52 (.agg #[.int .i64 x00a0, .int .i64 x00a1, .int .i64 x01, .int .i64 x1, .string x2, .slice x3A x3n x3c, .int .i64 x4a0, .int .i64 x4a1, .bool x5]) 3).run Tryz.prog w= .ok (.slice x3A x3n x3c) w:=by kernel_rfl
theorem bd42_0_1_2_3Xw16 (x0_a0:Int) (x0_a1:Int) (x1_:Int) (x2_:Bool) (x3_A:Option Addr) (x3_n x3_c:Nat) (w:World):(Instr.build 62 #[(0, .agg #[.int .i64 x0_a0, .int .i64 x0_a1]),(1, .int .i64 x1_),(2, .bool x2_),(3, .slice x3_A x3_n x3_c)]).run Tryz.prog w= .ok (.agg #[.int .i64 x0_a0, .int .i64 x0_a1, .int .i64 x1_, .bool x2_, .slice x3_A x3_n x3_c, .int .i64 0, .int .i64 0]) w:=by kernel_rfl
set_option maxRecDepth 10000 in
theorem V9 (h m cap:Nat) (A:Option Addr) (H:Hist) (L:List MR) (hr:HR H L) (i:Int):Sp Tryz.prog 59 [.pointer (some ⟨h,0,none⟩), .int .i64 i] [hdP h A H.ops.length cap m H.total,mpP m L,mkP L] [RdF opD A cap H.ops,AllF L nowF] (EnP (entryF H i) [hdP h A H.ops.length cap m H.total,mpP m L,mkP L]):=by
 have hol:=K6 H
 have hlen:=hr.len
 refine Sp.of (n:=69) ⟨_,Tryz.func59,O,O,O,O⟩ (Nat.le_of_ble_eq_true O) fun Ps As=>Jc (Ja (Jg O (Ju (cs:= [_,_,_,_,_,_,_]) Y3 O (by decide) fun b4=>Lq (Jd O) (Je (Jf (Jc (Jc (Ke (A:=RdF rgD none 0 []) (fun Z w hs=>RdS.nil _ _ _) (Ja (Lq (Jb O) (Lq (Km O O) (Lq (Jb O) ?_))))))))))))
 refine J4 (t:=10) O (fun g10=> ?_) (fun g10=> ?_)
 ·refine Ln O O O g10 (Ln O O O g10 (Ln O O O g10 (Ln O O O g10 (Ln O O O g10 (Ln O O O g10 (Ln O O O g10 (Lq (JP O g10 O) (Je (Jf (JF [(18,_),(5,_),(4,_),(0,_),(1,_)] (.m5 O O O O O) ?_))))))))))
  refine J1 O O (Jc (Ja (Lq (JZ .nil (bd42Xw16)) (Jg O (Jq (cs':= [_,_,_,_,_,_,_]) (vs:= [_,_,_,_,_,_,_]) Y3 O O O O O (Nat.le_of_ble_eq_true O) .z (Lq (Jd O) (Je (Jf (Jo (Js ?_))))))))))
  refine ⟨_,[_,_,_],[_],fun Z w hs=>JV hs Un62 O Y3 O Jn O (.tmp O .nil),?_,fun Z w hs=>hs.out (Sd (Sk (Sk (Sk (Sr))))) (fun _ h=>h)⟩
  try simp only [Bp,Bq] at *
  have hF:=Gt (H:=H) (i:=i) (by omega)
  exact ⟨none,0,by rw [hF];rfl,O,by rw [hF]⟩
 ·refine Lg O O O g10 (Jb O) (Lg O O O g10 (Jb O) (Lg O O O g10 (JC O) (Lg O O O g10 (Jh (o':=0) Un159 O QA O O) (Lg O O O g10 (Jj Un78 O O (Ji (Jn)) O) (Lg O O O g10 (J3 Un78 O) (Lg O O O g10 (Yz O O) (Lq (JH O g10 O) (Je (Jf (JF [(18,_),(5,_),(4,_),(0,_),(1,_)] (.m5 O O O O O) ?_))))))))))
  refine Jy O (fun h18=> ?_) (fun h18=> ?_)
  ·refine Jc (Ja (Lq (JZ .nil (bd42Xw16)) (Jg O (Jq (cs':= [_,_,_,_,_,_,_]) (vs:= [_,_,_,_,_,_,_]) Y3 O O O O O (Nat.le_of_ble_eq_true O) .z (Lq (Jd O) (Je (Jf (Jo (Js ?_)))))))))
   refine ⟨_,[_,_,_],[_],fun Z w hs=>JV hs Un62 O Y3 O Jn O (.tmp O .nil),?_,fun Z w hs=>hs.out (Sd (Sk (Sk (Sk (Sr))))) (fun _ h=>h)⟩
   try simp only [Bp,Bq] at *
   have hF:=Gt (H:=H) (i:=i) (by omega)
   exact ⟨none,0,by rw [hF];rfl,O,by rw [hF]⟩
  ·refine Jp (Jf (Jc ?_))
   try simp only [Bp,Bq] at *
   obtain ⟨k,rfl⟩: ∃k:Nat,i=(k:Int):=⟨i.toNat,by omega⟩
   have hk:k<H.ents.length:=by omega
   have hko:k<H.ops.length:=by omega
   have hop:=Va hk
   refine Kd (k:=k) Mm1 (List.getElem?_eq_getElem hko) (op_open _) fun bo qo yo eo=> ?_
   cases eo
   refine Ja (Lq (Jb O) (Lq (JC O) (Lq (Jh (o':=0) Un159 O QA O O) (Lq (Jj Un78 O O (Ji (Jn)) O) (Lq (Jb O) (Lq (J7 Un78 JD O O (by omega) (by omega)) (Lq (Kq (k:=0) (vs:= [_,_,_,_,_,_,_,_,_]) Un52 O JD O Mm0 O O O) (Jg O (Ju (cs:= [_,_,_,_,_,_,_,_,_]) JD O (by decide) fun b6=>Jg O (Jq (cs':= [_,_,_,_,_,_,_,_,_]) (vs:= [_,_,_,_,_,_,_,_,_]) JD O O O O O (Nat.le_of_ble_eq_true O) .z ?_))))))))))
   refine Je (Jf (Jc (Jc (Ja (Lq (Jh (o':=0) Un52 O KW O O) (Lq (Jh (o':=2) Un49 O Yt O O) (Lq (Jj Un47 O O Jn O) (Lq (Kh O O) (Je (Jf (JF [(30,_),(6,_),(5,_),(4,_),(0,_)] (.m5 O O O O O) (Jy O (fun h30=> ?_) (fun h30=> ?_)))))))))))))
   ·refine Jc (Ja (Lq (Jh (o':=0) Un52 O KW O O) (Lq (Jh (o':=0) Un49 O JW O O) (Lq (Jt (vs:= [_,_]) Un46 O JW O Jn O O) (Lq (Jh (o':=0) Un52 O KW O O) (Lq (Jh (o':=2) Un49 O Yt O O) (Lq (Jj Un47 O O Jn O) (Lq (Jh (o':=8) Un52 O ti4 O O) (Lq (Jj Un4 O O Jn O) (Lq (Jh (o':=6) Un52 O JW O O) ?_))))))))))
    refine Lq (Jt (vs:= [_,_]) Un46 O JW O Jn O O) (Lq (JZ (.n4 O O O O) (bd42_0_1_2_4Xw16 _ _ _ _ _ _)) (Jg O (Jq (cs':= [_,_,_,_,_,_,_]) (vs:= [_,_,_,_,_,_,_]) Y3 O O O O O (Nat.le_of_ble_eq_true O) .z1 (Lq (Jd O) (Je (Jf (JF [(5,_),(6,_),(4,_),(0,_)] (.m4 O O O O) (Jo (Js ?_)))))))))
    refine ⟨_,[_,_,_],[_],fun Z w hs=>JV hs Un62 O Y3 O (Ji (Jn)) O (.tmp O .nil),?_,fun Z w hs=>hs.out (Sd (Sd (Sk (Sk (Sk (Sr)))))) Tt2⟩
    try simp only [Bp,Bq] at *
    rw [hop] at h30
    have hF:entryF H (k:Int)=_:=(Yh hk).trans (by unfold entE;rw [if_pos h30])
    exact ⟨none,0,by rw [hF];simp only [hop];rfl,O,by rw [hF]⟩
   ·refine Jp (Jf (Jc ?_))
    obtain ⟨jm,xm,hjm,hxm,hgm⟩:=hr.look hk
    obtain ⟨xk,xb,xA,xc⟩:=xm
    obtain rfl:xk=markAt k H.ents[k] :=hxm
    rw [←hop] at hgm
    refine Hy _ Mm4 (List.mem_of_getElem? hjm) (JI _ _ [] (.c 0 0 (.c 1 0 (.c 2 0 (.c 3 0 (.c 4 0 (.c 5 0 (.c 6 0 (.c 7 0 (.c 8 0 .nil))))))))) mixed (fun _ _ _ _ h=>h) (Sk (Sk (Sk (Sk (Sk (Sr)))))) (fun _ h=>h) (by kernel_rfl) (by decide) fun ws Z0=>Qe O (Jb O) (Qe O (JC O) (Qe O (Jh (o':=1) Un159 O Qi O O) (Qe O (Jj Un157 O O (Ji (Ji (Jn))) O) (Qe O (Jh (o':=0) Un52 O KW O O) (Qe O (Jh (o':=0) Un49 O JW O O) (Qe O (Jt (vs:= [_,_]) Un46 O JW O Jn O O) ?_)))))))
    refine Qe O (Y7 keyT hgm Un157 Qw O O (Ji (Ji (Ji (Jn))))) (Qe O (Jd O) (JN (JM (Jf (JF [(7,_),(6,_),(5,_),(4,_)] (.m4 O O O O) (Jc (JI _ _ [19] (.c 0 0 (.c 1 0 (.c 2 0 (.c 3 0 (.c 4 0 (.c 5 0 (.c 6 0 (.c 7 0 (.c 8 0 (.c 9 0 (.c 10 0 (.c 11 0 (.c 12 0 (.c 13 0 (.c 14 0 (.c 15 0 (.c 16 2 (.c 17 0 (.c 18 0 (.c 19 3 (.c 20 1 .nil))))))))))))))))))))) mixed (fun _ _ _ _ h=>h) (Sk (Sk (Sk (Sk (Sk (Sr)))))) (fun _ h=>h) (by kernel_rfl) (by decide) fun ws Z0=>Qe O (Jh (o':=0) Un52 O KW O O) (Qe O (Jh (o':=0) Un49 O JW O O) ?_))))))))
    refine Qe O (Jt (vs:= [_,_]) Un46 O JW O Jn O O) (Qe O (Jh (o':=0) Un52 O KW O O) (Qe O (Jh (o':=2) Un49 O Yt O O) (Qe O (Jj Un47 O O Jn O) (Qe O (Jb O) (Qe O (JC O) (Qe O (Jh (o':=2) Un162 O ti4 O O) (Qe O (Jj (v:= .bool H.ents[k].off) Un4 O O (Ji (Ji (Ji (Ji (ownI (YE hjm)))))) O) (Qe O (KL O) (Qe O (Jb O) ?_)))))))))
    refine Qe rfl (JC rfl) (Qe rfl (Jh (o':=1) Un162 rfl Ya rfl rfl) (Qe rfl (Jj (v:= .slice xA H.ents[k].now.length xc) Un50 rfl rfl (Ji (Ji (Ji (Ji (ownI (YE hjm)))))) rfl) (Qe rfl (JZ (.n1 rfl) (bd31_3Xw16 _ _ _)) (Jz rfl rfl (Jm (YY { zeroOp with rs:=H.ents[k].now } xA xc (hr.now _ (List.getElem_mem hk))) (.n1 rfl) (by decide) (Jl Mm2 Jw) fun u7_16 Lo fs hres=> ?_)))))
    obtain ⟨A1,c1,rfl,rfl,rfl⟩:=hres
    refine ⟨⟨(Sk (Sk (Sk (Sk (Sk (Sr)))))),Mm1⟩,?_⟩
    refine Qe O (Yl O (fd31_3Xw16 _ _ _ _ _ _ _ _ _ _ _)) (Qe O (JZ (.n4 O O O O) (bd42_0_1_2_3Xw16 _ _ _ _ _ _ _)) (JN (J8 O O (Jq (cs':= [_,_,_,_,_,_,_]) (vs:= [_,_,_,_,_,_,_]) Y3 O O O O O (Nat.le_of_ble_eq_true O) .z1 (YH O (Jd O) (by decide) (JM (Jf (JF [(5,_),(4,_)] (.m2 O O) (Jo ?_)))))))))
    refine ⟨_,[_,_,_],[_],fun Z w hs=>JV hs Un62 O Y3 O (Ji (Jn)) O (.tmp O .nil),?_,fun Z w hs=>hs.out (Sd (Sd (Sk (Sk (Sk (Sr)))))) (Jl Mm0 Tt7)⟩
    try simp only [Bp,Bq] at *
    rw [hop] at h30
    have hF:entryF H (k:Int)=_:=(Yh hk).trans (by unfold entE;rw [if_neg h30])
    exact ⟨A1,c1,by rw [hF];simp only [hop];rfl,O,by rw [hF]⟩
def OsP (H:Hist) (lo hi:Int) (ps:List Part):Value→List Part→List Fact→Prop:=fun v Lo fs=> ∃(A':Option Addr) (c':Nat),Lo=ps∧
 (((lo<0∨lo>hi∨hi>H.ents.length)∧v= .tuple #[.slice none 0 0, .int .i64 12] ∧fs= [RdF opD none 0 []])∨
  (¬(lo<0∨lo>hi∨hi>H.ents.length)∧v= .tuple #[.slice A' ((H.ops.take hi.toNat).drop lo.toNat).length c', .int .i64 0] ∧fs= [RdF opD A' c' ((H.ops.take hi.toNat).drop lo.toNat)]))
set_option maxRecDepth 10000 in
theorem Jcc (h m cap:Nat) (A:Option Addr) (H:Hist) (L:List MR) (hr:HR H L) (lo hi:Int):Sp Tryz.prog 66 [.pointer (some ⟨h,0,none⟩), .int .i64 lo, .int .i64 hi] [hdP h A H.ops.length cap m H.total,mpP m L,mkP L] [RdF opD A cap H.ops] (OsP H lo hi [hdP h A H.ops.length cap m H.total,mpP m L,mkP L]):=by
 have hol:=K6 H
 have hlen:=hr.len
 refine Sp.of (n:=46) ⟨_,Tryz.func66,O,O,O,O⟩ (Nat.le_of_ble_eq_true O) fun Ps As=>Jc (Ja (Lq (Jd O) (Lq (Jd O) (Je (Jf (Jc (Jc (Ke (A:=RdF opD none 0 []) (fun Z w hs=>RdS.nil _ _ _) (Ja (Lq (Jb O) (Lq (Km O O) (Lq (Jb O) ?_))))))))))))
 refine J4 (t:=13) O (fun g13=> ?_) (fun g13=> ?_)
 ·refine Ln O O O g13 (Ln O O O g13 (Ln O O O g13 (Lq (JP O g13 O) (Lq (Jb O) (Ln O O O O (Ln O O O O (Ln O O O O (Ln O O O O (Ln O O O O ?_)))))))))
  refine Ln O O O O (Ln O O O O (Lq (JP O O O) (Je (Jf (JF [(26,_),(7,_),(6,_),(0,_),(1,_),(2,_)] (.m6 O O O O O O) (J1 O O (Jc (Ja (Lq (Jd O) (Lq (Jd O) (Je (Jf (Jo (Js ?_))))))))))))))
  refine ⟨_,[_,_,_],[_],fun Z w hs=> .tmp O (.tmp O .nil),?_,fun Z w hs=>hs.out (Sk (Sk (Sk (Sr)))) (fun _ h=>h)⟩
  try simp only [Bp,Bq] at *
  exact ⟨none,0,O, .inl ⟨by omega,O,O⟩⟩
 ·refine Lg O O O g13 (Jb O) (Lg O O O g13 (Jb O) (Lg O O O g13 (Kl O O) (Lq (JH O g13 O) (Lq (Jb O) (J4 (t:=18) O (fun g18=> ?_) (fun g18=> ?_))))))
  ·refine Ln O O O g18 (Ln O O O g18 (Ln O O O g18 (Ln O O O g18 (Ln O O O g18 (Ln O O O g18 (Ln O O O g18 (Lq (JP O g18 O) (Je (Jf (JF [(26,_),(7,_),(6,_),(0,_),(1,_),(2,_)] (.m6 O O O O O O) ?_))))))))))
   refine J1 O O (Jc (Ja (Lq (Jd O) (Lq (Jd O) (Je (Jf (Jo (Js ?_))))))))
   refine ⟨_,[_,_,_],[_],fun Z w hs=> .tmp O (.tmp O .nil),?_,fun Z w hs=>hs.out (Sk (Sk (Sk (Sr)))) (fun _ h=>h)⟩
   try simp only [Bp,Bq] at *
   exact ⟨none,0,O, .inl ⟨by omega,O,O⟩⟩
  ·refine Lg O O O g18 (Jb O) (Lg O O O g18 (Jb O) (Lg O O O g18 (JC O) (Lg O O O g18 (Jh (o':=0) Un159 O QA O O) (Lg O O O g18 (Jj Un78 O O Jn O) (Lg O O O g18 (J3 Un78 O) (Lg O O O g18 (Kl O O) (Lq (JH O g18 O) (Je (Jf (JF [(26,_),(7,_),(6,_),(0,_),(1,_),(2,_)] (.m6 O O O O O O) ?_))))))))))
   refine Jy O (fun h26=> ?_) (fun h26=> ?_)
   ·refine Jc (Ja (Lq (Jd O) (Lq (Jd O) (Je (Jf (Jo (Js ?_)))))))
    refine ⟨_,[_,_,_],[_],fun Z w hs=> .tmp O (.tmp O .nil),?_,fun Z w hs=>hs.out (Sk (Sk (Sk (Sr)))) (fun _ h=>h)⟩
    try simp only [Bp,Bq] at *
    exact ⟨none,0,O, .inl ⟨by omega,O,O⟩⟩
   ·refine Jp (Jf (Jc (Ja (Lq (Jd O) (Je (Jf (Jc (Jc ?_))))))))
    try simp only [Bp,Bq] at *
    obtain ⟨lo,rfl⟩: ∃k:Nat,lo=(k:Int):=⟨lo.toNat,by omega⟩
    obtain ⟨hi,rfl⟩: ∃k:Nat,hi=(k:Int):=⟨hi.toNat,by omega⟩
    refine Xe Mm1 fun hcap hcap2=> ?_
    obtain ⟨B,hB⟩: ∃B,B=cutA A lo cap 9:=⟨_,rfl⟩
    obtain ⟨xs,hxs⟩: ∃xs,xs=(H.ops.take hi).drop lo:=⟨_,rfl⟩
    have hxl:hi-lo=xs.length:=by rw [hxs,List.length_drop,List.length_take];omega
    have hfx: ∀o∈xs,Fit o:=fun o ho=>by rw [hxs] at ho;have h1:=List.mem_of_mem_take (List.mem_of_mem_drop ho);obtain ⟨e,he,rfl⟩:=List.mem_map.1 h1;exact hr.fit e he
    refine Ke (A:=RdF opD B (cap-lo) xs) (fun Z w hs=>by rw [hB,hxs];exact RdS.cut (lo:=lo) (hi:=hi) (m:=cap) (hs.facts _ Mm1) (by omega) (by omega) (by omega) (Nat.le_refl _)) (Ke (A:=RepsF opD (xs.take 0) []) (fun Z w hs=>Reps.nil) (Ky (Ja (Lq (Jb O) (Lq (JC O) (Lq (Jh (o':=0) Un159 O QA O O) (Lq (Jj Un78 O O (Ji (Jn)) O) (Lq (Jb O) (Lq (Jb O) ?_)))))))))
    refine Lq (GS Un78 JD O O O (by omega) (by omega) (by omega)) (Lq (J3 Un78 O) (Lq (Jb O) (Je (Jf (JF [(35,_),(34,_),(33,_),(8,_),(7,_),(6,_)] (.m6 O O O O O O) (JE ?_))))))
    refine Kf (α:=Nat×Value×Part×List (List Value)) (fun (k,v,p,css)=>xs.length-k)
     (fun (k,v,p,css)=> [(33, .slice B xs.length (cap-lo)),(34, .int .i64 xs.length),(35, .int .i64 k),(8,v)])
     (fun (k,v,p,css)=>(p::hdP h A H.ops.length cap m H.total::mpP m L::mkP L::Ps))
     (fun (k,v,p,css)=>(RepsF opD (xs.take k) css::RdF opD B (cap-lo) xs::RdF opD none 0 [] ::RdF opD A cap H.ops::As))
     (fun (k,v,p,css)=>k≤xs.length∧Row 52 9 v k css.flatten p)
     (0, .slice none 0 0,[],[]) ?_ (.m4 (by rw [hB,←hxl];rfl) (by rw [←hxl];rfl) rfl rfl) (Sk (Sk (Sk (Sk (Sr))))) (fun _ h=>h) ?_
    ·exact ⟨Nat.zero_le _,Row.nil _ _⟩
    ·rintro ⟨k,v,p,css⟩ hI
     have hle:k≤xs.length:=hI.1
     have hxb:xs.length≤1000000:=by rw [hxs,List.length_drop,List.length_take];omega
     refine Jc (Ja (Lq (Km O O) (Je (Jf (Jc (Jy O (fun h36=> ?_) (fun h36=> ?_)))))))
     ·refine Jp (Jf (Jc (JE (Jc ?_))))
      try simp only [Bp,Bq] at *
      have hk:k<xs.length:=by omega
      refine Kd (k:=k) Mm1 (List.getElem?_eq_getElem hk) (op_open _) fun b6 q6 y6 e6=> ?_
      cases e6
      refine Ja (Lq (J7 Un78 JD O O (by omega) (by omega)) (Lq (Kq (k:=0) (vs:= [_,_,_,_,_,_,_,_,_]) Un52 O JD O Mm0 O O O) (Jg O (Ju (cs:= [_,_,_,_,_,_,_,_,_]) JD O (by decide) fun b10=>Jg O (Jq (cs':= [_,_,_,_,_,_,_,_,_]) (vs:= [_,_,_,_,_,_,_,_,_]) JD O O O O O (Nat.le_of_ble_eq_true O) .z (Je (Jf (Ja (Lq (Jb O) (Lq (Jt (vs:= [_,_,_,_,_,_,_,_,_]) Un52 O JD O Jn O O) (Jg O (Jm (YY xs[k] y6.1 y6.2 (hfx _ (List.getElem_mem hk)).rs) (.n1 O) (by decide) (Jl Mm1 Jw) fun u7_2 Lo fs hres=> ?_))))))))))))
      obtain ⟨A1,c1,rfl,rfl,rfl⟩:=hres
      refine Jg O (KF (cs:= [_,_,_,_,_,_,_,_,_]) Un78 JD (by decide) (by decide) O O O O (by decide) fun b42=>Jg O (KH (news:= [_,_,_,_,_,_,_,_,_]) Un78 JD O (by decide) O O hI.2 Jn O O (by omega) (by unfold maxLen;omega) (by decide) (DelAt.perm .z2) fun v43 p43 hr43=>Lq (Jd O) (Je (Ka (Jf (Vi (u:=xs[k]) (cs:=opC xs[k] A1 c1) Mm3 (fun Z w hs=>⟨A1,c1,O,hs.facts _ Mm0⟩) (List.take_succ_eq_append_getElem hk) (Ja (Lq (JU O O (wr64 (by omega))) (Lq (Jb O) (Je (Kp ?_)))))))))))
      refine ⟨(k+1,v43,p43,css++ [opC xs[k] A1 c1]),?_,(.m4 O O O O),(Sk (Sd (Sd (Sk (Sk (Sk (Sr))))))),(Jl Mm0 Tt5)⟩
      refine ⟨by show xs.length-(k+1)<xs.length-k;omega,by show k+1≤xs.length;omega,?_⟩
      rw [List.flatten_append,show [opC xs[k] A1 c1].flatten=opC xs[k] A1 c1 from by simp]
      exact hr43
     ·refine Kk (JL (JL (Kc (Jf (Jc ?_)))))
      try simp only [Bp,Bq] at *
      have hI1:k≤xs.length:=hI.1
      obtain rfl:k=xs.length:=by omega
      refine KJ (e:=opD) (css:=css) (xs:=xs.take xs.length) hI.2 .z (by rw [List.take_length]) Mm0 fun Ao co eo=> ?_
      subst eo
      rw [List.take_length]
      refine Ja (Lq (Jb O) (Lq (Jd O) (Lq (Jd O) (Je (Jf (Jo ?_))))))
      refine ⟨_,[_,_,_],[_],fun Z w hs=> .tmp O (.tmp O .nil),?_,fun Z w hs=>hs.out (Sk (Sk (Sk (Sr)))) (Jl Mm0 Tt4)⟩
      subst hxs
      exact ⟨Ao,co,O, .inr ⟨by omega,O,O⟩⟩
structure LsI (K:List MK) (c:Int) (seen:Array Nat) (v:Int):Prop where
 le: ∀(j:Nat) (y:MK),K[j]? =some y→seen.contains j=true→y.c=c→y.n≤v
 at_:v=0∨ ∃y∈K,y.c=c∧y.n=v
 pos:0≤v
theorem LsI.zero (K:List MK) (c:Int):LsI K c #[] 0:=⟨fun j y _ h=>by simp at h, .inl rfl,Int.le_refl _⟩
theorem seen_push {seen:Array Nat} {i j:Nat} (h:(seen.push j).contains i=true):seen.contains i=true∨i=j:=by
 simpa using h
theorem LsI.hit {K:List MK} {c:Int} {seen:Array Nat} {v:Int} (h:LsI K c seen v) {j:Nat} {y:MK} (hj:K[j]? =some y) (hc:y.c=c):LsI K c (seen.push j) (max v y.n):=by
 refine ⟨fun i z hi hs hz=> ?_,?_,by have:=h.pos;omega⟩
 ·rcases seen_push hs with hs | rfl
  ·have:=h.le i z hi hs hz;omega
  ·rw [hj] at hi;cases hi;omega
 ·by_cases hv:y.n≤v
  ·rw [show max v y.n=v from by omega];exact h.at_
  ·exact .inr ⟨y,List.mem_of_getElem? hj,hc,by omega⟩
def LastIs (H:Hist) (c r:Int):Prop:=(∀e∈H.ents,e.op.c=c→e.op.n≤r)∧(r=0∨ ∃e∈H.ents,e.op.c=c∧e.op.n=r)∧0≤r
theorem LsI.done {H:Hist} {L:List MR} (hr:HR H L) {c:Int} {seen:Array Nat} {v:Int} (h:LsI (keys L) c seen v) (hall: ∀j,j<(keys L).length→seen.contains j=true):LastIs H c v:=by
 refine ⟨fun e he hc=> ?_,?_,h.pos⟩
 ·obtain ⟨k,hk,rfl⟩:=List.mem_iff_getElem.1 he
  obtain ⟨j,x,hj,hm,_⟩:=hr.look hk
  have hkj:=Z7 hj
  have hlt:j<(keys L).length:=by
   rcases Nat.lt_or_ge j (keys L).length with h | h
   ·exact h
   ·rw [List.getElem?_eq_none h] at hkj;cases hkj
  have:=h.le j _ hkj (hall j hlt)
  simp only [hm,markAt] at this
  exact this hc
 ·rcases h.at_ with h1 | ⟨y,hy,hc,hn⟩
  ·exact .inl h1
  ·right
   obtain ⟨x,hx,rfl⟩:=List.mem_map.1 hy
   have h4:=(hr.perm.mem_iff).1 (List.mem_map.2 ⟨x,hx,rfl⟩)
   obtain ⟨k,e,h5,h6⟩:=QE h4
   simp only [h6,markAt] at hc hn
   exact ⟨e,List.mem_of_getElem? h5,hc,hn⟩
end Go.Proofs.YtgedhdmpiciikaaGreatDoor
