/- Part of the proof that this claim's law answers true, whatever its arguments. Condition: the laid variables hold what their initialisers lay (the card ties that to the program's text). -/
import Derived.Test.YtgedhdmpiciikaaGreatDoorQD
set_option linter.unusedVariables false
set_option linter.unusedSimpArgs false
open Go.Proofs.Tryz renaming underlying1→Un1,underlying3→Un3,underlying4→Un4,underlying9→Un9,underlying20→Un20,underlying21→Un21,underlying22→Un22,underlying24→Un24,underlying25→Un25,underlying29→Un29,underlying30→Un30,underlying33→Un33,underlying34→Un34,underlying36→Un36,underlying38→Un38,underlying39→Un39,underlying40→Un40,underlying42→Un42,underlying43→Un43,underlying46→Un46,underlying47→Un47,underlying49→Un49,underlying50→Un50,underlying52→Un52,underlying54→Un54,underlying62→Un62,underlying67→Un67,underlying71→Un71,underlying74→Un74,underlying78→Un78,underlying93→Un93,underlying98→Un98,underlying116→Un116,underlying118→Un118,underlying121→Un121,underlying141→Un141,underlying143→Un143,underlying145→Un145,underlying149→Un149,underlying152→Un152,underlying154→Un154,underlying156→Un156,underlying157→Un157,underlying159→Un159,underlying160→Un160,underlying162→Un162,underlying167→Un167,underlying168→Un168,underlying170→Un170,underlying178→Un178,underlying188→Un188,underlying191→Un191,underlying195→Un195,underlying196→Un196,underlying198→Un198,underlying201→Un201,underlying213→Un213,underlying219→Un219
namespace Go.Proofs.YtgedhdmpiciikaaGreatDoor
open Go Go.GW
theorem turned_ops (H:Hist) (i:Nat) (o:GOp):(turnedF H i o).1.map (·.op)=H.ops:=by
 unfold turnedF
 split
 ·rfl
 ·split
  ·rfl
  ·split
   ·rfl
   ·rename_i k hwk _ e he
    split
    ·rfl
    ·have hk:k<H.ents.length:=by
      rcases Nat.lt_or_ge k H.ents.length with h | h
      ·exact h
      ·rw [List.getElem?_eq_none h] at he;cases he
     have e1:H.ents[k] =e:=by rw [List.getElem?_eq_getElem hk] at he;exact Option.some.inj he
     exact Gs hk (offE e (!o.on)) (by rw [e1];rfl) 0
theorem whereId_ops {es:List Ent} {H:Hist} {c n:Int} (h:es.map (·.op)=H.ops) (hn:JX H.ents c n=none):JX es c n=none:=by
 unfold JX
 rw [List.findIdx?_eq_none_iff]
 intro e he
 have h1:e.op∈H.ops:=by rw [←h];exact List.mem_map.2 ⟨e,he,rfl⟩
 obtain ⟨x,hx,hxe⟩:=List.mem_map.1 h1
 have h2:=K5 hn x hx
 rw [hxe] at h2
 cases hq:(decide (c=e.op.c) && decide (n=e.op.n)) with
 | false=>rfl
 | true=>simp at hq;exact absurd ⟨hq.1.symm,hq.2.symm⟩ h2
theorem bd31Xw18 (w:World):(Instr.build 52 #[]).run Tryz.prog w= .ok (.agg #[.int .i64 0, .int .i64 0, .int .i64 0, .int .i64 0, .string ⟨#[]⟩, .slice none 0 0, .int .i64 0, .int .i64 0, .bool false]) w:=by kernel_rfl
theorem bd101_0Xw18 (x0_:Int) (w:World):(Instr.build 162 #[(0, .int .i64 x0_)]).run Tryz.prog w= .ok (.agg #[.int .i64 x0_, .slice none 0 0, .bool false]) w:=by kernel_rfl
theorem bd28_1Xw18 (x1_:Int) (w:World):(Instr.build 49 #[(1, .int .i64 x1_)]).run Tryz.prog w= .ok (.agg #[.int .i64 0, .int .i64 0, .int .i64 x1_]) w:=by kernel_rfl
theorem bd31_0Xw18 (x0_0a0:Int) (x0_0a1:Int) (x0_1:Int) (w:World):(Instr.build 52 #[(0, .agg #[.int .i64 x0_0a0, .int .i64 x0_0a1, .int .i64 x0_1])]).run Tryz.prog w= .ok (.agg #[.int .i64 x0_0a0, .int .i64 x0_0a1, .int .i64 x0_1, .int .i64 0, .string ⟨#[]⟩, .slice none 0 0, .int .i64 0, .int .i64 0, .bool false]) w:=by kernel_rfl
theorem bd37_0_1Xw18 (x0_:Int) (x1_:Int) (w:World):(Instr.build 74 #[(0, .int .i64 x0_),(1, .int .i64 x1_)]).run Tryz.prog w= .ok (.agg #[.int .i64 x0_, .int .i64 x1_]) w:=by kernel_rfl
theorem fd31_3Xw18 (x00a0:Int) (x00a1:Int) (x01:Int) (x1:Int) (x2:ByteArray) (x3A:Option Addr) (x3n x3c:Nat) (x4a0:Int) (x4a1:Int) (x5:Bool) (w:World):(Instr.field 52 (.agg #[.int .i64 x00a0, .int .i64 x00a1, .int .i64 x01, .int .i64 x1, .string x2, .slice x3A x3n x3c, .int .i64 x4a0, .int .i64 x4a1, .bool x5]) 3).run Tryz.prog w= .ok (.slice x3A x3n x3c) w:=by kernel_rfl
set_option maxRecDepth 10000 in
theorem Jbw (h m cap:Nat) (A:Option Addr) (H:Hist) (L:List MR) (hr:HR H L) (i:Int) (o:GOp) (Ao:Option Addr) (co:Nat) (ho:Fit o) (hlt:H.ents.length<1000000):Sp Tryz.prog 70 [.pointer (some ⟨h,0,none⟩), .int .i64 i,opV o Ao co] [hdP h A H.ops.length cap m H.total,mpP m L,mkP L] [barF,RdF opD A cap H.ops,AllF L nowF,RdF rgD Ao co o.rs] (PuP H i o h m cap A L):=by
 have hol:=K6 H
 have hlen:=hr.len
 refine Sp.of (n:=196) ⟨_,Tryz.func70,O,O,O,O⟩ (Nat.le_of_ble_eq_true O) fun Ps As=>Jc (Ja (Jg O (J9 (cs:= [_,_,_,_,_,_,_,_,_]) O O (by decide) fun b5=>Jg O (Ju (cs:= [_,_,_,_,_,_,_,_,_]) JD O (by decide) fun b6=>Lq (Jd O) (Je (Jf (Jc (Jc (Ke (A:=RdF rgD none 0 []) (fun Z w hs=>RdS.nil _ _ _) (Ja (Lq (Jb O) (Lq (Jb O) ?_))))))))))))
 refine Lq (Jt (vs:= [_,_,_,_,_,_,_,_,_]) Un52 O JD O (Ji (Jn)) O O) (Jg O (KB (Jcd h m cap A H L hr i o Ao co ho) (.n3 O O O) (by decide) .z2 .z2 .z2 (Jl Mm1 (Jl Mm2 (Jl Mm4 Jw))) fun u1_3 Lo fs hres=> ?_))
 obtain ⟨rfl,rfl,rfl⟩:=hres
 refine Lq (Jd O) (Je (Jf (Jc (Ja (Lq (Jb O) (Lq (Kz O O) (Je (Jf (Jy O (fun h24=> ?_) (fun h24=> ?_))))))))))
 ·refine Jc (Ja (Lq (JZ .nil (bd31Xw18)) (Lq (Jb O) (Jg O (Jq (cs':= [_,_,_,_,_,_,_,_,_]) (vs:= [_,_,_,_,_,_,_,_,_]) JD O O O O O (Nat.le_of_ble_eq_true O) .z3 (Lq (Jd O) (Je (Jf (Jo (Js ?_))))))))))
  refine ⟨_,[_,_,_],[_,_,_],fun Z w hs=>JV hs Un52 O JD O (Ji (Ji (Ji (Jn)))) O (.tmp O .nil),?_,fun Z w hs=>hs.out (Sk (Sk (Sk (Sd (Sd (Sr)))))) (Jl Mm0 (Jl Mm2 (Jl Mm3 Tt1)))⟩
  try simp only [Bp,Bq] at *
  have hF:=put_1 h24
  exact ⟨L,A,cap,none,0,by rw [hF];exact hr,by rw [hF];rfl,by rw [hF],by rw [hF];rfl⟩
 ·refine Jp (Jf (Jc ?_))
  try simp only [Bp,Bq] at *
  obtain ⟨h0,h1,hw0,htot,hne3,hk1,hk4,hck,htgt⟩:=fits_0 h24
  obtain ⟨i,rfl⟩: ∃k:Nat,i=(k:Int):=⟨i.toNat,by omega⟩
  have hil:i≤H.ents.length:=by omega
  have hwid:=check_wid hck
  refine Ja (Lq (Jt (vs:= [_,_,_,_,_,_,_,_,_]) Un52 O JD O (Ji (Ji (Ji (Ji (Jn))))) O O) (Jg O (Jm (YY o Ao co ho.rs) (.n1 O) (by decide) (Jl Mm4 Jw) fun u4_1 Lo fs hres=> ?_)))
  obtain ⟨A1,c1,rfl,rfl,rfl⟩:=hres
  refine Jg O (Jq (cs':= [_,_,_,_,_,_,_,_,_]) (vs:= [_,_,_,_,_,_,_,_,_]) JD O O O O O (Nat.le_of_ble_eq_true O) .z4 (Je (Jf (Jc (Xe Mm3 fun hcap hcap2=> ?_)))))
  obtain ⟨B,hB⟩: ∃B,B=cutA A i cap 9:=⟨_,rfl⟩
  have hFd: ∀x∈H.ops.drop i,Fit x:=fun x hx=>by obtain ⟨e,he,rfl⟩:=List.mem_map.1 (List.mem_of_mem_drop hx);exact hr.fit e he
  refine Ke (A:=RdF opD B (cap-i) (H.ops.drop i)) (fun Z w hs=>by rw [hB];have h1:=RdS.cut (lo:=i) (hi:=H.ops.length) (m:=cap) (hs.facts _ Mm3) (by omega) (by omega) (by omega) (Nat.le_refl _);rw [List.take_length] at h1;exact h1) (JI _ _ [] (.c 0 0 (.c 2 0 (.c 3 0 (.c 4 0 (.c 5 0 (.c 6 0 (.c 7 0 (.c 1 2 (.c 8 2 (.c 9 0 (.c 10 0 (.c 11 0 (.c 12 0 (.c 13 0 (.c 14 0 (.c 15 0 .nil)))))))))))))))) mixed (fun _ _ _ _ h=>h) (Sk (Sk (Sk (Sk (Sk (Sr)))))) (fun _ h=>h) (by kernel_rfl) (by decide) fun ws Z0=>Qe O (Jt (vs:= [_,_,_,_,_,_,_,_,_]) Un52 O JD O (Ji (Ji (Ji (Ji (Jn))))) O O) (Qe O (Jb O) (Qe O (JC O) ?_)))
  refine Qe O (Jh (o':=0) Un159 O QA O O) (Qe O (Jj Un78 O O Jn O) (Qe O (Jb O) (Qe O (Ep Un78 JD O O (by omega) (by omega)) (Jz O O (KF (cs:= [_,_,_,_,_,_,_,_,_]) Un78 JD (by decide) (by decide) O O O O (by decide) fun b31=> ?_)))))
  refine ⟨⟨(Sd (Sk (Sk (Sk (Sk (Sk (Sr))))))),Mm0⟩,?_⟩
  refine GI (e:=opD) (u:=o) .z (fun Z w hs=>⟨A1,c1,O,hs.facts _ Mm2⟩) (Jz O O (Jm (Jbf (some ⟨b31,0,none⟩) B 1 (cap-i) [o] (H.ops.drop i) (by simpa using ho) hFd (by simp) (by rw [List.length_drop];omega)) (.n2 O (by rw [hB,List.length_drop];rfl)) (by decide) (Jl Mm5 (Jl Mm0 (Jl Mm2 Jw))) fun u5_8 Lo fs hres=> ?_))
  obtain ⟨Ac,cc,Ad,cd,rfl,rfl,rfl⟩:=hres
  refine ⟨⟨(Sk (Sk (Sk (Sk (Sk (Sr)))))),Mm3⟩,?_⟩
  refine Qe O (Jb O) (Qe O (Jk (vs:= [_,_,_]) O O) (Qe O (Jk (vs:= [_,_,_]) O O) (Qe O (Jk (vs:= [_,_,_]) O O) (Qe O (Jd O) (Qe O (Jd O) (Qe O (Jd O) (JN (JM (Jf (JF [(11,_),(10,_),(9,_),(7,_),(6,_),(5,_),(0,_),(1,_)] (.m8 O O O O O O O O) ?_))))))))))
  refine Jc (Jc (Ja (Lq (Jb O) (Lq (Kz O O) (Je (Jf (Jy O (fun h43=> ?_) (fun h43=> ?_))))))))
  ·refine Jc (Ja (Lq (JZ .nil (bd31Xw18)) (Lq (Jb O) (Jg O (Jq (cs':= [_,_,_,_,_,_,_,_,_]) (vs:= [_,_,_,_,_,_,_,_,_]) JD O O O O O (Nat.le_of_ble_eq_true O) .z3 (Lq (Jd O) (Je (Jf (Jo (Js ?_))))))))))
   refine ⟨_,[_,_,_],[_,_,_],fun Z w hs=>JV hs Un52 O JD O (Ji (Ji (Ji (Jn)))) O (.tmp O .nil),?_,fun Z w hs=>hs.out (Sk (Sk (Sk (Sd (Sd (Sr)))))) (Jl Mm6 (Jl Mm8 (Jl Mm9 Tt7)))⟩
   try simp only [Bp,Bq] at *
   have hF:=put_2 h24 h43
   exact ⟨L,A,cap,none,0,by rw [hF];exact hr,by rw [hF];rfl,by rw [hF],by rw [hF];rfl⟩
  ·refine Jp (Jf (Jc ?_))
   try simp only [Bp,Bq] at *
   have hX:(crossF [o] (H.ops.drop i)).2.2=0:=by omega
   obtain ⟨td,htd,hsame⟩:=crossOne hX
   have hcf:=Ht (xs:= [o]) (ys:=H.ops.drop i) (by simpa using ho) hFd
   have htf:Fit td:=hcf.1 td (by rw [htd];exact List.mem_singleton.2 rfl)
   obtain ⟨later,hlater⟩: ∃x,x=(crossF [o] (H.ops.drop i)).2.1:=⟨_,rfl⟩
   have hsl:Sames (H.ops.drop i) later:=by rw [hlater];exact (XD hX).2
   have hfl: ∀y∈later,Fit y:=by rw [hlater];exact hcf.2
   have hll:later.length=H.ops.length-i:=by rw [hsl.length,List.length_drop]
   rw [htd,←hlater]
   refine Ja (Lq (Jb O) (Lq (JZ (.n1 O) (bd101_0Xw18 _)) (Jg O (J9 (cs:= [_,_,_]) O O (by decide) fun b48=>Lq (Jd O) (Je (Jf (Jc (Ja (Lq (Jh (o':=0) Un52 O KW O O) (Lq (Jh (o':=2) Un49 O Yt O O) (Lq (Jj Un47 O O (Ji (Ji (Ji (Ji (Ji (Jn)))))) O) (Lq (JZ (.n1 O) (bd28_1Xw18 _)) ?_))))))))))))
   refine Lq (JZ (.n1 O) (bd31_0Xw18 _ _ _)) (Jg O (Ju (cs:= [_,_,_,_,_,_,_,_,_]) JD O (by decide) fun b13=>Jg O (Jq (cs':= [_,_,_,_,_,_,_,_,_]) (vs:= [_,_,_,_,_,_,_,_,_]) JD O O O O O (Nat.le_of_ble_eq_true O) .z (Je (Jf (JF [(13,_),(12,_),(10,_),(9,_),(7,_),(6,_),(5,_),(0,_),(1,_)] (.m9 O O O O O O O O O) ?_))))))
   refine XY (α:=List Ent×List MR×List Rg×Option Addr×Nat×GOp×Option Addr×Nat)
    (fun (es,L1,nw,An,cn,eff,Ae,ce)=> [(0, .pointer (some ⟨h,0,none⟩)),(1, .int .i64 i),(5, .pointer (some ⟨b5,0,none⟩)),(6, .pointer (some ⟨b6,0,none⟩)),(10, .slice Ad later.length cd),(12, .pointer (some ⟨b48,0,none⟩)),(13, .pointer (some ⟨b13,0,none⟩))])
    (fun (es,L1,nw,An,cn,eff,Ae,ce)=>([(b13,JB (opC eff Ae ce) 52)] :: [(b48,JB [.int .i64 i, .slice An nw.length cn, .bool false] 162)] :: [(b6,JB (opC zeroOp none 0) 52)] :: [(b5,JB (opC o A1 c1) 52)] ::hdP h A H.ops.length cap m H.total::mpP m L::mkP L1::Ps))
    (fun (es,L1,nw,An,cn,eff,Ae,ce)=>(RdF rgD Ae ce eff.rs::RdF rgD An cn nw::AllF L1 nowF::RdF opD Ad cd later::RdF rgD A1 c1 o.rs::RdF rgD none 0 [] ::barF::RdF opD A cap H.ops::AllF L nowF::RdF rgD Ao co o.rs::As))
    (fun (es,L1,nw,An,cn,eff,Ae,ce)=>MidI H i o td L es L1 nw eff) ?_ ?_
   ·refine Jc (Ja (Lq (Jh (o':=0) Un52 O KW O O) (Lq (Jh (o':=2) Un49 O Yt O O) (Lq (Jj Un47 O O (Ji (Ji (Ji (Ji (Ji (Ji (Jn))))))) O) (Je (Jf (JE (Jc (Ja (Lq (Kh O O) (Lq (Jd O) (Je (Jf (Jy O (fun h57=> ?_) (fun h57=> ?_)))))))))))))))
    ·refine Jc (Kd (k:=0) Mm0 O (op_open _) fun b12 q12 y12 e12=> ?_)
     cases e12
     refine JI _ _ [9] (.c 0 0 (.c 1 0 (.c 2 0 (.c 3 0 (.c 4 0 (.c 5 0 (.c 6 0 (.c 7 2 (.c 8 0 (.c 9 3 .nil)))))))))) mixed (fun _ _ _ _ h=>h) (Sd (Sk (Sk (Sk (Sk (Sk (Sk (Sr)))))))) (fun _ h=>h) (by kernel_rfl) (by decide) fun ws Z0=>Qe O (Jb O) (Qe O (J7 Un78 JD O O (by decide) (by simp)) (Qe O (Jh (o':=_+3) Un52 O ti3 O O) (Qe O (Kb (j:=3) Un3 O O Mm0 O O) (Qe O (Jh (o':=4) Un52 O ti9 O O) (Qe O (Jj Un9 O O (Ji (Ji (Ji (Ji (Ji (Jn)))))) O) (Qe O (Jh (o':=3) Un52 O ti3 O O) ?_))))))
     refine Jz O O (JJ ti3 O O O .z3 .z ?_)
     refine ⟨⟨(Sd (Sk (Sk (Sk (Sk (Sk (Sk (Sr)))))))),Mm0⟩,?_⟩
     refine Qe O (Jh (o':=4) Un52 O ti9 O O) (JN (J8 O O (JJ ti9 O O O .z4 .z (JM (Jf (JF [(13,_),(12,_),(10,_),(7,_),(6,_),(5,_),(0,_),(1,_)] (.m8 O O O O O O O O) (Jc ?_)))))))
     cases hmv:movedAll H.ents td.at_ (Jx o) with
     | error e=>
      refine JI _ _ [] (.c 0 0 (.c 1 0 (.c 2 0 (.c 3 0 (.c 4 2 (.c 5 2 (.c 6 0 (.c 7 0 (.c 8 0 (.c 9 0 (.c 10 0 .nil))))))))))) mixed (fun _ _ _ _ h=>h) (Sk (Sk (Sd (Sd (Sd (Sk (Sk (Sr)))))))) (fun _ h=>h) (by kernel_rfl) (by decide) fun ws Z0=>Qe O (Jb O) (Qe O (Jh (o':=3) Un52 O ti3 O O) (Qe O (Jj Un3 O O Jn O) (Qe O (Jt (vs:= [_,_,_,_,_,_,_,_,_]) Un52 O JD O (Ji (Ji (Ji (Jn)))) O O) ?_)))
      refine Jz O O (Jm (YM o A1 c1 (by have:=ho.text;omega)) (.n1 O) (by decide) (Jl Mm11 Jw) fun u13_4 Lo fs hres=> ?_)
      obtain ⟨rfl,rfl,rfl⟩:=hres
      refine ⟨⟨(Sk (Sk (Sd (Sd (Sd (Sk (Sk (Sr)))))))),Mm0⟩,?_⟩
      refine Jz O O (KB (ES h m cap A H L hr td.at_ (Jx o)) (.n3 O O O) (by decide) .z2 .z2 .z2 (Jl Mm12 (Jl Mm13 Jw)) fun u13_5 Lo fs hres=> ?_)
      obtain ⟨rfl,hmr⟩:=hres
      rw [hmv] at hmr
      obtain ⟨rfl,rfl⟩:=hmr
      refine ⟨⟨(Sd (Sd (Sd (Sk (Sk (Sk (Sk (Sr)))))))),Mm0⟩,?_⟩
      refine Qe O (Jb O) (Qe O (Jk (vs:= [_,_]) O O) (Qe O (Jk (vs:= [_,_]) O O) (Qe O (Jd O) (Qe O (Jd O) (JN (JM (Jf (JF [(15,_),(14,_),(13,_),(12,_),(10,_),(7,_),(6,_),(5,_),(0,_),(1,_)] (.m10 O O O O O O O O O O) (Jc (Jc (Ja (Lq (Jb O) ?_))))))))))))
      refine Lq (Kz O O) (Je (Jf (J1 O (by simpa using movedAll_ne hmv) (Jc (Ja (Lq (JZ .nil (bd31Xw18)) (Lq (Jb O) (Jg O (Jq (cs':= [_,_,_,_,_,_,_,_,_]) (vs:= [_,_,_,_,_,_,_,_,_]) JD O O O O O (Nat.le_of_ble_eq_true O) .z5 (Lq (Jd O) (Je (Jf (Jo (Js (JG (Js ?_))))))))))))))))
      refine ⟨_,[_,_,_],[_,_,_],fun Z w hs=>JV hs Un52 O JD O (Ji (Ji (Ji (Ji (Ji (Jn)))))) O (.tmp O .nil),?_,fun Z w hs=>hs.out (Sk (Sk (Sk (Sd (Sd (Sd (Sd (Sr)))))))) (Jl Mm10 (Jl Mm12 (Jl Mm13 Tt11)))⟩
      try simp only [Bp,Bq] at *
      have hF:=put_3 h24 hX htd (by unfold midF;rw [if_pos h57,hmv])
      exact ⟨L,A,cap,none,0,by rw [hF];exact hr,by rw [hF];rfl,by rw [hF],by rw [hF];rfl⟩
     | ok ls=>
      have hlsl:=Vl hmv
      refine JI _ _ [] (.c 0 0 (.c 1 0 (.c 2 0 (.c 3 0 (.c 4 2 (.c 5 2 (.c 6 0 (.c 7 0 (.c 8 0 (.c 9 0 (.c 10 0 .nil))))))))))) mixed (fun _ _ _ _ h=>h) (Sk (Sk (Sd (Sd (Sd (Sk (Sk (Sr)))))))) (fun _ h=>h) (by kernel_rfl) (by decide) fun ws Z0=>Qe O (Jb O) (Qe O (Jh (o':=3) Un52 O ti3 O O) (Qe O (Jj Un3 O O Jn O) (Qe O (Jt (vs:= [_,_,_,_,_,_,_,_,_]) Un52 O JD O (Ji (Ji (Ji (Jn)))) O O) ?_)))
      refine Jz O O (Jm (YM o A1 c1 (by have:=ho.text;omega)) (.n1 O) (by decide) (Jl Mm11 Jw) fun u13_4 Lo fs hres=> ?_)
      obtain ⟨rfl,rfl,rfl⟩:=hres
      refine ⟨⟨(Sk (Sk (Sd (Sd (Sd (Sk (Sk (Sr)))))))),Mm0⟩,?_⟩
      refine Jz O O (KB (ES h m cap A H L hr td.at_ (Jx o)) (.n3 O O O) (by decide) .z2 .z2 .z2 (Jl Mm12 (Jl Mm13 Jw)) fun u13_5 Lo fs hres=> ?_)
      obtain ⟨rfl,hmr⟩:=hres
      rw [hmv] at hmr
      obtain ⟨A3,c3,rfl,rfl⟩:=hmr
      refine ⟨⟨(Sd (Sd (Sd (Sk (Sk (Sk (Sk (Sr)))))))),Mm1⟩,?_⟩
      refine Qe O (Jb O) (Qe O (Jk (vs:= [_,_]) O O) (Qe O (Jk (vs:= [_,_]) O O) (Qe O (Jd O) (Qe O (Jd O) (JN (JM (Jf (JF [(15,_),(14,_),(13,_),(12,_),(10,_),(7,_),(6,_),(5,_),(0,_),(1,_)] (.m10 O O O O O O O O O O) (Jc (Jc (Ja (Lq (Jb O) ?_))))))))))))
      refine Lq (Kz O O) (Je (Jf (Jv O O (Jp (Jf (Jc (Jc (Ja (Lq (Jb O) (Lq (J3 Un178 O) (Lq (Jb O) (Je (Jf (JE ?_))))))))))))))
      refine Kf (α:=Nat×List MR) (fun (k,Lk)=>ls.length-k)
       (fun (k,Lk)=> [(0, .pointer (some ⟨h,0,none⟩)),(1, .int .i64 i),(5, .pointer (some ⟨b5,0,none⟩)),(6, .pointer (some ⟨b6,0,none⟩)),(10, .slice Ad later.length cd),(12, .pointer (some ⟨b48,0,none⟩)),(13, .pointer (some ⟨b13,0,none⟩)),(80, .slice A3 ls.length c3),(81, .int .i64 ls.length),(82, .int .i64 k)])
       (fun (k,Lk)=>(hdP h A H.ops.length cap m H.total::mpP m L::mkP Lk:: [(b13,JB (opC { effF o with at_:=td.at_,text:=o.text } none 0) 52)] :: [(b48,JB [.int .i64 i, .slice none 0 0, .bool false] 162)] :: [(b6,JB (opC zeroOp none 0) 52)] :: [(b5,JB (opC o A1 c1) 52)] ::Ps))
       (fun (k,Lk)=>(AllF Lk nowF::RdF rsl A3 c3 ls::RdF opD Ad cd later::RdF rgD A1 c1 o.rs::RdF rgD none 0 [] ::barF::RdF opD A cap H.ops::AllF L nowF::RdF rgD Ao co o.rs::As))
       (fun (k,Lk)=>HR ⟨setNow H.ents ls k,H.total⟩ Lk∧keys Lk=keys L∧k≤ls.length)
       (0,L) ?_ (.m10 rfl rfl rfl rfl rfl rfl rfl rfl rfl rfl) (Sk (Sk (Sk (Sk (Sk (Sk (Sk (Sr)))))))) (Jl Mm14 (Jl Mm0 (Jl Mm6 Tt10))) ?_
      ·exact ⟨by rw [Xu];exact hr,O,Nat.zero_le _⟩
      ·rintro ⟨k,Lk⟩ hI
       have hkls:k≤ls.length:=hI.2.2
       refine Jc (Ja (Lq (Km O O) (Je (Jf (Jc (Jy O (fun h83=> ?_) (fun h83=> ?_)))))))
       ·refine Jp (Jf (Jc (JE (Jc ?_))))
        try simp only [Bp,Bq] at *
        have hk:k<ls.length:=by omega
        have hke:k<H.ents.length:=by omega
        refine Kd (k:=k) Mm1 (List.getElem?_eq_getElem hk) (rsl_open _) fun b18 q18 y18 e18=> ?_
        cases e18
        refine Ja (Lq (Jb O) (Lq (J7 Un178 Ya O O (by omega) (by omega)) (Lq (Kb (j:=0) Un50 O O Mm0 O O) (Lq (Jd O) (Lq (Jd O) (Je (Jf ?_)))))))
        have hko:k<H.ops.length:=by omega
        have hop:=Va hke
        refine Kd (k:=k) Mm8 (List.getElem?_eq_getElem hko) (op_open _) fun bo qo yo eo=> ?_
        cases eo
        have hks:k<(setNow H.ents ls k).length:=by rw [VP];exact hke
        have hsk:(setNow H.ents ls k)[k] =H.ents[k] :=by have h1:=X9 H.ents ls k hke;rw [List.getElem?_eq_getElem hks] at h1;exact Option.some.inj h1
        obtain ⟨jm,xm,hjm,hxm,hgm⟩:=hI.1.look hks
        obtain ⟨xk,xb,xA,xc⟩:=xm
        simp only [hsk] at hxm hgm
        obtain rfl:xk=markAt k H.ents[k] :=hxm
        rw [←hop,hI.2.1] at hgm
        refine JI _ _ [17] (.c 0 0 (.c 1 0 (.c 2 0 (.c 3 0 (.c 4 0 (.c 5 0 (.c 6 0 (.c 7 0 (.c 8 0 (.c 9 0 (.c 10 0 (.c 11 0 (.c 12 0 (.c 13 0 (.c 14 0 (.c 15 0 (.c 16 0 (.c 17 3 .nil)))))))))))))))))) mixed (fun _ _ _ _ h=>h) (Sk (Sk (Sd (Sk (Sk (Sk (Sk (Sr)))))))) (fun _ h=>h) (by kernel_rfl) (by decide) fun ws Z0=>Qe O (Jb O) (Qe O (JC O) (Qe O (Jh (o':=1) Un159 O Qi O O) (Qe O (Jj Un157 O O Jn O) (Qe O (Jb O) (Qe O (JC O) (Qe O (Jh (o':=0) Un159 O QA O O) (Qe O (Jj Un78 O O Jn O) (Qe O (Jb O) ?_))))))))
        refine Qe O (J7 Un78 JD O O (by omega) (by omega)) (Qe O (Jh (o':=_+0) Un52 O KW O O) (Qe O (Jh (o':=_+0) Un49 O JW O O) (Qe O (Kq (k:=0) (vs:= [_,_]) Un46 O JW O Mm0 O O O) (Qe O (Y7 keyT hgm Un157 Qw O O (Ji (Jn))) (Qe O (Jb O) (Qe O (JC O) (Qe O (Jh (o':=1) Un162 O Ya O O) (JN (J8 O O (Xq (i:=jm) Ya O O O (XV hjm) .z1 .z2 (JM ?_)))))))))))
        refine Ka (Jf ?_)
        have hmk:(mkP Lk).set jm (xb,JB [.int .i64 (markAt k H.ents[k]).num, .slice y18.1 ls[k].length y18.2, .bool (markAt k H.ents[k]).off] 162)=mkP (Lk.set jm ⟨markAt k ⟨H.ents[k].op,ls[k],H.ents[k].off⟩,xb,y18.1,y18.2⟩):=by rw [Es];rfl
        rw [hmk]
        refine Ke (A:=AllF (Lk.set jm ⟨markAt k ⟨H.ents[k].op,ls[k],H.ents[k].off⟩,xb,y18.1,y18.2⟩) nowF) (fun Z w hs=>Er (hs.facts _ Mm5) (hs.facts _ Mm4)) (Ja (Lq (JU O O (wr64 (by omega))) (Lq (Jb O) (Je (Kp ?_)))))
        refine ⟨(k+1,Lk.set jm ⟨markAt k ⟨H.ents[k].op,ls[k],H.ents[k].off⟩,xb,y18.1,y18.2⟩),?_,(.m10 O O O O O O O O O O),(Sk (Sk (Sk (Sk (Sk (Sk (Sk (Sr)))))))),(Jl Mm0 Tt7)⟩
        refine ⟨by show ls.length-(k+1)<ls.length-k;omega,?_,(Gp (y:=⟨markAt k ⟨H.ents[k].op,ls[k],H.ents[k].off⟩,xb,y18.1,y18.2⟩) hjm rfl rfl rfl).trans hI.2.1,by show k+1≤ls.length;omega⟩
        rw [setNow_succ _ _ _ hke hk]
        exact hI.1.upd hks hjm (by simp only [hsk]) ⟨H.ents[k].op,ls[k],H.ents[k].off⟩ (by simp only [hsk]) (by have:=Xy hmv _ (List.getElem_mem hk);show ls[k].length≤_;omega) _ _
       ·refine Kk (JL (JL (Kc (Jf ?_))))
        try simp only [Bp,Bq] at *
        refine JA .z2 (JA .z2 (JA .z2 (JA .z6 (JA .z6 (JA .z6 (JA .z6 (JI _ _ [12] (.c 0 0 (.c 1 0 (.c 2 0 (.c 3 0 (.c 4 0 (.c 5 0 (.c 6 2 (.c 7 0 (.c 8 0 (.c 9 2 (.c 10 0 (.c 11 0 (.c 12 3 .nil))))))))))))) mixed (fun _ _ _ _ h=>h) (Sk (Sk (Sk (Sk (Sk (Sk (Sk (Sr)))))))) (fun _ h=>h) (by kernel_rfl) (by decide) fun ws Z0=>Qe O (Jb O) (Qe O (Jh (o':=3) Un52 O ti3 O O) ?_))))))))
        refine Qe O (Jj Un3 O O Jn O) (Qe O (Jh (o':=3) Un52 O ti3 O O) (Qe O (Jj Un3 O O Jn O) (Qe O (Jt (vs:= [_,_,_,_,_,_,_,_,_]) Un52 O JD O (Ji (Ji (Ji (Jn)))) O O) (Jz O O (Jm (YM o A1 c1 (by have:=ho.text;omega)) (.n1 O) (by decide) (Jl Mm6 Jw) fun u21_6 Lo fs hres=> ?_)))))
        obtain ⟨rfl,rfl,rfl⟩:=hres
        refine ⟨⟨(Sk (Sk (Sk (Sk (Sk (Sk (Sk (Sr)))))))),Mm0⟩,?_⟩
        refine Qe rfl (JU rfl rfl (show IntKind.i64.wrap (td.at_+Jx o)=td.at_+Jx o from wr64 (by have:=htf.lo;have:=htf.hi;have:=KV o;omega))) (Qe rfl (JZ (.n2 rfl rfl) (bd37_0_1Xw18 _ _)) (Jz rfl rfl (KF (cs:= [_,_]) Un50 KZ (by decide) (by decide) rfl rfl rfl rfl (by decide) fun b114=> ?_)))
        refine ⟨⟨(Sd (Sk (Sk (Sk (Sk (Sk (Sk (Sk (Sr))))))))),Mm0⟩,?_⟩
        refine Qe O (JC O) (Qe O (Jh (o':=1) Un162 O Ya O O) (GI (e:=rgD) (u:=⟨td.at_,td.at_+Jx o⟩) .z (fun Z w hs=>O) (JN (J8 O O (JJ Ya O O O .z1 .z1 (JM (Ka (Kp ?_))))))))
        refine ⟨(setNow H.ents ls H.ents.length,Lk,[⟨td.at_,td.at_+Jx o⟩],some ⟨b114,0,none⟩,1,{ effF o with at_:=td.at_,text:=o.text },none,0),?_,(.m7 rfl rfl rfl rfl rfl rfl rfl),(Sk (Sk (Sk (Sk (Sk (Sk (Sk (Sr)))))))),(Jl Mm6 (Jl Mm0 (Jl Mm2 Tt4)))⟩
        have hkk:k=ls.length:=by have:=hI.2.2;omega
        subst hkk
        refine ⟨by rw [←hlsl];exact hI.1,hI.2.1,?_,setNow_ops _ _ _,by show (1:Nat)≤_;omega⟩
        unfold midF
        rw [if_pos h57,hmv]
    ·refine Jc (Ja (Lq (Kh O O) (Lq (Jd O) (Je (Jf (Jy O (fun h117=> ?_) (fun h117=> ?_)))))))
     ·refine Jc (Kd (k:=0) Mm0 O (op_open _) fun b23 q23 y23 e23=> ?_)
      cases e23
      refine Ja (Lq (Jb O) (Lq (J7 Un78 JD O O (by decide) (by simp)) (Lq (Jh (o':=_+5) Un52 O Ya O O) (Lq (Kb (j:=5) Un50 O O Mm0 O O) (Lq (Jh (o':=5) Un52 O Ya O O) (Jg O (JJ Ya O O O .z5 .z (Je (Jf (JF [(13,_),(12,_),(10,_),(7,_),(6,_),(5,_),(0,_),(1,_)] (.m8 O O O O O O O O) (JA .z4 ?_)))))))))))
      refine JA .z4 (JA .z4 (JA .z6 (JA .z6 (JA .z6 (JA .z6 (Ja (Lq (Jb rfl) (Lq (Jt (vs:= [_,_,_,_,_,_,_,_,_]) Un52 rfl JD rfl Jn rfl rfl) (Jg rfl (Jm (YY { effF o with rs:=td.rs } y23.1 y23.2 htf.rs) (.n1 rfl) (by decide) (Jl Mm1 Jw) fun u24_2 Lo fs hres=> ?_))))))))))
      obtain ⟨A5,c5,rfl,rfl,rfl⟩:=hres
      refine Lq (Yl O (fd31_3Xw18 _ _ _ _ _ _ _ _ _ _ _)) (Lq (JC O) (Lq (Jh (o':=1) Un162 O Ya O O) (Jg O (JJ Ya O O O .z1 .z1 (Je (Ka (Kp ?_)))))))
      refine ⟨(H.ents,L,td.rs,A5,c5,{ effF o with rs:=td.rs },y23.1,y23.2),?_,(.m7 rfl rfl rfl rfl rfl rfl rfl),(Sk (Sk (Sk (Sk (Sk (Sk (Sk (Sr)))))))),(Jl Mm2 (Jl Mm0 (Jl Mm12 (Jl Mm4 Tt8))))⟩
      try simp only [Bp,Bq] at *
      refine ⟨hr,O,?_,O,htf.rs⟩
      unfold midF
      rw [if_neg h57,if_pos h117]
     ·refine Jc (Ja (Lq (Kh O O) (Lq (Jd O) (Je (Jf (JF [(130,_),(13,_),(12,_),(10,_),(7,_),(6,_),(5,_),(0,_),(1,_)] (.m9 O O O O O O O O O) (Jy O (fun h130=> ?_) (fun h130=> ?_))))))))
      ·try simp only [Bp,Bq] at *
       obtain ⟨kt,hkt⟩:=htgt h130
       refine Ja (Lq (Jb O) (Lq (Jb O) (Lq (Jt (vs:= [_,_,_,_,_,_,_,_,_]) Un52 O JD O (Ji (Ji (Ji (Ji (Ji (Ji (Jn))))))) O O) (Jg O (KB (ZD h m cap A H L hr i hil o A1 c1 kt hkt) (.n3 O O O) (by decide) .z2 .z2 .z2 (Jl Mm8 (Jl Mm9 Jw)) fun u26_3 Lo fs hres=> ?_)))))
       obtain ⟨L2,A4,c4,hr2,hk2,rfl,rfl,rfl⟩:=hres
       refine Ve .z2 (Ve .z2 (Ve .z2 (Ve .z6 (Ve .z6 (Ve .z6 (Ve .z6 (Jg O (Jq (cs':= [_,_,_,_,_,_,_,_,_]) (vs:= [_,_,_,_,_,_,_,_,_]) JD O O O O O (Nat.le_of_ble_eq_true O) .z (Je (Ka (Kp ?_)))))))))))
       refine ⟨((turnedF H i o).1,L2,[],none,0,(turnedF H i o).2,A4,c4),?_,(.m7 O O O O O O O),(Sk (Sk (Sk (Sk (Sk (Sk (Sk (Sr)))))))),(Jl Mm0 (Jl Mm8 (Jl Mm1 (Jl Mm3 Tt7))))⟩
       refine ⟨hr2,hk2,?_,turned_ops H i o,by show (0:Nat)≤_;omega⟩
       unfold midF
       rw [if_neg h57,if_neg h117,if_pos h130]
      ·try simp only [Bp,Bq] at *
       exfalso
       omega
   ·rintro ⟨es,L1,nw,An,cn,eff,Ae,ce⟩ hM
    refine Jc (JI _ _ [9] (.c 0 0 (.c 1 0 (.c 2 0 (.c 3 0 (.c 4 0 (.c 5 2 (.c 6 0 (.c 7 0 (.c 8 0 (.c 9 3 .nil)))))))))) mixed (fun _ _ _ _ h=>h) (Sk (Sk (Sk (Sk (Sk (Sk (Sk (Sr)))))))) (fun _ h=>h) (by kernel_rfl) (by decide) fun ws Z0=>Qe O (Jb O) (Qe O (JC O) (Qe O (Jh (o':=2) Un159 O ti3 O O) (Qe O (Jj Un3 O O (Ji (Ji (Ji (Ji (Jn))))) O) (Qe O (Jt (vs:= [_,_,_,_,_,_,_,_,_]) Un52 O JD O (Ji (Ji (Ji (Jn)))) O O) ?_)))))
    refine Jz O O (Jm (YM o A1 c1 (by have:=ho.text;omega)) (.n1 O) (by decide) (Jl Mm7 Jw) fun u27_5 Lo fs hres=> ?_)
    obtain ⟨rfl,rfl,rfl⟩:=hres
    refine ⟨⟨(Sk (Sk (Sk (Sk (Sk (Sk (Sk (Sr)))))))),Mm0⟩,?_⟩
    refine Qe O (JU O O (wr64 (by have:=hr.tot;have:=KV o;omega))) (Qe O (JC O) (Qe O (Jh (o':=2) Un159 O ti3 O O) (JN (J8 O O (JJ ti3 O O O .z2 .z4 (JM (Jf (Jc (JI _ _ [8] (.c 0 0 (.c 1 0 (.c 2 0 (.c 3 0 (.c 4 0 (.c 5 0 (.c 6 0 (.c 7 0 (.c 8 3 .nil))))))))) mixed (fun _ _ _ _ h=>h) (Sk (Sk (Sk (Sk (Sk (Sd (Sk (Sr)))))))) (fun _ h=>h) (by kernel_rfl) (by decide) fun ws Z0=>Qe O (Jb O) (Qe O (JC O) (Qe O (Jh (o':=1) Un159 O Qi O O) ?_)))))))))))
    refine Qe O (Jj Un157 O O (Ji (Ji (Ji (Ji (Jn))))) O) (Qe O (Jh (o':=0) Un52 O KW O O) (Qe O (Jh (o':=0) Un49 O JW O O) (Qe O (Jt (vs:= [_,_]) Un46 O JW O (Ji (Ji (Ji (Jn)))) O O) (Qe O (Jb O) (JN (J8 O O (Zv keyT Un157 O O O (hr.look0 hw0) .z5 (JM (Jf (JF [(0,_),(1,_),(5,_),(6,_),(10,_),(13,_)] (.m6 O O O O O O) (Jc ?_)))))))))))
    obtain ⟨xs,hxs⟩: ∃xs,xs=H.ops.take i:=⟨_,rfl⟩
    have hxl:xs.length=i:=by rw [hxs,List.length_take];omega
    obtain ⟨B2,hB2⟩: ∃B,B=cutA A 0 i 9:=⟨_,rfl⟩
    refine Ke (A:=RdF opD B2 xs.length xs) (fun Z w hs=>by rw [hB2,hxl,hxs];exact RdS.cut (lo:=0) (hi:=i) (m:=i) (hs.facts _ Mm9) (Nat.zero_le _) (by omega) (Nat.le_refl _) (by omega)) (JI _ _ [15] (.c 0 0 (.c 1 0 (.c 2 0 (.c 3 0 (.c 4 0 (.c 5 0 (.c 6 0 (.c 7 0 (.c 8 0 (.c 11 0 (.c 9 2 (.c 10 2 (.c 12 2 (.c 13 0 (.c 14 0 (.c 15 3 .nil)))))))))))))))) mixed (fun _ _ _ _ h=>h) (Sk (Sk (Sk (Sk (Sk (Sk (Sk (Sr)))))))) (fun _ h=>h) (by kernel_rfl) (by decide) fun ws Z0=>Qe O (Jb O) (Qe O (Jb O) (Qe O (JC O) (Qe O (Jh (o':=0) Un159 O QA O O) ?_))))
    refine Qe O (Jj Un78 O O (Ji (Ji (Ji (Ji (Jn))))) O) (Qe O (Jb O) (Qe O (Jb O) (Qe O (Hl Un78 JD O O O (by omega) (by omega) (by omega)) (Qe O (Jt (vs:= [_,_,_,_,_,_,_,_,_]) Un52 O JD O (Ji (Ji (Ji (Jn)))) O O) (Qe O (Jb O) (Jz O O (KF (cs:= [_,_,_,_,_,_,_,_,_]) Un78 JD (by decide) (by decide) O O O O (by decide) fun b162=> ?_)))))))
    refine ⟨⟨(Sd (Sk (Sk (Sk (Sk (Sk (Sk (Sk (Sr))))))))),Mm0⟩,?_⟩
    refine Jz O O (HA (e:=opD) (xs:=xs) (news:=opC o A1 c1) Un78 JD O (by decide) (by rw [hB2,hxl];rfl) O Mm1 Jn O O (by omega) (by unfold maxLen;omega) (by decide) fun v163 p163 css163 hr163=> ?_)
    refine ⟨⟨(Sd (Sd (Sk (Sk (Sk (Sk (Sk (Sk (Sk (Sr)))))))))),Mm1⟩,?_⟩
    refine Jz O O (YD (e:=opD) (ys:=later) Un78 JD O (by decide) O O hr163 Mm8 (by omega) (by unfold maxLen;omega) (by decide) (DelAt.perm .z) fun v165 p165 css165 hr165=> ?_)
    refine ⟨⟨(Sd (Sd (Sk (Sk (Sk (Sk (Sk (Sk (Sk (Sr)))))))))),Mm2⟩,?_⟩
    refine Qe O (JC O) (Qe O (Jh (o':=0) Un159 O QA O O) (Jbp (A:=RepsF opD (xs++([o] ++later)) (css163++([opC o A1 c1] ++css165))) (fun Z w hs=>Reps.append (hs.facts _ Mm1) (Reps.append (.n1 ⟨A1,c1,O,hs.facts _ Mm10⟩) (hs.facts _ Mm0))) (Zr (e:=opD) (css:=css163++([opC o A1 c1] ++css165)) (xs:=xs++([o] ++later)) (by have h1:=hr165;simp only [List.flatten_append,List.flatten_cons,List.flatten_nil,List.append_nil,List.nil_append,List.append_assoc] at h1 ⊢;exact h1) .z (by simp only [List.length_append,List.length_cons,List.length_nil];omega) Mm0 fun A9 c9 e9=> ?_)))
    subst e9
    refine JN (J8 O O (JJ QA O O O .z .z5 (JM (Jf (JF [(0,_),(1,_),(6,_),(13,_)] (.m4 O O O O) (Jc (Jc (JA .z7 (JA .z3 (Jbs ?_))))))))))
    have hglue:mkP L1++ [(b48,JB [.int .i64 i, .slice An nw.length cn, .bool false] 162)] =mkP (L1++ [⟨markAt i ⟨o,nw,false⟩,b48,An,cn⟩]):=by simp [mkP,mrO,markAt]
    rw [hglue]
    refine Ke (A:=AllF (L1++ [⟨markAt i ⟨o,nw,false⟩,b48,An,cn⟩]) nowF) (fun Z w hs x hx=>by rcases List.mem_append.1 hx with hx | hx;exact hs.facts _ Mm10 x hx;obtain rfl:=List.mem_singleton.1 hx;exact hs.facts _ Mm9) ?_
    have hesl:es.length=H.ents.length:=hM.len
    have hsl2:Sames ((es.drop i).map (·.op)) later:=by rw [List.map_drop,hM.ops];exact hsl
    have hwn:JX es o.c o.n=none:=whereId_ops hM.ops hw0
    obtain ⟨FF,hFF⟩: ∃F,F=newEnts i o nw es later:=⟨_,rfl⟩
    obtain ⟨G,hG⟩: ∃G,G=xs++([o] ++later):=⟨_,rfl⟩
    have hGF:FF.map (·.op)=G:=by rw [hFF,newEnts_ops hsl2,hM.ops,hG,hxs]
    have hGl:G.length=FF.length:=by rw [←hGF,List.length_map]
    have hFl:FF.length=H.ents.length+1:=by rw [hFF,Qq hsl2 (by omega)];omega
    have hstart:=HN.start hM.hr (by simpa using (by omega:i≤es.length)) hsl2 hwn (o:=o) (nw:=nw) b48 An cn
    rw [←hFF] at hstart
    rw [←hG]
    refine Ja (Lq (Jb O) (Lq (Jd O) (Je (Jf (JE (JA .z3 (JA .z3 (JA .z6 (JA .z6 (JA .z4 ?_))))))))))
    refine Kf (α:=Nat×List MR) (fun (k,Lk)=>FF.length-k)
     (fun (k,Lk)=> [(0, .pointer (some ⟨h,0,none⟩)),(6, .pointer (some ⟨b6,0,none⟩)),(13, .pointer (some ⟨b13,0,none⟩)),(18, .int .i64 k)])
     (fun (k,Lk)=>(mkP Lk::hdP h A9 G.length c9 m (H.total+Jx o):: [(m,mapO (keys L++ [⟨o.c,o.n,b48⟩]))] :: [(b13,JB (opC eff Ae ce) 52)] :: [(b6,JB (opC zeroOp none 0) 52)] ::Ps))
     (fun (k,Lk)=>(AllF Lk nowF::RdF opD A9 c9 G::RdF rgD Ae ce eff.rs::barF::RdF opD A cap H.ops::AllF L nowF::RdF rgD Ao co o.rs::As))
     (fun (k,Lk)=>k≤FF.length∧HN FF Lk (numF i k)∧keys Lk=keys L++ [⟨o.c,o.n,b48⟩])
     (i,L1++ [⟨markAt i ⟨o,nw,false⟩,b48,An,cn⟩]) ?_ (.m4 rfl rfl rfl rfl) (Sk (Sk (Sk (Sk (Sk (Sd (Sd (Sr)))))))) (Jl Mm0 (Jl Mm1 (Jl Mm9 Tt15))) ?_
    ·exact ⟨by omega,hstart,by unfold keys;rw [List.map_append];show Go.Proofs.YtgedhdmpiciikaaGreatDoor.keys L1++_=_;rw [show Go.Proofs.YtgedhdmpiciikaaGreatDoor.keys L1=keys L from hM.keys];rfl⟩
    ·rintro ⟨k,Lk⟩ hI
     have hkF:k≤FF.length:=hI.1
     refine Jc (Jc (Ja (Lq (Jb O) (Lq (Jb O) (Lq (JC O) (Lq (Jh (o':=0) Un159 O QA O O) (Lq (Jj Un78 O O (Ji (Jn)) O) (Lq (J3 Un78 O) (Lq (Km O O) (Je (Jf (Jy O (fun h175=> ?_) (fun h175=> ?_)))))))))))))
     ·refine Jp (Jf (Jc (JE ?_)))
      try simp only [Bp,Bq] at *
      have hk:k<FF.length:=by omega
      have hko:k<G.length:=by omega
      have hop:G[k] =FF[k].op:=by simp only [←hGF,List.getElem_map]
      refine Kd (k:=k) Mm1 (List.getElem?_eq_getElem hko) (op_open _) fun bo qo yo eo=> ?_
      cases eo
      obtain ⟨jm,xm,hjm,hxm,hgm⟩:=hI.2.1.look hk
      obtain ⟨xk,xb,xA,xc⟩:=xm
      obtain rfl:xk=markAt (numF i k k) FF[k] :=hxm
      rw [←hop,hI.2.2] at hgm
      refine JI _ _ [17] (.c 0 0 (.c 1 0 (.c 2 0 (.c 3 0 (.c 4 0 (.c 5 0 (.c 6 0 (.c 7 0 (.c 8 0 (.c 9 0 (.c 10 0 (.c 11 0 (.c 12 0 (.c 13 0 (.c 14 0 (.c 15 0 (.c 16 0 (.c 17 3 .nil)))))))))))))))))) mixed (fun _ _ _ _ h=>h) (Sd (Sk (Sk (Sk (Sk (Sr)))))) (fun _ h=>h) (by kernel_rfl) (by decide) fun ws Z0=>Qe O (Jb O) (Qe O (JC O) (Qe O (Jh (o':=1) Un159 O Qi O O) (Qe O (Jj Un157 O O Jn O) (Qe O (Jb O) (Qe O (JC O) (Qe O (Jh (o':=0) Un159 O QA O O) (Qe O (Jj Un78 O O Jn O) (Qe O (Jb O) ?_))))))))
      refine Qe O (J7 Un78 JD O O (by omega) (by omega)) (Qe O (Jh (o':=_+0) Un52 O KW O O) (Qe O (Jh (o':=_+0) Un49 O JW O O) (Qe O (Kq (k:=0) (vs:= [_,_]) Un46 O JW O Mm0 O O O) (Qe O (Y7 keyT hgm Un157 Qw O O (Ji (Jn))) (Qe O (Jb O) (Qe O (JC O) (Qe O (Jh (o':=0) Un162 O ti3 O O) (JN (J8 O O (Xq (i:=jm) ti3 O O O (XV hjm) .z .z (JM ?_)))))))))))
      refine Ka (Jf ?_)
      have hmk:(mkP Lk).set jm (xb,JB [.int .i64 (k:Int), .slice xA (markAt (numF i k k) FF[k]).now.length xc, .bool (markAt (numF i k k) FF[k]).off] 162)=mkP (Lk.set jm ⟨markAt k FF[k],xb,xA,xc⟩):=by rw [Es];rfl
      rw [hmk]
      refine Ke (A:=AllF (Lk.set jm ⟨markAt k FF[k],xb,xA,xc⟩) nowF) (fun Z w hs=>Er (hs.facts _ Mm3) (hs.facts _ Mm3 ⟨markAt (numF i k k) FF[k],xb,xA,xc⟩ (List.mem_of_getElem? hjm))) (Ja (Lq (Jb O) (Lq (JU O O (wr64 (by omega))) (Lq (Jd O) (Je (Kp ?_))))))
      refine ⟨(k+1,Lk.set jm ⟨markAt k FF[k],xb,xA,xc⟩),?_,(.m4 O O O O),(Sk (Sk (Sk (Sk (Sk (Sr)))))),(Jl Mm0 Tt5)⟩
      exact ⟨by show FF.length-(k+1)<FF.length-k;omega,by show k+1≤FF.length;omega,(hI.2.1.upd hk hjm rfl).next,(Gp (y:=⟨markAt k FF[k],xb,xA,xc⟩) hjm rfl rfl rfl).trans hI.2.2⟩
     ·refine Kk (JL (JL (Kc (Jf (Jc (Ja (Lq (Jt (vs:= [_,_,_,_,_,_,_,_,_]) Un52 O JD O (Ji (Ji (Ji (Jn)))) O O) (Jg O (Jq (cs':= [_,_,_,_,_,_,_,_,_]) (vs:= [_,_,_,_,_,_,_,_,_]) JD O O O O O (Nat.le_of_ble_eq_true O) .z4 (Lq (Jd O) (Je (Jf (Jo ?_)))))))))))))
      refine ⟨_,[_,_,_],[_,_,_],fun Z w hs=>JV hs Un52 O JD O (Ji (Ji (Ji (Ji (Jn))))) O (.tmp O .nil),?_,fun Z w hs=>(((hs.pick .z).pick .z2).pick .z2).out (Sk (Sk (Sk (Sd (Sd (Sr)))))) (Jl Mm2 (Jl Mm1 (Jl Mm0 Tt3)))⟩
      try simp only [Bp,Bq] at *
      have hkl: ¬k<FF.length:=by omega
      have hF:=put_4 h24 hX htd hM.mid
      rw [Int.toNat_natCast,←hlater,←hFF] at hF
      have hRR:HR ⟨FF,H.total+Jx o⟩ Lk:=by
       have hn:=hI.2.1
       rw [hFF] at hn hkl ⊢
       exact HR.put hM hsl2 hfl ho hwid hlt htot hil hn hkl
      have hGG:(⟨FF,H.total+Jx o⟩:Hist).ops=G:=hGF
      have hkeys: [(m,mapO (keys L++ [⟨o.c,o.n,b48⟩]))] =mpP m Lk:=by unfold mpP;rw [hI.2.2]
      refine ⟨Lk,A9,c9,Ae,ce,by rw [hF];exact hRR,by rw [hF];rfl,?_,?_⟩
      ·rw [hF];simp only [hGG,hkeys]
      ·rw [hF];simp only [hGG]
def SmIn (s:Sm):Prop:=(0≤s.tot∧s.tot≤4611686018427387903)∧(0≤s.lv∧s.lv≤4611686018427387903)∧(0≤s.am∧s.am≤4611686018427387903)
set_option maxRecDepth 10000 in
theorem Zo (x:Int):Sp Tryz.prog 135 [.int .i64 x] [] [] (Is (.int .i64 (if x<0 then 30 else if x>1048576 then 31 else 0))):=by
 refine Sp.of (n:=7) ⟨_,Tryz.func135,O,O,O,O⟩ (Nat.le_of_ble_eq_true O) fun Ps As=>Jc (Ja (Lq (Jd O) (Je (Jf (Jc (Jc (Ja (Lq (Jb O) (Lq (Km O O) (Je (Jf (Jy O (fun h4=> ?_) (fun h4=> ?_)))))))))))))
 ·refine Jc (Ja (Lq (Jd O) (Je (Jf (Jo (Js ?_))))))
  refine ⟨_,[],[],fun Z w hs=> .tmp O .nil,?_,fun Z w hs=>hs.out (Sr) (fun _ h=>h)⟩
  try simp only [Bp,Bq] at *
  exact ⟨congrArg (Value.int .i64) (by repeat' split;all_goals first | rfl | omega),rfl,rfl⟩
 ·refine Jp (Jf (Jc (Jc (Ja (Lq (Jb O) (Lq (Kl O O) (Je (Jf (Jy O (fun h6=> ?_) (fun h6=> ?_))))))))))
  ·refine Jc (Ja (Lq (Jd O) (Je (Jf (Jo (Js ?_))))))
   refine ⟨_,[],[],fun Z w hs=> .tmp O .nil,?_,fun Z w hs=>hs.out (Sr) (fun _ h=>h)⟩
   try simp only [Bp,Bq] at *
   exact ⟨congrArg (Value.int .i64) (by repeat' split;all_goals first | rfl | omega),rfl,rfl⟩
  ·refine Jp (Jf (Jc (Ja (Lq (Jd O) (Je (Jf (Jo ?_)))))))
   refine ⟨_,[],[],fun Z w hs=> .tmp O .nil,?_,fun Z w hs=>hs.out (Sr) (fun _ h=>h)⟩
   try simp only [Bp,Bq] at *
   exact ⟨congrArg (Value.int .i64) (by repeat' split;all_goals first | rfl | omega),rfl,rfl⟩
theorem bd112Xw21 (w:World):(Instr.build 149 #[]).run Tryz.prog w= .ok (.agg #[.int .i64 0, .int .i64 0, .int .i64 0, .int .i64 0, .int .i64 0, .int .i64 0]) w:=by kernel_rfl
set_option maxRecDepth 10000 in
theorem all_1:Sp Tryz.prog 86 [.pointer none] [] [TrF none .nil] (Is (smV (allF .nil))):=by
 refine Sp.of (n:=10) ⟨_,Tryz.func86,O,O,O,O⟩ (Nat.le_of_ble_eq_true O) fun Ps As=>Jc (Ja (Jg O (Ju (cs:= [_,_,_,_,_,_]) Ku O (by decide) fun b2=>Je (Jf (Jc (Jc (Ja (Lq (Jb O) (Lq (KN Un141 O O (by simp)) (Je (Jf (J1 O O (Jc (Ja (Lq (JZ .nil (bd112Xw21)) (Jg O (Jq (cs':= [_,_,_,_,_,_]) (vs:= [_,_,_,_,_,_]) Ku O O O O O (Nat.le_of_ble_eq_true O) .z (Je (Jf (Jo (Js ?_)))))))))))))))))))))
 refine ⟨_,[],[],fun Z w hs=>JV hs Un149 O Ku O Jn O .nil,?_,fun Z w hs=>hs.out (Sd (Sr)) (fun _ h=>h)⟩
 exact ⟨O,O,O⟩
set_option maxRecDepth 10000 in
theorem all_2 (A:Option Addr) (s:Sm) (l r:Tr) (rs:List Int) (hid plus:Int):Sp Tryz.prog 86 [.pointer A] [] [TrF A (.nd s l rs hid r plus)] (Is (smV s)):=by
 refine Sp.of (n:=10) ⟨_,Tryz.func86,O,O,O,O⟩ (Nat.le_of_ble_eq_true O) fun Ps As=>EC Mm0 fun b Al Ar Ac cc e=> ?_
 cases e
 refine Jc (Ja (Jg O (Ju (cs:= [_,_,_,_,_,_]) Ku O (by decide) fun b2=>Je (Jf (Jc (Jc (Ja (Lq (Jb O) (Lq (KN Un141 O O (by simp)) (Je (Jf (Jv O O (Jp (Jf (Jc (Ja (Lq (Jb O) (Lq (JC O) (Lq (Jh (o':=_+0) Un198 O Ku O O) (Lq (Kq (k:=0) (vs:= [_,_,_,_,_,_]) Un149 O Ku O Mm0 O O O) ?_))))))))))))))))))))
 refine Jg O (Jq (cs':= [_,_,_,_,_,_]) (vs:= [_,_,_,_,_,_]) Ku O O O O O (Nat.le_of_ble_eq_true O) .z (Je (Jf (Jo ?_))))
 refine ⟨_,[],[],fun Z w hs=>JV hs Un149 O Ku O Jn O .nil,?_,fun Z w hs=>hs.out (Sd (Sr)) Tt4⟩
 exact ⟨O,O,O⟩
theorem YC (A:Option Addr) (t:Tr):Sp Tryz.prog 86 [.pointer A] [] [TrF A t] (Is (smV (allF t))):=by
 cases t with
 | nil=>
  refine ⟨all_1.enters,fun Z w Ps As hs=> ?_⟩
  obtain rfl:A=none:=hs.facts _ (by simp:TrF A .nil∈ [TrF A .nil] ++As)
  exact all_1.calls Z w Ps As hs
 | nd s l rs hid r plus=>exact all_2 A s l r rs hid plus
theorem bd112_0_1_3_5Xw21 (x0_:Int) (x1_:Int) (x3_:Int) (x5_:Int) (w:World):(Instr.build 149 #[(0, .int .i64 x0_),(1, .int .i64 x1_),(3, .int .i64 x3_),(5, .int .i64 x5_)]).run Tryz.prog w= .ok (.agg #[.int .i64 x0_, .int .i64 x1_, .int .i64 0, .int .i64 x3_, .int .i64 0, .int .i64 x5_]) w:=by kernel_rfl
set_option maxRecDepth 10000 in
theorem X0 (s t:Sm) (hs:SmIn s) (ht:SmIn t):Sp Tryz.prog 169 [smV s,smV t] [] [] (Is (smV (withF s t))):=by
 obtain ⟨⟨a1,a2⟩,⟨a3,a4⟩,a5,a6⟩:=hs
 obtain ⟨⟨b1,b2⟩,⟨b3,b4⟩,b5,b6⟩:=ht
 refine Sp.of (n:=58) ⟨_,Tryz.func169,O,O,O,O⟩ (Nat.le_of_ble_eq_true O) fun Ps As=>Jc (Ja (Jg O (J9 (cs:= [_,_,_,_,_,_]) O O (by decide) fun b2=>Jg O (J9 (cs:= [_,_,_,_,_,_]) O O (by decide) fun b3=>Jg O (Ju (cs:= [_,_,_,_,_,_]) Ku O (by decide) fun b4=>Je (Jf (Jc (Jc (Ja (Lq (Jh (o':=0) Un149 O ti3 O O) (Lq (Jj Un3 O O (Ji (Jn)) O) (Lq (Kh O O) (Je (Jf ?_))))))))))))))
 refine Jy O (fun h8=> ?_) (fun h8=> ?_)
 ·refine Jc (Ja (Lq (Jt (vs:= [_,_,_,_,_,_]) Un149 O Ku O (Ji (Ji (Jn))) O O) (Jg O (Jq (cs':= [_,_,_,_,_,_]) (vs:= [_,_,_,_,_,_]) Ku O O O O O (Nat.le_of_ble_eq_true O) .z (Je (Jf (Jo (Js ?_))))))))
  refine ⟨_,[],[],fun Z w hs=>JV hs Un149 O Ku O Jn O .nil,?_,fun Z w hs=>hs.out (Sd (Sd (Sd (Sr)))) (fun _ h=>h)⟩
  try simp only [Bp,Bq] at *
  exact ⟨by unfold withF;rw [if_pos h8];rfl,O,O⟩
 ·refine Jp (Jf (Jc (Jc (Ja (Lq (Jh (o':=0) Un149 O ti3 O O) (Lq (Jj Un3 O O (Ji (Ji (Jn))) O) (Lq (Kh O O) (Je (Jf (Jy O (fun h12=> ?_) (fun h12=> ?_)))))))))))
  ·refine Jc (Ja (Lq (Jt (vs:= [_,_,_,_,_,_]) Un149 O Ku O (Ji (Jn)) O O) (Jg O (Jq (cs':= [_,_,_,_,_,_]) (vs:= [_,_,_,_,_,_]) Ku O O O O O (Nat.le_of_ble_eq_true O) .z (Je (Jf (Jo (Js ?_))))))))
   refine ⟨_,[],[],fun Z w hs=>JV hs Un149 O Ku O Jn O .nil,?_,fun Z w hs=>hs.out (Sd (Sd (Sd (Sr)))) (fun _ h=>h)⟩
   try simp only [Bp,Bq] at *
   exact ⟨by unfold withF;rw [if_neg h8,if_pos h12];rfl,O,O⟩
  ·refine Jp (Jf (Jc (Ja (Lq (Jh (o':=0) Un149 O ti3 O O) (Lq (Jj Un3 O O (Ji (Ji (Jn))) O) (Lq (Jh (o':=0) Un149 O ti3 O O) (Lq (Jj Un3 O O (Ji (Jn)) O) (Lq (JU O O (wr64 (by omega))) (Lq (Jh (o':=1) Un149 O ti3 O O) (Lq (Jj Un3 O O (Ji (Ji (Jn))) O) (Lq (Jh (o':=1) Un149 O ti3 O O) (Lq (Jj Un3 O O (Ji (Jn)) O) ?_))))))))))))
   refine Lq (JU O O (wr64 (by omega))) (Lq (Jh (o':=3) Un149 O ti3 O O) (Lq (Jj Un3 O O (Ji (Ji (Jn))) O) (Lq (Jh (o':=3) Un149 O ti3 O O) (Lq (Jj Un3 O O (Ji (Jn)) O) (Lq (Gj O O) (Lq (Jh (o':=5) Un149 O ti3 O O) (Lq (Jj Un3 O O (Ji (Ji (Jn))) O) (Lq (Jh (o':=5) Un149 O ti3 O O) (Lq (Jj Un3 O O (Ji (Jn)) O) ?_)))))))))
   refine Lq (VR O O) (Lq (JZ (.n4 O O O O) (bd112_0_1_3_5Xw21 _ _ _ _)) (Jg O (Ju (cs:= [_,_,_,_,_,_]) Ku O (by decide) fun b5=>Jg O (Jq (cs':= [_,_,_,_,_,_]) (vs:= [_,_,_,_,_,_]) Ku O O O O O (Nat.le_of_ble_eq_true O) .z (Je (Jf (JF [(5,_),(4,_),(3,_),(2,_)] (.m4 O O O O) (Jc (Jc (Ja (Lq (Jh (o':=3) Un149 O ti3 O O) (Lq (Jj Un3 O O (Ji (Ji (Ji (Jn)))) O) (Lq (Jh (o':=3) Un149 O ti3 O O) ?_)))))))))))))
   refine Lq (Jj Un3 O O Jn O) (Lq (Kh O O) (Je (Jf (Jy O (fun h39=> ?_) (fun h39=> ?_)))))
   ·refine Ja (Lq (Jh (o':=4) Un149 O ti3 O O) (Lq (Jj Un3 O O Jn O) (Lq (Jh (o':=4) Un149 O ti3 O O) (Lq (Jj Un3 O O (Ji (Ji (Ji (Jn)))) O) (Lq (JU O O (wr64 (by omega))) (Lq (Jh (o':=4) Un149 O ti3 O O) (Jg O (JJ ti3 O O O .z4 .z (Je (Jf (JF [(5,_),(4,_),(3,_)] (.m3 O O O) ?_)))))))))))
    refine Jc (Jc (Ja (Lq (Jh (o':=3) Un149 O ti3 O O) (Lq (Jj Un3 O O (Ji (Ji (Jn))) O) (Lq (Jh (o':=3) Un149 O ti3 O O) (Lq (Jj Un3 O O Jn O) (Lq (Kh O O) (Je (Jf (Jy O (fun h50=> ?_) (fun h50=> ?_)))))))))))
    ·refine Ja (Lq (Jh (o':=4) Un149 O ti3 O O) (Lq (Jj Un3 O O Jn O) (Lq (Jh (o':=4) Un149 O ti3 O O) (Lq (Jj Un3 O O (Ji (Ji (Jn))) O) (Lq (JU O O (wr64 (by omega))) (Lq (Jh (o':=4) Un149 O ti3 O O) (Jg O (JJ ti3 O O O .z4 .z (Je (Jf (JF [(5,_),(4,_)] (.m2 O O) ?_)))))))))))
     refine Jc (Ja (Lq (Jt (vs:= [_,_,_,_,_,_]) Un149 O Ku O Jn O O) (Jg O (Jq (cs':= [_,_,_,_,_,_]) (vs:= [_,_,_,_,_,_]) Ku O O O O O (Nat.le_of_ble_eq_true O) .z1 (Je (Jf (Jo ?_)))))))
     refine ⟨_,[],[],fun Z w hs=>JV hs Un149 O Ku O (Ji (Jn)) O .nil,?_,fun Z w hs=>hs.out (Sd (Sd (Sd (Sd (Sr))))) (fun _ h=>h)⟩
     try simp only [Bp,Bq] at *
     refine ⟨?_,O,O⟩
     unfold withF
     rw [if_neg h8,if_neg h12]
     first
      | rw [if_pos h39,if_pos h50]
      | rw [if_pos h39,if_neg h50]
      | rw [if_neg h39,if_pos h50]
      | rw [if_neg h39,if_neg h50]
     simp only [tup,smV,smC,Int.zero_add,Int.add_zero]
    ·refine Jp (Jf (Jc (Ja (Lq (Jt (vs:= [_,_,_,_,_,_]) Un149 O Ku O Jn O O) (Jg O (Jq (cs':= [_,_,_,_,_,_]) (vs:= [_,_,_,_,_,_]) Ku O O O O O (Nat.le_of_ble_eq_true O) .z1 (Je (Jf (Jo ?_)))))))))
     refine ⟨_,[],[],fun Z w hs=>JV hs Un149 O Ku O (Ji (Jn)) O .nil,?_,fun Z w hs=>hs.out (Sd (Sd (Sd (Sd (Sr))))) (fun _ h=>h)⟩
     try simp only [Bp,Bq] at *
     refine ⟨?_,O,O⟩
     unfold withF
     rw [if_neg h8,if_neg h12]
     first
      | rw [if_pos h39,if_pos h50]
      | rw [if_pos h39,if_neg h50]
      | rw [if_neg h39,if_pos h50]
      | rw [if_neg h39,if_neg h50]
     simp only [tup,smV,smC,Int.zero_add,Int.add_zero]
   ·refine Jp (Jf (Jc (Jc (Ja (Lq (Jh (o':=3) Un149 O ti3 O O) (Lq (Jj Un3 O O (Ji (Ji (Jn))) O) (Lq (Jh (o':=3) Un149 O ti3 O O) (Lq (Jj Un3 O O Jn O) (Lq (Kh O O) (Je (Jf (JF [(50,_),(5,_),(4,_),(3,_)] (.m4 O O O O) (Jy O (fun h50=> ?_) (fun h50=> ?_))))))))))))))
    ·refine Ja (Lq (Jh (o':=4) Un149 O ti3 O O) (Lq (Jj Un3 O O Jn O) (Lq (Jh (o':=4) Un149 O ti3 O O) (Lq (Jj Un3 O O (Ji (Ji (Jn))) O) (Lq (JU O O (wr64 (by omega))) (Lq (Jh (o':=4) Un149 O ti3 O O) (Jg O (JJ ti3 O O O .z4 .z (Je (Jf (Jc (Ja (Lq (Jt (vs:= [_,_,_,_,_,_]) Un149 O Ku O Jn O O) ?_)))))))))))))
     refine Jg O (Jq (cs':= [_,_,_,_,_,_]) (vs:= [_,_,_,_,_,_]) Ku O O O O O (Nat.le_of_ble_eq_true O) .z1 (Je (Jf (Jo ?_))))
     refine ⟨_,[],[],fun Z w hs=>JV hs Un149 O Ku O (Ji (Jn)) O .nil,?_,fun Z w hs=>hs.out (Sd (Sd (Sd (Sd (Sr))))) (fun _ h=>h)⟩
     try simp only [Bp,Bq] at *
     refine ⟨?_,O,O⟩
     unfold withF
     rw [if_neg h8,if_neg h12]
     first
      | rw [if_pos h39,if_pos h50]
      | rw [if_pos h39,if_neg h50]
      | rw [if_neg h39,if_pos h50]
      | rw [if_neg h39,if_neg h50]
     simp only [tup,smV,smC,Int.zero_add,Int.add_zero]
    ·refine Jp (Jf (Jc (Ja (Lq (Jt (vs:= [_,_,_,_,_,_]) Un149 O Ku O Jn O O) (Jg O (Jq (cs':= [_,_,_,_,_,_]) (vs:= [_,_,_,_,_,_]) Ku O O O O O (Nat.le_of_ble_eq_true O) .z1 (Je (Jf (Jo ?_)))))))))
     refine ⟨_,[],[],fun Z w hs=>JV hs Un149 O Ku O (Ji (Jn)) O .nil,?_,fun Z w hs=>hs.out (Sd (Sd (Sd (Sd (Sr))))) (fun _ h=>h)⟩
     try simp only [Bp,Bq] at *
     refine ⟨?_,O,O⟩
     unfold withF
     rw [if_neg h8,if_neg h12]
     first
      | rw [if_pos h39,if_pos h50]
      | rw [if_pos h39,if_neg h50]
      | rw [if_neg h39,if_pos h50]
      | rw [if_neg h39,if_neg h50]
     simp only [tup,smV,smC,Int.zero_add,Int.add_zero]
set_option maxRecDepth 10000 in
theorem Z6 (s:Sm) (x:Int) (h:(-4611686018427387904≤s.mn∧s.mn≤4611686018427387903)∧(-4611686018427387904≤s.mx∧s.mx≤4611686018427387903)∧(-4611686018427387904≤x∧x≤4611686018427387903)):Sp Tryz.prog 151 [smV s, .int .i64 x] [] [] (Is (smV (liftedF s x))):=by
 refine Sp.of (n:=16) ⟨_,Tryz.func151,O,O,O,O⟩ (Nat.le_of_ble_eq_true O) fun Ps As=>Jc (Ja (Jg O (J9 (cs:= [_,_,_,_,_,_]) O O (by decide) fun b2=>Jg O (Ju (cs:= [_,_,_,_,_,_]) Ku O (by decide) fun b4=>Je (Jf (Jc (Ja (Lq (Jh (o':=3) Un149 O ti3 O O) (Lq (Jj Un3 O O (Ji (Jn)) O) (Lq (Jb O) (Lq (JU O O (wr64 (by omega))) (Lq (Jh (o':=3) Un149 O ti3 O O) ?_))))))))))))
 refine Jg O (JJ ti3 O O O .z3 .z1 (Je (Jf (Jc (Ja (Lq (Jh (o':=5) Un149 O ti3 O O) (Lq (Jj Un3 O O (Ji (Jn)) O) (Lq (Jb O) (Lq (JU O O (wr64 (by omega))) (Lq (Jh (o':=5) Un149 O ti3 O O) (Jg O (JJ ti3 O O O .z5 .z1 (Je (Jf (JF [(4,_),(2,_)] (.m2 O O) ?_)))))))))))))))
 refine Jc (Ja (Lq (Jt (vs:= [_,_,_,_,_,_]) Un149 O Ku O (Ji (Jn)) O O) (Jg O (Jq (cs':= [_,_,_,_,_,_]) (vs:= [_,_,_,_,_,_]) Ku O O O O O (Nat.le_of_ble_eq_true O) .z (Je (Jf (Jo ?_)))))))
 refine ⟨_,[],[],fun Z w hs=>JV hs Un149 O Ku O Jn O .nil,?_,fun Z w hs=>hs.out (Sd (Sd (Sr))) (fun _ h=>h)⟩
 exact ⟨O,O,O⟩
structure Sm40 (s:Sm):Prop where
 tot:0≤s.tot∧s.tot≤1099511627776
 lv:0≤s.lv∧s.lv≤1099511627776
 ht:0≤s.ht∧s.ht≤1099511627776
 am:0≤s.am∧s.am≤1099511627776
theorem Sm40.sm {s:Sm} (h:Sm40 s):SmIn s:=⟨⟨h.tot.1,by have:=h.tot;omega⟩,⟨h.lv.1,by have:=h.lv;omega⟩,⟨h.am.1,by have:=h.am;omega⟩⟩
theorem Sm40.zero:Sm40 zeroSm:=⟨by decide,by decide,by decide,by decide⟩
theorem smIn_with {a b:Sm} (ha:Sm40 a) (hb:Sm40 b):SmIn (withF a b):=by
 have h1:=ha.tot;have h2:=ha.lv;have h3:=ha.am
 have g1:=hb.tot;have g2:=hb.lv;have g3:=hb.am
 unfold withF
 split
 ·exact ha.sm
 ·split
  ·exact hb.sm
  ·refine ⟨by simp only;omega,by simp only;omega,?_⟩
   simp only
   split<;>split<;>omega
def NodeP (t:Tr):Value→List Part→List Fact→Prop:=fun v Lo fs=> ∃A:Option Addr,v= .pointer A∧Lo= [] ∧fs= [TrF A t]
theorem bd112_0_1_3_4_5Xw22 (x0_:Int) (x1_:Int) (x3_:Int) (x4_:Int) (x5_:Int) (w:World):(Instr.build 149 #[(0, .int .i64 x0_),(1, .int .i64 x1_),(3, .int .i64 x3_),(4, .int .i64 x4_),(5, .int .i64 x5_)]).run Tryz.prog w= .ok (.agg #[.int .i64 x0_, .int .i64 x1_, .int .i64 0, .int .i64 x3_, .int .i64 x4_, .int .i64 x5_]) w:=by kernel_rfl
theorem bd150_0_1_2_3Xw22 (x0_0:Int) (x0_1:Int) (x0_2:Int) (x0_3:Int) (x0_4:Int) (x0_5:Int) (x1_:Option Addr) (x2_:Option Addr) (x3_0A:Option Addr) (x3_0n x3_0c:Nat) (x3_1:Int) (w:World):(Instr.build 198 #[(0, .agg #[.int .i64 x0_0, .int .i64 x0_1, .int .i64 x0_2, .int .i64 x0_3, .int .i64 x0_4, .int .i64 x0_5]),(1, .pointer x1_),(2, .pointer x2_),(3, .agg #[.slice x3_0A x3_0n x3_0c, .int .i64 x3_1])]).run Tryz.prog w= .ok (.agg #[.int .i64 x0_0, .int .i64 x0_1, .int .i64 x0_2, .int .i64 x0_3, .int .i64 x0_4, .int .i64 x0_5, .pointer x1_, .pointer x2_, .slice x3_0A x3_0n x3_0c, .int .i64 x3_1, .int .i64 0]) w:=by kernel_rfl
set_option maxRecDepth 10000 in
theorem Jcb (Al Ar Ac:Option Addr) (c:Nat) (l r:Tr) (rs:List Int) (hid:Int) (hl:Sm40 (allF l)) (hr:Sm40 (allF r)) (hn:rs.length≤1099511627776):Sp Tryz.prog 164 [.pointer Al,pcV rs hid Ac c, .pointer Ar] [] [TrF Al l,TrF Ar r,RdF runeD Ac c rs] (NodeP (knotF l rs hid r)):=by
 refine Sp.of (n:=42) ⟨_,Tryz.func164,O,O,O,O⟩ (Nat.le_of_ble_eq_true O) fun Ps As=>Jc (Ja (Jg O (J9 (cs:= [_,_]) O O (by decide) fun b4=>Lq (Jd O) (Je (Jf (Jc (Ja (Lq (Jb O) (Jg O (Jm (YC Al l) (.n1 O) (by decide) (Jl Mm0 Jw) fun u1_1 Lo fs hres=> ?_))))))))))
 obtain ⟨rfl,rfl,rfl⟩:=hres
 refine Lq (Jb O) (Jg O (Jm (YC Ar r) (.n1 O) (by decide) (Jl Mm1 Jw) fun u1_3 Lo fs hres=> ?_))
 obtain ⟨rfl,rfl,rfl⟩:=hres
 refine Jg O (Ju (cs:= [_,_,_,_,_,_]) Ku O (by decide) fun b7=>Jg O (Ju (cs:= [_,_,_,_,_,_]) Ku O (by decide) fun b8=>Jg O (Jq (cs':= [_,_,_,_,_,_]) (vs:= [_,_,_,_,_,_]) Ku O O O O O (Nat.le_of_ble_eq_true O) .z1 (Jg O (Jq (cs':= [_,_,_,_,_,_]) (vs:= [_,_,_,_,_,_]) Ku O O O O O (Nat.le_of_ble_eq_true O) .z (Je (Jf (Jc ?_))))))))
 refine JI _ _ [16] (.c 0 0 (.c 1 0 (.c 2 0 (.c 3 0 (.c 4 0 (.c 5 0 (.c 6 0 (.c 7 0 (.c 8 0 (.c 9 0 (.c 10 0 (.c 11 0 (.c 13 0 (.b (.c 12 2 (.b (.c 14 2 (.c 15 2 (.c 16 3 .nil))) (.c 15 2 (.c 14 2 (.c 16 3 .nil))))) (.c 15 2 (.c 12 2 (.c 14 2 (.c 16 3 .nil)))))))))))))))))) mixed (fun _ _ _ _ h=>h) (Sk (Sk (Sk (Sr)))) (fun _ h=>h) (by kernel_rfl) (by decide) fun ws Z0=>Qe O (Jt (vs:= [_,_,_,_,_,_]) Un149 O Ku O (Ji (Jn)) O O) (Qe O (Jh (o':=0) Un145 O YT O O) (Qe O (Jj Un30 O O (Ji (Ji (Jn))) O) (Qe O (J3 Un30 O) (Qe O (Jh (o':=1) Un145 O ti3 O O) (Qe O (Jj Un3 O O (Ji (Ji (Jn))) O) ?_)))))
 refine Qe O (Jh (o':=0) Un145 O YT O O) (Qe O (Jj Un30 O O (Ji (Ji (Jn))) O) (Qe O (J3 Un30 O) (Qe O (Jh (o':=1) Un145 O ti3 O O) (Qe O (Jj Un3 O O (Ji (Ji (Jn))) O) (Qe O (JZ (.n5 O O O O O) (bd112_0_1_3_4_5Xw22 _ _ _ _ _)) (Qe O (Jt (vs:= [_,_,_,_,_,_]) Un149 O Ku O Jn O O) (Yd ?_ ?_)))))))
 ·refine Jz O O (Jm (X0 (allF l) ⟨rs.length,1,0,hid,rs.length,hid⟩ hl.sm ⟨by simp only;omega,by simp only;omega,by simp only;omega⟩) (.n2 O O) (by decide) Jw fun u2_12 Lo fs hres=> ?_)
  obtain ⟨rfl,rfl,rfl⟩:=hres
  refine ⟨⟨(Sk (Sk (Sk (Sr)))),Mm0⟩,?_⟩
  refine Yd ?_ ?_
  ·refine Jz O O (Jm (X0 (withF (allF l) ⟨rs.length,1,0,hid,rs.length,hid⟩) (allF r) (smIn_with hl ⟨by simp only;omega,by simp only;omega,by simp only;omega,by simp only;omega⟩) hr.sm) (.n2 O O) (by decide) Jw fun u2_14 Lo fs hres=> ?_)
   obtain ⟨rfl,rfl,rfl⟩:=hres
   refine ⟨⟨(Sk (Sk (Sk (Sr)))),Mm0⟩,?_⟩
   refine Jz O O (Ju (cs:= [_,_,_,_,_,_]) Ku O (by decide) fun b9=> ?_)
   refine ⟨⟨(Sd (Sk (Sk (Sk (Sr))))),Mm0⟩,?_⟩
   refine JN (J8 O O (Jq (cs':= [_,_,_,_,_,_]) (vs:= [_,_,_,_,_,_]) Ku O O O O O (Nat.le_of_ble_eq_true O) .z (JM (Jf (JF [(9,_),(8,_),(7,_),(6,_),(4,_),(0,_),(2,_)] (.m7 O O O O O O O) (Jc (Ja (Lq (Jh (o':=2) Un149 O ti3 O O) (Lq (Jj Un3 O O (Ji (Ji (Jn))) O) (Lq (Jh (o':=2) Un149 O ti3 O O) (Lq (Jj Un3 O O (Ji (Jn)) O) (Lq (VR O O) ?_))))))))))))
   refine Lq (JU O O (wr64 (by have:=hl.ht;have:=hr.ht;omega))) (Lq (Jh (o':=2) Un149 O ti3 O O) (Jg O (JJ ti3 O O O .z2 .z (Je (Jf (JF [(9,_),(6,_),(4,_),(0,_),(2,_)] (.m5 O O O O O) (Jc (Ja (Lq (Jt (vs:= [_,_,_,_,_,_]) Un149 O Ku O Jn O O) (Lq (Jb O) (Lq (Jb O) (Lq (Jt (vs:= [_,_]) Un145 O J0 O (Ji (Ji (Ji (Jn)))) O O) ?_))))))))))))
   refine Lq (JZ (.n4 rfl rfl rfl rfl) (bd150_0_1_2_3Xw22 _ _ _ _ _ _ _ _ _ _ _ _)) (Jg rfl (J9 (cs:=ndC ({ withF (withF (allF l) ⟨rs.length,1,0,hid,rs.length,hid⟩) (allF r) with ht:=1+max (allF l).ht (allF r).ht }) Al Ar Ac rs c hid 0) rfl rfl (by decide) fun b41=>Vf (lt:=l) (rt:=r) .z Mm1 Mm2 Mm3 (Lq (Jd rfl) (Je (Jf (Jo ?_))))))
   refine ⟨_,[],[_],fun Z w hs=> .tmp O .nil,?_,fun Z w hs=>hs.out (Sd (Sd (Sd (Sd (Sr))))) (Jl Mm0 Tt2)⟩
   exact ⟨_,O,O,O⟩
  ·refine Jz O O (Ju (cs:= [_,_,_,_,_,_]) Ku O (by decide) fun b9=> ?_)
   refine ⟨⟨(Sd (Sk (Sk (Sk (Sr))))),Mm0⟩,?_⟩
   refine Jz O O (Jm (X0 (withF (allF l) ⟨rs.length,1,0,hid,rs.length,hid⟩) (allF r) (smIn_with hl ⟨by simp only;omega,by simp only;omega,by simp only;omega,by simp only;omega⟩) hr.sm) (.n2 O O) (by decide) Jw fun u2_14 Lo fs hres=> ?_)
   obtain ⟨rfl,rfl,rfl⟩:=hres
   refine ⟨⟨(Sd (Sk (Sk (Sk (Sr))))),Mm0⟩,?_⟩
   refine JN (J8 O O (Jq (cs':= [_,_,_,_,_,_]) (vs:= [_,_,_,_,_,_]) Ku O O O O O (Nat.le_of_ble_eq_true O) .z (JM (Jf (JF [(9,_),(8,_),(7,_),(6,_),(4,_),(0,_),(2,_)] (.m7 O O O O O O O) (Jc (Ja (Lq (Jh (o':=2) Un149 O ti3 O O) (Lq (Jj Un3 O O (Ji (Ji (Jn))) O) (Lq (Jh (o':=2) Un149 O ti3 O O) (Lq (Jj Un3 O O (Ji (Jn)) O) (Lq (VR O O) ?_))))))))))))
   refine Lq (JU O O (wr64 (by have:=hl.ht;have:=hr.ht;omega))) (Lq (Jh (o':=2) Un149 O ti3 O O) (Jg O (JJ ti3 O O O .z2 .z (Je (Jf (JF [(9,_),(6,_),(4,_),(0,_),(2,_)] (.m5 O O O O O) (Jc (Ja (Lq (Jt (vs:= [_,_,_,_,_,_]) Un149 O Ku O Jn O O) (Lq (Jb O) (Lq (Jb O) (Lq (Jt (vs:= [_,_]) Un145 O J0 O (Ji (Ji (Ji (Jn)))) O O) ?_))))))))))))
   refine Lq (JZ (.n4 rfl rfl rfl rfl) (bd150_0_1_2_3Xw22 _ _ _ _ _ _ _ _ _ _ _ _)) (Jg rfl (J9 (cs:=ndC ({ withF (withF (allF l) ⟨rs.length,1,0,hid,rs.length,hid⟩) (allF r) with ht:=1+max (allF l).ht (allF r).ht }) Al Ar Ac rs c hid 0) rfl rfl (by decide) fun b41=>Vf (lt:=l) (rt:=r) .z Mm1 Mm2 Mm3 (Lq (Jd rfl) (Je (Jf (Jo ?_))))))
   refine ⟨_,[],[_],fun Z w hs=> .tmp O .nil,?_,fun Z w hs=>hs.out (Sd (Sd (Sd (Sd (Sr))))) (Jl Mm0 Tt2)⟩
   exact ⟨_,O,O,O⟩
 ·refine Jz O O (Ju (cs:= [_,_,_,_,_,_]) Ku O (by decide) fun b9=> ?_)
  refine ⟨⟨(Sd (Sk (Sk (Sk (Sr))))),Mm0⟩,?_⟩
  refine Jz O O (Jm (X0 (allF l) ⟨rs.length,1,0,hid,rs.length,hid⟩ hl.sm ⟨by simp only;omega,by simp only;omega,by simp only;omega⟩) (.n2 O O) (by decide) Jw fun u2_12 Lo fs hres=> ?_)
  obtain ⟨rfl,rfl,rfl⟩:=hres
  refine ⟨⟨(Sd (Sk (Sk (Sk (Sr))))),Mm0⟩,?_⟩
  refine Jz O O (Jm (X0 (withF (allF l) ⟨rs.length,1,0,hid,rs.length,hid⟩) (allF r) (smIn_with hl ⟨by simp only;omega,by simp only;omega,by simp only;omega,by simp only;omega⟩) hr.sm) (.n2 O O) (by decide) Jw fun u2_14 Lo fs hres=> ?_)
  obtain ⟨rfl,rfl,rfl⟩:=hres
  refine ⟨⟨(Sd (Sk (Sk (Sk (Sr))))),Mm0⟩,?_⟩
  refine JN (J8 O O (Jq (cs':= [_,_,_,_,_,_]) (vs:= [_,_,_,_,_,_]) Ku O O O O O (Nat.le_of_ble_eq_true O) .z (JM (Jf (JF [(9,_),(8,_),(7,_),(6,_),(4,_),(0,_),(2,_)] (.m7 O O O O O O O) (Jc (Ja (Lq (Jh (o':=2) Un149 O ti3 O O) (Lq (Jj Un3 O O (Ji (Ji (Jn))) O) (Lq (Jh (o':=2) Un149 O ti3 O O) (Lq (Jj Un3 O O (Ji (Jn)) O) (Lq (VR O O) ?_))))))))))))
  refine Lq (JU O O (wr64 (by have:=hl.ht;have:=hr.ht;omega))) (Lq (Jh (o':=2) Un149 O ti3 O O) (Jg O (JJ ti3 O O O .z2 .z (Je (Jf (JF [(9,_),(6,_),(4,_),(0,_),(2,_)] (.m5 O O O O O) (Jc (Ja (Lq (Jt (vs:= [_,_,_,_,_,_]) Un149 O Ku O Jn O O) (Lq (Jb O) (Lq (Jb O) (Lq (Jt (vs:= [_,_]) Un145 O J0 O (Ji (Ji (Ji (Jn)))) O O) ?_))))))))))))
  refine Lq (JZ (.n4 rfl rfl rfl rfl) (bd150_0_1_2_3Xw22 _ _ _ _ _ _ _ _ _ _ _ _)) (Jg rfl (J9 (cs:=ndC ({ withF (withF (allF l) ⟨rs.length,1,0,hid,rs.length,hid⟩) (allF r) with ht:=1+max (allF l).ht (allF r).ht }) Al Ar Ac rs c hid 0) rfl rfl (by decide) fun b41=>Vf (lt:=l) (rt:=r) .z Mm1 Mm2 Mm3 (Lq (Jd rfl) (Je (Jf (Jo ?_))))))
  refine ⟨_,[],[_],fun Z w hs=> .tmp O .nil,?_,fun Z w hs=>hs.out (Sd (Sd (Sd (Sd (Sr))))) (Jl Mm0 Tt2)⟩
  exact ⟨_,O,O,O⟩
theorem eq149 (x0:Int) (x1:Int) (x2:Int) (x3:Int) (x4:Int) (x5:Int) (y0:Int) (y1:Int) (y2:Int) (y3:Int) (y4:Int) (y5:Int):EqT Tryz.prog 149 [.int .i64 x0, .int .i64 x1, .int .i64 x2, .int .i64 x3, .int .i64 x4, .int .i64 x5].toArray [.int .i64 y0, .int .i64 y1, .int .i64 y2, .int .i64 y3, .int .i64 y4, .int .i64 y5].toArray ((x0==y0) && ((x1==y1) && ((x2==y2) && ((x3==y3) && ((x4==y4) && ((x5==y5) && true)))))):=EqD.eqT (D:=2) (EqD.struct (D:=0) (l:= [(3,0),(3,1),(3,2),(3,3),(3,4),(3,5)]) (by kernel_rfl) (by kernel_rfl) (by kernel_rfl) (.int Un3 rfl rfl (.int Un3 rfl rfl (.int Un3 rfl rfl (.int Un3 rfl rfl (.int Un3 rfl rfl (.int Un3 rfl rfl .nil))))))) (by decide) (by kernel_rfl)
set_option maxRecDepth 10000 in
theorem lift_1 (x:Int):Sp Tryz.prog 121 [.pointer none, .int .i64 x] [] [TrF none .nil] (NodeP .nil):=by
 refine Sp.of (n:=32) ⟨_,Tryz.func121,O,O,O,O⟩ (Nat.le_of_ble_eq_true O) fun Ps As=>Jc (Ja (Lq (Jd O) (Je (Jf (Jc (Jc (Ja (Lq (Jb O) (Lq (KN Un141 O O (by simp)) (Je (Jf (J1 O O (Jc (Ja (Lq (Jd O) (Je (Jf (Jo (Js ?_)))))))))))))))))))
 refine ⟨_,[],[_],fun Z w hs=> .tmp O .nil,?_,fun Z w hs=>hs.out (Sr) (Jl Mm0 (fun _ h=>h))⟩
 exact ⟨_,O,O,O⟩
set_option maxRecDepth 10000 in
theorem lift_2 (A:Option Addr) (s:Sm) (l r:Tr) (rs:List Int) (hid plus x:Int) (hw:Wf (.nd s l rs hid r plus)) (hx: -4194304≤x∧x≤4194304):Sp Tryz.prog 121 [.pointer A, .int .i64 x] [] [TrF A (.nd s l rs hid r plus)] (NodeP (liftF (.nd s l rs hid r plus) x)):=by
 have hbd:=hw.bd
 simp only [allF] at hbd
 have hpl:=hw.opened.plusB
 refine Sp.of (n:=32) ⟨_,Tryz.func121,O,O,O,O⟩ (Nat.le_of_ble_eq_true O) fun Ps As=>EC Mm0 fun b Al Ar Ac cc e=> ?_
 cases e
 refine Jc (Ja (Lq (Jd O) (Je (Jf (Jc (Jc (Ja (Lq (Jb O) (Lq (KN Un141 O O (by simp)) (Je (Jf (Jv O O (Jp (Jf (Jc (Ja (Lq (Jb O) (Lq (JC O) (Lq (Jh (o':=_+0) Un198 O Ku O O) (Lq (Kq (k:=0) (vs:= [_,_,_,_,_,_]) Un149 O Ku O Mm0 O O O) ?_))))))))))))))))))))
 refine Lq (Jb O) (Jg O (Jm (Z6 s x (by omega)) (.n2 O O) (by decide) Jw fun u3_5 Lo fs hres=> ?_))
 obtain ⟨rfl,rfl,rfl⟩:=hres
 refine Jg O (Ju (cs:= [_,_,_,_,_,_]) Ku O (by decide) fun b5=>Jg O (Jq (cs':= [_,_,_,_,_,_]) (vs:= [_,_,_,_,_,_]) Ku O O O O O (Nat.le_of_ble_eq_true O) .z (Je (Jf (Jc (Jc (JI _ _ [] (.c 0 0 (.c 1 0 (.c 2 0 (.c 3 0 (.c 4 0 (.c 5 0 .nil)))))) mixed (fun _ _ _ _ h=>h) (Sk (Sr)) (fun _ h=>h) (by kernel_rfl) (by decide) fun ws Z0=>Qe O (Jt (vs:= [_,_,_,_,_,_]) Un149 O Ku O Jn O O) (Qe O (Jb O) (Qe O (JC O) (Qe O (Jh (o':=_+0) Un198 O Ku O O) (Qe O (Kq (k:=0) (vs:= [_,_,_,_,_,_]) Un149 O Ku O Mm0 O O O) (Qe O (Qo O O (eq149 _ _ _ _ _ _ _ _ _ _ _ _)) ?_))))))))))))
 refine JN (JM (Jf (JF [(20,_),(5,_),(4,_),(0,_),(1,_)] (.m5 O O O O O) (Jy O (fun h20=> ?_) (fun h20=> ?_)))))
 ·refine Jc (Ja (Lq (Jb O) (Lq (Jd O) (Je (Jf (Jo (Js ?_)))))))
  refine ⟨_,[],[_],fun Z w hs=> .tmp O .nil,?_,fun Z w hs=>hs.out (Sd (Sr)) (Jl Mm5 Tt5)⟩
  have hx0:x=0:=by simp [liftedF] at h20;omega
  exact ⟨_,O,O,by rw [Vx,if_pos (by subst hx0;simp [liftedF])]⟩
 ·refine Jp (Jf (Jc (Ja (Lq (Jb O) (Lq (JC O) (Lq (Kq (k:=0) (vs:= [_,_,_,_,_,_,_,_,_,_,_]) Un198 O ZG O Mm1 O O O) (Jg O (Ju (cs:= [_,_,_,_,_,_,_,_,_,_,_]) ZG O (by decide) fun b6=>Jg O (Jq (cs':= [_,_,_,_,_,_,_,_,_,_,_]) (vs:= [_,_,_,_,_,_,_,_,_,_,_]) ZG O O O O O (Nat.le_of_ble_eq_true O) .z (Je (Jf (Jc (Ja (Lq (Jt (vs:= [_,_,_,_,_,_]) Un149 O Ku O (Ji (Jn)) O O) (Lq (Jh (o':=0) Un198 O Ku O O) (Jg O (Jq (cs':= [_,_,_,_,_,_,_,_,_,_,_]) (vs:= [_,_,_,_,_,_]) Ku O O O O O (Nat.le_of_ble_eq_true O) .z ?_)))))))))))))))))
  refine Je (Jf (Jc (Ja (Lq (Jh (o':=10) Un198 O ti3 O O) (Lq (Jj Un3 O O Jn O) (Lq (Jb O) (Lq (JU O O (wr64 (by omega))) (Lq (Jh (o':=10) Un198 O ti3 O O) (Jg O (JJ ti3 O O O .z10 .z (Je (Jf (JF [(6,_),(4,_)] (.m2 O O) (Jc (Ja ?_)))))))))))))))
  refine Vf (s:=liftedF s x) (lt:=l) (rt:=r) (Al:=Al) (Ar:=Ar) (Ac:=Ac) (rs:=rs) (cc:=cc) (hid:=hid) (plus:=plus+x) .z Mm2 Mm3 Mm4 (Lq (Jd O) (Je (Jf (Jo ?_))))
  refine ⟨_,[],[_],fun Z w hs=> .tmp O .nil,?_,fun Z w hs=>hs.out (Sd (Sr)) (Jl Mm0 Tt6)⟩
  have hne: ¬liftedF s x=s:=fun e=>by
   have:=congrArg Sm.mn e
   simp only [liftedF] at this
   have hx0:x=0:=by omega
   subst hx0;simp [liftedF] at h20
  exact ⟨_,O,O,by rw [Vx,if_neg hne]⟩
theorem Ev (A:Option Addr) (t:Tr) (x:Int) (hw:Wf t) (hx: -4194304≤x∧x≤4194304):Sp Tryz.prog 121 [.pointer A, .int .i64 x] [] [TrF A t] (NodeP (liftF t x)):=by
 cases t with
 | nil=>
  refine ⟨(lift_1 x).enters,fun Z w Ps As hs=> ?_⟩
  obtain rfl:A=none:=hs.facts _ (by simp:TrF A .nil∈ [TrF A .nil] ++As)
  exact (lift_1 x).calls Z w Ps As hs
 | nd s l rs hid r plus=>exact lift_2 A s l r rs hid plus x hw hx
def OpenP (t:Tr):Value→List Part→List Fact→Prop:=fun v Lo fs=> ∃(Al:Option Addr) (l:Tr) (rs:List Int) (hid:Int) (Ac:Option Addr) (cc:Nat) (Ar:Option Addr) (r:Tr),v= .tuple #[.pointer Al,pcV rs hid Ac cc, .pointer Ar] ∧Lo= [] ∧fs= [TrF Al l,RdF runeD Ac cc rs,TrF Ar r] ∧Wf l∧Wf r∧rs≠ [] ∧(0≤hid∧hid≤1048576)∧t.row=l.row++(cellsOf rs hid++r.row)∧l.size<t.size∧r.size<t.size
set_option maxRecDepth 10000 in
theorem open_1 (A:Option Addr) (s:Sm) (l r:Tr) (rs:List Int) (hid plus:Int) (hw:Wf (.nd s l rs hid r plus)):Sp Tryz.prog 85 [.pointer A] [] [TrF A (.nd s l rs hid r plus)] (OpenP (.nd s l rs hid r plus)):=by
 have ho:=hw.opened
 have hpl:=ho.plusB
 have hhb:=ho.hidB
 have hwl:=hw.1
 have hwr:=hw.2.1
 refine Sp.of (n:=37) ⟨_,Tryz.func85,O,O,O,O⟩ (Nat.le_of_ble_eq_true O) fun Ps As=>EC Mm0 fun b Al Ar Ac cc e=> ?_
 cases e
 refine Jc (Ja (Lq (Jd O) (Jg O (Ju (cs:= [_,_]) J0 O (by decide) fun b3=>Lq (Jd O) (Je (Jf (Jc (Ja (Lq (Jb O) (Lq (JC O) (Lq (Jh (o':=_+8) Un198 O J0 O O) (Lq (Kq (k:=8) (vs:= [_,_]) Un145 O J0 O Mm0 O O O) (Jg O (Ju (cs:= [_,_]) J0 O (by decide) fun b5=> ?_))))))))))))))
 refine Jg O (Jq (cs':= [_,_]) (vs:= [_,_]) J0 O O O O O (Nat.le_of_ble_eq_true O) .z (Je (Jf (Jc (JI _ _ [8] (.c 0 0 (.c 1 0 (.c 2 0 (.c 3 0 (.c 4 0 (.c 5 0 (.c 6 0 (.c 7 0 (.c 8 3 .nil))))))))) mixed (fun _ _ _ _ h=>h) (Sk (Sk (Sr))) (fun _ h=>h) (by kernel_rfl) (by decide) fun ws Z0=>Qe O (Jh (o':=1) Un145 O ti3 O O) (Qe O (Jj Un3 O O Jn O) (Qe O (Jb O) (Qe O (JC O) (Qe O (Jh (o':=_+10) Un198 O ti3 O O) (Qe O (Kb (j:=10) Un3 O O Mm0 O O) (Qe O (JU O O (wr64 (by omega))) ?_)))))))))))
 refine Qe O (Jh (o':=1) Un145 O ti3 O O) (JN (J8 O O (JJ ti3 O O O .z1 .z (JM (Jf (JF [(5,_),(4,_),(3,_),(2,_),(0,_)] (.m5 O O O O O) (Jc (JI _ _ [20] (.c 0 0 (.c 1 0 (.c 2 0 (.c 3 0 (.c 4 0 (.c 5 0 (.c 6 0 (.c 7 0 (.c 9 0 (.c 10 0 (.c 11 0 (.c 12 0 (.c 13 0 (.c 14 0 (.c 15 0 (.c 16 0 (.c 17 0 (.c 8 2 (.c 18 2 (.c 19 0 (.c 20 3 (.c 21 1 .nil)))))))))))))))))))))) mixed (fun _ _ _ _ h=>h) (Sk (Sk (Sr))) (fun _ h=>h) (by kernel_rfl) (by decide) fun ws Z0=>Qe O (Jb O) (Qe O (JC O) (Qe O (Jh (o':=_+6) Un198 O YU O O) ?_))))))))))
 refine Qe O (Kb (j:=6) Un141 O O Mm1 O O) (Qe O (Jb O) (Qe O (JC O) (Qe O (Jh (o':=_+10) Un198 O ti3 O O) (Qe O (Kb (j:=10) Un3 O O Mm1 O O) (Qe O (Jt (vs:= [_,_]) Un145 O J0 O Jn O O) (Qe O (Jb O) (Qe O (JC O) (Qe O (Jh (o':=_+7) Un198 O YU O O) (Qe O (Kb (j:=7) Un141 O O Mm1 O O) ?_)))))))))
 refine Qe O (Jb O) (Qe O (JC O) (Qe O (Jh (o':=_+10) Un198 O ti3 O O) (Qe O (Kb (j:=10) Un3 O O Mm1 O O) (Jz O O (Jm (Ev Al l plus hwl (by omega)) (.n2 O O) (by decide) (Jl Mm3 Jw) fun u3_8 Lo fs hres=> ?_)))))
 obtain ⟨Al2,rfl,rfl,rfl⟩:=hres
 refine ⟨⟨(Sk (Sk (Sr))),Mm1⟩,?_⟩
 refine Jz O O (Jm (Ev Ar r plus hwr (by omega)) (.n2 O O) (by decide) (Jl Mm5 Jw) fun u3_18 Lo fs hres=> ?_)
 obtain ⟨Ar2,rfl,rfl,rfl⟩:=hres
 refine ⟨⟨(Sk (Sk (Sr))),Mm2⟩,?_⟩
 refine Qe O (Jd O) (JN (J8 O O (Jq (cs':= [_,_]) (vs:= [_,_]) J0 O O O O O (Nat.le_of_ble_eq_true O) .z1 (YH O (Jd O) (by decide) (JM (Jf (JF [(4,_),(2,_),(3,_)] (.m3 O O O) (Jo ?_))))))))
 refine ⟨_,[],[_,_,_],fun Z w hs=> .tmp O (JV hs Un145 O J0 O (Ji (Jn)) O (.tmp O .nil)),?_,fun Z w hs=>hs.out (Sd (Sd (Sr))) (Jl Mm1 (Jl Mm7 (Jl Mm0 Tt8)))⟩
 exact ⟨_,liftF l plus,rs,hid+plus,Ac,cc,_,liftF r plus,O,O,O,ho.wl,ho.wr,ho.ne,hhb,ho.row,by rw [size_lift];simp only [Tr.size];omega,by rw [size_lift];simp only [Tr.size];omega⟩
theorem open_r (A:Option Addr) (t:Tr) (hw:Wf t) (ht:t≠ .nil) (hb:t.row.length≤1073741824):Sp Tryz.prog 85 [.pointer A] [] [TrF A t] (OpenP t):=by
 cases t with
 | nil=>exact absurd rfl ht
 | nd s l rs hid r plus=>exact open_1 A s l r rs hid plus hw
def NP (row:List Ce):Value→List Part→List Fact→Prop:=fun v Lo fs=> ∃(A:Option Addr) (t:Tr),v= .pointer A∧Lo= [] ∧fs= [TrF A t] ∧Wf t∧t.row=row
theorem knot_r (Al Ar Ac:Option Addr) (c:Nat) (l r:Tr) (rs:List Int) (hid:Int) (hl:Wf l) (hr:Wf r) (hn:rs≠ []) (hh:0≤hid∧hid≤1048576) (hb:l.row.length+rs.length+r.row.length≤1073741824):Sp Tryz.prog 164 [.pointer Al,pcV rs hid Ac c, .pointer Ar] [] [TrF Al l,TrF Ar r,RdF runeD Ac c rs] (NP (l.row++(cellsOf rs hid++r.row))):=by
 obtain ⟨a1,a2,a3,a4⟩:=hl.sm40 (by omega)
 obtain ⟨b1,b2,b3,b4⟩:=hr.sm40 (by omega)
 obtain ⟨k1,k2⟩:=wf_knot hl hr hn hh
 refine (Jcb Al Ar Ac c l r rs hid ⟨a1,a2,a3,a4⟩ ⟨b1,b2,b3,b4⟩ (by omega)).mono ?_
 rintro v Lo fs ⟨A,rfl,rfl,rfl⟩
 exact ⟨A,_,O,O,O,k1,k2⟩
theorem wnilT:Wf .nil:=trivial
theorem nn {t:Tr} (h:0<(allF t).ht):t≠ .nil:=fun e=>by subst e;simp [allF,zeroSm] at h
theorem fd112_2Xw24 (x0:Int) (x1:Int) (x2:Int) (x3:Int) (x4:Int) (x5:Int) (w:World):(Instr.field 149 (.agg #[.int .i64 x0, .int .i64 x1, .int .i64 x2, .int .i64 x3, .int .i64 x4, .int .i64 x5]) 2).run Tryz.prog w= .ok (.int .i64 x2) w:=by kernel_rfl
set_option maxRecDepth 10000 in
theorem weigh_r (Al Ar Ac:Option Addr) (c:Nat) (l r:Tr) (rs:List Int) (hid:Int) (wl:Wf l) (wr:Wf r) (n0:rs≠ []) (h0:0≤hid∧hid≤1048576) (hb:l.row.length+rs.length+r.row.length≤1073741824):Sp Tryz.prog 168 [.pointer Al,pcV rs hid Ac c, .pointer Ar] [] [TrF Al l,TrF Ar r,RdF runeD Ac c rs] (NP (l.row++(cellsOf rs hid++r.row))):=by
 have bl:=wl.sm40 (by omega)
 have br:=wr.sm40 (by omega)
 refine Sp.of (n:=113) ⟨_,Tryz.func168,O,O,O,O⟩ (Nat.le_of_ble_eq_true O) fun Ps As=>Jc (Ja (Jg O (J9 (cs:= [_,_]) O O (by decide) fun b4=>Lq (Jd O) (Je (Jf (Jc (Ja (Lq (Jb O) (Jg O (Jm (YC Al l) (.n1 O) (by decide) (Jl Mm0 Jw) fun u1_1 Lo fs hres=> ?_))))))))))
 obtain ⟨rfl,rfl,rfl⟩:=hres
 refine Lq (Yl O (fd112_2Xw24 _ _ _ _ _ _)) (Lq (Jb O) (Jg O (Jm (YC Ar r) (.n1 O) (by decide) (Jl Mm1 Jw) fun u1_4 Lo fs hres=> ?_)))
 obtain ⟨rfl,rfl,rfl⟩:=hres
 refine Lq (Yl O (fd112_2Xw24 _ _ _ _ _ _)) (Lq (Jd O) (Lq (Jd O) (Je (Jf (Jc (JE (Jc (Ja (Lq (Jb O) (Lq (Jb O) (Lq (JU O O (wr64 (by omega))) (Lq (Kl O O) (Lq (Jd O) (Je (Jf ?_)))))))))))))))
 refine JF [(27,_),(8,_),(7,_),(6,_),(4,_),(0,_),(2,_)] (.m7 O O O O O O O) (Jy O (fun h27=> ?_) (fun h27=> ?_))
 ·refine Jc (Ja (Lq (Jb O) (Jg O (Jm (open_r Al l wl (nn (by have:=wr.bd;simp only [decide_eq_true_eq] at h27;omega)) (by omega)) (.n1 O) (by decide) (Jl Mm0 Jw) fun u3_1 Lo fs hres=> ?_))))
  obtain ⟨B1,l1,s1,k1,C1,d1,D1,m1,rfl,rfl,rfl,wl1,wm1,n1,h1,r1,zl1,zm1⟩:=hres
  have e1:=congrArg List.length r1
  simp only [List.length_append,Jr,Tr.row,List.length_nil,List.length_take,List.length_drop] at e1
  refine Lq (Jb O) (Lq (Jk (vs:= [_,_,_]) O O) (Lq (Jk (vs:= [_,_,_]) O O) (Lq (Jk (vs:= [_,_,_]) O O) (Jg O (Ju (cs:= [_,_]) J0 O (by decide) fun b10=>Lq (Jd O) (Jg O (Jq (cs':= [_,_]) (vs:= [_,_]) J0 O O O O O (Nat.le_of_ble_eq_true O) .z (Lq (Jd O) (Je (Jf (JF [(11,_),(9,_),(10,_),(6,_),(4,_),(0,_),(2,_)] (.m7 O O O O O O O) ?_)))))))))))
  refine Jc (Jc (Ja (Lq (Jb O) (Jg O (Jm (YC B1 l1) (.n1 O) (by decide) (Jl Mm0 Jw) fun u4_1 Lo fs hres=> ?_)))))
  obtain ⟨rfl,rfl,rfl⟩:=hres
  refine Lq (Yl O (fd112_2Xw24 _ _ _ _ _ _)) (Lq (Jb O) (Jg O (Jm (YC D1 m1) (.n1 O) (by decide) (Jl Mm2 Jw) fun u4_4 Lo fs hres=> ?_)))
  obtain ⟨rfl,rfl,rfl⟩:=hres
  refine Lq (Yl O (fd112_2Xw24 _ _ _ _ _ _)) (Lq (Yz O O) (Je (Jf (JF [(44,_),(11,_),(9,_),(10,_),(6,_),(4,_),(0,_),(2,_)] (.m8 O O O O O O O O) (Jy O (fun h44=> ?_) (fun h44=> ?_))))))
  ·refine Jc (JI _ _ [] (.c 0 0 (.c 1 0 (.c 2 0 (.c 3 0 (.c 4 0 (.c 5 2 (.c 6 2 (.c 7 0 .nil)))))))) mixed (fun _ _ _ _ h=>h) (Sk (Sk (Sr))) (fun _ h=>h) (by kernel_rfl) (by decide) fun ws Z0=>Qe O (Jb O) (Qe O (Jt (vs:= [_,_]) Un145 O J0 O Jn O O) (Qe O (Jb O) (Qe O (Jt (vs:= [_,_]) Un145 O J0 O (Ji (Jn)) O O) (Qe O (Jb O) (Jz O O (Jm (knot_r D1 Ar Ac c m1 r rs hid wm1 wr n0 h0 (by omega)) (.n3 O O O) (by decide) (Jl Mm3 (Jl Mm5 (Jl Mm6 Jw))) fun u5_5 Lo fs hres=> ?_)))))))
   obtain ⟨T2,t2,rfl,rfl,rfl,wt2,r2⟩:=hres
   have e2:=congrArg List.length r2
   simp only [List.length_append,Jr,Tr.row,List.length_nil,List.length_take,List.length_drop] at e2
   refine ⟨⟨(Sk (Sk (Sr))),Mm1⟩,?_⟩
   refine Jz O O (Jm (knot_r B1 T2 C1 d1 l1 t2 s1 k1 wl1 wt2 n1 h1 (by omega)) (.n3 O O O) (by decide) (Jl Mm2 (Jl Mm0 (Jl Mm3 Jw))) fun u5_6 Lo fs hres=> ?_)
   obtain ⟨T3,t3,rfl,rfl,rfl,wt3,r3⟩:=hres
   have e3:=congrArg List.length r3
   simp only [List.length_append,Jr,Tr.row,List.length_nil,List.length_take,List.length_drop] at e3
   refine ⟨⟨(Sk (Sk (Sr))),Mm2⟩,?_⟩
   refine Qe O (Jd O) (JN (JM (Jf (JF [(6,_),(11,_),(9,_),(10,_),(4,_),(0,_),(2,_)] (.m7 O O O O O O O) (Jo (Js (JG (Js ?_))))))))
   refine ⟨_,[],[_],fun Z w hs=> .tmp O .nil,?_,fun Z w hs=>hs.out (Sd (Sd (Sr))) (Jl Mm0 Tt6)⟩
   exact ⟨_,_,O,O,O,wt3,by simp only [r1,r2,r3,List.append_assoc,Tr.row,List.nil_append,List.append_nil]⟩
  ·refine Jp (Jf (Jc (Ja (Lq (Jb O) (Jg O (Jm (open_r D1 m1 wm1 (nn (by have:=wl1.bd;simp only [decide_eq_false_iff_not] at h44;omega)) (by omega)) (.n1 O) (by decide) (Jl Mm2 Jw) fun u6_1 Lo fs hres=> ?_))))))
   obtain ⟨B4,l4,s4,k4,C4,d4,D4,m4,rfl,rfl,rfl,wl4,wm4,n4,h4,r4,zl4,zm4⟩:=hres
   have e4:=congrArg List.length r4
   simp only [List.length_append,Jr,Tr.row,List.length_nil,List.length_take,List.length_drop] at e4
   refine Lq (Jb O) (Lq (Jk (vs:= [_,_,_]) O O) (Lq (Jk (vs:= [_,_,_]) O O) (Lq (Jk (vs:= [_,_,_]) O O) (Jg O (Ju (cs:= [_,_]) J0 O (by decide) fun b13=>Lq (Jd O) (Jg O (Jq (cs':= [_,_]) (vs:= [_,_]) J0 O O O O O (Nat.le_of_ble_eq_true O) .z (Lq (Jd O) (Je (Jf (JF [(14,_),(12,_),(13,_),(9,_),(10,_),(6,_),(4,_),(0,_),(2,_)] (.m9 O O O O O O O O O) ?_)))))))))))
   refine Jc (JI _ _ [] (.c 0 0 (.c 1 0 (.c 2 0 (.c 4 0 (.c 5 0 (.c 6 0 (.c 7 0 (.c 3 2 (.c 8 2 (.c 9 2 (.c 10 0 .nil))))))))))) mixed (fun _ _ _ _ h=>h) (Sk (Sk (Sk (Sr)))) (fun _ h=>h) (by kernel_rfl) (by decide) fun ws Z0=>Qe O (Jb O) (Qe O (Jt (vs:= [_,_]) Un145 O J0 O (Ji (Jn)) O O) (Qe O (Jb O) (Qe O (Jt (vs:= [_,_]) Un145 O J0 O Jn O O) (Qe O (Jb O) (Qe O (Jt (vs:= [_,_]) Un145 O J0 O (Ji (Ji (Jn))) O O) (Qe O (Jb O) ?_)))))))
   refine Jz O O (Jm (knot_r B1 B4 C1 d1 l1 l4 s1 k1 wl1 wl4 n1 h1 (by omega)) (.n3 O O O) (by decide) (Jl Mm4 (Jl Mm1 (Jl Mm5 Jw))) fun u7_3 Lo fs hres=> ?_)
   obtain ⟨T5,t5,rfl,rfl,rfl,wt5,r5⟩:=hres
   have e5:=congrArg List.length r5
   simp only [List.length_append,Jr,Tr.row,List.length_nil,List.length_take,List.length_drop] at e5
   refine ⟨⟨(Sk (Sk (Sk (Sr)))),Mm1⟩,?_⟩
   refine Jz O O (Jm (knot_r D4 Ar Ac c m4 r rs hid wm4 wr n0 h0 (by omega)) (.n3 O O O) (by decide) (Jl Mm4 (Jl Mm9 (Jl Mm10 Jw))) fun u7_8 Lo fs hres=> ?_)
   obtain ⟨T6,t6,rfl,rfl,rfl,wt6,r6⟩:=hres
   have e6:=congrArg List.length r6
   simp only [List.length_append,Jr,Tr.row,List.length_nil,List.length_take,List.length_drop] at e6
   refine ⟨⟨(Sk (Sk (Sk (Sr)))),Mm2⟩,?_⟩
   refine Jz O O (Jm (knot_r T5 T6 C4 d4 t5 t6 s4 k4 wt5 wt6 n4 h4 (by omega)) (.n3 O O O) (by decide) (Jl Mm1 (Jl Mm0 (Jl Mm4 Jw))) fun u7_9 Lo fs hres=> ?_)
   obtain ⟨T7,t7,rfl,rfl,rfl,wt7,r7⟩:=hres
   have e7:=congrArg List.length r7
   simp only [List.length_append,Jr,Tr.row,List.length_nil,List.length_take,List.length_drop] at e7
   refine ⟨⟨(Sk (Sk (Sk (Sr)))),Mm3⟩,?_⟩
   refine Qe O (Jd O) (JN (JM (Jf (JF [(6,_),(4,_),(0,_),(2,_)] (.m4 O O O O) (Jo (JG (Js ?_)))))))
   refine ⟨_,[],[_],fun Z w hs=> .tmp O .nil,?_,fun Z w hs=>hs.out (Sd (Sd (Sd (Sr)))) (Jl Mm0 Tt10)⟩
   exact ⟨_,_,O,O,O,wt7,by simp only [r1,r4,r5,r6,r7,List.append_assoc,Tr.row,List.nil_append,List.append_nil]⟩
 ·refine Jc (Ja (Lq (Jb O) (Lq (Jb O) (Lq (JU O O (wr64 (by omega))) (Lq (Kl O O) (Lq (Jd O) (Je (Jf (Jy O (fun h68=> ?_) (fun h68=> ?_))))))))))
  ·refine Jc (Ja (Lq (Jb O) (Jg O (Jm (open_r Ar r wr (nn (by have:=wl.bd;simp only [decide_eq_true_eq] at h68;omega)) (by omega)) (.n1 O) (by decide) (Jl Mm1 Jw) fun u9_1 Lo fs hres=> ?_))))
   obtain ⟨B8,l8,s8,k8,C8,d8,D8,m8,rfl,rfl,rfl,wl8,wm8,n8,h8,r8,zl8,zm8⟩:=hres
   have e8:=congrArg List.length r8
   simp only [List.length_append,Jr,Tr.row,List.length_nil,List.length_take,List.length_drop] at e8
   refine Lq (Jb O) (Lq (Jk (vs:= [_,_,_]) O O) (Lq (Jk (vs:= [_,_,_]) O O) (Lq (Jk (vs:= [_,_,_]) O O) (Jg O (Ju (cs:= [_,_]) J0 O (by decide) fun b16=>Lq (Jd O) (Jg O (Jq (cs':= [_,_]) (vs:= [_,_]) J0 O O O O O (Nat.le_of_ble_eq_true O) .z (Lq (Jd O) (Je (Jf (JF [(17,_),(15,_),(16,_),(6,_),(4,_),(0,_),(2,_)] (.m7 O O O O O O O) ?_)))))))))))
   refine Jc (Jc (Ja (Lq (Jb O) (Jg O (Jm (YC D8 m8) (.n1 O) (by decide) (Jl Mm2 Jw) fun u10_1 Lo fs hres=> ?_)))))
   obtain ⟨rfl,rfl,rfl⟩:=hres
   refine Lq (Yl O (fd112_2Xw24 _ _ _ _ _ _)) (Lq (Jb O) (Jg O (Jm (YC B8 l8) (.n1 O) (by decide) (Jl Mm0 Jw) fun u10_4 Lo fs hres=> ?_)))
   obtain ⟨rfl,rfl,rfl⟩:=hres
   refine Lq (Yl O (fd112_2Xw24 _ _ _ _ _ _)) (Lq (Yz O O) (Je (Jf (JF [(85,_),(17,_),(15,_),(16,_),(6,_),(4,_),(0,_),(2,_)] (.m8 O O O O O O O O) (Jy O (fun h85=> ?_) (fun h85=> ?_))))))
   ·refine Jc (JI _ _ [] (.c 0 0 (.c 1 0 (.c 2 0 (.c 4 0 (.c 5 0 (.c 3 2 (.c 6 2 (.c 7 0 .nil)))))))) mixed (fun _ _ _ _ h=>h) (Sk (Sk (Sr))) (fun _ h=>h) (by kernel_rfl) (by decide) fun ws Z0=>Qe O (Jb O) (Qe O (Jt (vs:= [_,_]) Un145 O J0 O (Ji (Jn)) O O) (Qe O (Jb O) (Qe O (Jt (vs:= [_,_]) Un145 O J0 O Jn O O) (Qe O (Jb O) (Jz O O (Jm (knot_r Al B8 Ac c l l8 rs hid wl wl8 n0 h0 (by omega)) (.n3 O O O) (by decide) (Jl Mm4 (Jl Mm1 (Jl Mm6 Jw))) fun u11_3 Lo fs hres=> ?_)))))))
    obtain ⟨T9,t9,rfl,rfl,rfl,wt9,r9⟩:=hres
    have e9:=congrArg List.length r9
    simp only [List.length_append,Jr,Tr.row,List.length_nil,List.length_take,List.length_drop] at e9
    refine ⟨⟨(Sk (Sk (Sr))),Mm1⟩,?_⟩
    refine Jz O O (Jm (knot_r T9 D8 C8 d8 t9 m8 s8 k8 wt9 wm8 n8 h8 (by omega)) (.n3 O O O) (by decide) (Jl Mm0 (Jl Mm4 (Jl Mm3 Jw))) fun u11_6 Lo fs hres=> ?_)
    obtain ⟨T10,t10,rfl,rfl,rfl,wt10,r10⟩:=hres
    have e10:=congrArg List.length r10
    simp only [List.length_append,Jr,Tr.row,List.length_nil,List.length_take,List.length_drop] at e10
    refine ⟨⟨(Sk (Sk (Sr))),Mm2⟩,?_⟩
    refine Qe O (Jd O) (JN (JM (Jf (JF [(6,_),(17,_),(15,_),(16,_),(4,_),(0,_),(2,_)] (.m7 O O O O O O O) (Jo (Js (JG (Js ?_))))))))
    refine ⟨_,[],[_],fun Z w hs=> .tmp O .nil,?_,fun Z w hs=>hs.out (Sd (Sd (Sr))) (Jl Mm0 Tt6)⟩
    exact ⟨_,_,O,O,O,wt10,by simp only [r8,r9,r10,List.append_assoc,Tr.row,List.nil_append,List.append_nil]⟩
   ·refine Jp (Jf (Jc (Ja (Lq (Jb O) (Jg O (Jm (open_r B8 l8 wl8 (nn (by have:=wm8.bd;simp only [decide_eq_false_iff_not] at h85;omega)) (by omega)) (.n1 O) (by decide) (Jl Mm0 Jw) fun u12_1 Lo fs hres=> ?_))))))
    obtain ⟨B11,l11,s11,k11,C11,d11,D11,m11,rfl,rfl,rfl,wl11,wm11,n11,h11,r11,zl11,zm11⟩:=hres
    have e11:=congrArg List.length r11
    simp only [List.length_append,Jr,Tr.row,List.length_nil,List.length_take,List.length_drop] at e11
    refine Lq (Jb O) (Lq (Jk (vs:= [_,_,_]) O O) (Lq (Jk (vs:= [_,_,_]) O O) (Lq (Jk (vs:= [_,_,_]) O O) (Jg O (Ju (cs:= [_,_]) J0 O (by decide) fun b19=>Lq (Jd O) (Jg O (Jq (cs':= [_,_]) (vs:= [_,_]) J0 O O O O O (Nat.le_of_ble_eq_true O) .z (Lq (Jd O) (Je (Jf (JF [(20,_),(18,_),(19,_),(17,_),(16,_),(6,_),(4,_),(0,_),(2,_)] (.m9 O O O O O O O O O) ?_)))))))))))
    refine Jc (JI _ _ [] (.c 0 0 (.c 1 0 (.c 2 0 (.c 4 0 (.c 5 0 (.c 6 0 (.c 7 0 (.c 3 2 (.c 8 2 (.c 9 2 (.c 10 0 .nil))))))))))) mixed (fun _ _ _ _ h=>h) (Sk (Sk (Sk (Sr)))) (fun _ h=>h) (by kernel_rfl) (by decide) fun ws Z0=>Qe O (Jb O) (Qe O (Jt (vs:= [_,_]) Un145 O J0 O (Ji (Ji (Jn))) O O) (Qe O (Jb O) (Qe O (Jt (vs:= [_,_]) Un145 O J0 O Jn O O) (Qe O (Jb O) (Qe O (Jt (vs:= [_,_]) Un145 O J0 O (Ji (Jn)) O O) (Qe O (Jb O) ?_)))))))
    refine Jz O O (Jm (knot_r Al B11 Ac c l l11 rs hid wl wl11 n0 h0 (by omega)) (.n3 O O O) (by decide) (Jl Mm7 (Jl Mm1 (Jl Mm9 Jw))) fun u13_3 Lo fs hres=> ?_)
    obtain ⟨T12,t12,rfl,rfl,rfl,wt12,r12⟩:=hres
    have e12:=congrArg List.length r12
    simp only [List.length_append,Jr,Tr.row,List.length_nil,List.length_take,List.length_drop] at e12
    refine ⟨⟨(Sk (Sk (Sk (Sr)))),Mm1⟩,?_⟩
    refine Jz O O (Jm (knot_r D11 D8 C8 d8 m11 m8 s8 k8 wm11 wm8 n8 h8 (by omega)) (.n3 O O O) (by decide) (Jl Mm4 (Jl Mm7 (Jl Mm6 Jw))) fun u13_8 Lo fs hres=> ?_)
    obtain ⟨T13,t13,rfl,rfl,rfl,wt13,r13⟩:=hres
    have e13:=congrArg List.length r13
    simp only [List.length_append,Jr,Tr.row,List.length_nil,List.length_take,List.length_drop] at e13
    refine ⟨⟨(Sk (Sk (Sk (Sr)))),Mm2⟩,?_⟩
    refine Jz O O (Jm (knot_r T12 T13 C11 d11 t12 t13 s11 k11 wt12 wt13 n11 h11 (by omega)) (.n3 O O O) (by decide) (Jl Mm1 (Jl Mm0 (Jl Mm4 Jw))) fun u13_9 Lo fs hres=> ?_)
    obtain ⟨T14,t14,rfl,rfl,rfl,wt14,r14⟩:=hres
    have e14:=congrArg List.length r14
    simp only [List.length_append,Jr,Tr.row,List.length_nil,List.length_take,List.length_drop] at e14
    refine ⟨⟨(Sk (Sk (Sk (Sr)))),Mm3⟩,?_⟩
    refine Qe O (Jd O) (JN (JM (Jf (JF [(6,_),(4,_),(0,_),(2,_)] (.m4 O O O O) (Jo (JG (Js ?_)))))))
    refine ⟨_,[],[_],fun Z w hs=> .tmp O .nil,?_,fun Z w hs=>hs.out (Sd (Sd (Sd (Sr)))) (Jl Mm0 Tt10)⟩
    exact ⟨_,_,O,O,O,wt14,by simp only [r8,r11,r12,r13,r14,List.append_assoc,Tr.row,List.nil_append,List.append_nil]⟩
  ·refine Jp (Ka (Jf (Jc (Ja (Lq (Jb O) (Lq (Jt (vs:= [_,_]) Un145 O J0 O Jn O O) (Lq (Jb O) (Jg O (Jm (knot_r Al Ar Ac c l r rs hid wl wr n0 h0 (by omega)) (.n3 O O O) (by decide) (Jl Mm0 (Jl Mm1 (Jl Mm2 Jw))) fun u14_3 Lo fs hres=> ?_)))))))))
   obtain ⟨T15,t15,rfl,rfl,rfl,wt15,r15⟩:=hres
   have e15:=congrArg List.length r15
   simp only [List.length_append,Jr,Tr.row,List.length_nil,List.length_take,List.length_drop] at e15
   refine Lq (Jd O) (Je (Jf (JF [(6,_)] (.m1 O) (Jo ?_))))
   refine ⟨_,[],[_],fun Z w hs=> .tmp O .nil,?_,fun Z w hs=>hs.out (Sd (Sr)) (fun _ h=>h)⟩
   exact ⟨_,_,O,O,O,wt15,by simp only [r15,List.append_assoc,Tr.row,List.nil_append,List.append_nil]⟩
set_option maxRecDepth 10000 in
theorem join_n (N:Nat): ∀(Al Ar Ac:Option Addr) (c:Nat) (l r:Tr) (rs:List Int) (hid:Int) (wl:Wf l) (wr:Wf r) (n0:rs≠ []) (h0:0≤hid∧hid≤1048576) (hb:l.row.length+rs.length+r.row.length≤1073741824),l.size+r.size≤N→Sp Tryz.prog 160 [.pointer Al,pcV rs hid Ac c, .pointer Ar] [] [TrF Al l,TrF Ar r,RdF runeD Ac c rs] (NP (l.row++(cellsOf rs hid++r.row))):=by
 induction N using Nat.strongRecOn
 rename_i N ih
 intro Al Ar Ac c l r rs hid wl wr n0 h0 hb hN
 have bl:=wl.sm40 (by omega)
 have br:=wr.sm40 (by omega)
 refine Sp.of (n:=61) ⟨_,Tryz.func160,O,O,O,O⟩ (Nat.le_of_ble_eq_true O) fun Ps As=>Jc (Ja (Jg O (J9 (cs:= [_,_]) O O (by decide) fun b4=>Lq (Jd O) (Je (Jf (Jc (Ja (Lq (Jb O) (Jg O (Jm (YC Al l) (.n1 O) (by decide) (Jl Mm0 Jw) fun u1_1 Lo fs hres=> ?_))))))))))
 obtain ⟨rfl,rfl,rfl⟩:=hres
 refine Lq (Yl O (fd112_2Xw24 _ _ _ _ _ _)) (Lq (Jb O) (Jg O (Jm (YC Ar r) (.n1 O) (by decide) (Jl Mm1 Jw) fun u1_4 Lo fs hres=> ?_)))
 obtain ⟨rfl,rfl,rfl⟩:=hres
 refine Lq (Yl O (fd112_2Xw24 _ _ _ _ _ _)) (Lq (Jd O) (Lq (Jd O) (Je (Jf (Jc (JE (Jc (Ja (Lq (Jb O) (Lq (Jb O) (Lq (JU O O (wr64 (by omega))) (Lq (Kl O O) (Lq (Jd O) (Je (Jf ?_)))))))))))))))
 refine JF [(21,_),(8,_),(7,_),(6,_),(4,_),(0,_),(2,_)] (.m7 O O O O O O O) (Jy O (fun h21=> ?_) (fun h21=> ?_))
 ·refine Jc (Ja (Lq (Jb O) (Jg O (Jm (open_r Al l wl (nn (by have:=wr.bd;simp only [decide_eq_true_eq] at h21;omega)) (by omega)) (.n1 O) (by decide) (Jl Mm0 Jw) fun u3_1 Lo fs hres=> ?_))))
  obtain ⟨B16,l16,s16,k16,C16,d16,D16,m16,rfl,rfl,rfl,wl16,wm16,n16,h16,r16,zl16,zm16⟩:=hres
  have e16:=congrArg List.length r16
  simp only [List.length_append,Jr,Tr.row,List.length_nil,List.length_take,List.length_drop] at e16
  refine Lq (Jb O) (Lq (Jk (vs:= [_,_,_]) O O) (Lq (Jk (vs:= [_,_,_]) O O) (Lq (Jk (vs:= [_,_,_]) O O) (Jg O (Ju (cs:= [_,_]) J0 O (by decide) fun b10=>Lq (Jd O) (Jg O (Jq (cs':= [_,_]) (vs:= [_,_]) J0 O O O O O (Nat.le_of_ble_eq_true O) .z (Lq (Jd O) (Je (Jf (JF [(11,_),(9,_),(10,_),(6,_),(4,_),(0,_),(2,_)] (.m7 O O O O O O O) ?_)))))))))))
  refine Jc (JI _ _ [] (.c 0 0 (.c 1 0 (.c 2 0 (.c 3 0 (.c 4 0 (.c 5 2 (.c 6 2 (.c 7 0 .nil)))))))) mixed (fun _ _ _ _ h=>h) (Sk (Sk (Sr))) (fun _ h=>h) (by kernel_rfl) (by decide) fun ws Z0=>Qe O (Jb O) (Qe O (Jt (vs:= [_,_]) Un145 O J0 O Jn O O) (Qe O (Jb O) (Qe O (Jt (vs:= [_,_]) Un145 O J0 O (Ji (Jn)) O O) (Qe O (Jb O) ?_)))))
  refine Jz O O (Jm (ih (m16.size+r.size) (by omega) D16 Ar Ac c m16 r rs hid wm16 wr n0 h0 (by omega) (Nat.le_refl _)) (.n3 O O O) (by decide) (Jl Mm3 (Jl Mm5 (Jl Mm6 Jw))) fun u4_5 Lo fs hres=> ?_)
  obtain ⟨T17,t17,rfl,rfl,rfl,wt17,r17⟩:=hres
  have e17:=congrArg List.length r17
  simp only [List.length_append,Jr,Tr.row,List.length_nil,List.length_take,List.length_drop] at e17
  refine ⟨⟨(Sk (Sk (Sr))),Mm1⟩,?_⟩
  refine Jz O O (Jm (weigh_r B16 T17 C16 d16 l16 t17 s16 k16 wl16 wt17 n16 h16 (by omega)) (.n3 O O O) (by decide) (Jl Mm2 (Jl Mm0 (Jl Mm3 Jw))) fun u4_6 Lo fs hres=> ?_)
  obtain ⟨T18,t18,rfl,rfl,rfl,wt18,r18⟩:=hres
  have e18:=congrArg List.length r18
  simp only [List.length_append,Jr,Tr.row,List.length_nil,List.length_take,List.length_drop] at e18
  refine ⟨⟨(Sk (Sk (Sr))),Mm2⟩,?_⟩
  refine Qe O (Jd O) (JN (JM (Jf (JF [(6,_),(4,_),(0,_),(2,_)] (.m4 O O O O) (Jo (JG (Js ?_)))))))
  refine ⟨_,[],[_],fun Z w hs=> .tmp O .nil,?_,fun Z w hs=>hs.out (Sd (Sd (Sr))) (Jl Mm0 Tt6)⟩
  exact ⟨_,_,O,O,O,wt18,by simp only [r16,r17,r18,List.append_assoc,Tr.row,List.nil_append,List.append_nil]⟩
 ·refine Jc (Ja (Lq (Jb O) (Lq (Jb O) (Lq (JU O O (wr64 (by omega))) (Lq (Kl O O) (Lq (Jd O) (Je (Jf (Jy O (fun h39=> ?_) (fun h39=> ?_))))))))))
  ·refine Jc (Ja (Lq (Jb O) (Jg O (Jm (open_r Ar r wr (nn (by have:=wl.bd;simp only [decide_eq_true_eq] at h39;omega)) (by omega)) (.n1 O) (by decide) (Jl Mm1 Jw) fun u6_1 Lo fs hres=> ?_))))
   obtain ⟨B19,l19,s19,k19,C19,d19,D19,m19,rfl,rfl,rfl,wl19,wm19,n19,h19,r19,zl19,zm19⟩:=hres
   have e19:=congrArg List.length r19
   simp only [List.length_append,Jr,Tr.row,List.length_nil,List.length_take,List.length_drop] at e19
   refine Lq (Jb O) (Lq (Jk (vs:= [_,_,_]) O O) (Lq (Jk (vs:= [_,_,_]) O O) (Lq (Jk (vs:= [_,_,_]) O O) (Jg O (Ju (cs:= [_,_]) J0 O (by decide) fun b13=>Lq (Jd O) (Jg O (Jq (cs':= [_,_]) (vs:= [_,_]) J0 O O O O O (Nat.le_of_ble_eq_true O) .z (Lq (Jd O) (Je (Jf (JF [(14,_),(12,_),(13,_),(6,_),(4,_),(0,_),(2,_)] (.m7 O O O O O O O) ?_)))))))))))
   refine Jc (JI _ _ [] (.c 0 0 (.c 1 0 (.c 2 0 (.c 4 0 (.c 5 0 (.c 3 2 (.c 6 2 (.c 7 0 .nil)))))))) mixed (fun _ _ _ _ h=>h) (Sk (Sk (Sr))) (fun _ h=>h) (by kernel_rfl) (by decide) fun ws Z0=>Qe O (Jb O) (Qe O (Jt (vs:= [_,_]) Un145 O J0 O (Ji (Jn)) O O) (Qe O (Jb O) (Qe O (Jt (vs:= [_,_]) Un145 O J0 O Jn O O) (Qe O (Jb O) (Jz O O (Jm (ih (l.size+l19.size) (by omega) Al B19 Ac c l l19 rs hid wl wl19 n0 h0 (by omega) (Nat.le_refl _)) (.n3 O O O) (by decide) (Jl Mm4 (Jl Mm1 (Jl Mm6 Jw))) fun u7_3 Lo fs hres=> ?_)))))))
   obtain ⟨T20,t20,rfl,rfl,rfl,wt20,r20⟩:=hres
   have e20:=congrArg List.length r20
   simp only [List.length_append,Jr,Tr.row,List.length_nil,List.length_take,List.length_drop] at e20
   refine ⟨⟨(Sk (Sk (Sr))),Mm1⟩,?_⟩
   refine Jz O O (Jm (weigh_r T20 D19 C19 d19 t20 m19 s19 k19 wt20 wm19 n19 h19 (by omega)) (.n3 O O O) (by decide) (Jl Mm0 (Jl Mm4 (Jl Mm3 Jw))) fun u7_6 Lo fs hres=> ?_)
   obtain ⟨T21,t21,rfl,rfl,rfl,wt21,r21⟩:=hres
   have e21:=congrArg List.length r21
   simp only [List.length_append,Jr,Tr.row,List.length_nil,List.length_take,List.length_drop] at e21
   refine ⟨⟨(Sk (Sk (Sr))),Mm2⟩,?_⟩
   refine Qe O (Jd O) (JN (JM (Jf (JF [(6,_),(4,_),(0,_),(2,_)] (.m4 O O O O) (Jo (JG (Js ?_)))))))
   refine ⟨_,[],[_],fun Z w hs=> .tmp O .nil,?_,fun Z w hs=>hs.out (Sd (Sd (Sr))) (Jl Mm0 Tt6)⟩
   exact ⟨_,_,O,O,O,wt21,by simp only [r19,r20,r21,List.append_assoc,Tr.row,List.nil_append,List.append_nil]⟩
  ·refine Jp (Ka (Jf (Jc (Ja (Lq (Jb O) (Lq (Jt (vs:= [_,_]) Un145 O J0 O Jn O O) (Lq (Jb O) (Jg O (Jm (knot_r Al Ar Ac c l r rs hid wl wr n0 h0 (by omega)) (.n3 O O O) (by decide) (Jl Mm0 (Jl Mm1 (Jl Mm2 Jw))) fun u8_3 Lo fs hres=> ?_)))))))))
   obtain ⟨T22,t22,rfl,rfl,rfl,wt22,r22⟩:=hres
   have e22:=congrArg List.length r22
   simp only [List.length_append,Jr,Tr.row,List.length_nil,List.length_take,List.length_drop] at e22
   refine Lq (Jd O) (Je (Jf (JF [(6,_)] (.m1 O) (Jo ?_))))
   refine ⟨_,[],[_],fun Z w hs=> .tmp O .nil,?_,fun Z w hs=>hs.out (Sd (Sr)) (fun _ h=>h)⟩
   exact ⟨_,_,O,O,O,wt22,by simp only [r22,List.append_assoc,Tr.row,List.nil_append,List.append_nil]⟩
theorem join_r (Al Ar Ac:Option Addr) (c:Nat) (l r:Tr) (rs:List Int) (hid:Int) (wl:Wf l) (wr:Wf r) (n0:rs≠ []) (h0:0≤hid∧hid≤1048576) (hb:l.row.length+rs.length+r.row.length≤1073741824):Sp Tryz.prog 160 [.pointer Al,pcV rs hid Ac c, .pointer Ar] [] [TrF Al l,TrF Ar r,RdF runeD Ac c rs] (NP (l.row++(cellsOf rs hid++r.row))):=join_n _ Al Ar Ac c l r rs hid wl wr n0 h0 hb (Nat.le_refl _)
theorem Vg {P:Program} {n:Dm} {R:Post} {l:Fr} {Ps:List Part} {As:List Fact} {c:Code} {A:Option Addr} {t:Tr} (hA:TrF A t∈As) (ht:t≠ .nil) (h: ∀b:Nat,A=some ⟨b,0,none⟩→WC P n c R l Ps As):WC P n c R l Ps As:=fun Z w a hs ha=>by
 cases t with
 | nil=>exact absurd rfl ht
 | nd s lt rs hid rt plus=>
  obtain ⟨b,Al,Ar,Ac,cc,e,_⟩:trRep Z w (.nd s lt rs hid rt plus) A:=hs.facts _ hA
  exact h b e Z w a hs ha
def LastP (row:List Ce):Value→List Part→List Fact→Prop:=fun v Lo fs=> ∃(A:Option Addr) (t:Tr) (rs:List Int) (hid:Int) (Ac:Option Addr) (c:Nat),v= .tuple #[.pointer A,pcV rs hid Ac c] ∧Lo= [] ∧fs= [TrF A t,RdF runeD Ac c rs] ∧Wf t∧rs≠ [] ∧(0≤hid∧hid≤1048576)∧row=t.row++cellsOf rs hid
def FirstP (row:List Ce):Value→List Part→List Fact→Prop:=fun v Lo fs=> ∃(A:Option Addr) (t:Tr) (rs:List Int) (hid:Int) (Ac:Option Addr) (c:Nat),v= .tuple #[pcV rs hid Ac c, .pointer A] ∧Lo= [] ∧fs= [TrF A t,RdF runeD Ac c rs] ∧Wf t∧rs≠ [] ∧(0≤hid∧hid≤1048576)∧row=cellsOf rs hid++t.row
set_option maxRecDepth 10000 in
theorem popLast_n (N:Nat): ∀(A:Option Addr) (t:Tr) (wt:Wf t) (nt:t≠ .nil) (hb:t.row.length≤1073741824),t.size≤N→Sp Tryz.prog 161 [.pointer A] [] [TrF A t] (LastP t.row):=by
 induction N using Nat.strongRecOn
 rename_i N ih
 intro A t wt nt hb hN
 refine Sp.of (n:=29) ⟨_,Tryz.func161,O,O,O,O⟩ (Nat.le_of_ble_eq_true O) fun Ps As=>Jc (Ja (Lq (Jd O) (Jg O (Ju (cs:= [_,_]) J0 O (by decide) fun b3=>Je (Jf (Jc (Ja (Lq (Jb O) (Jg O (Jm (open_r A t wt nt (by omega)) (.n1 O) (by decide) (Jl Mm0 Jw) fun u1_1 Lo fs hres=> ?_))))))))))
 obtain ⟨B1,l1,s1,k1,C1,d1,D1,m1,rfl,rfl,rfl,wl1,wm1,n1,h1,r1,zl1,zm1⟩:=hres
 have e1:=congrArg List.length r1
 simp only [List.length_append,Jr,Tr.row,List.length_nil,List.length_take,List.length_drop] at e1
 refine Lq (Jb O) (Lq (Jk (vs:= [_,_,_]) O O) (Lq (Jk (vs:= [_,_,_]) O O) (Lq (Jk (vs:= [_,_,_]) O O) (Jg O (Ju (cs:= [_,_]) J0 O (by decide) fun b5=>Lq (Jd O) (Jg O (Jq (cs':= [_,_]) (vs:= [_,_]) J0 O O O O O (Nat.le_of_ble_eq_true O) .z (Lq (Jd O) (Je (Jf (Jc (Jc ?_))))))))))))
 by_cases hzm1:m1= .nil
 ·rw [hzm1]
  refine VL Mm2 fun e=> ?_
  subst e
  refine Ja (Lq (Jb O) (Lq (KN Un141 O O (by simp)) (Je (Jf (JF [(16,_),(6,_),(4,_),(5,_),(3,_),(2,_)] (.m6 O O O O O O) (J1 O O (Jc (JI _ _ [3] (.c 0 0 (.c 1 0 (.c 2 0 (.c 3 3 .nil)))) mixed (fun _ _ _ _ h=>h) (Sk (Sk (Sr))) (fun _ h=>h) (by kernel_rfl) (by decide) fun ws Z0=>Qe O (Jb O) (Qe O (Jt (vs:= [_,_]) Un145 O J0 O Jn O O) (Qe O (Jd O) ?_))))))))))
  refine JN (J8 O O (Jq (cs':= [_,_]) (vs:= [_,_]) J0 O O O O O (Nat.le_of_ble_eq_true O) .z1 (JM (Jf (Jo (Js ?_))))))
  refine ⟨_,[],[_,_],fun Z w hs=> .tmp O (JV hs Un145 O J0 O (Ji (Jn)) O .nil),?_,fun Z w hs=>hs.out (Sd (Sd (Sr))) (Jl Mm1 (Jl Mm2 Tt4))⟩
  exact ⟨_,_,_,_,_,_,O,O,O,wl1,n1,h1,by simp only [r1,hzm1,Tr.row,List.append_nil,List.nil_append]⟩
 ·refine Vg Mm2 hzm1 fun _ e=> ?_
  subst e
  refine Ja (Lq (Jb O) (Lq (KN Un141 O O (by simp)) (Je (Jf (JF [(16,_),(6,_),(4,_),(5,_),(3,_),(2,_)] (.m6 O O O O O O) (Jv O O (Jp (Jf (Jc (Ja (Lq (Jb O) (Jg O (Jm (ih m1.size (by omega) _ m1 wm1 hzm1 (by omega) (Nat.le_refl _)) (.n1 O) (by decide) (Jl Mm2 Jw) fun u4_1 Lo fs hres=> ?_)))))))))))))
  obtain ⟨A2,t2,s2,k2,C2,d2,rfl,rfl,rfl,wt2,n2,h2,r2⟩:=hres
  have e2:=congrArg List.length r2
  simp only [List.length_append,Jr] at e2
  refine Lq (Jb O) (Lq (Jk (vs:= [_,_]) O O) (Lq (Jk (vs:= [_,_]) O O) (Jg O (Ju (cs:= [_,_]) J0 O (by decide) fun b8=>Lq (Jd O) (Jg O (Jq (cs':= [_,_]) (vs:= [_,_]) J0 O O O O O (Nat.le_of_ble_eq_true O) .z (Je (Jf (Jc (JI _ _ [6] (.c 0 0 (.c 1 0 (.c 2 0 (.c 4 0 (.c 3 2 (.c 5 0 (.c 6 3 .nil))))))) mixed (fun _ _ _ _ h=>h) (Sk (Sk (Sk (Sr)))) (fun _ h=>h) (by kernel_rfl) (by decide) fun ws Z0=>Qe O (Jb O) (Qe O (Jt (vs:= [_,_]) Un145 O J0 O (Ji (Jn)) O O) ?_)))))))))))
  refine Qe O (Jb O) (Qe O (Jt (vs:= [_,_]) Un145 O J0 O Jn O O) (Jz O O (Jm (join_r B1 A2 C1 d1 l1 t2 s1 k1 wl1 wt2 n1 h1 (by omega)) (.n3 O O O) (by decide) (Jl Mm3 (Jl Mm1 (Jl Mm4 Jw))) fun u5_3 Lo fs hres=> ?_)))
  obtain ⟨T3,t3,rfl,rfl,rfl,wt3,r3⟩:=hres
  have e3:=congrArg List.length r3
  simp only [List.length_append,Jr,Tr.row,List.length_nil,List.length_take,List.length_drop] at e3
  refine ⟨⟨(Sk (Sk (Sk (Sr)))),Mm1⟩,?_⟩
  refine Qe O (Jd O) (JN (J8 O O (Jq (cs':= [_,_]) (vs:= [_,_]) J0 O O O O O (Nat.le_of_ble_eq_true O) .z2 (JM (Jf (JF [(2,_),(3,_)] (.m2 O O) (Jo ?_)))))))
  refine ⟨_,[],[_,_],fun Z w hs=> .tmp O (JV hs Un145 O J0 O (Ji (Ji (Jn))) O .nil),?_,fun Z w hs=>hs.out (Sd (Sd (Sd (Sr)))) (Jl Mm0 (Jl Mm3 Tt7))⟩
  exact ⟨_,_,_,_,_,_,O,O,O,wt3,n2,h2,by simp only [r1,r2,r3,List.append_assoc]⟩
set_option maxRecDepth 10000 in
theorem popFirst_n (N:Nat): ∀(A:Option Addr) (t:Tr) (wt:Wf t) (nt:t≠ .nil) (hb:t.row.length≤1073741824),t.size≤N→Sp Tryz.prog 162 [.pointer A] [] [TrF A t] (FirstP t.row):=by
 induction N using Nat.strongRecOn
 rename_i N ih
 intro A t wt nt hb hN
 refine Sp.of (n:=29) ⟨_,Tryz.func162,O,O,O,O⟩ (Nat.le_of_ble_eq_true O) fun Ps As=>Jc (Ja (Jg O (Ju (cs:= [_,_]) J0 O (by decide) fun b2=>Lq (Jd O) (Je (Jf (Jc (Ja (Lq (Jb O) (Jg O (Jm (open_r A t wt nt (by omega)) (.n1 O) (by decide) (Jl Mm0 Jw) fun u1_1 Lo fs hres=> ?_))))))))))
 obtain ⟨B1,l1,s1,k1,C1,d1,D1,m1,rfl,rfl,rfl,wl1,wm1,n1,h1,r1,zl1,zm1⟩:=hres
 have e1:=congrArg List.length r1
 simp only [List.length_append,Jr,Tr.row,List.length_nil,List.length_take,List.length_drop] at e1
 refine Lq (Jb O) (Lq (Jk (vs:= [_,_,_]) O O) (Lq (Jk (vs:= [_,_,_]) O O) (Lq (Jk (vs:= [_,_,_]) O O) (Jg O (Ju (cs:= [_,_]) J0 O (by decide) fun b5=>Lq (Jd O) (Jg O (Jq (cs':= [_,_]) (vs:= [_,_]) J0 O O O O O (Nat.le_of_ble_eq_true O) .z (Lq (Jd O) (Je (Jf (Jc (Jc ?_))))))))))))
 by_cases hzl1:l1= .nil
 ·rw [hzl1]
  refine VL Mm0 fun e=> ?_
  subst e
  refine Ja (Lq (Jb O) (Lq (KN Un141 O O (by simp)) (Je (Jf (JF [(16,_),(6,_),(4,_),(5,_),(3,_),(2,_)] (.m6 O O O O O O) (J1 O O (Jc (Ja (Lq (Jt (vs:= [_,_]) Un145 O J0 O Jn O O) (Lq (Jb O) (Jg O (Jq (cs':= [_,_]) (vs:= [_,_]) J0 O O O O O (Nat.le_of_ble_eq_true O) .z1 (Lq (Jd O) ?_)))))))))))))
  refine Je (Jf (Jo (Js ?_)))
  refine ⟨_,[],[_,_],fun Z w hs=>JV hs Un145 O J0 O (Ji (Jn)) O (.tmp O .nil),?_,fun Z w hs=>hs.out (Sd (Sd (Sr))) (Jl Mm2 (Jl Mm1 Tt3))⟩
  exact ⟨_,_,_,_,_,_,O,O,O,wm1,n1,h1,by simp only [r1,hzl1,Tr.row,List.append_nil,List.nil_append]⟩
 ·refine Vg Mm0 hzl1 fun _ e=> ?_
  subst e
  refine Ja (Lq (Jb O) (Lq (KN Un141 O O (by simp)) (Je (Jf (JF [(16,_),(6,_),(4,_),(5,_),(3,_),(2,_)] (.m6 O O O O O O) (Jv O O (Jp (Jf (Jc (Ja (Lq (Jb O) (Jg O (Jm (ih l1.size (by omega) _ l1 wl1 hzl1 (by omega) (Nat.le_refl _)) (.n1 O) (by decide) (Jl Mm0 Jw) fun u4_1 Lo fs hres=> ?_)))))))))))))
  obtain ⟨A2,t2,s2,k2,C2,d2,rfl,rfl,rfl,wt2,n2,h2,r2⟩:=hres
  have e2:=congrArg List.length r2
  simp only [List.length_append,Jr] at e2
  refine Lq (Jb O) (Lq (Jk (vs:= [_,_]) O O) (Lq (Jk (vs:= [_,_]) O O) (Jg O (Ju (cs:= [_,_]) J0 O (by decide) fun b7=>Jg O (Jq (cs':= [_,_]) (vs:= [_,_]) J0 O O O O O (Nat.le_of_ble_eq_true O) .z (Lq (Jd O) (Je (Jf (Jc (JI _ _ [5] (.c 0 0 (.c 1 0 (.c 2 0 (.c 3 0 (.c 4 2 (.c 5 3 (.c 6 1 .nil))))))) mixed (fun _ _ _ _ h=>h) (Sk (Sk (Sk (Sr)))) (fun _ h=>h) (by kernel_rfl) (by decide) fun ws Z0=>Qe O (Jt (vs:= [_,_]) Un145 O J0 O Jn O O) (Qe O (Jb O) ?_)))))))))))
  refine Qe O (Jt (vs:= [_,_]) Un145 O J0 O (Ji (Jn)) O O) (Qe O (Jb O) (Jz O O (Jm (join_r A2 D1 C1 d1 t2 m1 s1 k1 wt2 wm1 n1 h1 (by omega)) (.n3 O O O) (by decide) (Jl Mm1 (Jl Mm5 (Jl Mm4 Jw))) fun u5_4 Lo fs hres=> ?_)))
  obtain ⟨T3,t3,rfl,rfl,rfl,wt3,r3⟩:=hres
  have e3:=congrArg List.length r3
  simp only [List.length_append,Jr,Tr.row,List.length_nil,List.length_take,List.length_drop] at e3
  refine ⟨⟨(Sk (Sk (Sk (Sr)))),Mm1⟩,?_⟩
  refine JN (J8 O O (Jq (cs':= [_,_]) (vs:= [_,_]) J0 O O O O O (Nat.le_of_ble_eq_true O) .z2 (YH O (Jd O) (by decide) (JM (Jf (JF [(3,_),(2,_)] (.m2 O O) (Jo ?_)))))))
  refine ⟨_,[],[_,_],fun Z w hs=>JV hs Un145 O J0 O (Ji (Ji (Jn))) O (.tmp O .nil),?_,fun Z w hs=>hs.out (Sd (Sd (Sd (Sr)))) (Jl Mm0 (Jl Mm3 Tt7))⟩
  exact ⟨_,_,_,_,_,_,O,O,O,wt3,n2,h2,by simp only [r1,r2,r3,List.append_assoc]⟩
theorem popLast_r (A:Option Addr) (t:Tr) (wt:Wf t) (nt:t≠ .nil) (hb:t.row.length≤1073741824):Sp Tryz.prog 161 [.pointer A] [] [TrF A t] (LastP t.row):=popLast_n _ A t wt nt hb (Nat.le_refl _)
theorem popFirst_r (A:Option Addr) (t:Tr) (wt:Wf t) (nt:t≠ .nil) (hb:t.row.length≤1073741824):Sp Tryz.prog 162 [.pointer A] [] [TrF A t] (FirstP t.row):=popFirst_n _ A t wt nt hb (Nat.le_refl _)
theorem sp1 {a b:List Ce} {x:Int} (h0:0≤x) (h:x≤a.length):(a++b).take x.toNat=a.take x.toNat∧(a++b).drop x.toNat=a.drop x.toNat ++b:=
 ⟨List.take_append_of_le_length (by omega),List.drop_append_of_le_length (by omega)⟩
theorem sp2 {a c b:List Ce} {x:Int} (h:(a.length:Int)+c.length≤x):(a++(c++b)).take x.toNat=a++(c++b.take (x-a.length-c.length).toNat)∧(a++(c++b)).drop x.toNat=b.drop (x-a.length-c.length).toNat:=by
 have e:x.toNat=a.length+(c.length+(x-a.length-c.length).toNat):=by omega
 rw [e,List.take_length_add_append,List.take_length_add_append,List.drop_length_add_append,List.drop_length_add_append]
 exact ⟨O,O⟩
theorem sp3 {a c b:List Ce} {x:Int} (h:(a.length:Int)≤x) (h2:x≤a.length+c.length):(a++(c++b)).take x.toNat=a++c.take (x-a.length).toNat∧(a++(c++b)).drop x.toNat=c.drop (x-a.length).toNat ++b:=by
 have e:x.toNat=a.length+(x-a.length).toNat:=by omega
 rw [e,List.take_length_add_append,List.drop_length_add_append,List.take_append_of_le_length (by omega),List.drop_append_of_le_length (by omega)]
 exact ⟨O,O⟩
theorem cells_take (rs:List Int) (hid:Int) (k:Nat):(cellsOf rs hid).take k=cellsOf (rs.take k) hid:=by unfold cellsOf;rw [List.map_take]
theorem cells_drop (rs:List Int) (hid:Int) (k:Nat):(cellsOf rs hid).drop k=cellsOf (rs.drop k) hid:=by unfold cellsOf;rw [List.map_drop]
theorem take_ne {rs:List Int} {k:Nat} (h:0<k) (h2:k≤rs.length):rs.take k≠ [] :=fun e=>by have:=congrArg List.length e;rw [List.length_take,List.length_nil] at this;omega
theorem drop_ne {rs:List Int} {k:Nat} (h2:k<rs.length):rs.drop k≠ [] :=fun e=>by have:=congrArg List.length e;simp at this;omega
def NP2 (a b:List Ce):Value→List Part→List Fact→Prop:=fun v Lo fs=> ∃(A:Option Addr) (t:Tr) (B:Option Addr) (u:Tr),v= .tuple #[.pointer A, .pointer B] ∧Lo= [] ∧fs= [TrF A t,TrF B u] ∧Wf t∧Wf u∧t.row=a∧u.row=b
set_option maxRecDepth 10000 in
theorem split_0 (x:Int):Sp Tryz.prog 136 [.pointer none, .int .i64 x] [] [TrF none .nil] (NP2 [] []):=by
 refine Sp.of (n:=89) ⟨_,Tryz.func136,O,O,O,O⟩ (Nat.le_of_ble_eq_true O) fun Ps As=>Jc (Ja (Lq (Jd O) (Lq (Jd O) (Je (Jf (Jc (Jc (Ja (Lq (Jb O) (Lq (KN Un141 O O (by simp)) (Je (Jf (J1 O O (Jc (Ja (Lq (Jd O) (Lq (Jd O) ?_)))))))))))))))))
 refine Je (Jf (Jo (Js ?_)))
 refine ⟨_,[],[_,_],fun Z w hs=> .tmp O (.tmp O .nil),?_,fun Z w hs=>hs.out (Sr) (Jl Mm0 (Jl Mm0 (fun _ h=>h)))⟩
 exact ⟨_,_,_,_,O,O,O,wnilT,wnilT,O,O⟩
theorem fd112_0Xw26 (x0:Int) (x1:Int) (x2:Int) (x3:Int) (x4:Int) (x5:Int) (w:World):(Instr.field 149 (.agg #[.int .i64 x0, .int .i64 x1, .int .i64 x2, .int .i64 x3, .int .i64 x4, .int .i64 x5]) 0).run Tryz.prog w= .ok (.int .i64 x0) w:=by kernel_rfl
set_option maxRecDepth 10000 in
theorem split_n (N:Nat): ∀(A:Option Addr) (t:Tr) (x:Int) (wt:Wf t) (hb:t.row.length≤1073741824) (hx:0≤x) (hx2:x≤1073741824),t.size≤N→Sp Tryz.prog 136 [.pointer A, .int .i64 x] [] [TrF A t] (NP2 (t.row.take x.toNat) (t.row.drop x.toNat)):=by
 induction N using Nat.strongRecOn
 rename_i N ih
 intro A t x wt hb hx hx2 hN
 by_cases nt:t= .nil
 ·subst nt
  refine ⟨(split_0 x).enters,fun Z w Ps As hs=> ?_⟩
  obtain rfl:A=none:=hs.facts _ (by simp:TrF A .nil∈ [TrF A .nil] ++As)
  simpa [Tr.row] using (split_0 x).calls Z w Ps As hs
 refine Sp.of (n:=89) ⟨_,Tryz.func136,O,O,O,O⟩ (Nat.le_of_ble_eq_true O) fun Ps As=>Vg Mm0 nt fun _ e=> ?_
 subst e
 refine Jc (Ja (Lq (Jd O) (Lq (Jd O) (Je (Jf (Jc (Jc (Ja (Lq (Jb O) (Lq (KN Un141 O O (by simp)) (Je (Jf (Jv O O (Jp (Jf (Jc (Ja (Lq (Jb O) (Jg O (Jm (open_r _ t wt nt (by omega)) (.n1 O) (by decide) (Jl Mm0 Jw) fun u3_1 Lo fs hres=> ?_))))))))))))))))))))
 obtain ⟨B1,l1,s1,k1,C1,d1,D1,m1,rfl,rfl,rfl,wl1,wm1,n1,h1,r1,zl1,zm1⟩:=hres
 have e1:=congrArg List.length r1
 simp only [List.length_append,Jr,Tr.row,List.length_nil,List.length_take,List.length_drop] at e1
 refine Lq (Jb O) (Lq (Jk (vs:= [_,_,_]) O O) (Lq (Jk (vs:= [_,_,_]) O O) (Lq (Jk (vs:= [_,_,_]) O O) (Jg O (Ju (cs:= [_,_]) J0 O (by decide) fun b7=>Lq (Jd O) (Jg O (Jq (cs':= [_,_]) (vs:= [_,_]) J0 O O O O O (Nat.le_of_ble_eq_true O) .z (Lq (Jd O) (Je (Jf (JF [(8,_),(6,_),(7,_),(5,_),(4,_),(1,_)] (.m6 O O O O O O) ?_)))))))))))
 refine Jc (Ja (Lq (Jb O) (Jg O (Jm (YC B1 l1) (.n1 O) (by decide) (Jl Mm0 Jw) fun u4_1 Lo fs hres=> ?_))))
 obtain ⟨rfl,rfl,rfl⟩:=hres
 refine Lq (Yl O (fd112_0Xw26 _ _ _ _ _ _)) (Lq (Jd O) (Je (Jf (Jc (JE (Jc ?_))))))
 have hkk:=wl1.tot
 refine Ja (Lq (Jb O) (Lq (Jb O) (Lq (YW O O) (Lq (Jd O) (Je (Jf (JF [(27,_),(9,_),(8,_),(6,_),(7,_),(5,_),(4,_),(1,_)] (.m8 O O O O O O O O) (Jy O (fun h27=> ?_) (fun h27=> ?_)))))))))
 ·refine Jc ?_
  simp only [decide_eq_true_eq] at h27
  refine Ja (Lq (Jb O) (Lq (Jb O) (Jg O (Jm (ih l1.size (by omega) B1 l1 x wl1 (by omega) (by omega) (by omega) (Nat.le_refl _)) (.n2 O O) (by decide) (Jl Mm0 Jw) fun u6_2 Lo fs hres=> ?_))))
  obtain ⟨A2,t2,E2,q2,rfl,rfl,rfl,wt2,wq2,r2,rq2⟩:=hres
  have e2:=congrArg List.length r2
  simp only [List.length_append,Jr,Tr.row,List.length_nil,List.length_take,List.length_drop] at e2
  have eq2:=congrArg List.length rq2
  simp only [List.length_append,Jr,Tr.row,List.length_nil,List.length_take,List.length_drop] at eq2
  refine Lq (Jb O) (Lq (Jk (vs:= [_,_]) O O) (Lq (Jk (vs:= [_,_]) O O) (Lq (Jd O) (Lq (Jd O) (Je (Jf (JF [(11,_),(10,_),(9,_),(8,_),(6,_),(7,_),(5,_),(4,_),(1,_)] (.m9 O O O O O O O O O) (Jc (Ja (Lq (Jb O) (Lq (Jb O) ?_)))))))))))
  refine Lq (Jt (vs:= [_,_]) Un145 O J0 O Jn O O) (Lq (Jb O) (Jg O (Jm (join_r E2 D1 C1 d1 q2 m1 s1 k1 wq2 wm1 n1 h1 (by omega)) (.n3 O O O) (by decide) (Jl Mm1 (Jl Mm4 (Jl Mm3 Jw))) fun u7_4 Lo fs hres=> ?_)))
  obtain ⟨T3,t3,rfl,rfl,rfl,wt3,r3⟩:=hres
  have e3:=congrArg List.length r3
  simp only [List.length_append,Jr,Tr.row,List.length_nil,List.length_take,List.length_drop] at e3
  refine Lq (Jd O) (Lq (Jd O) (Je (Jf (JF [(5,_),(4,_),(9,_),(8,_),(6,_),(7,_),(1,_)] (.m7 O O O O O O O) (Jo (JG (Js ?_)))))))
  refine ⟨_,[],[_,_],fun Z w hs=> .tmp O (.tmp O .nil),?_,fun Z w hs=>hs.out (Sd (Sr)) (Jl Mm1 (Jl Mm0 Tt6))⟩
  obtain ⟨g1,g2⟩:=sp1 (a:=l1.row) (b:=cellsOf s1 k1++m1.row) (x:=x) hx (by omega)
  refine ⟨_,_,_,_,O,O,O,wt2,wt3,?_,?_⟩
  ·rw [r1,g1];simp only [r2,r3,rq2,cells_take,cells_drop,Jr,List.append_assoc,Tr.row,List.append_nil,List.nil_append,hkk]
  ·rw [r1,g2];simp only [r2,r3,rq2,cells_take,cells_drop,Jr,List.append_assoc,Tr.row,List.append_nil,List.nil_append,hkk]
 ·refine Jc (Ja (Lq (Jb O) (Lq (Jb O) (Lq (Jh (o':=0) Un145 O YT O O) (Lq (Jj Un30 O O Jn O) (Lq (J3 Un30 O) (Lq (JU O O (wr64 (by omega))) (Lq (Yz O O) (Lq (Jd O) (Je (Jf ?_)))))))))))
  refine JF [(42,_),(9,_),(8,_),(6,_),(7,_),(5,_),(4,_),(1,_)] (.m8 O O O O O O O O) (Jy O (fun h42=> ?_) (fun h42=> ?_))
  ·refine Jc ?_
   simp only [decide_eq_true_eq] at h42
   refine Ja (Lq (Jb O) (Lq (Jb O) (Lq (Jb O) (Lq (KP O O (wr64 (by omega))) (Lq (Jh (o':=0) Un145 O YT O O) (Lq (Jj Un30 O O Jn O) (Lq (J3 Un30 O) (Lq (KP O O (wr64 (by omega))) (Jg O (Jm (ih m1.size (by omega) D1 m1 (x-(allF l1).tot-s1.length) wm1 (by omega) (by omega) (by omega) (Nat.le_refl _)) (.n2 O O) (by decide) (Jl Mm2 Jw) fun u9_8 Lo fs hres=> ?_))))))))))
   obtain ⟨A4,t4,E4,q4,rfl,rfl,rfl,wt4,wq4,r4,rq4⟩:=hres
   have e4:=congrArg List.length r4
   simp only [List.length_append,Jr,Tr.row,List.length_nil,List.length_take,List.length_drop] at e4
   have eq4:=congrArg List.length rq4
   simp only [List.length_append,Jr,Tr.row,List.length_nil,List.length_take,List.length_drop] at eq4
   refine Lq (Jb O) (Lq (Jk (vs:= [_,_]) O O) (Lq (Jk (vs:= [_,_]) O O) (Lq (Jd O) (Lq (Jd O) (Je (Jf (JF [(13,_),(12,_),(9,_),(8,_),(6,_),(7,_),(5,_),(4,_),(1,_)] (.m9 O O O O O O O O O) (Jc (Ja (Lq (Jb O) (Lq (Jt (vs:= [_,_]) Un145 O J0 O Jn O O) ?_)))))))))))
   refine Lq (Jb O) (Jg O (Jm (join_r B1 A4 C1 d1 l1 t4 s1 k1 wl1 wt4 n1 h1 (by omega)) (.n3 O O O) (by decide) (Jl Mm2 (Jl Mm0 (Jl Mm3 Jw))) fun u10_3 Lo fs hres=> ?_))
   obtain ⟨T5,t5,rfl,rfl,rfl,wt5,r5⟩:=hres
   have e5:=congrArg List.length r5
   simp only [List.length_append,Jr,Tr.row,List.length_nil,List.length_take,List.length_drop] at e5
   refine Lq (Jb O) (Lq (Jd O) (Lq (Jd O) (Je (Jf (JF [(5,_),(4,_),(9,_),(8,_),(6,_),(7,_),(1,_)] (.m7 O O O O O O O) (Jo (JG (Js ?_))))))))
   refine ⟨_,[],[_,_],fun Z w hs=> .tmp O (.tmp O .nil),?_,fun Z w hs=>hs.out (Sd (Sr)) (Jl Mm0 (Jl Mm2 Tt6))⟩
   obtain ⟨g1,g2⟩:=sp2 (a:=l1.row) (c:=cellsOf s1 k1) (b:=m1.row) (x:=x) (by rw [Jr];omega)
   refine ⟨_,_,_,_,O,O,O,wt5,wq4,?_,?_⟩
   ·rw [r1,g1];simp only [r4,r5,rq4,cells_take,cells_drop,Jr,List.append_assoc,Tr.row,List.append_nil,List.nil_append,hkk]
   ·rw [r1,g2];simp only [r4,r5,rq4,cells_take,cells_drop,Jr,List.append_assoc,Tr.row,List.append_nil,List.nil_append,hkk]
  ·refine Jp (Ka (Jf (Jc (JI _ _ [5] (.c 0 0 (.c 1 0 (.c 2 4 (.c 3 4 (.c 4 2 (.c 5 3 .nil)))))) mixed (fun _ _ _ _ h=>h) (Sk (Sr)) (fun _ h=>h) (by kernel_rfl) (by decide) fun ws Z0=>Qe O (Jt (vs:= [_,_]) Un145 O J0 O Jn O O) (Qe O (Jt (vs:= [_,_]) Un145 O J0 O Jn O O) (Ed O O (cs1:= [_,_]) (cs2:= [_,_]) J0 O J0 O (by decide) (by decide) (by decide) (Sk (Sr)) Mm0 fun b14 b15=>Jz O O (Jq (cs':= [_,_]) (vs:= [_,_]) J0 O O O O O (Nat.le_of_ble_eq_true O) .z1 ?_)))))))
   refine ⟨⟨(Sd (Sd (Sk (Sr)))),Mm0⟩,?_⟩
   refine JN (J8 O O (Jq (cs':= [_,_]) (vs:= [_,_]) J0 O O O O O (Nat.le_of_ble_eq_true O) .z (JM (Jf (Jc ?_)))))
   simp only [decide_eq_false_iff_not] at h27 h42
   obtain ⟨k0,hk0⟩: ∃k:Nat,k=(x-l1.row.length).toNat:=⟨_,rfl⟩
   have hk1:0<k0:=by omega
   have hk2:k0<s1.length:=by omega
   have ht1:(s1.take k0).length=k0:=by rw [List.length_take];omega
   have hd1:(s1.drop k0).length=s1.length-k0:=by rw [List.length_drop]
   refine GL Mm2 fun hcap=>Xd k0 Mm2 (by omega) (Xc k0 Mm3 (by omega) (Ke (A:=TrF none .nil) (fun _ _ _=>O) (JI _ _ [15] (.c 0 0 (.c 1 0 (.c 2 0 (.c 3 0 (.c 4 0 (.c 5 0 (.c 6 0 (.c 7 0 (.c 8 0 (.c 9 0 (.c 10 0 (.c 11 0 (.c 12 0 (.c 13 2 (.c 14 0 (.c 15 3 .nil)))))))))))))))) mixed (fun _ _ _ _ h=>h) (Sk (Sd (Sk (Sr)))) (fun _ h=>h) (by kernel_rfl) (by decide) fun ws Z0=>Qe O (Jh (o':=0) Un145 O YT O O) (Qe O (Jj Un30 O O (Ji (Jn)) O) (Qe O (Jb O) (Qe O (Jb O) (Qe O (KP O O (wr64 (by omega))) ?_)))))))
   refine Qe O (Vt (m:=(s1.take k0).length) (by omega) Un30 V1 O O (by omega) (by omega)) (Qe O (Jh (o':=0) Un145 O YT O O) (Qe O (Jj Un30 O O (Ji (Jn)) O) (Qe O (Jb O) (Qe O (Jb O) (Qe O (KP O O (wr64 (by omega))) (Qe O (Vs (j:=k0) (m:=(s1.drop k0).length) (by omega) (by omega) Un30 V1 O O (by omega) (by omega)) (Qe O (Jh (o':=0) Un145 O YT O O) (Jz O O (JJ YT O O O .z .z1 ?_)))))))))
   refine ⟨⟨(Sk (Sd (Sk (Sr)))),Mm0⟩,?_⟩
   refine Qe O (Jh (o':=0) Un145 O YT O O) (JN (J8 O O (JJ YT O O O .z .z (JM (Jf (JF [(15,_),(14,_),(8,_),(6,_),(5,_),(4,_)] (.m6 O O O O O O) (Jc (JI _ _ [] (.c 0 0 (.c 1 0 (.c 3 0 (.c 4 0 (.c 2 2 (.c 5 2 (.c 6 0 (.c 7 0 .nil)))))))) mixed (fun _ _ _ _ h=>h) (Sk (Sk (Sk (Sr)))) (fun _ h=>h) (by kernel_rfl) (by decide) fun ws Z0=>Qe O (Jb O) (Qe O (Jt (vs:= [_,_]) Un145 O J0 O (Ji (Jn)) O O) (Qe O (Jt (vs:= [_,_]) Un145 O J0 O Jn O O) ?_))))))))))
   refine Qe O (Jb O) (Jz O O (Jm (join_r B1 none (cutA C1 0 d1 1) d1 l1 Tr.nil (s1.take k0) k1 wl1 wnilT (take_ne hk1 (by omega)) h1 (by simp only [Tr.row,List.length_nil];omega)) (.n3 O O O) (by decide) (Jl Mm6 (Jl Mm2 (Jl Mm4 Jw))) fun u13_2 Lo fs hres=> ?_))
   obtain ⟨T6,t6,rfl,rfl,rfl,wt6,r6⟩:=hres
   have e6:=congrArg List.length r6
   simp only [List.length_append,Jr,Tr.row,List.length_nil,List.length_take,List.length_drop] at e6
   refine ⟨⟨(Sk (Sk (Sk (Sr)))),Mm1⟩,?_⟩
   refine Jz O O (Jm (join_r none D1 (cutA C1 k0 d1 1) (d1-k0) Tr.nil m1 (s1.drop k0) k1 wnilT wm1 (drop_ne hk2) h1 (by simp only [Tr.row,List.length_nil];omega)) (.n3 O O O) (by decide) (Jl Mm3 (Jl Mm9 (Jl Mm4 Jw))) fun u13_5 Lo fs hres=> ?_)
   obtain ⟨T7,t7,rfl,rfl,rfl,wt7,r7⟩:=hres
   have e7:=congrArg List.length r7
   simp only [List.length_append,Jr,Tr.row,List.length_nil,List.length_take,List.length_drop] at e7
   refine ⟨⟨(Sk (Sk (Sk (Sr)))),Mm2⟩,?_⟩
   refine Qe O (Jd O) (Qe O (Jd O) (JN (JM (Jf (Jo ?_)))))
   refine ⟨_,[],[_,_],fun Z w hs=> .tmp O (.tmp O .nil),?_,fun Z w hs=>hs.out (Sd (Sd (Sd (Sr)))) (Jl Mm1 (Jl Mm0 Tt11))⟩
   obtain ⟨g1,g2⟩:=sp3 (a:=l1.row) (c:=cellsOf s1 k1) (b:=m1.row) (x:=x) (by omega) (by rw [Jr];omega)
   refine ⟨_,_,_,_,O,O,O,wt6,wt7,?_,?_⟩
   ·rw [r1,g1];simp only [r6,r7,←hk0,cells_take,cells_drop,Jr,List.append_assoc,Tr.row,List.append_nil,List.nil_append,hkk]
   ·rw [r1,g2];simp only [r6,r7,←hk0,cells_take,cells_drop,Jr,List.append_assoc,Tr.row,List.append_nil,List.nil_append,hkk]
theorem split_r (A:Option Addr) (t:Tr) (x:Int) (wt:Wf t) (hb:t.row.length≤1073741824) (hx:0≤x) (hx2:x≤1073741824):Sp Tryz.prog 136 [.pointer A, .int .i64 x] [] [TrF A t] (NP2 (t.row.take x.toNat) (t.row.drop x.toNat)):=split_n _ A t x wt hb hx hx2 (Nat.le_refl _)
structure RuI (s:ByteArray) (p:Nat) (acc:List Int) (v:Value) (pa:Part):Prop where
 le:p≤s.size
 len:acc.length≤p
 eq:J2 s=acc++runesAt s p
 row:Row 21 1 v acc.length (ints .i32 acc) pa
set_option maxRecDepth 10000 in
theorem Zh (s:ByteArray) (hs:s.size≤1073741824):Sp Tryz.prog 140 [.string s] [] [] (fun v Lo fs=> ∃A c,v= .slice A (J2 s).length c∧Lo= [] ∧fs= [RdF runeD A c (J2 s)]):=by
 refine Sp.of (n:=16) ⟨_,Tryz.func140,O,O,O,O⟩ (Nat.le_of_ble_eq_true O) fun Ps As=>Jc (Ja (Lq (Jd O) (Je (Jf (Jc (Ja (Lq (Jd O) (Je (Jf (Jc (Jc (Ja (Lq (Jb O) (Jg O (Ef Un9 O (by decide) fun b7=>Je (Jf (JE (Ky ?_))))))))))))))))))
 refine Kf (α:=Nat×List Int×Value×Part) (fun (p,acc,v,pa)=>s.size-p)
  (fun (p,acc,v,pa)=> [(3,v),(7, .pointer (some ⟨b7,0,none⟩))])
  (fun (p,acc,v,pa)=>(pa:: [(b7, .stringIter s p)] ::Ps))
  (fun (p,acc,v,pa)=>As)
  (fun (p,acc,v,pa)=>RuI s p acc v pa)
  (0,[], .slice none 0 0,[]) ?_ (.m2 rfl rfl) (Sk (Sk (Sr))) (fun _ h=>h) ?_
 ·exact ⟨Nat.zero_le _,Nat.le_refl _,O,Row.nil _ _⟩
 ·rintro ⟨p,acc,v,pa⟩ hI
  have hle:=hI.le
  have hal:=hI.len
  refine Jc ?_
  by_cases hp:p<s.size
  ·refine Ja (Jg O (Eg O hp .z1 (by decide) (Lq (Jk (vs:= [_,_,_]) O O) (Je (Jf (Jc (J1 O O (Jp (Jf (JE (Jc (Ja (Lq (Jk (vs:= [_,_,_]) O O) (Lq (Jd O) (Je (Jf (Ja (Lq (Jb O) (Lq (Jb O) ?_)))))))))))))))))))
   refine Jg O (KF (cs:= [_]) Un30 V1 (by decide) (by decide) O O O O (by decide) fun b13=>Jg O (KH (news:= [_]) Un30 V1 O (by decide) O O hI.row Jn O O (by omega) (by unfold maxLen;omega) (by decide) (DelAt.perm .z1) fun v14 p14 hr14=>Lq (Jd O) (Je (Ka (Kp ?_)))))
   have hd:=decode_pos s p
   have hd2:=decode_leP hp
   refine ⟨(p+(Utf8.decode s p).2,acc++ [((Utf8.decode s p).1:Int)],v14,p14),?_,(.m2 O O),(Sk (Sd (Sk (Sr)))),(fun _ h=>h)⟩
   exact ⟨by show s.size-(p+(Utf8.decode s p).2)<s.size-p;omega,by show p+(Utf8.decode s p).2≤s.size;exact hd2,by rw [List.length_append];show acc.length+1≤p+(Utf8.decode s p).2;omega,by rw [hI.eq,runesAt_next hp,List.append_assoc];rfl,by rw [KM,List.length_append];exact hr14⟩
  ·refine Ja (Jg O (Eh O (Ji (Jn)) hp (by decide) (Lq (Jk (vs:= [_]) O O) (Je (Jf (Jc (Jv O O (Kk (JL (JL (Kc (Jf (Jc ?_)))))))))))))
   have hdone:J2 s=acc:=by rw [hI.eq,runesAt_end hp,List.append_nil]
   subst hdone
   refine Ke (A:=RepsF runeD (J2 s) ((J2 s).map fun x=> [Value.int .i32 x])) (fun Z w _=>ints_reps _ _ Z w) (KJ (e:=runeD) (xs:=J2 s) (css:=(J2 s).map fun x=> [Value.int .i32 x]) (by rw [ints_flat];exact hI.row) .z O Mm0 fun A9 c9 e9=> ?_)
   cases e9
   refine Ja (Lq (Jb O) (Lq (Jd O) (Je (Jf (Jo ?_)))))
   refine ⟨_,[],[_],fun Z w hs=> .tmp O .nil,?_,fun Z w hs=>hs.out (Sd (Sr)) (Jl Mm0 Tt2)⟩
   exact ⟨_,_,O,O,O⟩
theorem tdiv_nat (a b:Nat) (h:a≤4611686018427387904):IntKind.i64.wrap ((a:Int).tdiv (b:Int))=((a / b:Nat):Int):=by
 rw [←Int.ofNat_tdiv]
 have:a / b≤a:=Nat.div_le_self a b
 generalize a / b=q at this
 exact wr64 (by omega)
theorem mul_nat (a b:Nat) (h:a*b≤4611686018427387904):IntKind.i64.wrap ((a:Int)*(b:Int))=((a*b:Nat):Int):=by
 rw [←Int.natCast_mul];exact wr64 (by omega)
def PcsP (row:List Ce):Value→List Part→List Fact→Prop:=fun v Lo fs=> ∃(A:Option Addr) (c:Nat) (ps:List Pc),v= .slice A ps.length c∧Lo= [] ∧fs= [RdF pcD A c ps] ∧PcOk ps∧pcsRow ps=row
def CuI (rs:List Int) (hid:Int) (K i:Nat) (v:Value) (p:Part) (css:List (List Value)):Prop:=i≤K∧Row 145 2 v (cutPcs rs hid K i).length css.flatten p
theorem bd118_0_1Xw28 (x0_A:Option Addr) (x0_n x0_c:Nat) (x1_:Int) (w:World):(Instr.build 145 #[(0, .slice x0_A x0_n x0_c),(1, .int .i64 x1_)]).run Tryz.prog w= .ok (.agg #[.slice x0_A x0_n x0_c, .int .i64 x1_]) w:=by kernel_rfl
set_option maxRecDepth 10000 in
theorem Ez (A:Option Addr) (c:Nat) (rs:List Int) (hid:Int) (hb:rs.length≤1073741824) (hh:0≤hid∧hid≤1048576):Sp Tryz.prog 139 [.slice A rs.length c, .int .i64 hid] [] [RdF runeD A c rs] (PcsP (cellsOf rs hid)):=by
 obtain ⟨K,hK⟩: ∃K:Nat,K=(rs.length+63) / 64:=⟨_,rfl⟩
 refine Sp.of (n:=39) ⟨_,Tryz.func139,O,O,O,O⟩ (Nat.le_of_ble_eq_true O) fun Ps As=>Jc (Ja (Lq (Jd O) (Je (Jf (Jc (Ja (Lq (Jb O) (Lq (J3 Un30 O) (Lq (JU O O (wr64 (by omega)) (c:=((rs.length+64:Nat):Int))) (Lq (KP O O (by rw [wr64 (by omega)];omega) (c:=((rs.length+63:Nat):Int))) (Lq (HK O O (by decide) (by rw [hK];exact tdiv_nat (rs.length+63) 64 (by omega)) (c:=((K:Nat):Int))) (Lq (Jd O) ?_))))))))))))
 refine Je (Jf (Jc (Ja (Lq (Jd O) (Je (Jf (Jc (Jc (Ja (Lq (Jb O) (Lq (Jb O) (Je (Jf (JE (Ky (Ke (A:=RepsF pcD [] []) (fun Z w _=> .nil) ?_))))))))))))))))
 refine Kf (α:=Nat×Value×Part×List (List Value)) (fun (i,v,p,css)=>K-i)
  (fun (i,v,p,css)=> [(0, .slice A rs.length c),(1, .int .i64 hid),(5, .int .i64 (K:Nat)),(6,v),(13, .int .i64 (K:Nat)),(14, .int .i64 i)])
  (fun (i,v,p,css)=>(p::Ps))
  (fun (i,v,p,css)=>(RepsF pcD (cutPcs rs hid K i) css::RdF runeD A c rs::As))
  (fun (i,v,p,css)=>CuI rs hid K i v p css)
  (0, .slice none 0 0,[],[]) ?_ (.m6 rfl rfl rfl rfl rfl rfl) (Sk (Sr)) (fun _ h=>h) ?_
 ·exact ⟨Nat.zero_le _,Row.nil _ _⟩
 ·rintro ⟨i,v,pa,css⟩ hI
  refine Jc (Ja (Lq (Km O O) (Je (Jf (Jc (Jy O (fun h15=> ?_) (fun h15=> ?_)))))))
  ·refine Jp (Jf (Jc (JE (Jc (Ja (Lq (Jb O) (Lq (Jd O) (Je (Jf ?_)))))))))
   try simp only [Bp,Bq] at *
   have hiK:i<K:=by omega
   have hK0:0<K:=by omega
   have hc1:=cutAt_lt (n:=rs.length) (k:=K) (i:=i) hK0 (by omega)
   have hc2:=EX (n:=rs.length) (k:=K) (i:=i+1) hK0 hiK
   have hm1:i*rs.length≤1073741824*1073741824:=Nat.mul_le_mul (by omega) hb
   have hm2:(i+1)*rs.length≤1073741824*1073741824:=Nat.mul_le_mul (by omega) hb
   have hpl:(cutPc rs hid K i).rs.length=cutAt rs.length K (i+1)-cutAt rs.length K i:=by unfold cutPc;simp only [List.length_drop,List.length_take];omega
   have hil:=QG rs hid K i
   refine GL Mm1 fun hcap=>Hx (cutAt rs.length K i) (cutAt rs.length K (i+1)) Mm1 (by omega) hc2 (JI _ _ [] (.c 0 0 (.c 1 0 (.c 2 0 (.c 3 0 (.c 4 0 (.c 5 0 (.c 6 0 (.c 7 0 (.c 8 0 (.c 9 0 (.c 10 0 (.c 11 0 (.c 12 0 (.c 13 0 (.c 14 0 (.c 15 0 (.c 16 0 (.c 17 0 (.c 18 2 (.c 19 2 (.c 20 0 .nil))))))))))))))))))))) mixed (fun _ _ _ _ h=>h) (Sd (Sr)) (fun _ h=>h) (by kernel_rfl) (by decide) fun ws Z0=>Qe O (Jb O) (Qe O (Jb O) (Qe O (Jb O) (Qe O (Jb O) (Qe O (J3 Un30 O) (Qe O (Jbv O O (mul_nat i rs.length (by omega))) (Qe O (Jb O) ?_)))))))
   refine Qe O (HK O O (by omega) (tdiv_nat (i*rs.length) K (by omega)) (c:=((cutAt rs.length K i:Nat):Int))) (Qe O (Jb O) (Qe O (JU O O (wr64 (by omega)) (c:=((i+1:Nat):Int))) (Qe O (Jb O) (Qe O (J3 Un30 O) (Qe O (Jbv O O (mul_nat (i+1) rs.length (by omega))) (Qe O (Jb O) (Qe O (HK O O (by omega) (tdiv_nat ((i+1)*rs.length) K (by omega)) (c:=((cutAt rs.length K (i+1):Nat):Int))) (Qe O (Gk (k:=cutAt rs.length K i) (m:=(cutPc rs hid K i).rs.length) (by omega) (by omega) Un30 V1 O O O (by omega) (by omega) (by omega)) (Qe O (Jb O) ?_)))))))))
   refine Qe O (JZ (.n2 O O) (bd118_0_1Xw28 _ _ _ _)) (Jz O O (KF (cs:= [_,_]) Un213 J0 (by decide) (by decide) O O O O (by decide) fun b35=> ?_))
   refine ⟨⟨(Sd (Sd (Sr))),Mm0⟩,?_⟩
   refine Jz O O (KH (news:= [_,_]) Un213 J0 O (by decide) O O hI.2 Jn O O (by omega) (by unfold maxLen;omega) (by decide) (DelAt.perm .z1) fun v36 p36 hr36=> ?_)
   refine ⟨⟨(Sd (Sd (Sr))),Mm0⟩,?_⟩
   refine Qe O (Jd O) (JN (JM (Ka (Jf (Vi (xs':=cutPcs rs hid K (i+1)) (u:=cutPc rs hid K i) (cs:=pcC (cutPc rs hid K i).rs hid (cutA A (cutAt rs.length K i) c 1) (c-cutAt rs.length K i)) Mm2 (fun Z w hs=>⟨_,_,O,hs.facts _ Mm1⟩) O (Ja (Lq (JU O O (wr64 (by omega)) (c:=((i+1:Nat):Int))) (Lq (Jb O) (Je (Kp ?_))))))))))
   refine ⟨(i+1,v36,p36,css++ [pcC (cutPc rs hid K i).rs hid (cutA A (cutAt rs.length K i) c 1) (c-cutAt rs.length K i)]),?_,(.m6 O O O O O O),(Sk (Sd (Sr))),(Jl Mm0 Tt4)⟩
   refine ⟨by show K-(i+1)<K-i;omega,hiK,?_⟩
   have e:(cutPcs rs hid K (i+1)).length=(cutPcs rs hid K i).length+1:=by rw [hil,QG]
   show Row 145 2 v36 (cutPcs rs hid K (i+1)).length _ p36
   rw [e,List.flatten_append];exact hr36
  ·refine Kk (JL (JL (Kc (Jf (Jc ?_)))))
   try simp only [Bp,Bq] at *
   obtain rfl:i=K:=by have:=hI.1;omega
   refine KJ (e:=pcD) (xs:=cutPcs rs hid i i) (css:=css) hI.2 .z O Mm0 fun A9 c9 e9=> ?_
   cases e9
   refine Ja (Lq (Jb O) (Lq (Jd O) (Je (Jf (Jo ?_)))))
   refine ⟨_,[],[_],fun Z w hs=> .tmp O .nil,?_,fun Z w hs=>hs.out (Sr) (Jl Mm0 Tt2)⟩
   by_cases hz:rs.length=0
   ·have h1:rs= [] :=List.length_eq_zero_iff.1 hz
    have h2:i=0:=by omega
    subst h2
    exact ⟨_,_,_,O,O,O,(fun p hp=>by simp [cutPcs] at hp),by rw [h1];rfl⟩
   ·obtain ⟨k1,k2⟩:=G5 (rs:=rs) (hid:=hid) (k:=i) (by omega) (by omega) hh i (Nat.le_refl _)
    exact ⟨_,_,_,O,O,O,k1,by rw [k2,cutAt_last (by omega),List.take_length]⟩
set_option maxRecDepth 10000 in
theorem Jab (A:Option Addr) (c:Nat) (ps:List Pc) (hok:PcOk ps) (hb:(pcsRow ps).length≤1073741824):Sp Tryz.prog 163 [.slice A ps.length c] [] [RdF pcD A c ps] (PcsP (pcsRow ps)):=by
 have hpl:=hok.len
 refine Sp.of (n:=49) ⟨_,Tryz.func163,O,O,O,O⟩ (Nat.le_of_ble_eq_true O) fun Ps As=>Jc (Ja (Lq (Jd O) (Je (Jf (Jc (Ja (Lq (Jd O) (Je (Jf (Jc (Jc (Ja (Lq (Jd O) (Je (Jf (JE (Ky (Ke (A:=RepsF pcD [] []) (fun Z w _=> .nil) ?_))))))))))))))))))
 refine Kf (α:=Nat×List Pc×Value×Part×List (List Value)) (fun (i,os,v,p,css)=>ps.length-i)
  (fun (i,os,v,p,css)=> [(0, .slice A ps.length c),(3,v),(4, .int .i64 i)])
  (fun (i,os,v,p,css)=>(p::Ps))
  (fun (i,os,v,p,css)=>(RepsF pcD os css::RdF pcD A c ps::As))
  (fun (i,os,v,p,css)=>EvI ps i os v p css)
  (0,[], .slice none 0 0,[],[]) ?_ (.m3 rfl rfl rfl) (Sk (Sr)) (fun _ h=>h) ?_
 ·exact ⟨Nat.zero_le _,Row.nil _ _,(fun p hp=>by cases hp),rfl⟩
 ·rintro ⟨i,os,v,pa,css⟩ hI
  refine Jc (Jc (Ja (Lq (Jb O) (Lq (Jb O) (Lq (J3 Un213 O) (Lq (Km O O) (Je (Jf (Jy O (fun h10=> ?_) (fun h10=> ?_))))))))))
  ·refine Jp (Jf (JE (Jc ?_)))
   try simp only [Bp,Bq] at *
   have hiL:i<ps.length:=by omega
   refine Kd (k:=i) Mm1 (List.getElem?_eq_getElem hiL) (pc_open _) fun bi qi yi ei=> ?_
   cases ei
   refine Ja (Lq (Jd O) (Je (Jf (Jc (Ja (Lq (Jb O) (Lq (Jd O) (Je (Jf (Jc (JE (Ky ?_))))))))))))
   refine Kf (α:=Nat×List Int×Value×Part) (fun (k,run,w,p)=>ps.length-k)
    (fun (k,run,w,p)=> [(0, .slice (some ⟨bi,qi,none⟩) ps.length c),(3,v),(4, .int .i64 i),(5,w),(6, .int .i64 k)])
    (fun (k,run,w,p)=>(p::pa::Ps))
    (fun (k,run,w,p)=>(FzA bi (qi+i*2) (pcC ps[i].rs ps[i].hid yi.1 yi.2)::RdF runeD yi.1 yi.2 ps[i].rs::RepsF pcD os css::RdF pcD (some ⟨bi,qi,none⟩) c ps::As))
    (fun (k,run,w,p)=>EvJ ps i k run ps[i].hid∧Row 21 1 w run.length (ints .i32 run) p)
    (i,[], .slice none 0 0,[]) ?_ (.m5 rfl rfl rfl rfl rfl) (Sk (Sk (Sr))) (fun _ h=>h) ?_
   ·exact ⟨⟨Nat.le_refl _,by omega,by rw [List.drop_eq_nil_of_le (by rw [List.length_take];omega)];rfl⟩,Row.nil _ _⟩
   ·rintro ⟨k,run,w,pr⟩ ⟨hJ,hR⟩
    have hkle:=hJ.le
    refine Jc (Jc ?_)
    by_cases hkL:k<ps.length
    ·refine GK (k:=k) Mm3 (List.getElem?_eq_getElem hkL) (pc_open _) fun yk=> ?_
     refine JI _ _ [] (.c 0 0 (.c 1 0 (.c 2 0 (.c 3 0 (.c 4 0 (.c 5 0 (.c 6 0 (.c 7 0 (.c 8 0 (.c 9 0 (.c 10 0 (.c 11 0 (.c 12 0 (.c 13 0 (.c 14 0 (.c 15 0 (.c 16 0 .nil))))))))))))))))) mixed (fun _ _ _ _ h=>h) (Sk (Sk (Sr))) (fun _ h=>h) (by kernel_rfl) (by decide) fun ws Z0=>Qe O (Jb O) (Qe O (Jb O) (Qe O (J3 Un213 O) (Qe O (Km O O) (Qe O (Jb O) (Ki O O O O (by simpa using hkL) (Jb O) (by decide) (Ki O O O O (by simpa using hkL) (Jb O) (by decide) (Ki O O O O (by simpa using hkL) (J7 Un213 J0 O O (by omega) (by omega)) (by decide) (Ki O O O O (by simpa using hkL) (Jh (o':=_+1) Un145 O ti3 O O) (by decide) ?_))))))))
     refine Ki O O O O (by simpa using hkL) (Kb (j:=1) Un3 O O Mm0 O O) (by decide) (Ki O O O O (by simpa using hkL) (Jb O) (by decide) (Ki O O O O (by simpa using hkL) (Jb O) (by decide) (Ki O O O O (by simpa using hkL) (J7 Un213 J0 O O (by omega) (by omega)) (by decide) (Ki O O O O (by simpa using hkL) (Jh (o':=_+1) Un145 O ti3 O O) (by decide) (Ki O O O O (by simpa using hkL) (Kb (j:=1) Un3 O O Mm2 O O) (by decide) (Ki O O O O (by simpa using hkL) (Kh O O) (by decide) (Qe O (JP O (by simpa using hkL) O) (JN (JM (Jf ?_))))))))))
     refine Jy O (fun h28=> ?_) (fun h28=> ?_)
     ·refine Jp (Jf (JE (Jc ?_)))
      try simp only [Bp,Bq] at *
      have hJn:=hJ.next hkL h28
      have hJl:=hJn.len
      rw [List.length_append] at hJl
      refine Ja (Lq (Jb O) (Lq (Jb O) (Lq (Jb O) (Lq (J7 Un213 J0 O O (by omega) (by omega)) (Lq (Jh (o':=_+0) Un145 O YT O O) (Lq (Kb (j:=0) Un30 O O Mm1 O O) (Jg O (YD (e:=runeD) (ys:=(ps[k]).rs) Un30 V1 O (by decide) O O hR Mm2 (by omega) (by unfold maxLen;omega) (by decide) (List.Perm.refl _) fun v35 p35 cs35 hr35=>Lq (Jd O) (Je (Jf ?_))))))))))
      refine HZ Mm0 fun hcs=>Ja (Lq (Jb O) (Lq (JU O O (wr64 (by omega)) (c:=((k+1:Nat):Int))) (Lq (Jd O) (Je (Ka (Kp ?_))))))
      refine ⟨(k+1,run++ps[k].rs,v35,p35),?_,(.m5 O O O O O),(Sk (Sk (Sr))),Tt4⟩
      refine ⟨by show ps.length-(k+1)<ps.length-k;omega,hJn,?_⟩
      rw [List.length_append,KM,←hcs];exact hr35
     ·refine Kk (JL (JL (Kc (Jf (Jc ?_)))))
      try simp only [Bp,Bq] at *
      have hik:i<k:=by
       rcases Nat.lt_or_ge i k with h | h
       ·exact h
       ·exfalso
        have e:k=i:=by have:=hJ.ik;omega
        first | (exact hkL (by omega)) | (subst e;exact h28 rfl)
      have hJl:=hJ.len
      have hIl:=hI.len
      refine Ke (A:=RepsF runeD run (run.map fun x=> [Value.int .i32 x])) (fun Z w _=>ints_reps _ _ Z w) (KJ (e:=runeD) (xs:=run) (css:=run.map fun x=> [Value.int .i32 x]) (by rw [ints_flat];exact hR) .z O Mm0 fun A9 c9 e9=> ?_)
      cases e9
      refine Ja (Lq (Jb O) (Lq (Jb O) (Lq (Jb O) (Lq (Jb O) (Lq (J7 Un213 J0 O O (by omega) (by omega)) (Lq (Jh (o':=_+1) Un145 O ti3 O O) (Lq (Kb (j:=1) Un3 O O Mm5 O O) (Jg O (Jm (Ez A9 c9 run ps[i].hid (by omega) (hok _ (List.getElem_mem hiL)).2) (.n2 O O) (by decide) (Jl Mm0 Jw) fun u9_7 Lo fs hres=> ?_)))))))))
      obtain ⟨A0,c0,qs,rfl,rfl,rfl,hqok,hqs⟩:=hres
      have hql:=hqok.len
      rw [hqs,Jr] at hql
      refine Jg O (YD (e:=pcD) (ys:=qs) Un213 J0 O (by decide) O O hI.row Mm0 (by omega) (by unfold maxLen;omega) (by decide) (List.Perm.refl _) fun v46 p46 cs46 hr46=>Lq (Jd O) (Je (Jf (GJ Mm9 Mm0 (Ja (Lq (Jb O) (Lq (Jd O) (Je (Ka (Kp ?_))))))))))
      refine ⟨(k,os++qs,v46,p46,css++cs46),?_,(.m3 O O O),(Sk (Sr)),(Jl Mm0 Tt11)⟩
      refine ⟨by show ps.length-k<ps.length-i;omega,hJ.le,by rw [List.length_append,List.flatten_append];exact hr46,PcOk.append.2 ⟨hI.ok,hqok⟩,?_⟩
      rw [KK,hqs,hI.eq,hJ.done]
    ·refine JI _ _ [] (.c 0 0 (.c 1 0 (.c 2 0 (.c 3 0 (.c 4 0 (.c 5 0 (.c 6 0 (.c 7 0 (.c 8 0 (.c 9 0 (.c 10 0 (.c 11 0 (.c 12 0 (.c 13 0 (.c 14 0 (.c 15 0 (.c 16 0 .nil))))))))))))))))) mixed (fun _ _ _ _ h=>h) (Sk (Sk (Sr))) (fun _ h=>h) (by kernel_rfl) (by decide) fun ws Z0=>Qe O (Jb O) (Qe O (Jb O) (Qe O (J3 Un213 O) (Qe O (Km O O) (Qe O (Jb O) (Kr O O O O (by simpa using hkL) (by decide) (Kr O O O O (by simpa using hkL) (by decide) (Kr O O O O (by simpa using hkL) (by decide) (Kr O O O O (by simpa using hkL) (by decide) ?_))))))))
     refine Kr O O O O (by simpa using hkL) (by decide) (Kr O O O O (by simpa using hkL) (by decide) (Kr O O O O (by simpa using hkL) (by decide) (Kr O O O O (by simpa using hkL) (by decide) (Kr O O O O (by simpa using hkL) (by decide) (Kr O O O O (by simpa using hkL) (by decide) (Kr O O O O (by simpa using hkL) (by decide) (Qe O (JH O (by simpa using hkL) O) (JN (JM (Jf (Jv O O (Kk (JL (JL (Kc (Jf (Jc ?_)))))))))))))))))
     try simp only [Bp,Bq] at *
     have hik:i<k:=by
      rcases Nat.lt_or_ge i k with h | h
      ·exact h
      ·exfalso
       have e:k=i:=by have:=hJ.ik;omega
       first | (exact hkL (by omega)) | (subst e;exact h28 rfl)
     have hJl:=hJ.len
     have hIl:=hI.len
     refine Ke (A:=RepsF runeD run (run.map fun x=> [Value.int .i32 x])) (fun Z w _=>ints_reps _ _ Z w) (KJ (e:=runeD) (xs:=run) (css:=run.map fun x=> [Value.int .i32 x]) (by rw [ints_flat];exact hR) .z O Mm0 fun A9 c9 e9=> ?_)
     cases e9
     refine Ja (Lq (Jb O) (Lq (Jb O) (Lq (Jb O) (Lq (Jb O) (Lq (J7 Un213 J0 O O (by omega) (by omega)) (Lq (Jh (o':=_+1) Un145 O ti3 O O) (Lq (Kb (j:=1) Un3 O O Mm3 O O) (Jg O (Jm (Ez A9 c9 run ps[i].hid (by omega) (hok _ (List.getElem_mem hiL)).2) (.n2 O O) (by decide) (Jl Mm0 Jw) fun u9_7 Lo fs hres=> ?_)))))))))
     obtain ⟨A0,c0,qs,rfl,rfl,rfl,hqok,hqs⟩:=hres
     have hql:=hqok.len
     rw [hqs,Jr] at hql
     refine Jg O (YD (e:=pcD) (ys:=qs) Un213 J0 O (by decide) O O hI.row Mm0 (by omega) (by unfold maxLen;omega) (by decide) (List.Perm.refl _) fun v46 p46 cs46 hr46=>Lq (Jd O) (Je (Jf (GJ Mm7 Mm0 (Ja (Lq (Jb O) (Lq (Jd O) (Je (Ka (Kp ?_))))))))))
     refine ⟨(k,os++qs,v46,p46,css++cs46),?_,(.m3 O O O),(Sk (Sr)),(Jl Mm0 Tt9)⟩
     refine ⟨by show ps.length-k<ps.length-i;omega,hJ.le,by rw [List.length_append,List.flatten_append];exact hr46,PcOk.append.2 ⟨hI.ok,hqok⟩,?_⟩
     rw [KK,hqs,hI.eq,hJ.done]
  ·refine Kk (JL (JL (Kc (Jf (Jc ?_)))))
   try simp only [Bp,Bq] at *
   have hfin:i=ps.length:=by have:=hI.le;omega
   refine KJ (e:=pcD) (xs:=os) (css:=css) hI.row .z O Mm0 fun A8 c8 e8=> ?_
   cases e8
   refine Ja (Lq (Jb O) (Lq (Jd O) (Je (Jf (Jo ?_)))))
   refine ⟨_,[],[_],fun Z w hs=> .tmp O .nil,?_,fun Z w hs=>hs.out (Sr) (Jl Mm0 Tt2)⟩
   exact ⟨_,_,_,O,O,O,hI.ok,by rw [hI.eq,hfin,List.take_length]⟩
theorem PcOk.take {ps:List Pc} (h:PcOk ps) (k:Nat):PcOk (ps.take k):=fun p hp=>h p (List.mem_of_mem_take hp)
theorem PcOk.drop {ps:List Pc} (h:PcOk ps) (k:Nat):PcOk (ps.drop k):=fun p hp=>h p (List.mem_of_mem_drop hp)
theorem Zm {ps:List Pc} {k:Nat} (hk:k<ps.length):pcsRow ps=pcsRow (ps.take k)++(cellsOf ps[k].rs ps[k].hid++pcsRow (ps.drop (k+1))):=by
 conv=>lhs;rw [←List.take_append_drop k ps,List.drop_eq_getElem_cons hk]
 rw [KK,Vv]
set_option maxRecDepth 10000 in
theorem build_n (N:Nat): ∀(A:Option Addr) (c:Nat) (ps:List Pc) (hok:PcOk ps) (hb:(pcsRow ps).length≤1073741824),ps.length≤N→Sp Tryz.prog 138 [.slice A ps.length c] [] [RdF pcD A c ps] (NP (pcsRow ps)):=by
 induction N using Nat.strongRecOn
 rename_i N ih
 intro A c ps hok hb hN
 have hpl:=hok.len
 obtain ⟨k0,hk0⟩: ∃k0:Nat,k0=ps.length / 2:=⟨_,rfl⟩
 refine Sp.of (n:=24) ⟨_,Tryz.func138,O,O,O,O⟩ (Nat.le_of_ble_eq_true O) fun Ps As=>Jc (Ja (Lq (Jd O) (Je (Jf (Jc (Jc (Ja (Lq (Jb O) (Lq (J3 Un213 O) (Lq (Kh O O) (Je (Jf (Jy O (fun h6=> ?_) (fun h6=> ?_))))))))))))))
 ·refine Jc (Ke (A:=TrF none .nil) (fun _ _ _=>O) (Ja (Lq (Jd O) (Je (Jf (Jo (Js ?_)))))))
  refine ⟨_,[],[_],fun Z w hs=> .tmp O .nil,?_,fun Z w hs=>hs.out (Sr) (fun _ h=>h)⟩
  try simp only [Bp,Bq] at *
  have hz:ps= [] :=List.length_eq_zero_iff.1 (by omega)
  exact ⟨_,_,O,O,O,wnilT,by rw [hz];rfl⟩
 ·refine Jp (Jf (Jc (Ja (Lq (Jb O) (Lq (J3 Un213 O) (Lq (HK O O (by decide) (by rw [hk0];exact tdiv_nat ps.length 2 (by omega)) (c:=(k0:Int))) (Lq (Jd O) (Je (Jf (Jc ?_))))))))))
  try simp only [Bp,Bq] at *
  have hkl:k0<ps.length:=by omega
  have r0:=Zm hkl
  have e0:=congrArg List.length r0
  simp only [List.length_append,Jr] at e0
  have ht1:(ps.take k0).length=k0:=by rw [List.length_take];omega
  have hd1:(ps.drop (k0+1)).length=ps.length-(k0+1):=by rw [List.length_drop]
  refine GL Mm0 fun hcap=>Kd (k:=k0) Mm0 (List.getElem?_eq_getElem hkl) (pc_open _) fun bk qk yk ek=> ?_
  cases ek
  refine Xd k0 Mm2 (by omega) (Xc (k0+1) Mm3 (by omega) (JI _ _ [] (.c 0 0 (.c 1 0 (.c 2 0 (.c 4 0 (.c 5 0 (.c 6 0 (.c 7 0 (.c 8 0 (.c 9 0 (.c 10 0 (.c 11 0 (.c 3 2 (.c 12 2 (.c 13 2 (.c 14 0 .nil))))))))))))))) mixed (fun _ _ _ _ h=>h) (Sr) (fun _ h=>h) (by kernel_rfl) (by decide) fun ws Z0=>Qe O (Jb O) (Qe O (Jb O) (Qe O (Vt (m:=(ps.take k0).length) (by omega) Un213 J0 O O (by omega) (by omega)) (Qe O (Jb O) (Qe O (Jb O) (Qe O (J7 Un213 J0 O O (by omega) (by omega)) (Qe O (Kq (k:=0) (vs:= [_,_]) Un145 O J0 O Mm2 O O O) ?_))))))))
  refine Qe O (Jb O) (Qe O (Jb O) (Qe O (JU O O (wr64 (by omega)) (c:=((k0+1:Nat):Int))) (Qe O (Vs (j:=k0+1) (m:=(ps.drop (k0+1)).length) (by omega) (by omega) Un213 J0 O O (by omega) (by omega)) (Jz O O (Jm (ih (ps.take k0).length (by omega) (cutA (some ⟨bk,qk,none⟩) 0 c 2) c (ps.take k0) (hok.take k0) (by omega) (Nat.le_refl _)) (.n1 O) (by decide) (Jl Mm2 Jw) fun u4_3 Lo fs hres=> ?_)))))
  obtain ⟨T1,t1,rfl,rfl,rfl,wt1,r1⟩:=hres
  have e1:=congrArg List.length r1
  refine ⟨⟨(Sr),Mm1⟩,?_⟩
  refine Jz O O (Jm (ih (ps.drop (k0+1)).length (by omega) (cutA (some ⟨bk,qk,none⟩) (k0+1) c 2) (c-(k0+1)) (ps.drop (k0+1)) (hok.drop (k0+1)) (by omega) (Nat.le_refl _)) (.n1 O) (by decide) (Jl Mm2 Jw) fun u4_12 Lo fs hres=> ?_)
  obtain ⟨T2,t2,rfl,rfl,rfl,wt2,r2⟩:=hres
  have e2:=congrArg List.length r2
  refine ⟨⟨(Sr),Mm2⟩,?_⟩
  refine Jz O O (Jm (knot_r T1 T2 yk.1 yk.2 t1 t2 (ps[k0]).rs (ps[k0]).hid wt1 wt2 (hok _ (List.getElem_mem hkl)).1 (hok _ (List.getElem_mem hkl)).2 (by omega)) (.n3 O O O) (by decide) (Jl Mm1 (Jl Mm0 (Jl Mm6 Jw))) fun u4_13 Lo fs hres=> ?_)
  obtain ⟨T3,t3,rfl,rfl,rfl,wt3,r3⟩:=hres
  have e3:=congrArg List.length r3
  simp only [List.length_append,Jr,Tr.row,List.length_nil,List.length_take,List.length_drop] at e3
  refine ⟨⟨(Sr),Mm3⟩,?_⟩
  refine Qe O (Jd O) (JN (JM (Jf (JF [(2,_)] (.m1 O) (Jo ?_)))))
  refine ⟨_,[],[_],fun Z w hs=> .tmp O .nil,?_,fun Z w hs=>hs.out (Sr) (Jl Mm0 Tt8)⟩
  exact ⟨_,_,O,O,O,wt3,by rw [r0];simp only [r1,r2,r3,List.append_assoc]⟩
theorem build_r (A:Option Addr) (c:Nat) (ps:List Pc) (hok:PcOk ps) (hb:(pcsRow ps).length≤1073741824):Sp Tryz.prog 138 [.slice A ps.length c] [] [RdF pcD A c ps] (NP (pcsRow ps)):=build_n _ A c ps hok hb (Nat.le_refl _)
theorem Row.single {T:TypeId} {sz b:Nat} {cs:List Value} (hl:cs.length=sz):Row T sz (.slice (some ⟨b,0,none⟩) 1 1) 1 cs [(b,JB cs T)] :=
 ⟨by rw [hl,Nat.one_mul], .inr ⟨b,1,[],rfl,by simp,by simp [hl],Nat.le_refl _,by simp [maxLen]⟩⟩
structure MeL (X:List Ce) (j:Nat) (t:Tr) (S:List Pc) (v:Value) (p:Part) (css:List (List Value)):Prop where
 le:j≤2
 wf:Wf t
 ok:PcOk S
 eq:t.row++pcsRow S=X
 row:Row 145 2 v S.length css.flatten p
structure MeR (X:List Ce) (l:Tr) (j:Nat) (t:Tr) (S:List Pc) (v:Value) (p:Part) (css:List (List Value)):Prop where
 le:j≤2
 wf:Wf t
 ok:PcOk S
 eq:l.row++(pcsRow S++t.row)=X
 row:Row 145 2 v S.length css.flatten p
structure MeJ (X:List Ce) (qs:List Pc) (i:Nat) (t:Tr):Prop where
 le:i≤qs.length
 wf:Wf t
 eq:t.row=X++pcsRow (qs.take i)
set_option maxRecDepth 10000 in
theorem mend_r (Al Ar:Option Addr) (l r:Tr) (wl:Wf l) (wr:Wf r) (hb:l.row.length+r.row.length≤1073741824):Sp Tryz.prog 137 [.pointer Al, .pointer Ar] [] [TrF Al l,TrF Ar r] (NP (l.row++r.row)):=by
 refine Sp.of (n:=67) ⟨_,Tryz.func137,O,O,O,O⟩ (Nat.le_of_ble_eq_true O) fun Ps As=>Ke (A:=TrF none .nil) (fun _ _ _=>O) (Jc (Ja (Lq (Jd O) (Je (Jf (Jc (Ja (Lq (Jd O) (Je (Jf (Jc (Jc (Ja (Lq (Jb O) (Je (Jf (JE (Ky ?_))))))))))))))))))
 refine Ke (A:=RepsF pcD [] []) (fun Z w _=> .nil) ?_
 refine Kf (α:=Nat×Option Addr×Tr×Value×Part×List Pc×List (List Value)) (fun (j,A,t,v,p,S,css)=>2-j)
  (fun (j,A,t,v,p,S,css)=> [(0, .pointer A),(1, .pointer Ar),(5,v),(14, .int .i64 j)])
  (fun (j,A,t,v,p,S,css)=>(p::Ps))
  (fun (j,A,t,v,p,S,css)=>(TrF A t::RepsF pcD S css::TrF none .nil::TrF Al l::TrF Ar r::As))
  (fun (j,A,t,v,p,S,css)=>MeL l.row j t S v p css)
  (0,Al,l, .slice none 0 0,[],[],[]) ?_ (.m4 rfl rfl rfl rfl) (Sk (Sr)) (Jl Mm2 (fun _ h=>h)) ?_
 ·exact ⟨Nat.zero_le _,wl,(fun p hp=>by cases hp),by simp [pcsRow],Row.nil _ _⟩
 ·rintro ⟨j,AL,tL,v,pa,S,css⟩ hI
  have wtL:=hI.wf
  have eI:=congrArg List.length hI.eq
  simp only [List.length_append] at eI
  have okl:=hI.ok.len
  refine Jc (Ja (Lq (Km O O) (Je (Jf (Jc (Jy O (fun h15=> ?_) (fun h15=> ?_)))))))
  ·have hj2:j<2:=by simp only [decide_eq_true_eq] at h15;omega
   refine Jp (Jf (Jc (JE (Jc ?_))))
   by_cases hztL:tL= .nil
   ·rw [hztL]
    refine VL Mm0 fun e=> ?_
    subst e
    refine Ja (Lq (Jb O) (Lq (QW Un141 O O (by simp)) (Je (Jf (Jv O O (Jp (Ka (Jf (Ja (Lq (JU O O (wr64 (by omega)) (c:=((j+1:Nat):Int))) (Lq (Jb O) (Je (Kp ?_)))))))))))))
    refine ⟨(j+1,none, .nil,v,pa,S,css),?_,(.m4 O O O O),(Sk (Sr)),(fun _ h=>h)⟩
    exact ⟨by show 2-(j+1)<2-j;omega,by omega,wnilT,hI.ok,by rw [←hztL];exact hI.eq,hI.row⟩
   ·refine Vg Mm0 hztL fun _ e=> ?_
    subst e
    refine Ja (Lq (Jb O) (Lq (QW Un141 O O (by simp)) (Je (Jf (J1 O O (Jc (Ja (Lq (Jb O) (Jg O (Jm (popLast_r _ tL wtL hztL (by omega)) (.n1 O) (by decide) (Jl Mm0 Jw) fun u5_1 Lo fs hres=> ?_))))))))))
    obtain ⟨A1,t1,s1,k1,C1,d1,rfl,rfl,rfl,wt1,n1,h1,r1⟩:=hres
    have e1:=congrArg List.length r1
    simp only [List.length_append,Jr] at e1
    have g1:=List.length_pos_iff.2 n1
    refine Lq (Jb O) (Lq (Jk (vs:= [_,_]) O O) (Lq (Jk (vs:= [_,_]) O O) (Jg O (Ju (cs:= [_,_]) J0 O (by decide) fun b7=>Lq (Jd O) (Jg O (Jq (cs':= [_,_]) (vs:= [_,_]) J0 O O O O O (Nat.le_of_ble_eq_true O) .z (Je (Jf (KJ (e:=pcD) (xs:=S) (css:=css) hI.row .z1 O Mm3 fun A6 c6 e6=> ?_)))))))))
    cases e6
    refine Ja (Lq (Jb O) (Lq (Jt (vs:= [_,_]) Un145 O J0 O Jn O O) (Jg O (KF (cs:= [_,_]) Un213 J0 (by decide) (by decide) O O O O (by decide) fun b25=>Lq (Jb O) (Jg O (YD (e:=pcD) (ys:=S) Un213 J0 O (by decide) O O (Row.single O) Mm0 (by omega) (by unfold maxLen;omega) (by decide) (List.Perm.refl _) fun v27 p27 cs27 hr27=>Lq (Jd O) (Lq (Jd O) (Je (Ka (Jf (Ke (A:=RepsF pcD (⟨s1,k1⟩::S) (pcC s1 k1 C1 d1::cs27)) (fun Z w hs=> .cons ⟨_,_,O,hs.facts _ Mm3⟩ (hs.facts _ Mm0)) ?_)))))))))))
    refine Ja (Lq (JU O O (wr64 (by omega)) (c:=((j+1:Nat):Int))) (Lq (Jb O) (Je (Kp ?_))))
    refine ⟨(j+1,A1,t1,v27,p27,⟨s1,k1⟩::S,pcC s1 k1 C1 d1::cs27),?_,(.m4 O O O O),(Sk (Sd (Sr))),(Jl Mm3 (Jl Mm0 Tt7))⟩
    refine ⟨by show 2-(j+1)<2-j;omega,by omega,wt1,fun p hp=> ?_,by rw [Vv,←List.append_assoc,←r1];exact hI.eq,?_⟩
    ·rcases List.mem_cons.1 hp with rfl | hp
     ·exact ⟨n1,h1⟩
     ·exact hI.ok p hp
    ·rw [List.length_cons,Nat.add_comm,List.flatten_cons];exact hr27
  ·refine Kk (JL (JL (Kc (Jf (Jc (Jc (Ja (Lq (Jb O) (Je (Jf (JE ?_)))))))))))
   have hL:=hI
   clear hI
   have wtL:=hL.wf
   refine Kf (α:=Nat×Option Addr×Tr×Value×Part×List Pc×List (List Value)) (fun (j,A,t,v,p,S,css)=>2-j)
    (fun (j,A,t,v,p,S,css)=> [(1, .pointer A),(0, .pointer AL),(5,v),(29, .int .i64 j)])
    (fun (j,A,t,v,p,S,css)=>(p::Ps))
    (fun (j,A,t,v,p,S,css)=>(TrF A t::RepsF pcD S css::TrF AL tL::TrF none .nil::TrF Al l::TrF Ar r::As))
    (fun (j,A,t,v,p,S,css)=>MeR (l.row++r.row) tL j t S v p css)
    (0,Ar,r,v,pa,S,css) ?_ (.m4 rfl rfl rfl rfl) (Sk (Sr)) (Jl Mm4 (Jl Mm1 (Jl Mm0 Tt2))) ?_
   ·exact ⟨Nat.zero_le _,wr,hL.ok,by rw [←List.append_assoc,hL.eq],hL.row⟩
   ·rintro ⟨j,AR,tR,v,pa,S,css⟩ hI
    have wtR:=hI.wf
    have eI:=congrArg List.length hI.eq
    simp only [List.length_append] at eI
    have okl:=hI.ok.len
    refine Jc (Ja (Lq (Km O O) (Je (Jf (Jc (Jy O (fun h30=> ?_) (fun h30=> ?_)))))))
    ·have hj2:j<2:=by simp only [decide_eq_true_eq] at h30;omega
     refine Jp (Jf (Jc (JE (Jc ?_))))
     by_cases hztR:tR= .nil
     ·rw [hztR]
      refine VL Mm0 fun e=> ?_
      subst e
      refine Ja (Lq (Jb O) (Lq (QW Un141 O O (by simp)) (Je (Jf (Jv O O (Jp (Ka (Jf (Ja (Lq (JU O O (wr64 (by omega)) (c:=((j+1:Nat):Int))) (Lq (Jb O) (Je (Kp ?_)))))))))))))
      refine ⟨(j+1,none, .nil,v,pa,S,css),?_,(.m4 O O O O),(Sk (Sr)),(fun _ h=>h)⟩
      exact ⟨by show 2-(j+1)<2-j;omega,by omega,wnilT,hI.ok,by rw [←hztR];exact hI.eq,hI.row⟩
     ·refine Vg Mm0 hztR fun _ e=> ?_
      subst e
      refine Ja (Lq (Jb O) (Lq (QW Un141 O O (by simp)) (Je (Jf (J1 O O (Jc (Ja (Lq (Jb O) (Jg O (Jm (popFirst_r _ tR wtR hztR (by omega)) (.n1 O) (by decide) (Jl Mm0 Jw) fun u11_1 Lo fs hres=> ?_))))))))))
      obtain ⟨A2,t2,s2,k2,C2,d2,rfl,rfl,rfl,wt2,n2,h2,r2⟩:=hres
      have e2:=congrArg List.length r2
      simp only [List.length_append,Jr] at e2
      have g2:=List.length_pos_iff.2 n2
      refine Lq (Jb O) (Lq (Jk (vs:= [_,_]) O O) (Lq (Jk (vs:= [_,_]) O O) (Jg O (Ju (cs:= [_,_]) J0 O (by decide) fun b8=>Jg O (Jq (cs':= [_,_]) (vs:= [_,_]) J0 O O O O O (Nat.le_of_ble_eq_true O) .z (Lq (Jd O) (Je (Jf (Ja (Lq (Jb O) (Lq (Jb O) (Lq (Jt (vs:= [_,_]) Un145 O J0 O Jn O O) ?_))))))))))))
      refine Jg O (KF (cs:= [_,_]) Un213 J0 (by decide) (by decide) O O O O (by decide) fun b41=>Jg O (KH (news:= [_,_]) Un213 J0 O (by decide) O O hI.row Jn O O (by omega) (by unfold maxLen;omega) (by decide) (DelAt.perm .z2) fun v42 p42 hr42=>Lq (Jd O) (Lq (Jd O) (Je (Ka (Jf (Vi (u:=(⟨s2,k2⟩:Pc)) (cs:=pcC s2 k2 C2 d2) Mm3 (fun Z w hs=>⟨_,_,O,hs.facts _ Mm1⟩) O (Ja (Lq (JU O O (wr64 (by omega)) (c:=((j+1:Nat):Int))) (Lq (Jb O) (Je (Kp ?_))))))))))))
      refine ⟨(j+1,A2,t2,v42,p42,S++ [⟨s2,k2⟩],css++ [pcC s2 k2 C2 d2]),?_,(.m4 O O O O),(Sk (Sd (Sd (Sr)))),(Jl Mm1 (Jl Mm0 Tt5))⟩
      refine ⟨by show 2-(j+1)<2-j;omega,by omega,wt2,PcOk.append.2 ⟨hI.ok,PcOk.one n2 h2⟩,?_,?_⟩
      ·rw [KK,Qp,List.append_assoc,←r2];exact hI.eq
      ·rw [List.length_append,List.flatten_append];exact hr42
    ·refine Kk (JL (JL (Kc (Jf (Jc (Jc (KJ (e:=pcD) (xs:=S) (css:=css) hI.row .z O Mm1 fun A14 c14 e14=> ?_)))))))
     cases e14
     refine Ja (Lq (Jb O) (Jg O (Jm (Jab A14 c14 S hI.ok (by omega)) (.n1 O) (by decide) (Jl Mm0 Jw) fun u14_1 Lo fs hres=> ?_)))
     obtain ⟨Aq,cq,qs,rfl,rfl,rfl,hqok,hqs⟩:=hres
     have eq0:=congrArg List.length hqs
     have hql:=hqok.len
     refine Lq (J3 Un213 O) (Lq (Jb O) (Je (Jf (JE ?_))))
     refine Kf (α:=Nat×Option Addr×Tr) (fun (i,A,t)=>qs.length-i)
      (fun (i,A,t)=> [(0, .pointer A),(1, .pointer AR),(45, .slice Aq qs.length cq),(46, .int .i64 qs.length),(47, .int .i64 i)])
      (fun (i,A,t)=>Ps)
      (fun (i,A,t)=>(TrF A t::RdF pcD Aq cq qs::TrF AR tR::TrF none .nil::TrF Al l::TrF Ar r::As))
      (fun (i,A,t)=>MeJ tL.row qs i t)
      (0,AL,tL) ?_ (.m5 rfl rfl rfl rfl rfl) (Sr) (Jl Mm4 (Jl Mm0 (Jl Mm2 Tt5))) ?_
     ·exact ⟨Nat.zero_le _,wtL,by simp [pcsRow]⟩
     ·rintro ⟨i,AJ,tJ⟩ hJ
      have wtJ:=hJ.wf
      refine Jc (Ja (Lq (Km O O) (Je (Jf (Jc (Jy O (fun h48=> ?_) (fun h48=> ?_)))))))
      ·refine Jp (Jf (Jc (JE (Jc ?_))))
       try simp only [Bp,Bq] at *
       have hiq:i<qs.length:=by omega
       have hsub:=Q9 qs 0 i
       have hsub2:=Q9 qs 0 (i+1)
       rw [List.drop_zero] at hsub hsub2
       have ht1:qs.take (i+1)=qs.take i++ [qs[i]] :=by rw [List.take_succ_eq_append_getElem hiq]
       rw [ht1,KK,Qp,List.length_append,Jr] at hsub2
       have eJ:=congrArg List.length hJ.eq
       rw [List.length_append] at eJ
       refine Kd (k:=i) Mm1 (List.getElem?_eq_getElem hiq) (pc_open _) fun bk qk yk ek=> ?_
       cases ek
       refine Ja (Lq (J7 Un213 J0 O O (by omega) (by omega)) (Lq (Kq (k:=0) (vs:= [_,_]) Un145 O J0 O Mm0 O O O) (Jg O (Ju (cs:= [_,_]) J0 O (by decide) fun b11=>Jg O (Jq (cs':= [_,_]) (vs:= [_,_]) J0 O O O O O (Nat.le_of_ble_eq_true O) .z (Je (Jf (Ja (Lq (Jb O) (Lq (Jt (vs:= [_,_]) Un145 O J0 O Jn O O) ?_))))))))))
       refine Jg O (Jm (join_r AJ none yk.1 yk.2 tJ Tr.nil (qs[i]).rs (qs[i]).hid wtJ wnilT (hqok _ (List.getElem_mem hiq)).1 (hqok _ (List.getElem_mem hiq)).2 (by simp only [Tr.row,List.length_nil];omega)) (.n3 O O O) (by decide) (Jl Mm2 (Jl Mm5 (Jl Mm1 Jw))) fun u17_2 Lo fs hres=> ?_)
       obtain ⟨T3,t3,rfl,rfl,rfl,wt3,r3⟩:=hres
       have e3:=congrArg List.length r3
       simp only [List.length_append,Jr,Tr.row,List.length_nil,List.length_take,List.length_drop] at e3
       refine Lq (Jd O) (Je (Ka (Jf (Ja (Lq (JU O O (wr64 (by omega)) (c:=((i+1:Nat):Int))) (Lq (Jb O) (Je (Kp ?_))))))))
       refine ⟨(i+1,T3,t3),?_,(.m5 O O O O O),(Sd (Sr)),(Jl Mm0 Tt4)⟩
       exact ⟨by show qs.length-(i+1)<qs.length-i;omega,hiq,wt3,by rw [r3,hJ.eq,ht1,KK,Qp];simp [Tr.row]⟩
      ·refine Kk (JL (JL (Kc (Jf (Jc (Jc ?_))))))
       try simp only [Bp,Bq] at *
       have hfin:i=qs.length:=by have:=hJ.le;omega
       have rJ:tJ.row++tR.row=l.row++r.row:=by rw [hJ.eq,hfin,List.take_length,hqs,List.append_assoc];exact hI.eq
       have eJ:=congrArg List.length rJ
       simp only [List.length_append] at eJ
       by_cases hztR:tR= .nil
       ·rw [hztR]
        refine VL Mm2 fun e=> ?_
        subst e
        refine Ja (Lq (Jb O) (Lq (KN Un141 O O (by simp)) (Je (Jf (J1 O O (Jc (Ja (Lq (Jb O) (Lq (Jd O) (Je (Jf (Jo (Js ?_)))))))))))))
        refine ⟨_,[],[_],fun Z w hs=> .tmp O .nil,?_,fun Z w hs=>hs.out (Sr) (Jl Mm0 Tt4)⟩
        exact ⟨_,_,O,O,O,wtJ,by rw [←rJ,hztR];simp [Tr.row]⟩
       ·refine Vg Mm2 hztR fun _ e=> ?_
        subst e
        refine Ja (Lq (Jb O) (Lq (KN Un141 O O (by simp)) (Je (Jf (Jv O O (Jp (Jf (Jc (Ja (Lq (Jb O) (Jg O (Jm (popFirst_r _ tR wtR hztR (by omega)) (.n1 O) (by decide) (Jl Mm2 Jw) fun u21_1 Lo fs hres=> ?_))))))))))))
        obtain ⟨A4,t4,s4,k4,C4,d4,rfl,rfl,rfl,wt4,n4,h4,r4⟩:=hres
        have e4:=congrArg List.length r4
        simp only [List.length_append,Jr] at e4
        have g4:=List.length_pos_iff.2 n4
        refine Lq (Jb O) (Lq (Jk (vs:= [_,_]) O O) (Lq (Jk (vs:= [_,_]) O O) (Jg O (Ju (cs:= [_,_]) J0 O (by decide) fun b12=>Jg O (Jq (cs':= [_,_]) (vs:= [_,_]) J0 O O O O O (Nat.le_of_ble_eq_true O) .z (Lq (Jd O) (Je (Jf (Jc (Ja (Lq (Jb O) (Lq (Jt (vs:= [_,_]) Un145 O J0 O Jn O O) (Lq (Jb O) ?_)))))))))))))
        refine Jg O (Jm (join_r AJ A4 C4 d4 tJ t4 s4 k4 wtJ wt4 n4 h4 (by omega)) (.n3 O O O) (by decide) (Jl Mm2 (Jl Mm0 (Jl Mm1 Jw))) fun u22_3 Lo fs hres=> ?_)
        obtain ⟨T5,t5,rfl,rfl,rfl,wt5,r5⟩:=hres
        have e5:=congrArg List.length r5
        simp only [List.length_append,Jr,Tr.row,List.length_nil,List.length_take,List.length_drop] at e5
        refine Lq (Jd O) (Je (Jf (Jo ?_)))
        refine ⟨_,[],[_],fun Z w hs=> .tmp O .nil,?_,fun Z w hs=>hs.out (Sd (Sr)) (Jl Mm0 Tt7)⟩
        exact ⟨_,_,O,O,O,wt5,by rw [r5,←rJ,r4]⟩
theorem bd115Xw32 (w:World):(Instr.build 143 #[]).run Tryz.prog w= .ok (.agg #[.pointer none]) w:=by kernel_rfl
set_option maxRecDepth 10000 in
theorem Jb6:Sp Tryz.prog 69 [] [] [] (fun v Lo fs=> ∃b:Nat,v= .pointer (some ⟨b,0,none⟩)∧Lo= [rpP b none] ∧fs= []):=by
 refine Sp.of (n:=3) ⟨_,Tryz.func69,O,O,O,O⟩ (Nat.le_of_ble_eq_true O) fun Ps As=>Jc (Ja (Lq (Jd O) (Je (Jf (Jc (Ja (Lq (JZ .nil (bd115Xw32)) (Jg O (J9 (cs:= [_]) O O (by decide) fun b2=>Lq (Jd O) (Je (Jf (Jo ?_))))))))))))
 refine ⟨_,[_],[],fun Z w hs=> .tmp O .nil,?_,fun Z w hs=>hs.out (Sk (Sr)) (fun _ h=>h)⟩
 exact ⟨_,O,O,O⟩
theorem fd112_0Xw32 (x0:Int) (x1:Int) (x2:Int) (x3:Int) (x4:Int) (x5:Int) (w:World):(Instr.field 149 (.agg #[.int .i64 x0, .int .i64 x1, .int .i64 x2, .int .i64 x3, .int .i64 x4, .int .i64 x5]) 0).run Tryz.prog w= .ok (.int .i64 x0) w:=by kernel_rfl
set_option maxRecDepth 10000 in
theorem Y9 (b:Nat) (A:Option Addr) (t:Tr) (wt:Wf t):Sp Tryz.prog 74 [.pointer (some ⟨b,0,none⟩)] [rpP b A] [TrF A t] (fun v Lo fs=>v= .int .i64 t.row.length∧Lo= [rpP b A] ∧fs= []):=by
 refine Sp.of (n:=9) ⟨_,Tryz.func74,O,O,O,O⟩ (Nat.le_of_ble_eq_true O) fun Ps As=>Jc (Ja (Lq (Jd O) (Je (Jf (Jc (Ja (Lq (Jb O) (Lq (JC O) (Lq (Jh (o':=0) Un143 O YU O O) (Lq (Jj Un141 O O Jn O) (Jg O (Jm (YC A t) (.n1 O) (by decide) (Jl Mm0 Jw) fun u1_4 Lo fs hres=> ?_))))))))))))
 obtain ⟨rfl,rfl,rfl⟩:=hres
 refine Lq (Yl O (fd112_0Xw32 _ _ _ _ _ _)) (Lq (Jd O) (Je (Jf (Jo ?_))))
 refine ⟨_,[_],[],fun Z w hs=> .tmp O .nil,?_,fun Z w hs=>hs.out (Sk (Sr)) (fun _ h=>h)⟩
 exact ⟨congrArg (Value.int .i64) wt.tot,O,O⟩
theorem counter_0 (x:Int) (h:0≤x∧x≤1048576):Sp Tryz.prog 135 [.int .i64 x] [] [] (Is (.int .i64 0)):=by
 have:=Zo x
 rwa [if_neg (by omega),if_neg (by omega)] at this
set_option maxRecDepth 10000 in
theorem Zk (b:Nat) (A:Option Addr) (t:Tr) (x:Int) (s:ByteArray) (hid:Int) (wt:Wf t) (hx:0≤x∧x≤t.row.length) (hs:s.size≤1073741824) (hu:(utF s).2.2=0) (hne:0<(J2 s).length) (hh:0≤hid∧hid≤1048576) (hb:t.row.length+(J2 s).length≤1048576):Sp Tryz.prog 108 [.pointer (some ⟨b,0,none⟩), .int .i64 x, .string s, .int .i64 hid] [rpP b A] [barF,TrF A t] (RpP b (t.row.take x.toNat ++(cellsOf (J2 s) hid++t.row.drop x.toNat))):=by
 have hru:=Y1 hu
 refine Sp.of (n:=64) ⟨_,Tryz.func108,O,O,O,O⟩ (Nat.le_of_ble_eq_true O) fun Ps As=>Jc (Ja (Lq (Jd O) (Je (Jf (Jc (Jc (Ja (Lq (Jb O) (Lq (Km O O) (Lq (Jb O) (Lg O O O (by simp;omega) (Jb O) (Lg O O O (by simp;omega) (Jb O) (Ks O O O (by simp;omega) (JR (Y9 b A t wt) (.n1 O) (by decide) .z (Jl Mm1 Jw) fun u1_5 Lo fs hres=> ?_))))))))))))))
 obtain ⟨rfl,rfl,rfl⟩:=hres
 refine Lg O O O (by simp;omega) (Kl O O) (Lq (JH O (by simp;omega) O) (Je (Jf (Jv O (by simp;omega) (Jp (Jf (Jc (Ja (Lq (Jb O) (Jg O (Jm (VC s (by omega)) (.n1 O) (by decide) (Jl Mm0 Jw) fun u3_1 Lo fs hres=> ?_)))))))))))
 obtain ⟨rfl,rfl,rfl⟩:=hres
 refine Lq (Jb O) (Lq (Jk (vs:= [_,_,_]) O O) (Lq (Jk (vs:= [_,_,_]) O O) (Lq (Jk (vs:= [_,_,_]) O O) (Lq (Jd O) (Lq (Jd O) (Lq (Jd O) (Je (Jf (JF [(11,_),(9,_),(8,_),(0,_),(1,_),(2,_),(3,_)] (.m7 O O O O O O O) (Jc (Jc (Ja ?_))))))))))))
 refine Lq (Jb O) (Lq (Kz O O) (Je (Jf (Jv O (by rw [hu];rfl) (Jp (Jf (Jc (Jc (Ja (Lq (Jb O) (Jg O (Jm (counter_0 hid hh) (.n1 O) (by decide) Jw fun u6_1 Lo fs hres=> ?_))))))))))))
 obtain ⟨rfl,rfl,rfl⟩:=hres
 refine Lq (Jd O) (Je (Jf (Jc (Ja (Lq (Jb O) (Lq (Kz O O) (Je (Jf (Jv O O (Jp (Jf (Jc (Jc (Ja (Lq (Jb O) (Jg O (JR (Y9 b A t wt) (.n1 O) (by decide) .z (Jl Mm1 Jw) fun u9_1 Lo fs hres=> ?_)))))))))))))))))
 obtain ⟨rfl,rfl,rfl⟩:=hres
 refine Lq (Jb O) (Lq (JU O O (wr64 (by omega))) (Lq (Kl O O) (Je (Jf (JF [(40,_),(9,_),(8,_),(0,_),(1,_),(2,_),(3,_)] (.m7 O O O O O O O) (Jv O (by simp;omega) (Jp (Jf (Jc (Jc (Ja (Lq (Jb O) (Lq (Kh O O) (Je (Jf ?_)))))))))))))))
 refine Jv O (beq_eq_false_iff_ne.2 (by omega)) (Jp (Jf (Jc (Ja (Lq (Jb O) (Lq (JC O) (Lq (Jh (o':=0) Un143 O YU O O) (Lq (Jj Un141 O O Jn O) (Lq (Jb O) (Jg O (Jm (split_r A t x wt (by omega) (by omega) (by omega)) (.n2 O O) (by decide) (Jl Mm1 Jw) fun u13_5 Lo fs hres=> ?_)))))))))))
 obtain ⟨A1,t1,E1,q1,rfl,rfl,rfl,wt1,wq1,r1,rq1⟩:=hres
 have e1:=congrArg List.length r1
 have eq1:=congrArg List.length rq1
 simp only [List.length_take,List.length_drop] at e1 eq1
 refine Lq (Jb O) (Lq (Jk (vs:= [_,_]) O O) (Lq (Jk (vs:= [_,_]) O O) (Lq (Jd O) (Lq (Jd O) (Je (Jf (JF [(13,_),(12,_),(8,_),(0,_),(2,_),(3,_)] (.m6 O O O O O O) (Jc (Ja (Lq (Jb O) (Lq (Jb O) ?_)))))))))))
 refine Lq (Jb O) (Jg O (Jm (Zh s hs) (.n1 O) (by decide) Jw fun u14_3 Lo fs hres=> ?_))
 obtain ⟨Ar,cr,rfl,rfl,rfl⟩:=hres
 refine Lq (Jb O) (Jg O (Jm (Ez Ar cr (J2 s) hid (by omega) hh) (.n2 O O) (by decide) (Jl Mm0 Jw) fun u14_5 Lo fs hres=> ?_))
 obtain ⟨Ap,cp,ps,rfl,rfl,rfl,hpk,hps⟩:=hres
 have eps:=congrArg List.length hps
 rw [Jr] at eps
 refine Jg O (Jm (build_r Ap cp ps hpk (by omega)) (.n1 O) (by decide) (Jl Mm0 Jw) fun u14_6 Lo fs hres=> ?_)
 obtain ⟨T2,t2,rfl,rfl,rfl,wt2,r2⟩:=hres
 have e2:=congrArg List.length r2
 refine Jg O (Jm (mend_r A1 T2 t1 t2 wt1 wt2 (by omega)) (.n2 O O) (by decide) (Jl Mm3 (Jl Mm0 Jw)) fun u14_7 Lo fs hres=> ?_)
 obtain ⟨T3,t3,rfl,rfl,rfl,wt3,r3⟩:=hres
 have e3:=congrArg List.length r3
 simp only [List.length_append] at e3
 refine Lq (Jb O) (Jg O (Jm (mend_r T3 E1 t3 q1 wt3 wq1 (by omega)) (.n2 O O) (by decide) (Jl Mm0 (Jl Mm5 Jw)) fun u14_9 Lo fs hres=> ?_))
 obtain ⟨T4,t4,rfl,rfl,rfl,wt4,r4⟩:=hres
 have e4:=congrArg List.length r4
 simp only [List.length_append] at e4
 refine Lq (JC O) (Lq (Jh (o':=0) Un143 O YU O O) (Jg O (JJ YU O O O .z .z (Je (Jf (JF [(8,_)] (.m1 O) (Jc (Ja (Lq (Jd O) (Je (Jf (Jo ?_))))))))))))
 refine ⟨_,[_],[_],fun Z w hs=> .tmp O .nil,?_,fun Z w hs=>hs.out (Sk (Sr)) (Jl Mm0 Tt7)⟩
 exact ⟨_,_,O,O,O,wt4,by simp only [r1,r2,r3,r4,rq1,hps,List.append_assoc]⟩
theorem fd112_5Xw32 (x0:Int) (x1:Int) (x2:Int) (x3:Int) (x4:Int) (x5:Int) (w:World):(Instr.field 149 (.agg #[.int .i64 x0, .int .i64 x1, .int .i64 x2, .int .i64 x3, .int .i64 x4, .int .i64 x5]) 5).run Tryz.prog w= .ok (.int .i64 x5) w:=by kernel_rfl
set_option maxRecDepth 10000 in
theorem Jak (b:Nat) (A Ar:Option Addr) (cr:Nat) (t:Tr) (rs:List Rg) (wt:Wf t) (hb:t.row.length≤1048576) (ho:BuOk rs 1 t.row) (hne:rs≠ []):Sp Tryz.prog 109 [.pointer (some ⟨b,0,none⟩), .slice Ar rs.length cr, .int .i64 1] [rpP b A] [TrF A t,RdF rgD Ar cr rs] (RpP b (Kn rs 1 t.row)):=by
 have hrs:=(QL ho.ck).1
 refine Sp.of (n:=100) ⟨_,Tryz.func109,O,O,O,O⟩ (Nat.le_of_ble_eq_true O) fun Ps As=>Jc (Ja (Lq (Jd O) (Je (Jf (Jc (Jc ?_))))))
 have hz1:rs.length-1<rs.length:=by have:=List.length_pos_iff.2 hne;omega
 have hlast:=ho.below _ (List.getElem_mem hz1)
 refine Kd (k:=(rs.length-1)) Mm1 (List.getElem?_eq_getElem hz1) (rg_open _) fun b6 q6 y6 e6=> ?_
 cases e6
 refine Ja (Lq (Jb O) (Lq (Kz O O) (Lq (Jb O) (Ln O O O O (Ln O O O O (Lq (JH O O O) (Je (Jf (Jv O O (Jp (Jf (Jc (Jc (Ja (Lq (Jb O) (Jg O (Jm (XW (some ⟨b6,q6,none⟩) cr rs (by omega)) (.n1 O) (by decide) (Jl Mm2 Jw) fun u3_1 Lo fs hres=> ?_)))))))))))))))))
 obtain ⟨rfl,rfl,rfl⟩:=hres
 refine Lq (Jb O) (Lq (Jk (vs:= [_,_]) O O) (Lq (Jk (vs:= [_,_]) O O) (Lq (Jd O) (Lq (Jd O) (Je (Jf (JF [(8,_),(6,_),(0,_),(1,_),(2,_)] (.m5 O O O O O) (Jc (Ja (Lq (Jb O) (Lq (Kz O O) ?_)))))))))))
 refine Je (Jf (Jv O (by rw [ho.ck];rfl) (Jp (Jf (Jc (Jc (JI _ _ [] (.c 0 0 (.c 1 0 (.c 2 0 (.c 3 0 (.c 4 0 (.c 5 0 (.c 6 0 (.c 7 0 (.c 8 0 (.c 9 0 (.c 10 0 (.c 11 0 (.c 12 2 (.c 13 0 (.c 14 0 .nil))))))))))))))) mixed (fun _ _ _ _ h=>h) (Sk (Sr)) (fun _ h=>h) (by kernel_rfl) (by decide) fun ws Z0=>Qe O (Jb O) (Qe O (J3 Un50 O) (Qe O (Kl O O) (Qe O (Jb O) (Ki O O O O (by simp;omega) (Jb O) (by decide) (Ki O O O O (by simp;omega) (Jb O) (by decide) ?_))))))))))))
 refine Ki O O O O (by simp;omega) (J3 Un50 O) (by decide) (Ki O O O O (by simp;omega) (KP O O (by rw [wr64 (by omega)];omega) (c:=((rs.length-1:Nat):Int))) (by decide) (Ki O O O O (by simp;omega) (J7 Un50 KZ O O (by omega) (by omega)) (by decide) (Ki O O O O (by simp;omega) (Jh (o':=_+1) Un74 O ti3 O O) (by decide) (Ki O O O O (by simp;omega) (Kb (j:=1) Un3 O O Mm0 O O) (by decide) (Ki O O O O (by simp;omega) (Jb O) (by decide) (YK O O O O O (by simp;omega) (JR (Y9 b A t wt) (.n1 O) (by decide) .z (Jl Mm2 Jw) fun u6_12 Lo fs hres=> ?_)))))))
 obtain ⟨rfl,rfl,rfl⟩:=hres
 refine ⟨⟨(Sk (Sr)),Mm0⟩,?_⟩
 refine Ki O O O O (by simp;omega) (Kl O O) (by decide) (Qe O (JP O (by simp;omega) O) (JN (JM (Jf (JF [(44,_),(6,_),(0,_),(1,_),(2,_)] (.m5 O O O O O) (Jv O (by simp;omega) (Jp (Jf (Jc (Ja (Lq (Jb O) (Lq (JC O) (Lq (Jh (o':=0) Un143 O YU O O) ?_)))))))))))))
 refine Lq (Jj Un141 O O Jn O) (Lq (Jd O) (Je (Jf (Jc (Jc (Ja (Lq (Jb O) (Lq (J3 Un50 O) (Lq (Jb O) (Je (Jf (JE ?_))))))))))))
 refine Kf (α:=Nat×Option Addr×Tr) (fun (i,B,u)=>rs.length-i)
  (fun (i,B,u)=> [(0, .pointer (some ⟨b,0,none⟩)),(2, .int .i64 1),(9, .pointer B),(49, .slice (some ⟨b6,q6,none⟩) rs.length cr),(50, .int .i64 rs.length),(51, .int .i64 i)])
  (fun (i,B,u)=>(rpP b A::Ps))
  (fun (i,B,u)=>(TrF B u::TrF A t::RdF rgD (some ⟨b6,q6,none⟩) cr rs::As))
  (fun (i,B,u)=>BuI rs 1 t.row i u)
  (0,A,t) ?_ (.m6 rfl rfl rfl rfl rfl rfl) (Sk (Sr)) (Jl Mm2 Tt2) ?_
 ·exact ⟨Nat.zero_le _,wt,O⟩
 ·rintro ⟨i,AJ,tJ⟩ hI
  have wtJ:=hI.wf
  refine Jc (Ja (Lq (Km O O) (Je (Jf (Jc (Jy O (fun h52=> ?_) (fun h52=> ?_)))))))
  ·refine Jp (Jf (Jc (JE (Jc ?_))))
   try simp only [Bp,Bq] at *
   have hil:i<rs.length:=by omega
   have hm:=ho.norm.mem _ (List.getElem_mem hil)
   have hbl:=ho.below _ (List.getElem_mem hil)
   have hrl:=hI.len ho
   have hsl:=hI.slice ho hil
   refine GK (k:=i) Mm2 (List.getElem?_eq_getElem hil) (rg_open _) fun yk=> ?_
   refine Ja (Lq (J7 Un50 KZ O O (by omega) (by omega)) (Lq (Kq (k:=0) (vs:= [_,_]) Un74 O KZ O Mm0 O O O) (Jg O (Ju (cs:= [_,_]) KZ O (by decide) fun b11=>Jg O (Jq (cs':= [_,_]) (vs:= [_,_]) KZ O O O O O (Nat.le_of_ble_eq_true O) .z (Je (Jf (Jc (Ja (Lq (Jb O) (Lq (Jh (o':=0) Un74 O ti3 O O) (Lq (Jj Un3 O O Jn O) (Jg O (Jm (split_r AJ tJ rs[i].lo wtJ (by omega) (by omega) (by omega)) (.n2 O O) (by decide) (Jl Mm1 Jw) fun u12_3 Lo fs hres=> ?_))))))))))))))
   obtain ⟨A1,t1,E1,q1,rfl,rfl,rfl,wt1,wq1,r1,rq1⟩:=hres
   have e1:=congrArg List.length r1
   have eq1:=congrArg List.length rq1
   simp only [List.length_take,List.length_drop] at e1 eq1
   refine Lq (Jb O) (Lq (Jk (vs:= [_,_]) O O) (Lq (Jk (vs:= [_,_]) O O) (Lq (Jd O) (Lq (Jd O) (Je (Jf (Jc (Ja (Lq (Jb O) (Lq (Jh (o':=1) Un74 O ti3 O O) (Lq (Jj Un3 O O Jn O) (Lq (Jh (o':=0) Un74 O ti3 O O) ?_))))))))))))
   refine Lq (Jj Un3 O O Jn O) (Lq (KP O O (wr64 (by omega))) (Jg O (Jm (split_r E1 q1 (rs[i].hi-rs[i].lo) wq1 (by omega) (by omega) (by omega)) (.n2 O O) (by decide) (Jl Mm1 Jw) fun u13_6 Lo fs hres=> ?_)))
   obtain ⟨A2,t2,E2,q2,rfl,rfl,rfl,wt2,wq2,r2,rq2⟩:=hres
   have e2:=congrArg List.length r2
   have eq2:=congrArg List.length rq2
   simp only [List.length_take,List.length_drop] at e2 eq2
   refine Lq (Jb O) (Lq (Jk (vs:= [_,_]) O O) (Lq (Jk (vs:= [_,_]) O O) (Lq (Jd O) (Lq (Jd O) (Je (Jf (Jc (Jc ?_))))))))
   have hn2:t2.row≠ [] :=fun e=>by have h1:=congrArg List.length e;rw [List.length_nil] at h1;omega
   obtain ⟨⟨cm,hcm,em⟩,cx,hcx,ex⟩:=wf_mn wt2 hn2
   have hs1:InR (up 1 t2.row):=by rw [r2,rq1];exact hsl
   have hc1:=hs1 _ (mem_up.2 ⟨cm,hcm,rfl⟩)
   have hc2:=hs1 _ (mem_up.2 ⟨cx,hcx,rfl⟩)
   simp only at hc1 hc2
   have hwl:=wf_lift wt2 hs1
   have hlr:=row_lift t2 1
   have hll:(liftF t2 1).row.length=t2.row.length:=by rw [hlr,Y2]
   refine Ja (Lq (Jb O) (Lq (Km O O) (Lq (Jb O) (Ln O O O O (Ln O O O O (Ln O O O O (Ln O O O O (Lq (JH O O O) (Je (Jf (Jv O O (Jp (Jf (Jc (Jc (Ja ?_))))))))))))))))
   refine Lq (Jb O) (Lq (Kl O O) (Lq (Jb O) (Lg O O O O (Jb O) (Ks O O O O (Jm (YC A2 t2) (.n1 O) (by decide) (Jl Mm0 Jw) fun u16_4 Lo fs hres=> ?_)))))
   obtain ⟨rfl,rfl,rfl⟩:=hres
   refine Lg O O O O (Yl O (fd112_5Xw32 _ _ _ _ _ _)) (Lg O O O O (Kh O O) (Lq (JP O O O) (Je (Jf (Jv O (by simp;omega) (Jp (Jf (Ja (Lq (Jb O) (Lq (Jb O) (Lq (Jb O) (Jg O (Jm (Ev A2 t2 1 wt2 (by omega)) (.n2 O O) (by decide) (Jl Mm0 Jw) fun u18_3 Lo fs hres=> ?_)))))))))))))
   obtain ⟨L9,rfl,rfl,rfl⟩:=hres
   obtain ⟨L9t,hL9⟩: ∃z,z=liftF t2 1:=⟨_,rfl⟩
   rw [←hL9] at hwl hlr hll ⊢
   have wL9t:=hwl
   refine Jg O (Jm (mend_r A1 L9 t1 L9t wt1 wL9t (by omega)) (.n2 O O) (by decide) (Jl Mm3 (Jl Mm0 Jw)) fun u18_4 Lo fs hres=> ?_)
   obtain ⟨T3,t3,rfl,rfl,rfl,wt3,r3⟩:=hres
   have e3:=congrArg List.length r3
   simp only [List.length_append] at e3
   refine Lq (Jb O) (Jg O (Jm (mend_r T3 E2 t3 q2 wt3 wq2 (by omega)) (.n2 O O) (by decide) (Jl Mm0 (Jl Mm3 Jw)) fun u18_6 Lo fs hres=> ?_))
   obtain ⟨T4,t4,rfl,rfl,rfl,wt4,r4⟩:=hres
   have e4:=congrArg List.length r4
   simp only [List.length_append] at e4
   refine Lq (Jd O) (Je (Ka (Jf (Ja (Lq (JU O O (wr64 (by omega)) (c:=((i+1:Nat):Int))) (Lq (Jb O) (Je (Kp ?_))))))))
   refine ⟨(i+1,T4,t4),?_,(.m6 O O O O O O),(Sd (Sk (Sr))),(Jl Mm0 Tt9)⟩
   refine ⟨by show rs.length-(i+1)<rs.length-i;omega,hI.next hil wt4 ?_⟩
   have e8:rs[i].lo.toNat +(rs[i].hi-rs[i].lo).toNat=rs[i].hi.toNat:=by omega
   rw [r4,r3,hlr,r1,r2,rq2,rq1,List.drop_drop,e8,List.append_assoc];rfl
  ·refine Kk (JL (JL (Kc (Jf (Jc (Ja (Lq (Jb O) (Lq (Jb O) (Lq (JC O) (Lq (Jh (o':=0) Un143 O YU O O) (Jg O (JJ YU O O O .z .z (Je (Jf (Jc (Ja (Lq (Jd O) (Je (Jf (Jo ?_))))))))))))))))))))
   refine ⟨_,[_],[_],fun Z w hs=> .tmp O .nil,?_,fun Z w hs=>hs.out (Sk (Sr)) (fun _ h=>h)⟩
   try simp only [Bp,Bq] at *
   exact ⟨_,_,O,O,O,wtJ,hI.done (by omega)⟩
theorem fd112_3Xw32 (x0:Int) (x1:Int) (x2:Int) (x3:Int) (x4:Int) (x5:Int) (w:World):(Instr.field 149 (.agg #[.int .i64 x0, .int .i64 x1, .int .i64 x2, .int .i64 x3, .int .i64 x4, .int .i64 x5]) 3).run Tryz.prog w= .ok (.int .i64 x3) w:=by kernel_rfl
set_option maxRecDepth 10000 in
theorem Jal (b:Nat) (A Ar:Option Addr) (cr:Nat) (t:Tr) (rs:List Rg) (wt:Wf t) (hb:t.row.length≤1048576) (ho:BuOk rs (-1) t.row) (hne:rs≠ []):Sp Tryz.prog 109 [.pointer (some ⟨b,0,none⟩), .slice Ar rs.length cr, .int .i64 (-1)] [rpP b A] [TrF A t,RdF rgD Ar cr rs] (RpP b (Kn rs (-1) t.row)):=by
 have hrs:=(QL ho.ck).1
 refine Sp.of (n:=100) ⟨_,Tryz.func109,O,O,O,O⟩ (Nat.le_of_ble_eq_true O) fun Ps As=>Jc (Ja (Lq (Jd O) (Je (Jf (Jc (Jc ?_))))))
 have hz1:rs.length-1<rs.length:=by have:=List.length_pos_iff.2 hne;omega
 have hlast:=ho.below _ (List.getElem_mem hz1)
 refine Kd (k:=(rs.length-1)) Mm1 (List.getElem?_eq_getElem hz1) (rg_open _) fun b6 q6 y6 e6=> ?_
 cases e6
 refine Ja (Lq (Jb O) (Lq (Kz O O) (Lq (Jb O) (Lg O O O O (Jb O) (Lg O O O O (Kz O O) (Lq (JP O O O) (Je (Jf (Jv O O (Jp (Jf (Jc (Jc (Ja (Lq (Jb O) (Jg O (Jm (XW (some ⟨b6,q6,none⟩) cr rs (by omega)) (.n1 O) (by decide) (Jl Mm2 Jw) fun u3_1 Lo fs hres=> ?_)))))))))))))))))
 obtain ⟨rfl,rfl,rfl⟩:=hres
 refine Lq (Jb O) (Lq (Jk (vs:= [_,_]) O O) (Lq (Jk (vs:= [_,_]) O O) (Lq (Jd O) (Lq (Jd O) (Je (Jf (JF [(8,_),(6,_),(0,_),(1,_),(2,_)] (.m5 O O O O O) (Jc (Ja (Lq (Jb O) (Lq (Kz O O) ?_)))))))))))
 refine Je (Jf (Jv O (by rw [ho.ck];rfl) (Jp (Jf (Jc (Jc (JI _ _ [] (.c 0 0 (.c 1 0 (.c 2 0 (.c 3 0 (.c 4 0 (.c 5 0 (.c 6 0 (.c 7 0 (.c 8 0 (.c 9 0 (.c 10 0 (.c 11 0 (.c 12 2 (.c 13 0 (.c 14 0 .nil))))))))))))))) mixed (fun _ _ _ _ h=>h) (Sk (Sr)) (fun _ h=>h) (by kernel_rfl) (by decide) fun ws Z0=>Qe O (Jb O) (Qe O (J3 Un50 O) (Qe O (Kl O O) (Qe O (Jb O) (Ki O O O O (by simp;omega) (Jb O) (by decide) (Ki O O O O (by simp;omega) (Jb O) (by decide) ?_))))))))))))
 refine Ki O O O O (by simp;omega) (J3 Un50 O) (by decide) (Ki O O O O (by simp;omega) (KP O O (by rw [wr64 (by omega)];omega) (c:=((rs.length-1:Nat):Int))) (by decide) (Ki O O O O (by simp;omega) (J7 Un50 KZ O O (by omega) (by omega)) (by decide) (Ki O O O O (by simp;omega) (Jh (o':=_+1) Un74 O ti3 O O) (by decide) (Ki O O O O (by simp;omega) (Kb (j:=1) Un3 O O Mm0 O O) (by decide) (Ki O O O O (by simp;omega) (Jb O) (by decide) (YK O O O O O (by simp;omega) (JR (Y9 b A t wt) (.n1 O) (by decide) .z (Jl Mm2 Jw) fun u6_12 Lo fs hres=> ?_)))))))
 obtain ⟨rfl,rfl,rfl⟩:=hres
 refine ⟨⟨(Sk (Sr)),Mm0⟩,?_⟩
 refine Ki O O O O (by simp;omega) (Kl O O) (by decide) (Qe O (JP O (by simp;omega) O) (JN (JM (Jf (JF [(44,_),(6,_),(0,_),(1,_),(2,_)] (.m5 O O O O O) (Jv O (by simp;omega) (Jp (Jf (Jc (Ja (Lq (Jb O) (Lq (JC O) (Lq (Jh (o':=0) Un143 O YU O O) ?_)))))))))))))
 refine Lq (Jj Un141 O O Jn O) (Lq (Jd O) (Je (Jf (Jc (Jc (Ja (Lq (Jb O) (Lq (J3 Un50 O) (Lq (Jb O) (Je (Jf (JE ?_))))))))))))
 refine Kf (α:=Nat×Option Addr×Tr) (fun (i,B,u)=>rs.length-i)
  (fun (i,B,u)=> [(0, .pointer (some ⟨b,0,none⟩)),(2, .int .i64 (-1)),(9, .pointer B),(49, .slice (some ⟨b6,q6,none⟩) rs.length cr),(50, .int .i64 rs.length),(51, .int .i64 i)])
  (fun (i,B,u)=>(rpP b A::Ps))
  (fun (i,B,u)=>(TrF B u::TrF A t::RdF rgD (some ⟨b6,q6,none⟩) cr rs::As))
  (fun (i,B,u)=>BuI rs (-1) t.row i u)
  (0,A,t) ?_ (.m6 rfl rfl rfl rfl rfl rfl) (Sk (Sr)) (Jl Mm2 Tt2) ?_
 ·exact ⟨Nat.zero_le _,wt,O⟩
 ·rintro ⟨i,AJ,tJ⟩ hI
  have wtJ:=hI.wf
  refine Jc (Ja (Lq (Km O O) (Je (Jf (Jc (Jy O (fun h52=> ?_) (fun h52=> ?_)))))))
  ·refine Jp (Jf (Jc (JE (Jc ?_))))
   try simp only [Bp,Bq] at *
   have hil:i<rs.length:=by omega
   have hm:=ho.norm.mem _ (List.getElem_mem hil)
   have hbl:=ho.below _ (List.getElem_mem hil)
   have hrl:=hI.len ho
   have hsl:=hI.slice ho hil
   refine GK (k:=i) Mm2 (List.getElem?_eq_getElem hil) (rg_open _) fun yk=> ?_
   refine Ja (Lq (J7 Un50 KZ O O (by omega) (by omega)) (Lq (Kq (k:=0) (vs:= [_,_]) Un74 O KZ O Mm0 O O O) (Jg O (Ju (cs:= [_,_]) KZ O (by decide) fun b11=>Jg O (Jq (cs':= [_,_]) (vs:= [_,_]) KZ O O O O O (Nat.le_of_ble_eq_true O) .z (Je (Jf (Jc (Ja (Lq (Jb O) (Lq (Jh (o':=0) Un74 O ti3 O O) (Lq (Jj Un3 O O Jn O) (Jg O (Jm (split_r AJ tJ rs[i].lo wtJ (by omega) (by omega) (by omega)) (.n2 O O) (by decide) (Jl Mm1 Jw) fun u12_3 Lo fs hres=> ?_))))))))))))))
   obtain ⟨A1,t1,E1,q1,rfl,rfl,rfl,wt1,wq1,r1,rq1⟩:=hres
   have e1:=congrArg List.length r1
   have eq1:=congrArg List.length rq1
   simp only [List.length_take,List.length_drop] at e1 eq1
   refine Lq (Jb O) (Lq (Jk (vs:= [_,_]) O O) (Lq (Jk (vs:= [_,_]) O O) (Lq (Jd O) (Lq (Jd O) (Je (Jf (Jc (Ja (Lq (Jb O) (Lq (Jh (o':=1) Un74 O ti3 O O) (Lq (Jj Un3 O O Jn O) (Lq (Jh (o':=0) Un74 O ti3 O O) ?_))))))))))))
   refine Lq (Jj Un3 O O Jn O) (Lq (KP O O (wr64 (by omega))) (Jg O (Jm (split_r E1 q1 (rs[i].hi-rs[i].lo) wq1 (by omega) (by omega) (by omega)) (.n2 O O) (by decide) (Jl Mm1 Jw) fun u13_6 Lo fs hres=> ?_)))
   obtain ⟨A2,t2,E2,q2,rfl,rfl,rfl,wt2,wq2,r2,rq2⟩:=hres
   have e2:=congrArg List.length r2
   have eq2:=congrArg List.length rq2
   simp only [List.length_take,List.length_drop] at e2 eq2
   refine Lq (Jb O) (Lq (Jk (vs:= [_,_]) O O) (Lq (Jk (vs:= [_,_]) O O) (Lq (Jd O) (Lq (Jd O) (Je (Jf (Jc (Jc ?_))))))))
   have hn2:t2.row≠ [] :=fun e=>by have h1:=congrArg List.length e;rw [List.length_nil] at h1;omega
   obtain ⟨⟨cm,hcm,em⟩,cx,hcx,ex⟩:=wf_mn wt2 hn2
   have hs1:InR (up (-1) t2.row):=by rw [r2,rq1];exact hsl
   have hc1:=hs1 _ (mem_up.2 ⟨cm,hcm,rfl⟩)
   have hc2:=hs1 _ (mem_up.2 ⟨cx,hcx,rfl⟩)
   simp only at hc1 hc2
   have hwl:=wf_lift wt2 hs1
   have hlr:=row_lift t2 (-1)
   have hll:(liftF t2 (-1)).row.length=t2.row.length:=by rw [hlr,Y2]
   refine Ja (Lq (Jb O) (Lq (Km O O) (Lq (Jb O) (Lg O O O O (Jb O) (Ks O O O O (Jm (YC A2 t2) (.n1 O) (by decide) (Jl Mm0 Jw) fun u14_4 Lo fs hres=> ?_))))))
   obtain ⟨rfl,rfl,rfl⟩:=hres
   refine Lg O O O O (Yl O (fd112_3Xw32 _ _ _ _ _ _)) (Lg O O O O (Kh O O) (Lq (JP O O O) (Je (Jf (Jv O (by simp;omega) (Jp (Jf (Jc (Jc (Ja (Lq (Jb O) (Lq (Kl O O) (Lq (Jb O) (Ln O O O O ?_))))))))))))))
   refine Ln O O O O (Ln O O O O (Ln O O O O (Lq (JH O O O) (Je (Jf (Jv O O (Jp (Jf (Ja (Lq (Jb O) (Lq (Jb O) (Lq (Jb O) (Jg O (Jm (Ev A2 t2 (-1) wt2 (by omega)) (.n2 O O) (by decide) (Jl Mm0 Jw) fun u18_3 Lo fs hres=> ?_))))))))))))))
   obtain ⟨L9,rfl,rfl,rfl⟩:=hres
   obtain ⟨L9t,hL9⟩: ∃z,z=liftF t2 (-1):=⟨_,rfl⟩
   rw [←hL9] at hwl hlr hll ⊢
   have wL9t:=hwl
   refine Jg O (Jm (mend_r A1 L9 t1 L9t wt1 wL9t (by omega)) (.n2 O O) (by decide) (Jl Mm3 (Jl Mm0 Jw)) fun u18_4 Lo fs hres=> ?_)
   obtain ⟨T3,t3,rfl,rfl,rfl,wt3,r3⟩:=hres
   have e3:=congrArg List.length r3
   simp only [List.length_append] at e3
   refine Lq (Jb O) (Jg O (Jm (mend_r T3 E2 t3 q2 wt3 wq2 (by omega)) (.n2 O O) (by decide) (Jl Mm0 (Jl Mm3 Jw)) fun u18_6 Lo fs hres=> ?_))
   obtain ⟨T4,t4,rfl,rfl,rfl,wt4,r4⟩:=hres
   have e4:=congrArg List.length r4
   simp only [List.length_append] at e4
   refine Lq (Jd O) (Je (Ka (Jf (Ja (Lq (JU O O (wr64 (by omega)) (c:=((i+1:Nat):Int))) (Lq (Jb O) (Je (Kp ?_))))))))
   refine ⟨(i+1,T4,t4),?_,(.m6 O O O O O O),(Sd (Sk (Sr))),(Jl Mm0 Tt9)⟩
   refine ⟨by show rs.length-(i+1)<rs.length-i;omega,hI.next hil wt4 ?_⟩
   have e8:rs[i].lo.toNat +(rs[i].hi-rs[i].lo).toNat=rs[i].hi.toNat:=by omega
   rw [r4,r3,hlr,r1,r2,rq2,rq1,List.drop_drop,e8,List.append_assoc];rfl
  ·refine Kk (JL (JL (Kc (Jf (Jc (Ja (Lq (Jb O) (Lq (Jb O) (Lq (JC O) (Lq (Jh (o':=0) Un143 O YU O O) (Jg O (JJ YU O O O .z .z (Je (Jf (Jc (Ja (Lq (Jd O) (Je (Jf (Jo ?_))))))))))))))))))))
   refine ⟨_,[_],[_],fun Z w hs=> .tmp O .nil,?_,fun Z w hs=>hs.out (Sk (Sr)) (fun _ h=>h)⟩
   try simp only [Bp,Bq] at *
   exact ⟨_,_,O,O,O,wtJ,hI.done (by omega)⟩
theorem int_open (k:IntKind) (u:Int): ∀Z w cs,(De.int k).rep Z w u cs→ ∃y:Unit,cs= [.int k u] ∧ ∀B∈([] :List Fact),B.holds Z w:=fun _ _ _ h=>⟨(),h,fun _ h=>by cases h⟩
structure CeI (c:Ce) (x:Int) (t:Tr):Prop where
 wf:Wf t
 lo:0≤x
 hi:x<t.row.length
 le:t.row.length≤1073741824
 eq:t.row[x.toNat]? =some c
theorem EffOk.bump {x:GOp} {row:List Ce} (h:EffOk x row) (hb:row.length≤60000) (hr:InR row):(x.kind=2→BuOk x.rs 1 row∧x.rs≠ [])∧(x.kind=3→BuOk x.rs (-1) row∧x.rs≠ []):=by
 have key: ∀k:Int,(x.kind=2∧k=1)∨(x.kind=3∧k= -1)→BuOk x.rs k row∧x.rs≠ [] :=by
  intro k hk
  obtain ⟨h1,h2⟩:=(YP (xs:=x.rs) (w:=row.length) (by omega)).1 ((check_cov (by omega) (by omega)).1 h.ck).2
  refine ⟨⟨h2.ck (by omega),h2.below,fun q c hq hi=> ?_⟩,h1⟩
  have hc:=hr c (List.mem_of_getElem? hq)
  rcases hk with ⟨hk,rfl⟩ | ⟨hk,rfl⟩
  ·have:=h.up hk q c hq hi;omega
  ·have:=h.dn hk q c hq hi;omega
 exact ⟨fun hk=>key 1 (.inl ⟨hk,O⟩),fun hk=>key (-1) (.inr ⟨hk,O⟩)⟩
set_option maxRecDepth 10000 in
theorem HW (b:Nat) (A Ax:Option Addr) (cx:Nat) (t:Tr) (x:GOp) (wt:Wf t) (hb:t.row.length≤60000) (he:EffOk x t.row) (hs:x.text.size≤1073741824) (hl:x.rs.length≤4398046511104):Sp Tryz.prog 71 [.pointer (some ⟨b,0,none⟩),opV x Ax cx] [rpP b A] [barF,TrF A t,RdF rgD Ax cx x.rs] (RpP b (JT x t.row)):=by
 obtain ⟨hb2,hb3⟩:=he.bump hb wt.inR
 refine Sp.of (n:=38) ⟨_,Tryz.func71,O,O,O,O⟩ (Nat.le_of_ble_eq_true O) fun Ps As=>Jc (Ja (Jg O (J9 (cs:= [_,_,_,_,_,_,_,_,_]) O O (by decide) fun b3=>Lq (Jd O) (Je (Jf (Jc (Jc (Ja (Lq (Jb O) (Lq (KN Un34 O O (by simp)) (Je (Jf (Jv O O (Jp (Jf (Jc (Jc (JA .z1 (JI _ _ [] (.c 0 0 (.c 1 0 (.c 2 2 (.c 3 2 (.c 4 0 .nil))))) mixed (fun _ _ _ _ h=>h) (Sk (Sk (Sr))) (fun _ h=>h) (by kernel_rfl) (by decide) fun ws Z0=> ?_)))))))))))))))))))
 refine Qe O (Jt (vs:= [_,_,_,_,_,_,_,_,_]) Un52 O JD O (Ji (Jn)) O O) (Qe O (Jb O) (Jz O O (JR (Y9 b A t wt) (.n1 O) (by decide) .z (Jl Mm2 Jw) fun u3_2 Lo fs hres=> ?_)))
 obtain ⟨rfl,rfl,rfl⟩:=hres
 refine ⟨⟨(Sk (Sk (Sr))),Mm0⟩,?_⟩
 refine Jz O O (Jm (Qf x Ax cx t.row.length (by omega) hl) (.n2 O O) (by decide) (Jl Mm1 (Jl Mm3 Jw)) fun u3_3 Lo fs hres=> ?_)
 obtain ⟨rfl,rfl,rfl⟩:=hres
 refine ⟨⟨(Sk (Sk (Sr))),Mm0⟩,?_⟩
 refine Qe O (Jd O) (JN (JM (Jf (Jc (Ja (Lq (Jb O) (Lq (Kz O O) (Je (Jf (Jv O (by rw [he.ck];rfl) (Jp (Jf (Jc (Jc (Ja (Lq (Jh (o':=0) Un52 O KW O O) (Lq (Jh (o':=2) Un49 O Yt O O) ?_)))))))))))))))))
 refine Lq (Jj Un47 O O (Ji (Jn)) O) (Je (Jf (JF [(17,_),(4,_),(3,_),(0,_)] (.m4 O O O O) (JE (Jc (Ja (Lq (Kh O O) (Lq (Jd O) (Je (Jf (Jy O (fun h18=> ?_) (fun h18=> ?_))))))))))))
 ·have hk:x.kind=1:=by simpa using h18
  obtain ⟨hu,hn,hat,hw⟩:=Yv.1 ((check_ins hk (by omega)).1 he.ck).2
  have hru:=Y1 hu
  refine Jc (Ja (Lq (Jb O) (Lq (Jh (o':=3) Un52 O ti3 O O) (Lq (Jj Un3 O O (Ji (Jn)) O) (Lq (Jh (o':=4) Un52 O ti9 O O) (Lq (Jj Un9 O O (Ji (Jn)) O) (Jg O (JR (Zk b A t x.at_ x.text 0 wt hat hs hu (by omega) (by omega) (by omega)) (.n4 O O O O) (by decide) .z (Jl Mm1 (Jl Mm2 Jw)) fun u8_5 Lo fs hres=> ?_))))))))
  obtain ⟨A2,t2,rfl,rfl,rfl,wt2,r2⟩:=hres
  refine Lq (Jd O) (Je (Jf (Jo (JG (Js ?_)))))
  refine ⟨_,[_],[_],fun Z w hs=> .tmp O .nil,?_,fun Z w hs=>hs.out (Sk (Sd (Sr))) (Jl Mm0 Tt2)⟩
  exact ⟨_,_,O,O,O,wt2,by rw [r2];unfold JT;rw [if_pos hk]⟩
 ·refine Jc (Ja (Lq (Kh O O) (Lq (Jd O) (Je (Jf (Jy O (fun h26=> ?_) (fun h26=> ?_)))))))
  ·have hk:x.kind=2:=by simpa using h26
   refine Jc (Ja (Lq (Jb O) (Lq (Jh (o':=5) Un52 O Ya O O) (Lq (Jj Un50 O O (Ji (Jn)) O) (Jg O (JR (Jak b A Ax cx t x.rs wt (by omega) (hb2 hk).1 (hb2 hk).2) (.n3 O O O) (by decide) .z (Jl Mm2 (Jl Mm3 Jw)) fun u10_3 Lo fs hres=> ?_))))))
   obtain ⟨A2,t2,rfl,rfl,rfl,wt2,r2⟩:=hres
   refine Lq (Jd O) (Je (Jf (Jo (JG (Js ?_)))))
   refine ⟨_,[_],[_],fun Z w hs=> .tmp O .nil,?_,fun Z w hs=>hs.out (Sk (Sd (Sr))) (Jl Mm0 Tt2)⟩
   exact ⟨_,_,O,O,O,wt2,by rw [r2];unfold JT;rw [if_neg (by omega),if_pos hk]⟩
  ·refine Jc (Ja (Lq (Kh O O) (Lq (Jd O) (Je (Jf (Jy O (fun h32=> ?_) (fun h32=> ?_)))))))
   ·have hk:x.kind=3:=by simpa using h32
    refine Jc (Ja (Lq (Jb O) (Lq (Jh (o':=5) Un52 O Ya O O) (Lq (Jj Un50 O O (Ji (Jn)) O) (Jg O (JR (Jal b A Ax cx t x.rs wt (by omega) (hb3 hk).1 (hb3 hk).2) (.n3 O O O) (by decide) .z (Jl Mm2 (Jl Mm3 Jw)) fun u12_3 Lo fs hres=> ?_))))))
    obtain ⟨A2,t2,rfl,rfl,rfl,wt2,r2⟩:=hres
    refine Lq (Jd O) (Je (Jf (JF [(4,_)] (.m1 O) (Jo (JG (Js ?_))))))
    refine ⟨_,[_],[_],fun Z w hs=> .tmp O .nil,?_,fun Z w hs=>hs.out (Sk (Sd (Sr))) (Jl Mm0 Tt2)⟩
    exact ⟨_,_,O,O,O,wt2,by rw [r2];unfold JT;rw [if_neg (by omega),if_neg (by omega),if_pos hk]⟩
   ·exfalso
    have:=he.kind
    simp at h18 h26 h32
    omega
def u8w (x:Int):Int:=IntKind.u8.wrap x
def encI (r:Int):List Int:=
 if IntKind.u32.wrap r≤127 then [u8w r]
 else if IntKind.u32.wrap r≤2047 then [bits .or .u8 192 (u8w (r.fdiv (2 ^ 6))),bits .or .u8 128 (bits .and .u8 (u8w r) 63)]
 else if IntKind.u32.wrap r<55296∨(57343<IntKind.u32.wrap r∧IntKind.u32.wrap r≤65535) then [bits .or .u8 224 (u8w (r.fdiv (2 ^ 12))),bits .or .u8 128 (bits .and .u8 (u8w (r.fdiv (2 ^ 6))) 63),bits .or .u8 128 (bits .and .u8 (u8w r) 63)]
 else if IntKind.u32.wrap r>65535∧IntKind.u32.wrap r≤1114111 then [bits .or .u8 240 (u8w (r.fdiv (2 ^ 18))),bits .or .u8 128 (bits .and .u8 (u8w (r.fdiv (2 ^ 12))) 63),bits .or .u8 128 (bits .and .u8 (u8w (r.fdiv (2 ^ 6))) 63),bits .or .u8 128 (bits .and .u8 (u8w r) 63)]
 else [239,191,189]
theorem u8_range (x:Int):0≤IntKind.u8.wrap x∧IntKind.u8.wrap x<256:=by
 have h:IntKind.u8.wrap x=x % 256:=rfl
 rw [h];omega
theorem or_range (a b:Int):0≤bits .or .u8 a b∧bits .or .u8 a b<256:=u8_range _
theorem encI_by (r:Int):By (encI r):=by
 have h1:=u8_range r
 intro x hx
 unfold encI at hx
 split at hx
 ·simp only [List.mem_singleton] at hx;subst hx;exact h1
 ·split at hx
  ·simp only [List.mem_cons,List.not_mem_nil,or_false] at hx;rcases hx with rfl | rfl<;>exact or_range _ _
  ·split at hx
   ·simp only [List.mem_cons,List.not_mem_nil,or_false] at hx;rcases hx with rfl | rfl | rfl<;>exact or_range _ _
   ·split at hx
    ·simp only [List.mem_cons,List.not_mem_nil,or_false] at hx;rcases hx with rfl | rfl | rfl | rfl<;>exact or_range _ _
    ·simp only [List.mem_cons,List.not_mem_nil,or_false] at hx;omega
theorem Qt (r:Int):1≤(encI r).length∧(encI r).length≤4:=by
 unfold encI
 split
 ·simp
 ·split
  ·simp
  ·split
   ·simp
   ·split<;>simp
theorem G7 {a b:List Int} (ha:By a) (hb:By b):By (a++b):=fun x hx=>(List.mem_append.1 hx).elim (ha x) (hb x)
abbrev blP (b:Nat) (ad:Option Addr) (v:Value):Part:= [(b,JB [.pointer ad,v] 170)]
theorem cv32 (x:Int) (w:World):(convert 21 234 (.int .i32 x)).run Tryz.prog w= .ok (.int .u32 (IntKind.u32.wrap x)) w:=by kernel_rfl
theorem cv8 (x:Int) (w:World):(convert 21 5 (.int .i32 x)).run Tryz.prog w= .ok (.int .u8 (u8w x)) w:=by kernel_rfl
theorem bs122_2 (a b:Int) (w:World):(Instr.buildSlice 168 2 #[(0, .int .u8 a),(1, .int .u8 b)]).run Tryz.prog w= .ok (.slice (some ⟨w.heap.size,0,none⟩) 2 2) (w.alloc (JB [.int .u8 a, .int .u8 b] 5)):=by kernel_rfl
theorem bs122_3 (a b c:Int) (w:World):(Instr.buildSlice 168 3 #[(0, .int .u8 a),(1, .int .u8 b),(2, .int .u8 c)]).run Tryz.prog w= .ok (.slice (some ⟨w.heap.size,0,none⟩) 3 3) (w.alloc (JB [.int .u8 a, .int .u8 b, .int .u8 c] 5)):=by kernel_rfl
theorem bs122_4 (a b c d:Int) (w:World):(Instr.buildSlice 168 4 #[(0, .int .u8 a),(1, .int .u8 b),(2, .int .u8 c),(3, .int .u8 d)]).run Tryz.prog w= .ok (.slice (some ⟨w.heap.size,0,none⟩) 4 4) (w.alloc (JB [.int .u8 a, .int .u8 b, .int .u8 c, .int .u8 d] 5)):=by kernel_rfl
theorem Jct (v:Value) (w:World):(callFunc 152 #[v]).run Tryz.prog w= .ok (.value v) w:=by kernel_rfl
def BwP (us:List Int):Value→List Part→List Fact→Prop:=fun v Lo fs=> ∃p,Row 5 1 v us.length (ints .u8 us) p∧Lo= [p] ∧fs= []
set_option maxRecDepth 10000 in
theorem Jas (v:Value) (us:List Int) (p:Part) (r:Int) (hr:Row 5 1 v us.length (ints .u8 us) p) (hb:us.length≤1073741824) (hn: ¬IntKind.u32.wrap r≤127):Sp Tryz.prog 153 [v, .int .i32 r] [p] [] (BwP (us++encI r)):=by
 refine Sp.of (n:=78) ⟨_,Tryz.func153,O,O,O,O⟩ (Nat.le_of_ble_eq_true O) fun Ps As=>Jc (Ja (Lq (Jd O) (Je (Jf (Jc (Ja (Lq (Jb O) (Lq (Ym O (cv32 _)) (Lq (Jd O) (Je (Jf (JE (Jc (Ja (Lq (Jb O) (Lq (YW O O) ?_))))))))))))))))
 refine Lq (Jd O) (Je (Jf (Jy O (fun h11=> ?_) (fun h11=> ?_))))
 ·refine Jc (Ja (Lq (Jb O) (Lq (Jb O) (Lq (Vr O O (by decide) O) (Lq (Ym O (cv8 _)) (Lq (VN O O O) (Lq (Jb O) (Lq (Ym O (cv8 _)) (Lq (Vk O O O) (Lq (VN O O O) ?_))))))))))
  refine Jg O (YG (cs:= [_,_]) (.n2 O O) (fun w=>bs122_2 _ _ w) (by decide) fun b23=>Jg O (Yp (m:=2) (news:= [_,_]) Un168 ti5 O (by decide) O O hr Jn O O (by omega) (by unfold maxLen;omega) (by decide) (DelAt.perm .z1) fun v24 p24 hr24=>Lq (Jd O) (Je (Jf (Jo (JG ?_))))))
  refine ⟨_,[_],[],fun Z w hs=> .tmp O .nil,?_,fun Z w hs=>hs.out (Sk (Sd (Sr))) (fun _ h=>h)⟩
  try simp only [Bp,Bq] at *
  refine ⟨_,?_,O,O⟩
  unfold encI
  rw [if_neg (by omega),if_pos (by omega)]
  rw [List.length_append,KM]
  exact hr24
 ·refine Jc (Jc (Ja (Lq (Jb O) (Lq (Km O O) (Lq (Jd O) (Je (Jf (Jy O (fun h25=> ?_) (fun h25=> ?_)))))))))
  ·refine Jp (Jf (J1 O h25 (Jc (Ja (Lq (Jb O) (Lq (Jb O) (Lq (Vr O O (by decide) O) (Lq (Ym O (cv8 _)) (Lq (VN O O O) (Lq (Jb O) (Lq (Vr O O (by decide) O) ?_)))))))))))
   refine Lq (Ym O (cv8 _)) (Lq (Vk O O O) (Lq (VN O O O) (Lq (Jb O) (Lq (Ym O (cv8 _)) (Lq (Vk O O O) (Lq (VN O O O) (Jg O (YG (cs:= [_,_,_]) (.n3 O O O) (fun w=>bs122_3 _ _ _ w) (by decide) fun b48=>Jg O (Yp (m:=3) (news:= [_,_,_]) Un168 ti5 O (by decide) O O hr Jn O O (by omega) (by unfold maxLen;omega) (by decide) (DelAt.perm .z1) fun v49 p49 hr49=>Lq (Jd O) ?_)))))))))
   refine Je (Jf (Jo (JG ?_)))
   refine ⟨_,[_],[],fun Z w hs=> .tmp O .nil,?_,fun Z w hs=>hs.out (Sk (Sd (Sr))) (fun _ h=>h)⟩
   try simp only [Bp,Bq] at *
   refine ⟨_,?_,O,O⟩
   unfold encI
   rw [if_neg (by omega),if_neg (by omega),if_pos (by omega)]
   rw [List.length_append,KM]
   exact hr49
  ·refine Ja (Lq (Jb O) (Lq (Km O O) (Lq (Jb O) (J4 (t:=30) O (fun g30=> ?_) (fun g30=> ?_)))))
   ·refine Lg O O O g30 (Jb O) (Lg O O O g30 (YW O O) (Lq (JP O g30 O) (Lq (Jd O) (Je (Jf (Jy O (fun h25=> ?_) (fun h25=> ?_)))))))
    ·refine Jc (Ja (Lq (Jb O) (Lq (Jb O) (Lq (Vr O O (by decide) O) (Lq (Ym O (cv8 _)) (Lq (VN O O O) (Lq (Jb O) (Lq (Vr O O (by decide) O) (Lq (Ym O (cv8 _)) (Lq (Vk O O O) ?_))))))))))
     refine Lq (VN O O O) (Lq (Jb O) (Lq (Ym O (cv8 _)) (Lq (Vk O O O) (Lq (VN O O O) (Jg O (YG (cs:= [_,_,_]) (.n3 O O O) (fun w=>bs122_3 _ _ _ w) (by decide) fun b48=>Jg O (Yp (m:=3) (news:= [_,_,_]) Un168 ti5 O (by decide) O O hr Jn O O (by omega) (by unfold maxLen;omega) (by decide) (DelAt.perm .z1) fun v49 p49 hr49=>Lq (Jd O) (Je (Jf (Jo (JG ?_)))))))))))
     refine ⟨_,[_],[],fun Z w hs=> .tmp O .nil,?_,fun Z w hs=>hs.out (Sk (Sd (Sr))) (fun _ h=>h)⟩
     try simp only [Bp,Bq] at *
     refine ⟨_,?_,O,O⟩
     unfold encI
     rw [if_neg (by omega),if_neg (by omega),if_pos (by omega)]
     rw [List.length_append,KM]
     exact hr49
    ·refine Jc (Ja (Lq (Jb O) (Lq (Kl O O) (Lq (Jb O) (J4 (t:=53) O (fun g53=> ?_) (fun g53=> ?_))))))
     ·refine Lg O O O g53 (Jb O) (Lg O O O g53 (YW O O) (Lq (JP O g53 O) (Lq (Jd O) (Je (Jf (Jy O (fun h50=> ?_) (fun h50=> ?_)))))))
      ·refine Jc (Ja (Lq (Jb O) (Lq (Jb O) (Lq (Vr O O (by decide) O) (Lq (Ym O (cv8 _)) (Lq (VN O O O) (Lq (Jb O) (Lq (Vr O O (by decide) O) (Lq (Ym O (cv8 _)) (Lq (Vk O O O) ?_))))))))))
       refine Lq (VN O O O) (Lq (Jb O) (Lq (Vr O O (by decide) O) (Lq (Ym O (cv8 _)) (Lq (Vk O O O) (Lq (VN O O O) (Lq (Jb O) (Lq (Ym O (cv8 _)) (Lq (Vk O O O) (Lq (VN O O O) ?_)))))))))
       refine Jg O (YG (cs:= [_,_,_,_]) (.n4 O O O O) (fun w=>bs122_4 _ _ _ _ w) (by decide) fun b76=>Jg O (Yp (m:=4) (news:= [_,_,_,_]) Un168 ti5 O (by decide) O O hr Jn O O (by omega) (by unfold maxLen;omega) (by decide) (DelAt.perm .z1) fun v77 p77 hr77=>Lq (Jd O) (Je (Jf (Jo (JG ?_))))))
       refine ⟨_,[_],[],fun Z w hs=> .tmp O .nil,?_,fun Z w hs=>hs.out (Sk (Sd (Sr))) (fun _ h=>h)⟩
       try simp only [Bp,Bq] at *
       refine ⟨_,?_,O,O⟩
       unfold encI
       rw [if_neg (by omega),if_neg (by omega),if_neg (by omega),if_pos (by omega)]
       rw [List.length_append,KM]
       exact hr77
      ·refine Jc (Ja (Lq (Jb O) (Jg O (YG (cs:= [_,_,_]) (.n3 O O O) (fun w=>bs122_3 _ _ _ w) (by decide) fun b9=>Jg O (Yp (m:=3) (news:= [_,_,_]) Un168 ti5 O (by decide) O O hr Jn O O (by omega) (by unfold maxLen;omega) (by decide) (DelAt.perm .z1) fun v10 p10 hr10=>Lq (Jd O) (Je (Jf (Jo (JG ?_)))))))))
       refine ⟨_,[_],[],fun Z w hs=> .tmp O .nil,?_,fun Z w hs=>hs.out (Sk (Sd (Sr))) (fun _ h=>h)⟩
       try simp only [Bp,Bq] at *
       refine ⟨_,?_,O,O⟩
       unfold encI
       rw [if_neg (by omega),if_neg (by omega),if_neg (by omega),if_neg (by omega)]
       rw [List.length_append,KM]
       exact hr10
     ·refine Ln O O O g53 (Ln O O O g53 (Lq (JH O g53 O) (Lq (Jd O) (Je (Jf (Jv O O (Jc (Ja (Lq (Jb O) (Jg O (YG (cs:= [_,_,_]) (.n3 O O O) (fun w=>bs122_3 _ _ _ w) (by decide) fun b9=>Jg O (Yp (m:=3) (news:= [_,_,_]) Un168 ti5 O (by decide) O O hr Jn O O (by omega) (by unfold maxLen;omega) (by decide) (DelAt.perm .z1) fun v10 p10 hr10=>Lq (Jd O) (Je (Jf (Jo (JG ?_))))))))))))))))
      refine ⟨_,[_],[],fun Z w hs=> .tmp O .nil,?_,fun Z w hs=>hs.out (Sk (Sd (Sr))) (fun _ h=>h)⟩
      try simp only [Bp,Bq] at *
      refine ⟨_,?_,O,O⟩
      unfold encI
      rw [if_neg (by omega),if_neg (by omega),if_neg (by omega),if_neg (by omega)]
      rw [List.length_append,KM]
      exact hr10
   ·refine Ln O O O g30 (Ln O O O g30 (Lq (JH O g30 O) (Lq (Jd O) (Je (Jf (Jv O O (Jc (Ja (Lq (Jb O) (Lq (Kl O O) (Lq (Jb O) (J4 (t:=53) O (fun g53=> ?_) (fun g53=> ?_)))))))))))))
    ·refine Lg O O O g53 (Jb O) (Lg O O O g53 (YW O O) (Lq (JP O g53 O) (Lq (Jd O) (Je (Jf (Jy O (fun h50=> ?_) (fun h50=> ?_)))))))
     ·refine Jc (Ja (Lq (Jb O) (Lq (Jb O) (Lq (Vr O O (by decide) O) (Lq (Ym O (cv8 _)) (Lq (VN O O O) (Lq (Jb O) (Lq (Vr O O (by decide) O) (Lq (Ym O (cv8 _)) (Lq (Vk O O O) ?_))))))))))
      refine Lq (VN O O O) (Lq (Jb O) (Lq (Vr O O (by decide) O) (Lq (Ym O (cv8 _)) (Lq (Vk O O O) (Lq (VN O O O) (Lq (Jb O) (Lq (Ym O (cv8 _)) (Lq (Vk O O O) (Lq (VN O O O) ?_)))))))))
      refine Jg O (YG (cs:= [_,_,_,_]) (.n4 O O O O) (fun w=>bs122_4 _ _ _ _ w) (by decide) fun b76=>Jg O (Yp (m:=4) (news:= [_,_,_,_]) Un168 ti5 O (by decide) O O hr Jn O O (by omega) (by unfold maxLen;omega) (by decide) (DelAt.perm .z1) fun v77 p77 hr77=>Lq (Jd O) (Je (Jf (Jo (JG ?_))))))
      refine ⟨_,[_],[],fun Z w hs=> .tmp O .nil,?_,fun Z w hs=>hs.out (Sk (Sd (Sr))) (fun _ h=>h)⟩
      try simp only [Bp,Bq] at *
      refine ⟨_,?_,O,O⟩
      unfold encI
      rw [if_neg (by omega),if_neg (by omega),if_neg (by omega),if_pos (by omega)]
      rw [List.length_append,KM]
      exact hr77
     ·refine Jc (Ja (Lq (Jb O) (Jg O (YG (cs:= [_,_,_]) (.n3 O O O) (fun w=>bs122_3 _ _ _ w) (by decide) fun b9=>Jg O (Yp (m:=3) (news:= [_,_,_]) Un168 ti5 O (by decide) O O hr Jn O O (by omega) (by unfold maxLen;omega) (by decide) (DelAt.perm .z1) fun v10 p10 hr10=>Lq (Jd O) (Je (Jf (Jo (JG ?_)))))))))
      refine ⟨_,[_],[],fun Z w hs=> .tmp O .nil,?_,fun Z w hs=>hs.out (Sk (Sd (Sr))) (fun _ h=>h)⟩
      try simp only [Bp,Bq] at *
      refine ⟨_,?_,O,O⟩
      unfold encI
      rw [if_neg (by omega),if_neg (by omega),if_neg (by omega),if_neg (by omega)]
      rw [List.length_append,KM]
      exact hr10
    ·refine Ln O O O g53 (Ln O O O g53 (Lq (JH O g53 O) (Lq (Jd O) (Je (Jf (Jv O O (Jc (Ja (Lq (Jb O) (Jg O (YG (cs:= [_,_,_]) (.n3 O O O) (fun w=>bs122_3 _ _ _ w) (by decide) fun b9=>Jg O (Yp (m:=3) (news:= [_,_,_]) Un168 ti5 O (by decide) O O hr Jn O O (by omega) (by unfold maxLen;omega) (by decide) (DelAt.perm .z1) fun v10 p10 hr10=>Lq (Jd O) (Je (Jf (Jo (JG ?_))))))))))))))))
     refine ⟨_,[_],[],fun Z w hs=> .tmp O .nil,?_,fun Z w hs=>hs.out (Sk (Sd (Sr))) (fun _ h=>h)⟩
     try simp only [Bp,Bq] at *
     refine ⟨_,?_,O,O⟩
     unfold encI
     rw [if_neg (by omega),if_neg (by omega),if_neg (by omega),if_neg (by omega)]
     rw [List.length_append,KM]
     exact hr10
set_option maxRecDepth 10000 in
theorem Zq (v:Value) (us:List Int) (p:Part) (r:Int) (hr:Row 5 1 v us.length (ints .u8 us) p) (hb:us.length≤1073741824):Sp Tryz.prog 125 [v, .int .i32 r] [p] [] (BwP (us++encI r)):=by
 refine Sp.of (n:=16) ⟨_,Tryz.func125,O,O,O,O⟩ (Nat.le_of_ble_eq_true O) fun Ps As=>Jc (Ja (Lq (Jd O) (Je (Jf (Jc (Jc (Ja (Lq (Jb O) (Lq (Ym O (cv32 _)) (Lq (YW O O) (Je (Jf (Jy O (fun h7=> ?_) (fun h7=> ?_))))))))))))))
 ·refine Jc (Ja (Lq (Jb O) (Lq (Jb O) (Lq (Ym O (cv8 _)) (Jg O (KF (cs:= [_]) Un168 ti5 (by decide) (by decide) O O O O (by decide) fun b11=>Jg O (KH (news:= [_]) Un168 ti5 O (by decide) O O hr Jn O O (by omega) (by unfold maxLen;omega) (by decide) (DelAt.perm .z1) fun v12 p12 hr12=>Lq (Jd O) (Je (Jf (Jo (Js ?_)))))))))))
  refine ⟨_,[_],[],fun Z w hs=> .tmp O .nil,?_,fun Z w hs=>hs.out (Sk (Sd (Sr))) (fun _ h=>h)⟩
  try simp only [Bp,Bq] at *
  refine ⟨_,?_,O,O⟩
  unfold encI
  rw [if_pos (by omega)]
  rw [List.length_append,KM]
  exact hr12
 ·refine Jp (Jf (Jc (Ja (Lq (Jb O) (Lq (Jb O) (Jg O (JR (Jas v us p r hr hb (by simpa using h7)) (.n2 O O) (by decide) .z Jw fun u3_2 Lo fs hres=> ?_)))))))
  obtain ⟨p15,hr15,rfl,rfl⟩:=hres
  refine Lq (Jd O) (Je (Jf (Jo ?_)))
  refine ⟨_,[_],[],fun Z w hs=> .tmp O .nil,?_,fun Z w hs=>hs.out (Sk (Sr)) (fun _ h=>h)⟩
  exact ⟨_,hr15,O,O⟩
set_option maxRecDepth 10000 in
theorem Jch (b:Nat) (ad A:Option Addr) (n c:Nat):Sp Tryz.prog 96 [.pointer (some ⟨b,0,none⟩)] [blP b ad (.slice A n c)] [] (fun v Lo fs=>v= .int .i64 n∧Lo= [blP b ad (.slice A n c)] ∧fs= []):=by
 refine Sp.of (n:=8) ⟨_,Tryz.func96,O,O,O,O⟩ (Nat.le_of_ble_eq_true O) fun Ps As=>Jc (Ja (Lq (Jd O) (Je (Jf (Jc (Ja (Lq (Jb O) (Lq (JC O) (Lq (Jh (o':=1) Un170 O Vj O O) (Lq (Jj Un168 O O Jn O) (Lq (J3 Un168 O) (Lq (Jd O) ?_))))))))))))
 refine Je (Jf (Jo ?_))
 refine ⟨_,[_],[],fun Z w hs=> .tmp O .nil,?_,fun Z w hs=>hs.out (Sk (Sr)) (fun _ h=>h)⟩
 exact ⟨O,O,O⟩
set_option maxRecDepth 10000 in
theorem E6 (b:Nat) (ad:Option Addr) (v:Value):Sp Tryz.prog 98 [.pointer (some ⟨b,0,none⟩)] [blP b ad v] [] (fun u Lo fs=>u= .tuple #[] ∧Lo= [blP b none (.slice none 0 0)] ∧fs= []):=by
 refine Sp.of (n:=8) ⟨_,Tryz.func98,O,O,O,O⟩ (Nat.le_of_ble_eq_true O) fun Ps As=>Jc (Ja (Lq (Jb O) (Lq (JC O) (Lq (Jh (o':=0) Un170 O X7 O O) (Jg O (JJ X7 O O O .z .z (Je (Jf (Ja (Lq (Jb O) (Lq (JC O) (Lq (Jh (o':=1) Un170 O Vj O O) ?_))))))))))))
 refine Jg O (JJ Vj O O O .z1 .z (Je ?_))
 refine ⟨_,[_],[],fun Z w hs=> .nil,?_,fun Z w hs=>hs.out (Sk (Sr)) (fun _ h=>h)⟩
 exact ⟨O,O,O⟩
set_option maxRecDepth 10000 in
theorem bcopy_0 (b:Nat) (v:Value):Sp Tryz.prog 124 [.pointer (some ⟨b,0,none⟩)] [blP b none v] [] (fun u Lo fs=>u= .tuple #[] ∧Lo= [blP b (some ⟨b,0,none⟩) v] ∧fs= []):=by
 refine Sp.of (n:=20) ⟨_,Tryz.func124,O,O,O,O⟩ (Nat.le_of_ble_eq_true O) fun Ps As=>Jc (Ja (Lq (Jb O) (Lq (JC O) (Lq (Jh (o':=0) Un170 O X7 O O) (Lq (Jj Un167 O O Jn O) (Lq (KN Un167 O O (by simp)) (Je (Jf (J1 O O (Ja (Lq (Jb O) (Lq (Jb O) ?_))))))))))))
 refine Lq (Hg (j:=_) Un167 Un219 O (by decide) O Jn (Nat.succ_pos _)) (Lq (ZT (Jct _) O) (Lq (Eo (j:=_) Un219 Un167 O O Jn (by kernel_rfl)) (Lq (JC O) (Lq (Jh (o':=0) Un170 O X7 O O) (Jg O (JJ X7 O O O .z .z (Je ?_)))))))
 refine ⟨_,[_],[],fun Z w hs=> .nil,?_,fun Z w hs=>hs.out (Sk (Sr)) (fun _ h=>h)⟩
 exact ⟨O,O,O⟩
set_option maxRecDepth 10000 in
theorem bcopy_1 (b:Nat) (v:Value):Sp Tryz.prog 124 [.pointer (some ⟨b,0,none⟩)] [blP b (some ⟨b,0,none⟩) v] [] (fun u Lo fs=>u= .tuple #[] ∧Lo= [blP b (some ⟨b,0,none⟩) v] ∧fs= []):=by
 refine Sp.of (n:=20) ⟨_,Tryz.func124,O,O,O,O⟩ (Nat.le_of_ble_eq_true O) fun Ps As=>Jc (Ja (Lq (Jb O) (Lq (JC O) (Lq (Jh (o':=0) Un170 O X7 O O) (Lq (Jj Un167 O O Jn O) (Lq (KN Un167 O O (by simp)) (Je (Jf (Jv O O (Jc (Ja (Lq (Jb O) (Lq (JC O) ?_)))))))))))))
 refine Lq (Jh (o':=0) Un170 O X7 O O) (Lq (Jj Un167 O O Jn O) (Lq (Jb O) (Lq (Hj (j:=_) Un167 O O O) (Je (Jf (Jv O O (Jp ?_)))))))
 refine ⟨_,[_],[],fun Z w hs=> .nil,?_,fun Z w hs=>hs.out (Sk (Sr)) (fun _ h=>h)⟩
 exact ⟨O,O,O⟩
theorem Jbj (b:Nat) (ad:Option Addr) (v:Value) (h:ad=none∨ad=some ⟨b,0,none⟩):Sp Tryz.prog 124 [.pointer (some ⟨b,0,none⟩)] [blP b ad v] [] (fun u Lo fs=>u= .tuple #[] ∧Lo= [blP b (some ⟨b,0,none⟩) v] ∧fs= []):=by
 rcases h with rfl | rfl
 ·exact bcopy_0 b v
 ·exact bcopy_1 b v
set_option maxRecDepth 10000 in
theorem E5 (b:Nat) (ad:Option Addr) (v:Value) (us:List Int) (p:Part) (r:Int) (had:ad=none∨ad=some ⟨b,0,none⟩) (hr:Row 5 1 v us.length (ints .u8 us) p) (hb:us.length≤1073741824):Sp Tryz.prog 101 [.pointer (some ⟨b,0,none⟩), .int .i32 r] [blP b ad v,p] [] (fun u Lo fs=> ∃v' p',Row 5 1 v' (us++encI r).length (ints .u8 (us++encI r)) p'∧Lo= [blP b (some ⟨b,0,none⟩) v',p'] ∧fs= []):=by
 have hel:=Qt r
 obtain ⟨Av,cv,rfl⟩:=hr.slice
 refine Sp.of (n:=30) ⟨_,Tryz.func101,O,O,O,O⟩ (Nat.le_of_ble_eq_true O) fun Ps As=>Jc (Ja (Lq (Jd O) (Lq (Jd O) (Je (Jf (Jc (Ja (Lq (Jb O) (Jg O (JR (Jbj b ad _ had) (.n1 O) (by decide) .z Jw fun u1_1 Lo fs hres=> ?_))))))))))
 obtain ⟨rfl,rfl,rfl⟩:=hres
 refine Je (Jf (Jc (Ja (Lq (Jb O) (Lq (JC O) (Lq (Jh (o':=1) Un170 O Vj O O) (Lq (Jj Un168 O O Jn O) (Lq (J3 Un168 O) (Lq (Jd O) (Je (Jf (Jc (Ja (Lq (Jb O) (Lq (Jb O) ?_)))))))))))))))
 refine Lq (JC O) (Lq (Jh (o':=1) Un170 O Vj O O) (Lq (Jj Un168 O O Jn O) (Lq (Jb O) (Jg O (JR (Zq _ us p r hr hb) (.n2 O O) (by decide) .z1 Jw fun u3_6 Lo fs hres=> ?_)))))
 obtain ⟨p2,hr2,rfl,rfl⟩:=hres
 obtain ⟨A2,c2,rfl⟩:=hr2.slice
 refine Lq (JC O) (Lq (Jh (o':=1) Un170 O Vj O O) (Jg O (JJ Vj O O O .z1 .z1 (Je (Jf (JF [(6,_),(5,_),(4,_),(0,_)] (.m4 O O O O) (Jc (JA .z (JA .z1 (Ja (Lq (Jb O) ?_)))))))))))
 refine Lq (JC O) (Lq (Jh (o':=1) Un170 O Vj O O) (Lq (Jj Un168 O O Jn O) (Lq (J3 Un168 O) (Lq (Jb O) (Lq (KP O O O) (Lq (Jd O) (Lq (Jd O) (Je (Jf (Jo ?_))))))))))
 refine ⟨_,[_,_],[],fun Z w hs=> .tmp O (.tmp O .nil),?_,fun Z w hs=>hs.out (Sk (Sk (Sr))) (fun _ h=>h)⟩
 exact ⟨_,_,hr2,O,O⟩
set_option maxRecDepth 10000 in
theorem Jao (b:Nat) (ad:Option Addr) (v:Value) (us:List Int) (p:Part) (hr:Row 5 1 v us.length (ints .u8 us) p) (hb:us.length≤1073741824) (hby:By us) (hne:us≠ []):Sp Tryz.prog 97 [.pointer (some ⟨b,0,none⟩)] [blP b ad v,p] [] (fun u Lo fs=>u= .string (strOf us)∧Lo= [blP b ad v] ∧fs= []):=by
 have hl0:=List.length_pos_iff.2 hne
 obtain ⟨hl,⟨_,h0,_⟩ | ⟨bb,cap,jk,rfl,rfl,h1,h2,h3⟩⟩:=hr
 ·omega
 refine Sp.of (n:=14) ⟨_,Tryz.func97,O,O,O,O⟩ (Nat.le_of_ble_eq_true O) fun Ps As=>Jc (Ja (Lq (Jd O) (Je (Jf (Jc (JI _ _ [] (.c 0 0 (.c 1 0 (.c 2 0 (.c 3 0 (.c 4 0 (.c 5 0 (.c 6 0 (.c 7 0 (.c 8 0 (.c 9 0 (.c 10 2 (.c 11 0 .nil)))))))))))) mixed (fun _ _ _ _ h=>h) (Sk (Sd (Sr))) (fun _ h=>h) (by kernel_rfl) (by decide) fun ws Z0=>Qe O (Jb O) (Qe O (JC O) (Qe O (Jh (o':=1) Un170 O Vj O O) (Qe O (Jj Un168 O O Jn O) (Qe O (EP (by omega) O) ?_))))))))))
 refine Qe O (Jb O) (Qe O (JC O) (Qe O (Jh (o':=1) Un170 O Vj O O) (Qe O (Jj Un168 O O Jn O) (Qe O (J3 Un168 O) (Jz O O (XJ (e:=5) (T:=5) Un201 O hby hne (by omega) O O (by decide) .z1 ?_))))))
 refine ⟨⟨(Sk (Sr)),Mm0⟩,?_⟩
 refine Qe O (Jd O) (JN (JM (Jf (Jo ?_))))
 refine ⟨_,[_],[],fun Z w hs=> .tmp O .nil,?_,fun Z w hs=>hs.out (Sk (Sr)) Tt1⟩
 exact ⟨O,O,O⟩
end Go.Proofs.YtgedhdmpiciikaaGreatDoor
