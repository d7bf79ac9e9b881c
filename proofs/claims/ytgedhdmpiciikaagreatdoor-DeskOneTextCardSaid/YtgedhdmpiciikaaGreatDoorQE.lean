/- Part of the proof that this claim's law answers true, whatever its arguments. Condition: the laid variables hold what their initialisers lay (the card ties that to the program's text). -/
import Derived.Test.YtgedhdmpiciikaaGreatDoorQD
set_option linter.unusedVariables false
set_option linter.unusedSimpArgs false
open Go.Proofs.Tryz renaming underlying1→Un1,underlying3→Un3,underlying4→Un4,underlying9→Un9,underlying20→Un20,underlying21→Un21,underlying22→Un22,underlying24→Un24,underlying25→Un25,underlying29→Un29,underlying30→Un30,underlying33→Un33,underlying34→Un34,underlying36→Un36,underlying38→Un38,underlying39→Un39,underlying40→Un40,underlying42→Un42,underlying43→Un43,underlying46→Un46,underlying47→Un47,underlying49→Un49,underlying50→Un50,underlying52→Un52,underlying54→Un54,underlying62→Un62,underlying67→Un67,underlying74→Un74,underlying78→Un78,underlying93→Un93,underlying98→Un98,underlying116→Un116,underlying121→Un121,underlying141→Un141,underlying143→Un143,underlying145→Un145,underlying149→Un149,underlying152→Un152,underlying154→Un154,underlying156→Un156,underlying157→Un157,underlying159→Un159,underlying160→Un160,underlying162→Un162,underlying167→Un167,underlying168→Un168,underlying170→Un170,underlying178→Un178,underlying188→Un188,underlying191→Un191,underlying195→Un195,underlying196→Un196,underlying198→Un198,underlying201→Un201,underlying213→Un213,underlying219→Un219
namespace Go.Proofs.YtgedhdmpiciikaaGreatDoor
open Go Go.GW
theorem turned_ops (H:Hist) (i:Nat) (o:GOp):(turnedF H i o).1.map (·.op)=H.ops:=by
 unfold turnedF
 split
 ·rfl
 ·split
  ·rfl
  ·split
   ·rfl
   ·rename_i k hwk _ e he
    split
    ·rfl
    ·have hk:k<H.ents.length:=by
      rcases Nat.lt_or_ge k H.ents.length with h | h
      ·exact h
      ·rw [List.getElem?_eq_none h] at he;cases he
     have e1:H.ents[k] =e:=by rw [List.getElem?_eq_getElem hk] at he;exact Option.some.inj he
     exact X0 hk (offE e (!o.on)) (by rw [e1];rfl) 0
theorem whereId_ops {es:List Ent} {H:Hist} {c n:Int} (h:es.map (·.op)=H.ops) (hn:J0 H.ents c n=none):J0 es c n=none:=by
 unfold J0
 rw [List.findIdx?_eq_none_iff]
 intro e he
 have h1:e.op∈H.ops:=by rw [←h];exact List.mem_map.2 ⟨e,he,rfl⟩
 obtain ⟨x,hx,hxe⟩:=List.mem_map.1 h1
 have h2:=K5 hn x hx
 rw [hxe] at h2
 cases hq:(decide (c=e.op.c) && decide (n=e.op.n)) with
 | false=>rfl
 | true=>simp at hq;exact absurd ⟨hq.1.symm,hq.2.symm⟩ h2
theorem bd31Xw18 (w:World):(Instr.build 52 #[]).run Tryz.prog w= .ok (.agg #[.int .i64 0, .int .i64 0, .int .i64 0, .int .i64 0, .string ⟨#[]⟩, .slice none 0 0, .int .i64 0, .int .i64 0, .bool false]) w:=by kernel_rfl
theorem bd101_0Xw18 (x0_:Int) (w:World):(Instr.build 162 #[(0, .int .i64 x0_)]).run Tryz.prog w= .ok (.agg #[.int .i64 x0_, .slice none 0 0, .bool false]) w:=by kernel_rfl
theorem bd28_1Xw18 (x1_:Int) (w:World):(Instr.build 49 #[(1, .int .i64 x1_)]).run Tryz.prog w= .ok (.agg #[.int .i64 0, .int .i64 0, .int .i64 x1_]) w:=by kernel_rfl
theorem bd31_0Xw18 (x0_0a0:Int) (x0_0a1:Int) (x0_1:Int) (w:World):(Instr.build 52 #[(0, .agg #[.int .i64 x0_0a0, .int .i64 x0_0a1, .int .i64 x0_1])]).run Tryz.prog w= .ok (.agg #[.int .i64 x0_0a0, .int .i64 x0_0a1, .int .i64 x0_1, .int .i64 0, .string ⟨#[]⟩, .slice none 0 0, .int .i64 0, .int .i64 0, .bool false]) w:=by kernel_rfl
theorem bd37_0_1Xw18 (x0_:Int) (x1_:Int) (w:World):(Instr.build 74 #[(0, .int .i64 x0_),(1, .int .i64 x1_)]).run Tryz.prog w= .ok (.agg #[.int .i64 x0_, .int .i64 x1_]) w:=by kernel_rfl
theorem fd31_3Xw18 (x00a0:Int) (x00a1:Int) (x01:Int) (x1:Int) (x2:ByteArray) (x3A:Option Addr) (x3n x3c:Nat) (x4a0:Int) (x4a1:Int) (x5:Bool) (w:World):(Instr.field 52 (.agg #[.int .i64 x00a0, .int .i64 x00a1, .int .i64 x01, .int .i64 x1, .string x2, .slice x3A x3n x3c, .int .i64 x4a0, .int .i64 x4a1, .bool x5]) 3).run Tryz.prog w= .ok (.slice x3A x3n x3c) w:=by kernel_rfl
set_option maxRecDepth 10000 in
theorem Ja4 (h m cap:Nat) (A:Option Addr) (H:Hist) (L:List MR) (hr:HR H L) (i:Int) (o:GOp) (Ao:Option Addr) (co:Nat) (ho:Fit o) (hlt:H.ents.length<1000000):Sp Tryz.prog 70 [.pointer (some ⟨h,0,none⟩), .int .i64 i,opV o Ao co] [hdP h A H.ops.length cap m H.total,mpP m L,mkP L] [barF,RdF opD A cap H.ops,AllF L nowF,RdF rgD Ao co o.rs] (PuP H i o h m cap A L):=by
 have hol:=K6 H
 have hlen:=hr.len
 refine Sp.of (n:=196) ⟨_,Tryz.func70,rfl,rfl,rfl,rfl⟩ (Nat.le_of_ble_eq_true rfl) fun Ps As=>Jc (Ja (Jg rfl (J7 (cs:= [_,_,_,_,_,_,_,_,_]) rfl rfl (by decide) fun b5=>Jg rfl (Jv (cs:= [_,_,_,_,_,_,_,_,_]) JD rfl (by decide) fun b6=>Lq (Jd rfl) (Je (Jf (Jc (Jc (Kb (A:=RdF rgD none 0 []) (fun Z w hs=>RdS.nil _ _ _) (Ja (Lq (Jb rfl) (Lq (Jb rfl) ?_))))))))))))
 refine Lq (Jt (vs:= [_,_,_,_,_,_,_,_,_]) Un52 rfl JD rfl (Ji (Jm)) rfl rfl) (Jg rfl (Kz (Jbi h m cap A H L hr i o Ao co ho) (.cons rfl (.cons rfl (.cons rfl (.nil)))) (by decide) (.s (.s (.z))) (.s (.s (.z))) (.s (.s (.z))) (Jl Mm1 (Jl Mm2 (Jl Mm4 Jx))) fun u1_3 Lo fs hres=> ?_))
 obtain ⟨rfl,rfl,rfl⟩:=hres
 refine Lq (Jd rfl) (Je (Jf (Jc (Ja (Lq (Jb rfl) (Lq (Kr rfl rfl) (Je (Jf (Jy rfl (fun h24=> ?_) (fun h24=> ?_))))))))))
 ·refine Jc (Ja (Lq (JZ (.nil) (bd31Xw18)) (Lq (Jb rfl) (Jg rfl (Jq (cs':= [_,_,_,_,_,_,_,_,_]) (vs:= [_,_,_,_,_,_,_,_,_]) JD rfl rfl rfl rfl rfl (Nat.le_of_ble_eq_true rfl) (.s (.s (.s (.z)))) (Lq (Jd rfl) (Je (Jf (Jo (Js ?_))))))))))
  refine ⟨_,[_,_,_],[_,_,_],fun Z w hs=>JV hs Un52 rfl JD rfl (Ji (Ji (Ji (Jm)))) rfl (.tmp rfl (.nil)),?_,fun Z w hs=>hs.out (Sk (Sk (Sk (Sd (Sd (Sr)))))) (Jl Mm0 (Jl Mm2 (Jl Mm3 Tt1)))⟩
  try simp only [Bp,Bq] at *
  have hF:=put_1 h24
  exact ⟨L,A,cap,none,0,by rw [hF];exact hr,by rw [hF];rfl,by rw [hF],by rw [hF];rfl⟩
 ·refine Jp (Jf (Jc ?_))
  try simp only [Bp,Bq] at *
  obtain ⟨h0,h1,hw0,htot,hne3,hk1,hk4,hck,htgt⟩:=fits_0 h24
  obtain ⟨i,rfl⟩: ∃k:Nat,i=(k:Int):=⟨i.toNat,by omega⟩
  have hil:i≤H.ents.length:=by omega
  have hwid:=check_wid hck
  refine Ja (Lq (Jt (vs:= [_,_,_,_,_,_,_,_,_]) Un52 rfl JD rfl (Ji (Ji (Ji (Ji (Jm))))) rfl rfl) (Jg rfl (Jn (YU o Ao co ho.rs) (.cons rfl (.nil)) (by decide) (Jl Mm4 Jx) fun u4_1 Lo fs hres=> ?_)))
  obtain ⟨A1,c1,rfl,rfl,rfl⟩:=hres
  refine Jg rfl (Jq (cs':= [_,_,_,_,_,_,_,_,_]) (vs:= [_,_,_,_,_,_,_,_,_]) JD rfl rfl rfl rfl rfl (Nat.le_of_ble_eq_true rfl) (.s (.s (.s (.s (.z))))) (Je (Jf (Jc (VX Mm3 fun hcap hcap2=> ?_)))))
  obtain ⟨B,hB⟩: ∃B,B=cutA A i cap 9:=⟨_,rfl⟩
  have hFd: ∀x∈H.ops.drop i,Fit x:=fun x hx=>by obtain ⟨e,he,rfl⟩:=List.mem_map.1 (List.mem_of_mem_drop hx);exact hr.fit e he
  refine Kb (A:=RdF opD B (cap-i) (H.ops.drop i)) (fun Z w hs=>by rw [hB];have h1:=RdS.cut (lo:=i) (hi:=H.ops.length) (m:=cap) (hs.facts _ Mm3) (by omega) (by omega) (by omega) (Nat.le_refl _);rw [List.take_length] at h1;exact h1) (JG _ _ [] (.c 0 0 (.c 2 0 (.c 3 0 (.c 4 0 (.c 5 0 (.c 6 0 (.c 7 0 (.c 1 2 (.c 8 2 (.c 9 0 (.c 10 0 (.c 11 0 (.c 12 0 (.c 13 0 (.c 14 0 (.c 15 0 .nil)))))))))))))))) mixed (fun _ _ _ _ h=>h) (Sk (Sk (Sk (Sk (Sk (Sr)))))) (fun _ h=>h) (by kernel_rfl) (by decide) fun ws Z0=>Qe rfl (Jt (vs:= [_,_,_,_,_,_,_,_,_]) Un52 rfl JD rfl (Ji (Ji (Ji (Ji (Jm))))) rfl rfl) (Qe rfl (Jb rfl) (Qe rfl (JC rfl) ?_)))
  refine Qe rfl (Jh (o':=0) Un159 rfl Qw rfl rfl) (Qe rfl (Jj Un78 rfl rfl Jm rfl) (Qe rfl (Jb rfl) (Qe rfl (GZ Un78 JD rfl rfl (by omega) (by omega)) (Jz rfl rfl (KD (cs:= [_,_,_,_,_,_,_,_,_]) Un78 JD (by decide) (by decide) rfl rfl rfl rfl (by decide) fun b31=> ?_)))))
  refine ⟨⟨(Sd (Sk (Sk (Sk (Sk (Sk (Sr))))))),Mm0⟩,?_⟩
  refine Gf (e:=opD) (u:=o) (.z) (fun Z w hs=>⟨A1,c1,rfl,hs.facts _ Mm2⟩) (Jz rfl rfl (Jn (Jam (some ⟨b31,0,none⟩) B 1 (cap-i) [o] (H.ops.drop i) (by simpa using ho) hFd (by simp) (by rw [List.length_drop];omega)) (.cons rfl (.cons (by rw [hB,List.length_drop];rfl) (.nil))) (by decide) (Jl Mm5 (Jl Mm0 (Jl Mm2 Jx))) fun u5_8 Lo fs hres=> ?_))
  obtain ⟨Ac,cc,Ad,cd,rfl,rfl,rfl⟩:=hres
  refine ⟨⟨(Sk (Sk (Sk (Sk (Sk (Sr)))))),Mm3⟩,?_⟩
  refine Qe rfl (Jb rfl) (Qe rfl (Jk (vs:= [_,_,_]) rfl rfl) (Qe rfl (Jk (vs:= [_,_,_]) rfl rfl) (Qe rfl (Jk (vs:= [_,_,_]) rfl rfl) (Qe rfl (Jd rfl) (Qe rfl (Jd rfl) (Qe rfl (Jd rfl) (JN (JM (Jf (JF [(11,_),(10,_),(9,_),(7,_),(6,_),(5,_),(0,_),(1,_)] (.cons rfl (.cons rfl (.cons rfl (.cons rfl (.cons rfl (.cons rfl (.cons rfl (.cons rfl (.nil _))))))))) ?_))))))))))
  refine Jc (Jc (Ja (Lq (Jb rfl) (Lq (Kr rfl rfl) (Je (Jf (Jy rfl (fun h43=> ?_) (fun h43=> ?_))))))))
  ·refine Jc (Ja (Lq (JZ (.nil) (bd31Xw18)) (Lq (Jb rfl) (Jg rfl (Jq (cs':= [_,_,_,_,_,_,_,_,_]) (vs:= [_,_,_,_,_,_,_,_,_]) JD rfl rfl rfl rfl rfl (Nat.le_of_ble_eq_true rfl) (.s (.s (.s (.z)))) (Lq (Jd rfl) (Je (Jf (Jo (Js ?_))))))))))
   refine ⟨_,[_,_,_],[_,_,_],fun Z w hs=>JV hs Un52 rfl JD rfl (Ji (Ji (Ji (Jm)))) rfl (.tmp rfl (.nil)),?_,fun Z w hs=>hs.out (Sk (Sk (Sk (Sd (Sd (Sr)))))) (Jl Mm6 (Jl Mm8 (Jl Mm9 Tt7)))⟩
   try simp only [Bp,Bq] at *
   have hF:=put_2 h24 h43
   exact ⟨L,A,cap,none,0,by rw [hF];exact hr,by rw [hF];rfl,by rw [hF],by rw [hF];rfl⟩
  ·refine Jp (Jf (Jc ?_))
   try simp only [Bp,Bq] at *
   have hX:(crossF [o] (H.ops.drop i)).2.2=0:=by omega
   obtain ⟨td,htd,hsame⟩:=crossOne hX
   have hcf:=E3 (xs:= [o]) (ys:=H.ops.drop i) (by simpa using ho) hFd
   have htf:Fit td:=hcf.1 td (by rw [htd];exact List.mem_singleton.2 rfl)
   obtain ⟨later,hlater⟩: ∃x,x=(crossF [o] (H.ops.drop i)).2.1:=⟨_,rfl⟩
   have hsl:Sames (H.ops.drop i) later:=by rw [hlater];exact (Xj hX).2
   have hfl: ∀y∈later,Fit y:=by rw [hlater];exact hcf.2
   have hll:later.length=H.ops.length-i:=by rw [hsl.length,List.length_drop]
   rw [htd,←hlater]
   refine Ja (Lq (Jb rfl) (Lq (JZ (.cons rfl (.nil)) (bd101_0Xw18 _)) (Jg rfl (J7 (cs:= [_,_,_]) rfl rfl (by decide) fun b48=>Lq (Jd rfl) (Je (Jf (Jc (Ja (Lq (Jh (o':=0) Un52 rfl KM rfl rfl) (Lq (Jh (o':=2) Un49 rfl Yp rfl rfl) (Lq (Jj Un47 rfl rfl (Ji (Ji (Ji (Ji (Ji (Jm)))))) rfl) (Lq (JZ (.cons rfl (.nil)) (bd28_1Xw18 _)) ?_))))))))))))
   refine Lq (JZ (.cons rfl (.nil)) (bd31_0Xw18 _ _ _)) (Jg rfl (Jv (cs:= [_,_,_,_,_,_,_,_,_]) JD rfl (by decide) fun b13=>Jg rfl (Jq (cs':= [_,_,_,_,_,_,_,_,_]) (vs:= [_,_,_,_,_,_,_,_,_]) JD rfl rfl rfl rfl rfl (Nat.le_of_ble_eq_true rfl) (.z) (Je (Jf (JF [(13,_),(12,_),(10,_),(9,_),(7,_),(6,_),(5,_),(0,_),(1,_)] (.cons rfl (.cons rfl (.cons rfl (.cons rfl (.cons rfl (.cons rfl (.cons rfl (.cons rfl (.cons rfl (.nil _)))))))))) ?_))))))
   refine Hz (α:=List Ent×List MR×List Rg×Option Addr×Nat×GOp×Option Addr×Nat)
    (fun (es,L1,nw,An,cn,eff,Ae,ce)=> [(0, .pointer (some ⟨h,0,none⟩)),(1, .int .i64 i),(5, .pointer (some ⟨b5,0,none⟩)),(6, .pointer (some ⟨b6,0,none⟩)),(10, .slice Ad later.length cd),(12, .pointer (some ⟨b48,0,none⟩)),(13, .pointer (some ⟨b13,0,none⟩))])
    (fun (es,L1,nw,An,cn,eff,Ae,ce)=>([(b13,JB (opC eff Ae ce) 52)] :: [(b48,JB [.int .i64 i, .slice An nw.length cn, .bool false] 162)] :: [(b6,JB (opC zeroOp none 0) 52)] :: [(b5,JB (opC o A1 c1) 52)] ::hdP h A H.ops.length cap m H.total::mpP m L::mkP L1::Ps))
    (fun (es,L1,nw,An,cn,eff,Ae,ce)=>(RdF rgD Ae ce eff.rs::RdF rgD An cn nw::AllF L1 nowF::RdF opD Ad cd later::RdF rgD A1 c1 o.rs::RdF rgD none 0 [] ::barF::RdF opD A cap H.ops::AllF L nowF::RdF rgD Ao co o.rs::As))
    (fun (es,L1,nw,An,cn,eff,Ae,ce)=>MidI H i o td L es L1 nw eff) ?_ ?_
   ·refine Jc (Ja (Lq (Jh (o':=0) Un52 rfl KM rfl rfl) (Lq (Jh (o':=2) Un49 rfl Yp rfl rfl) (Lq (Jj Un47 rfl rfl (Ji (Ji (Ji (Ji (Ji (Ji (Jm))))))) rfl) (Je (Jf (JE (Jc (Ja (Lq (Kh rfl rfl) (Lq (Jd rfl) (Je (Jf (Jy rfl (fun h57=> ?_) (fun h57=> ?_)))))))))))))))
    ·refine Jc (Kc (k:=0) Mm0 rfl (op_open _) fun b12 q12 y12 e12=> ?_)
     cases e12
     refine JG _ _ [9] (.c 0 0 (.c 1 0 (.c 2 0 (.c 3 0 (.c 4 0 (.c 5 0 (.c 6 0 (.c 7 2 (.c 8 0 (.c 9 3 .nil)))))))))) mixed (fun _ _ _ _ h=>h) (Sd (Sk (Sk (Sk (Sk (Sk (Sk (Sr)))))))) (fun _ h=>h) (by kernel_rfl) (by decide) fun ws Z0=>Qe rfl (Jb rfl) (Qe rfl (J1 Un78 JD rfl rfl (by decide) (by simp)) (Qe rfl (Jh (o':=_+3) Un52 rfl ti3 rfl rfl) (Qe rfl (J6 (j:=3) Un3 rfl rfl Mm0 rfl rfl) (Qe rfl (Jh (o':=4) Un52 rfl ti9 rfl rfl) (Qe rfl (Jj Un9 rfl rfl (Ji (Ji (Ji (Ji (Ji (Jm)))))) rfl) (Qe rfl (Jh (o':=3) Un52 rfl ti3 rfl rfl) ?_))))))
     refine Jz rfl rfl (JH ti3 rfl rfl rfl (.s (.s (.s (.z)))) (.z) ?_)
     refine ⟨⟨(Sd (Sk (Sk (Sk (Sk (Sk (Sk (Sr)))))))),Mm0⟩,?_⟩
     refine Qe rfl (Jh (o':=4) Un52 rfl ti9 rfl rfl) (JN (J9 rfl rfl (JH ti9 rfl rfl rfl (.s (.s (.s (.s (.z))))) (.z) (JM (Jf (JF [(13,_),(12,_),(10,_),(7,_),(6,_),(5,_),(0,_),(1,_)] (.cons rfl (.cons rfl (.cons rfl (.cons rfl (.cons rfl (.cons rfl (.cons rfl (.cons rfl (.nil _))))))))) (Jc ?_)))))))
     cases hmv:movedAll H.ents td.at_ (Jw o) with
     | error e=>
      refine JG _ _ [] (.c 0 0 (.c 1 0 (.c 2 0 (.c 3 0 (.c 4 2 (.c 5 2 (.c 6 0 (.c 7 0 (.c 8 0 (.c 9 0 (.c 10 0 .nil))))))))))) mixed (fun _ _ _ _ h=>h) (Sk (Sk (Sd (Sd (Sd (Sk (Sk (Sr)))))))) (fun _ h=>h) (by kernel_rfl) (by decide) fun ws Z0=>Qe rfl (Jb rfl) (Qe rfl (Jh (o':=3) Un52 rfl ti3 rfl rfl) (Qe rfl (Jj Un3 rfl rfl Jm rfl) (Qe rfl (Jt (vs:= [_,_,_,_,_,_,_,_,_]) Un52 rfl JD rfl (Ji (Ji (Ji (Jm)))) rfl rfl) ?_)))
      refine Jz rfl rfl (Jn (YF o A1 c1 (by have:=ho.text;omega)) (.cons rfl (.nil)) (by decide) (Jl Mm11 Jx) fun u13_4 Lo fs hres=> ?_)
      obtain ⟨rfl,rfl,rfl⟩:=hres
      refine ⟨⟨(Sk (Sk (Sd (Sd (Sd (Sk (Sk (Sr)))))))),Mm0⟩,?_⟩
      refine Jz rfl rfl (Kz (Ev h m cap A H L hr td.at_ (Jw o)) (.cons rfl (.cons rfl (.cons rfl (.nil)))) (by decide) (.s (.s (.z))) (.s (.s (.z))) (.s (.s (.z))) (Jl Mm12 (Jl Mm13 Jx)) fun u13_5 Lo fs hres=> ?_)
      obtain ⟨rfl,hmr⟩:=hres
      rw [hmv] at hmr
      obtain ⟨rfl,rfl⟩:=hmr
      refine ⟨⟨(Sd (Sd (Sd (Sk (Sk (Sk (Sk (Sr)))))))),Mm0⟩,?_⟩
      refine Qe rfl (Jb rfl) (Qe rfl (Jk (vs:= [_,_]) rfl rfl) (Qe rfl (Jk (vs:= [_,_]) rfl rfl) (Qe rfl (Jd rfl) (Qe rfl (Jd rfl) (JN (JM (Jf (JF [(15,_),(14,_),(13,_),(12,_),(10,_),(7,_),(6,_),(5,_),(0,_),(1,_)] (.cons rfl (.cons rfl (.cons rfl (.cons rfl (.cons rfl (.cons rfl (.cons rfl (.cons rfl (.cons rfl (.cons rfl (.nil _))))))))))) (Jc (Jc (Ja (Lq (Jb rfl) ?_))))))))))))
      refine Lq (Kr rfl rfl) (Je (Jf (J3 rfl (by simpa using movedAll_ne hmv) (Jc (Ja (Lq (JZ (.nil) (bd31Xw18)) (Lq (Jb rfl) (Jg rfl (Jq (cs':= [_,_,_,_,_,_,_,_,_]) (vs:= [_,_,_,_,_,_,_,_,_]) JD rfl rfl rfl rfl rfl (Nat.le_of_ble_eq_true rfl) (.s (.s (.s (.s (.s (.z)))))) (Lq (Jd rfl) (Je (Jf (Jo (Js (JJ (Js ?_))))))))))))))))
      refine ⟨_,[_,_,_],[_,_,_],fun Z w hs=>JV hs Un52 rfl JD rfl (Ji (Ji (Ji (Ji (Ji (Jm)))))) rfl (.tmp rfl (.nil)),?_,fun Z w hs=>hs.out (Sk (Sk (Sk (Sd (Sd (Sd (Sd (Sr)))))))) (Jl Mm10 (Jl Mm12 (Jl Mm13 Tt11)))⟩
      try simp only [Bp,Bq] at *
      have hF:=put_3 h24 hX htd (by unfold midF;rw [if_pos h57,hmv])
      exact ⟨L,A,cap,none,0,by rw [hF];exact hr,by rw [hF];rfl,by rw [hF],by rw [hF];rfl⟩
     | ok ls=>
      have hlsl:=Q6 hmv
      refine JG _ _ [] (.c 0 0 (.c 1 0 (.c 2 0 (.c 3 0 (.c 4 2 (.c 5 2 (.c 6 0 (.c 7 0 (.c 8 0 (.c 9 0 (.c 10 0 .nil))))))))))) mixed (fun _ _ _ _ h=>h) (Sk (Sk (Sd (Sd (Sd (Sk (Sk (Sr)))))))) (fun _ h=>h) (by kernel_rfl) (by decide) fun ws Z0=>Qe rfl (Jb rfl) (Qe rfl (Jh (o':=3) Un52 rfl ti3 rfl rfl) (Qe rfl (Jj Un3 rfl rfl Jm rfl) (Qe rfl (Jt (vs:= [_,_,_,_,_,_,_,_,_]) Un52 rfl JD rfl (Ji (Ji (Ji (Jm)))) rfl rfl) ?_)))
      refine Jz rfl rfl (Jn (YF o A1 c1 (by have:=ho.text;omega)) (.cons rfl (.nil)) (by decide) (Jl Mm11 Jx) fun u13_4 Lo fs hres=> ?_)
      obtain ⟨rfl,rfl,rfl⟩:=hres
      refine ⟨⟨(Sk (Sk (Sd (Sd (Sd (Sk (Sk (Sr)))))))),Mm0⟩,?_⟩
      refine Jz rfl rfl (Kz (Ev h m cap A H L hr td.at_ (Jw o)) (.cons rfl (.cons rfl (.cons rfl (.nil)))) (by decide) (.s (.s (.z))) (.s (.s (.z))) (.s (.s (.z))) (Jl Mm12 (Jl Mm13 Jx)) fun u13_5 Lo fs hres=> ?_)
      obtain ⟨rfl,hmr⟩:=hres
      rw [hmv] at hmr
      obtain ⟨A3,c3,rfl,rfl⟩:=hmr
      refine ⟨⟨(Sd (Sd (Sd (Sk (Sk (Sk (Sk (Sr)))))))),Mm1⟩,?_⟩
      refine Qe rfl (Jb rfl) (Qe rfl (Jk (vs:= [_,_]) rfl rfl) (Qe rfl (Jk (vs:= [_,_]) rfl rfl) (Qe rfl (Jd rfl) (Qe rfl (Jd rfl) (JN (JM (Jf (JF [(15,_),(14,_),(13,_),(12,_),(10,_),(7,_),(6,_),(5,_),(0,_),(1,_)] (.cons rfl (.cons rfl (.cons rfl (.cons rfl (.cons rfl (.cons rfl (.cons rfl (.cons rfl (.cons rfl (.cons rfl (.nil _))))))))))) (Jc (Jc (Ja (Lq (Jb rfl) ?_))))))))))))
      refine Lq (Kr rfl rfl) (Je (Jf (Ju rfl rfl (Jp (Jf (Jc (Jc (Ja (Lq (Jb rfl) (Lq (J2 Un178 rfl) (Lq (Jb rfl) (Je (Jf (JE ?_))))))))))))))
      refine Kf (α:=Nat×List MR) (fun (k,Lk)=>ls.length-k)
       (fun (k,Lk)=> [(0, .pointer (some ⟨h,0,none⟩)),(1, .int .i64 i),(5, .pointer (some ⟨b5,0,none⟩)),(6, .pointer (some ⟨b6,0,none⟩)),(10, .slice Ad later.length cd),(12, .pointer (some ⟨b48,0,none⟩)),(13, .pointer (some ⟨b13,0,none⟩)),(80, .slice A3 ls.length c3),(81, .int .i64 ls.length),(82, .int .i64 k)])
       (fun (k,Lk)=>(hdP h A H.ops.length cap m H.total::mpP m L::mkP Lk:: [(b13,JB (opC { effF o with at_:=td.at_,text:=o.text } none 0) 52)] :: [(b48,JB [.int .i64 i, .slice none 0 0, .bool false] 162)] :: [(b6,JB (opC zeroOp none 0) 52)] :: [(b5,JB (opC o A1 c1) 52)] ::Ps))
       (fun (k,Lk)=>(AllF Lk nowF::RdF rsl A3 c3 ls::RdF opD Ad cd later::RdF rgD A1 c1 o.rs::RdF rgD none 0 [] ::barF::RdF opD A cap H.ops::AllF L nowF::RdF rgD Ao co o.rs::As))
       (fun (k,Lk)=>HR ⟨setNow H.ents ls k,H.total⟩ Lk∧keys Lk=keys L∧k≤ls.length)
       (0,L) ?_ (.cons rfl (.cons rfl (.cons rfl (.cons rfl (.cons rfl (.cons rfl (.cons rfl (.cons rfl (.cons rfl (.cons rfl (.nil _))))))))))) (Sk (Sk (Sk (Sk (Sk (Sk (Sk (Sr)))))))) (Jl Mm14 (Jl Mm0 (Jl Mm6 Tt10))) ?_
      ·exact ⟨by rw [Xa];exact hr,rfl,Nat.zero_le _⟩
      ·rintro ⟨k,Lk⟩ hI
       have hkls:k≤ls.length:=hI.2.2
       refine Jc (Ja (Lq (Km rfl rfl) (Je (Jf (Jc (Jy rfl (fun h83=> ?_) (fun h83=> ?_)))))))
       ·refine Jp (Jf (Jc (JE (Jc ?_))))
        try simp only [Bp,Bq] at *
        have hk:k<ls.length:=by omega
        have hke:k<H.ents.length:=by omega
        refine Kc (k:=k) Mm1 (List.getElem?_eq_getElem hk) (rsl_open _) fun b18 q18 y18 e18=> ?_
        cases e18
        refine Ja (Lq (Jb rfl) (Lq (J1 Un178 Yc rfl rfl (by omega) (by omega)) (Lq (J6 (j:=0) Un50 rfl rfl Mm0 rfl rfl) (Lq (Jd rfl) (Lq (Jd rfl) (Je (Jf ?_)))))))
        have hko:k<H.ops.length:=by omega
        have hop:=QT hke
        refine Kc (k:=k) Mm8 (List.getElem?_eq_getElem hko) (op_open _) fun bo qo yo eo=> ?_
        cases eo
        have hks:k<(setNow H.ents ls k).length:=by rw [VC];exact hke
        have hsk:(setNow H.ents ls k)[k] =H.ents[k] :=by have h1:=XL H.ents ls k hke;rw [List.getElem?_eq_getElem hks] at h1;exact Option.some.inj h1
        obtain ⟨jm,xm,hjm,hxm,hgm⟩:=hI.1.look hks
        obtain ⟨xk,xb,xA,xc⟩:=xm
        simp only [hsk] at hxm hgm
        obtain rfl:xk=markAt k H.ents[k] :=hxm
        rw [←hop,hI.2.1] at hgm
        refine JG _ _ [17] (.c 0 0 (.c 1 0 (.c 2 0 (.c 3 0 (.c 4 0 (.c 5 0 (.c 6 0 (.c 7 0 (.c 8 0 (.c 9 0 (.c 10 0 (.c 11 0 (.c 12 0 (.c 13 0 (.c 14 0 (.c 15 0 (.c 16 0 (.c 17 3 .nil)))))))))))))))))) mixed (fun _ _ _ _ h=>h) (Sk (Sk (Sd (Sk (Sk (Sk (Sk (Sr)))))))) (fun _ h=>h) (by kernel_rfl) (by decide) fun ws Z0=>Qe rfl (Jb rfl) (Qe rfl (JC rfl) (Qe rfl (Jh (o':=1) Un159 rfl Qg rfl rfl) (Qe rfl (Jj Un157 rfl rfl Jm rfl) (Qe rfl (Jb rfl) (Qe rfl (JC rfl) (Qe rfl (Jh (o':=0) Un159 rfl Qw rfl rfl) (Qe rfl (Jj Un78 rfl rfl Jm rfl) (Qe rfl (Jb rfl) ?_))))))))
        refine Qe rfl (J1 Un78 JD rfl rfl (by omega) (by omega)) (Qe rfl (Jh (o':=_+0) Un52 rfl KM rfl rfl) (Qe rfl (Jh (o':=_+0) Un49 rfl JW rfl rfl) (Qe rfl (Kn (k:=0) (vs:= [_,_]) Un46 rfl JW rfl Mm0 rfl rfl rfl) (Qe rfl (Y3 keyT hgm Un157 Qr rfl rfl (Ji (Jm))) (Qe rfl (Jb rfl) (Qe rfl (JC rfl) (Qe rfl (Jh (o':=1) Un162 rfl Yc rfl rfl) (JN (J9 rfl rfl (V7 (i:=jm) Yc rfl rfl rfl (XA hjm) (.s (.z)) (.s (.s (.z))) (JM ?_)))))))))))
        refine J8 (Jf ?_)
        have hmk:(mkP Lk).set jm (xb,JB [.int .i64 (markAt k H.ents[k]).num, .slice y18.1 ls[k].length y18.2, .bool (markAt k H.ents[k]).off] 162)=mkP (Lk.set jm ⟨markAt k ⟨H.ents[k].op,ls[k],H.ents[k].off⟩,xb,y18.1,y18.2⟩):=by rw [G5];rfl
        rw [hmk]
        refine Kb (A:=AllF (Lk.set jm ⟨markAt k ⟨H.ents[k].op,ls[k],H.ents[k].off⟩,xb,y18.1,y18.2⟩) nowF) (fun Z w hs=>G1 (hs.facts _ Mm5) (hs.facts _ Mm4)) (Ja (Lq (JU rfl rfl (wr64 (by omega))) (Lq (Jb rfl) (Je (Kq ?_)))))
        refine ⟨(k+1,Lk.set jm ⟨markAt k ⟨H.ents[k].op,ls[k],H.ents[k].off⟩,xb,y18.1,y18.2⟩),?_,(.cons rfl (.cons rfl (.cons rfl (.cons rfl (.cons rfl (.cons rfl (.cons rfl (.cons rfl (.cons rfl (.cons rfl (.nil _))))))))))),(Sk (Sk (Sk (Sk (Sk (Sk (Sk (Sr)))))))),(Jl Mm0 Tt7)⟩
        refine ⟨by show ls.length-(k+1)<ls.length-k;omega,?_,(XX (y:=⟨markAt k ⟨H.ents[k].op,ls[k],H.ents[k].off⟩,xb,y18.1,y18.2⟩) hjm rfl rfl rfl).trans hI.2.1,by show k+1≤ls.length;omega⟩
        rw [setNow_succ _ _ _ hke hk]
        exact hI.1.upd hks hjm (by simp only [hsk]) ⟨H.ents[k].op,ls[k],H.ents[k].off⟩ (by simp only [hsk]) (by have:=Xe hmv _ (List.getElem_mem hk);show ls[k].length≤_;omega) _ _
       ·refine Ki (JK (JK (Ka (Jf ?_))))
        try simp only [Bp,Bq] at *
        refine JA (.s (.s (.z))) (JA (.s (.s (.z))) (JA (.s (.s (.z))) (JA (.s (.s (.s (.s (.s (.s (.z))))))) (JA (.s (.s (.s (.s (.s (.s (.z))))))) (JA (.s (.s (.s (.s (.s (.s (.z))))))) (JA (.s (.s (.s (.s (.s (.s (.z))))))) (JG _ _ [12] (.c 0 0 (.c 1 0 (.c 2 0 (.c 3 0 (.c 4 0 (.c 5 0 (.c 6 2 (.c 7 0 (.c 8 0 (.c 9 2 (.c 10 0 (.c 11 0 (.c 12 3 .nil))))))))))))) mixed (fun _ _ _ _ h=>h) (Sk (Sk (Sk (Sk (Sk (Sk (Sk (Sr)))))))) (fun _ h=>h) (by kernel_rfl) (by decide) fun ws Z0=>Qe rfl (Jb rfl) (Qe rfl (Jh (o':=3) Un52 rfl ti3 rfl rfl) ?_))))))))
        refine Qe rfl (Jj Un3 rfl rfl Jm rfl) (Qe rfl (Jh (o':=3) Un52 rfl ti3 rfl rfl) (Qe rfl (Jj Un3 rfl rfl Jm rfl) (Qe rfl (Jt (vs:= [_,_,_,_,_,_,_,_,_]) Un52 rfl JD rfl (Ji (Ji (Ji (Jm)))) rfl rfl) (Jz rfl rfl (Jn (YF o A1 c1 (by have:=ho.text;omega)) (.cons rfl (.nil)) (by decide) (Jl Mm6 Jx) fun u21_6 Lo fs hres=> ?_)))))
        obtain ⟨rfl,rfl,rfl⟩:=hres
        refine ⟨⟨(Sk (Sk (Sk (Sk (Sk (Sk (Sk (Sr)))))))),Mm0⟩,?_⟩
        refine Qe rfl (JU rfl rfl (show IntKind.i64.wrap (td.at_+Jw o)=td.at_+Jw o from wr64 (by have:=htf.lo;have:=htf.hi;have:=KW o;omega))) (Qe rfl (JZ (.cons rfl (.cons rfl (.nil))) (bd37_0_1Xw18 _ _)) (Jz rfl rfl (KD (cs:= [_,_]) Un50 KY (by decide) (by decide) rfl rfl rfl rfl (by decide) fun b114=> ?_)))
        refine ⟨⟨(Sd (Sk (Sk (Sk (Sk (Sk (Sk (Sk (Sr))))))))),Mm0⟩,?_⟩
        refine Qe rfl (JC rfl) (Qe rfl (Jh (o':=1) Un162 rfl Yc rfl rfl) (Gf (e:=rgD) (u:=⟨td.at_,td.at_+Jw o⟩) (.z) (fun Z w hs=>rfl) (JN (J9 rfl rfl (JH Yc rfl rfl rfl (.s (.z)) (.s (.z)) (JM (J8 (Kq ?_))))))))
        refine ⟨(setNow H.ents ls H.ents.length,Lk,[⟨td.at_,td.at_+Jw o⟩],some ⟨b114,0,none⟩,1,{ effF o with at_:=td.at_,text:=o.text },none,0),?_,(.cons rfl (.cons rfl (.cons rfl (.cons rfl (.cons rfl (.cons rfl (.cons rfl (.nil _)))))))),(Sk (Sk (Sk (Sk (Sk (Sk (Sk (Sr)))))))),(Jl Mm6 (Jl Mm0 (Jl Mm2 Tt4)))⟩
        have hkk:k=ls.length:=by have:=hI.2.2;omega
        subst hkk
        refine ⟨by rw [←hlsl];exact hI.1,hI.2.1,?_,setNow_ops _ _ _,by show (1:Nat)≤_;omega⟩
        unfold midF
        rw [if_pos h57,hmv]
    ·refine Jc (Ja (Lq (Kh rfl rfl) (Lq (Jd rfl) (Je (Jf (Jy rfl (fun h117=> ?_) (fun h117=> ?_)))))))
     ·refine Jc (Kc (k:=0) Mm0 rfl (op_open _) fun b23 q23 y23 e23=> ?_)
      cases e23
      refine Ja (Lq (Jb rfl) (Lq (J1 Un78 JD rfl rfl (by decide) (by simp)) (Lq (Jh (o':=_+5) Un52 rfl Yc rfl rfl) (Lq (J6 (j:=5) Un50 rfl rfl Mm0 rfl rfl) (Lq (Jh (o':=5) Un52 rfl Yc rfl rfl) (Jg rfl (JH Yc rfl rfl rfl (.s (.s (.s (.s (.s (.z)))))) (.z) (Je (Jf (JF [(13,_),(12,_),(10,_),(7,_),(6,_),(5,_),(0,_),(1,_)] (.cons rfl (.cons rfl (.cons rfl (.cons rfl (.cons rfl (.cons rfl (.cons rfl (.cons rfl (.nil _))))))))) (JA (.s (.s (.s (.s (.z))))) ?_)))))))))))
      refine JA (.s (.s (.s (.s (.z))))) (JA (.s (.s (.s (.s (.z))))) (JA (.s (.s (.s (.s (.s (.s (.z))))))) (JA (.s (.s (.s (.s (.s (.s (.z))))))) (JA (.s (.s (.s (.s (.s (.s (.z))))))) (JA (.s (.s (.s (.s (.s (.s (.z))))))) (Ja (Lq (Jb rfl) (Lq (Jt (vs:= [_,_,_,_,_,_,_,_,_]) Un52 rfl JD rfl Jm rfl rfl) (Jg rfl (Jn (YU { effF o with rs:=td.rs } y23.1 y23.2 htf.rs) (.cons rfl (.nil)) (by decide) (Jl Mm1 Jx) fun u24_2 Lo fs hres=> ?_))))))))))
      obtain ⟨A5,c5,rfl,rfl,rfl⟩:=hres
      refine Lq (Yg rfl (fd31_3Xw18 _ _ _ _ _ _ _ _ _ _ _)) (Lq (JC rfl) (Lq (Jh (o':=1) Un162 rfl Yc rfl rfl) (Jg rfl (JH Yc rfl rfl rfl (.s (.z)) (.s (.z)) (Je (J8 (Kq ?_)))))))
      refine ⟨(H.ents,L,td.rs,A5,c5,{ effF o with rs:=td.rs },y23.1,y23.2),?_,(.cons rfl (.cons rfl (.cons rfl (.cons rfl (.cons rfl (.cons rfl (.cons rfl (.nil _)))))))),(Sk (Sk (Sk (Sk (Sk (Sk (Sk (Sr)))))))),(Jl Mm2 (Jl Mm0 (Jl Mm12 (Jl Mm4 Tt8))))⟩
      try simp only [Bp,Bq] at *
      refine ⟨hr,rfl,?_,rfl,htf.rs⟩
      unfold midF
      rw [if_neg h57,if_pos h117]
     ·refine Jc (Ja (Lq (Kh rfl rfl) (Lq (Jd rfl) (Je (Jf (JF [(130,_),(13,_),(12,_),(10,_),(7,_),(6,_),(5,_),(0,_),(1,_)] (.cons rfl (.cons rfl (.cons rfl (.cons rfl (.cons rfl (.cons rfl (.cons rfl (.cons rfl (.cons rfl (.nil _)))))))))) (Jy rfl (fun h130=> ?_) (fun h130=> ?_))))))))
      ·try simp only [Bp,Bq] at *
       obtain ⟨kt,hkt⟩:=htgt h130
       refine Ja (Lq (Jb rfl) (Lq (Jb rfl) (Lq (Jt (vs:= [_,_,_,_,_,_,_,_,_]) Un52 rfl JD rfl (Ji (Ji (Ji (Ji (Ji (Ji (Jm))))))) rfl rfl) (Jg rfl (Kz (Zd h m cap A H L hr i hil o A1 c1 kt hkt) (.cons rfl (.cons rfl (.cons rfl (.nil)))) (by decide) (.s (.s (.z))) (.s (.s (.z))) (.s (.s (.z))) (Jl Mm8 (Jl Mm9 Jx)) fun u26_3 Lo fs hres=> ?_)))))
       obtain ⟨L2,A4,c4,hr2,hk2,rfl,rfl,rfl⟩:=hres
       refine QW (.s (.s (.z))) (QW (.s (.s (.z))) (QW (.s (.s (.z))) (QW (.s (.s (.s (.s (.s (.s (.z))))))) (QW (.s (.s (.s (.s (.s (.s (.z))))))) (QW (.s (.s (.s (.s (.s (.s (.z))))))) (QW (.s (.s (.s (.s (.s (.s (.z))))))) (Jg rfl (Jq (cs':= [_,_,_,_,_,_,_,_,_]) (vs:= [_,_,_,_,_,_,_,_,_]) JD rfl rfl rfl rfl rfl (Nat.le_of_ble_eq_true rfl) (.z) (Je (J8 (Kq ?_)))))))))))
       refine ⟨((turnedF H i o).1,L2,[],none,0,(turnedF H i o).2,A4,c4),?_,(.cons rfl (.cons rfl (.cons rfl (.cons rfl (.cons rfl (.cons rfl (.cons rfl (.nil _)))))))),(Sk (Sk (Sk (Sk (Sk (Sk (Sk (Sr)))))))),(Jl Mm0 (Jl Mm8 (Jl Mm1 (Jl Mm3 Tt7))))⟩
       refine ⟨hr2,hk2,?_,turned_ops H i o,by show (0:Nat)≤_;omega⟩
       unfold midF
       rw [if_neg h57,if_neg h117,if_pos h130]
      ·try simp only [Bp,Bq] at *
       exfalso
       omega
   ·rintro ⟨es,L1,nw,An,cn,eff,Ae,ce⟩ hM
    refine Jc (JG _ _ [9] (.c 0 0 (.c 1 0 (.c 2 0 (.c 3 0 (.c 4 0 (.c 5 2 (.c 6 0 (.c 7 0 (.c 8 0 (.c 9 3 .nil)))))))))) mixed (fun _ _ _ _ h=>h) (Sk (Sk (Sk (Sk (Sk (Sk (Sk (Sr)))))))) (fun _ h=>h) (by kernel_rfl) (by decide) fun ws Z0=>Qe rfl (Jb rfl) (Qe rfl (JC rfl) (Qe rfl (Jh (o':=2) Un159 rfl ti3 rfl rfl) (Qe rfl (Jj Un3 rfl rfl (Ji (Ji (Ji (Ji (Jm))))) rfl) (Qe rfl (Jt (vs:= [_,_,_,_,_,_,_,_,_]) Un52 rfl JD rfl (Ji (Ji (Ji (Jm)))) rfl rfl) ?_)))))
    refine Jz rfl rfl (Jn (YF o A1 c1 (by have:=ho.text;omega)) (.cons rfl (.nil)) (by decide) (Jl Mm7 Jx) fun u27_5 Lo fs hres=> ?_)
    obtain ⟨rfl,rfl,rfl⟩:=hres
    refine ⟨⟨(Sk (Sk (Sk (Sk (Sk (Sk (Sk (Sr)))))))),Mm0⟩,?_⟩
    refine Qe rfl (JU rfl rfl (wr64 (by have:=hr.tot;have:=KW o;omega))) (Qe rfl (JC rfl) (Qe rfl (Jh (o':=2) Un159 rfl ti3 rfl rfl) (JN (J9 rfl rfl (JH ti3 rfl rfl rfl (.s (.s (.z))) (.s (.s (.s (.s (.z))))) (JM (Jf (Jc (JG _ _ [8] (.c 0 0 (.c 1 0 (.c 2 0 (.c 3 0 (.c 4 0 (.c 5 0 (.c 6 0 (.c 7 0 (.c 8 3 .nil))))))))) mixed (fun _ _ _ _ h=>h) (Sk (Sk (Sk (Sk (Sk (Sd (Sk (Sr)))))))) (fun _ h=>h) (by kernel_rfl) (by decide) fun ws Z0=>Qe rfl (Jb rfl) (Qe rfl (JC rfl) (Qe rfl (Jh (o':=1) Un159 rfl Qg rfl rfl) ?_)))))))))))
    refine Qe rfl (Jj Un157 rfl rfl (Ji (Ji (Ji (Ji (Jm))))) rfl) (Qe rfl (Jh (o':=0) Un52 rfl KM rfl rfl) (Qe rfl (Jh (o':=0) Un49 rfl JW rfl rfl) (Qe rfl (Jt (vs:= [_,_]) Un46 rfl JW rfl (Ji (Ji (Ji (Jm)))) rfl rfl) (Qe rfl (Jb rfl) (JN (J9 rfl rfl (H6 keyT Un157 rfl rfl rfl (hr.look0 hw0) (.s (.s (.s (.s (.s (.z)))))) (JM (Jf (JF [(0,_),(1,_),(5,_),(6,_),(10,_),(13,_)] (.cons rfl (.cons rfl (.cons rfl (.cons rfl (.cons rfl (.cons rfl (.nil _))))))) (Jc ?_)))))))))))
    obtain ⟨xs,hxs⟩: ∃xs,xs=H.ops.take i:=⟨_,rfl⟩
    have hxl:xs.length=i:=by rw [hxs,List.length_take];omega
    obtain ⟨B2,hB2⟩: ∃B,B=cutA A 0 i 9:=⟨_,rfl⟩
    refine Kb (A:=RdF opD B2 xs.length xs) (fun Z w hs=>by rw [hB2,hxl,hxs];exact RdS.cut (lo:=0) (hi:=i) (m:=i) (hs.facts _ Mm9) (Nat.zero_le _) (by omega) (Nat.le_refl _) (by omega)) (JG _ _ [15] (.c 0 0 (.c 1 0 (.c 2 0 (.c 3 0 (.c 4 0 (.c 5 0 (.c 6 0 (.c 7 0 (.c 8 0 (.c 11 0 (.c 9 2 (.c 10 2 (.c 12 2 (.c 13 0 (.c 14 0 (.c 15 3 .nil)))))))))))))))) mixed (fun _ _ _ _ h=>h) (Sk (Sk (Sk (Sk (Sk (Sk (Sk (Sr)))))))) (fun _ h=>h) (by kernel_rfl) (by decide) fun ws Z0=>Qe rfl (Jb rfl) (Qe rfl (Jb rfl) (Qe rfl (JC rfl) (Qe rfl (Jh (o':=0) Un159 rfl Qw rfl rfl) ?_))))
    refine Qe rfl (Jj Un78 rfl rfl (Ji (Ji (Ji (Ji (Jm))))) rfl) (Qe rfl (Jb rfl) (Qe rfl (Jb rfl) (Qe rfl (EU Un78 JD rfl rfl rfl (by omega) (by omega) (by omega)) (Qe rfl (Jt (vs:= [_,_,_,_,_,_,_,_,_]) Un52 rfl JD rfl (Ji (Ji (Ji (Jm)))) rfl rfl) (Qe rfl (Jb rfl) (Jz rfl rfl (KD (cs:= [_,_,_,_,_,_,_,_,_]) Un78 JD (by decide) (by decide) rfl rfl rfl rfl (by decide) fun b162=> ?_)))))))
    refine ⟨⟨(Sd (Sk (Sk (Sk (Sk (Sk (Sk (Sk (Sr))))))))),Mm0⟩,?_⟩
    refine Jz rfl rfl (Hc (e:=opD) (xs:=xs) (news:=opC o A1 c1) Un78 JD rfl (by decide) (by rw [hB2,hxl];rfl) rfl Mm1 Jm rfl rfl (by omega) (by unfold maxLen;omega) (by decide) fun v163 p163 css163 hr163=> ?_)
    refine ⟨⟨(Sd (Sd (Sk (Sk (Sk (Sk (Sk (Sk (Sk (Sr)))))))))),Mm1⟩,?_⟩
    refine Jz rfl rfl (YJ (e:=opD) (ys:=later) Un78 JD rfl (by decide) rfl rfl hr163 Mm8 (by omega) (by unfold maxLen;omega) (by decide) (DelAt.perm (.z)) fun v165 p165 css165 hr165=> ?_)
    refine ⟨⟨(Sd (Sd (Sk (Sk (Sk (Sk (Sk (Sk (Sk (Sr)))))))))),Mm2⟩,?_⟩
    refine Qe rfl (JC rfl) (Qe rfl (Jh (o':=0) Un159 rfl Qw rfl rfl) (Jaw (A:=RepsF opD (xs++([o] ++later)) (css163++([opC o A1 c1] ++css165))) (fun Z w hs=>Reps.append (hs.facts _ Mm1) (Reps.append (.cons ⟨A1,c1,rfl,hs.facts _ Mm10⟩ .nil) (hs.facts _ Mm0))) (H3 (e:=opD) (css:=css163++([opC o A1 c1] ++css165)) (xs:=xs++([o] ++later)) (by have h1:=hr165;simp only [List.flatten_append,List.flatten_cons,List.flatten_nil,List.append_nil,List.nil_append,List.append_assoc] at h1 ⊢;exact h1) (.z) (by simp only [List.length_append,List.length_cons,List.length_nil];omega) Mm0 fun A9 c9 e9=> ?_)))
    subst e9
    refine JN (J9 rfl rfl (JH Qw rfl rfl rfl (.z) (.s (.s (.s (.s (.s (.z)))))) (JM (Jf (JF [(0,_),(1,_),(6,_),(13,_)] (.cons rfl (.cons rfl (.cons rfl (.cons rfl (.nil _))))) (Jc (Jc (JA (.s (.s (.s (.s (.s (.s (.s (.z)))))))) (JA (.s (.s (.s (.z)))) (Ja0 ?_))))))))))
    have hglue:mkP L1++ [(b48,JB [.int .i64 i, .slice An nw.length cn, .bool false] 162)] =mkP (L1++ [⟨markAt i ⟨o,nw,false⟩,b48,An,cn⟩]):=by simp [mkP,mrO,markAt]
    rw [hglue]
    refine Kb (A:=AllF (L1++ [⟨markAt i ⟨o,nw,false⟩,b48,An,cn⟩]) nowF) (fun Z w hs x hx=>by rcases List.mem_append.1 hx with hx | hx;exact hs.facts _ Mm10 x hx;obtain rfl:=List.mem_singleton.1 hx;exact hs.facts _ Mm9) ?_
    have hesl:es.length=H.ents.length:=hM.len
    have hsl2:Sames ((es.drop i).map (·.op)) later:=by rw [List.map_drop,hM.ops];exact hsl
    have hwn:J0 es o.c o.n=none:=whereId_ops hM.ops hw0
    obtain ⟨FF,hFF⟩: ∃F,F=newEnts i o nw es later:=⟨_,rfl⟩
    obtain ⟨G,hG⟩: ∃G,G=xs++([o] ++later):=⟨_,rfl⟩
    have hGF:FF.map (·.op)=G:=by rw [hFF,newEnts_ops hsl2,hM.ops,hG,hxs]
    have hGl:G.length=FF.length:=by rw [←hGF,List.length_map]
    have hFl:FF.length=H.ents.length+1:=by rw [hFF,Qn hsl2 (by omega)];omega
    have hstart:=HN.start hM.hr (by simpa using (by omega:i≤es.length)) hsl2 hwn (o:=o) (nw:=nw) b48 An cn
    rw [←hFF] at hstart
    rw [←hG]
    refine Ja (Lq (Jb rfl) (Lq (Jd rfl) (Je (Jf (JE (JA (.s (.s (.s (.z)))) (JA (.s (.s (.s (.z)))) (JA (.s (.s (.s (.s (.s (.s (.z))))))) (JA (.s (.s (.s (.s (.s (.s (.z))))))) (JA (.s (.s (.s (.s (.z))))) ?_))))))))))
    refine Kf (α:=Nat×List MR) (fun (k,Lk)=>FF.length-k)
     (fun (k,Lk)=> [(0, .pointer (some ⟨h,0,none⟩)),(6, .pointer (some ⟨b6,0,none⟩)),(13, .pointer (some ⟨b13,0,none⟩)),(18, .int .i64 k)])
     (fun (k,Lk)=>(mkP Lk::hdP h A9 G.length c9 m (H.total+Jw o):: [(m,mapO (keys L++ [⟨o.c,o.n,b48⟩]))] :: [(b13,JB (opC eff Ae ce) 52)] :: [(b6,JB (opC zeroOp none 0) 52)] ::Ps))
     (fun (k,Lk)=>(AllF Lk nowF::RdF opD A9 c9 G::RdF rgD Ae ce eff.rs::barF::RdF opD A cap H.ops::AllF L nowF::RdF rgD Ao co o.rs::As))
     (fun (k,Lk)=>k≤FF.length∧HN FF Lk (numF i k)∧keys Lk=keys L++ [⟨o.c,o.n,b48⟩])
     (i,L1++ [⟨markAt i ⟨o,nw,false⟩,b48,An,cn⟩]) ?_ (.cons rfl (.cons rfl (.cons rfl (.cons rfl (.nil _))))) (Sk (Sk (Sk (Sk (Sk (Sd (Sd (Sr)))))))) (Jl Mm0 (Jl Mm1 (Jl Mm9 Tt15))) ?_
    ·exact ⟨by omega,hstart,by unfold keys;rw [List.map_append];show Go.Proofs.YtgedhdmpiciikaaGreatDoor.keys L1++_=_;rw [show Go.Proofs.YtgedhdmpiciikaaGreatDoor.keys L1=keys L from hM.keys];rfl⟩
    ·rintro ⟨k,Lk⟩ hI
     have hkF:k≤FF.length:=hI.1
     refine Jc (Jc (Ja (Lq (Jb rfl) (Lq (Jb rfl) (Lq (JC rfl) (Lq (Jh (o':=0) Un159 rfl Qw rfl rfl) (Lq (Jj Un78 rfl rfl (Ji (Jm)) rfl) (Lq (J2 Un78 rfl) (Lq (Km rfl rfl) (Je (Jf (Jy rfl (fun h175=> ?_) (fun h175=> ?_)))))))))))))
     ·refine Jp (Jf (Jc (JE ?_)))
      try simp only [Bp,Bq] at *
      have hk:k<FF.length:=by omega
      have hko:k<G.length:=by omega
      have hop:G[k] =FF[k].op:=by simp only [←hGF,List.getElem_map]
      refine Kc (k:=k) Mm1 (List.getElem?_eq_getElem hko) (op_open _) fun bo qo yo eo=> ?_
      cases eo
      obtain ⟨jm,xm,hjm,hxm,hgm⟩:=hI.2.1.look hk
      obtain ⟨xk,xb,xA,xc⟩:=xm
      obtain rfl:xk=markAt (numF i k k) FF[k] :=hxm
      rw [←hop,hI.2.2] at hgm
      refine JG _ _ [17] (.c 0 0 (.c 1 0 (.c 2 0 (.c 3 0 (.c 4 0 (.c 5 0 (.c 6 0 (.c 7 0 (.c 8 0 (.c 9 0 (.c 10 0 (.c 11 0 (.c 12 0 (.c 13 0 (.c 14 0 (.c 15 0 (.c 16 0 (.c 17 3 .nil)))))))))))))))))) mixed (fun _ _ _ _ h=>h) (Sd (Sk (Sk (Sk (Sk (Sr)))))) (fun _ h=>h) (by kernel_rfl) (by decide) fun ws Z0=>Qe rfl (Jb rfl) (Qe rfl (JC rfl) (Qe rfl (Jh (o':=1) Un159 rfl Qg rfl rfl) (Qe rfl (Jj Un157 rfl rfl Jm rfl) (Qe rfl (Jb rfl) (Qe rfl (JC rfl) (Qe rfl (Jh (o':=0) Un159 rfl Qw rfl rfl) (Qe rfl (Jj Un78 rfl rfl Jm rfl) (Qe rfl (Jb rfl) ?_))))))))
      refine Qe rfl (J1 Un78 JD rfl rfl (by omega) (by omega)) (Qe rfl (Jh (o':=_+0) Un52 rfl KM rfl rfl) (Qe rfl (Jh (o':=_+0) Un49 rfl JW rfl rfl) (Qe rfl (Kn (k:=0) (vs:= [_,_]) Un46 rfl JW rfl Mm0 rfl rfl rfl) (Qe rfl (Y3 keyT hgm Un157 Qr rfl rfl (Ji (Jm))) (Qe rfl (Jb rfl) (Qe rfl (JC rfl) (Qe rfl (Jh (o':=0) Un162 rfl ti3 rfl rfl) (JN (J9 rfl rfl (V7 (i:=jm) ti3 rfl rfl rfl (XA hjm) (.z) (.z) (JM ?_)))))))))))
      refine J8 (Jf ?_)
      have hmk:(mkP Lk).set jm (xb,JB [.int .i64 (k:Int), .slice xA (markAt (numF i k k) FF[k]).now.length xc, .bool (markAt (numF i k k) FF[k]).off] 162)=mkP (Lk.set jm ⟨markAt k FF[k],xb,xA,xc⟩):=by rw [G5];rfl
      rw [hmk]
      refine Kb (A:=AllF (Lk.set jm ⟨markAt k FF[k],xb,xA,xc⟩) nowF) (fun Z w hs=>G1 (hs.facts _ Mm3) (hs.facts _ Mm3 ⟨markAt (numF i k k) FF[k],xb,xA,xc⟩ (List.mem_of_getElem? hjm))) (Ja (Lq (Jb rfl) (Lq (JU rfl rfl (wr64 (by omega))) (Lq (Jd rfl) (Je (Kq ?_))))))
      refine ⟨(k+1,Lk.set jm ⟨markAt k FF[k],xb,xA,xc⟩),?_,(.cons rfl (.cons rfl (.cons rfl (.cons rfl (.nil _))))),(Sk (Sk (Sk (Sk (Sk (Sr)))))),(Jl Mm0 Tt5)⟩
      exact ⟨by show FF.length-(k+1)<FF.length-k;omega,by show k+1≤FF.length;omega,(hI.2.1.upd hk hjm rfl).next,(XX (y:=⟨markAt k FF[k],xb,xA,xc⟩) hjm rfl rfl rfl).trans hI.2.2⟩
     ·refine Ki (JK (JK (Ka (Jf (Jc (Ja (Lq (Jt (vs:= [_,_,_,_,_,_,_,_,_]) Un52 rfl JD rfl (Ji (Ji (Ji (Jm)))) rfl rfl) (Jg rfl (Jq (cs':= [_,_,_,_,_,_,_,_,_]) (vs:= [_,_,_,_,_,_,_,_,_]) JD rfl rfl rfl rfl rfl (Nat.le_of_ble_eq_true rfl) (.s (.s (.s (.s (.z))))) (Lq (Jd rfl) (Je (Jf (Jo ?_)))))))))))))
      refine ⟨_,[_,_,_],[_,_,_],fun Z w hs=>JV hs Un52 rfl JD rfl (Ji (Ji (Ji (Ji (Jm))))) rfl (.tmp rfl (.nil)),?_,fun Z w hs=>(((hs.pick (.z)).pick (.s (.s (.z)))).pick (.s (.s (.z)))).out (Sk (Sk (Sk (Sd (Sd (Sr)))))) (Jl Mm2 (Jl Mm1 (Jl Mm0 Tt3)))⟩
      try simp only [Bp,Bq] at *
      have hkl: ¬k<FF.length:=by omega
      have hF:=put_4 h24 hX htd hM.mid
      rw [Int.toNat_natCast,←hlater,←hFF] at hF
      have hRR:HR ⟨FF,H.total+Jw o⟩ Lk:=by
       have hn:=hI.2.1
       rw [hFF] at hn hkl ⊢
       exact HR.put hM hsl2 hfl ho hwid hlt htot hil hn hkl
      have hGG:(⟨FF,H.total+Jw o⟩:Hist).ops=G:=hGF
      have hkeys: [(m,mapO (keys L++ [⟨o.c,o.n,b48⟩]))] =mpP m Lk:=by unfold mpP;rw [hI.2.2]
      refine ⟨Lk,A9,c9,Ae,ce,by rw [hF];exact hRR,by rw [hF];rfl,?_,?_⟩
      ·rw [hF];simp only [hGG,hkeys]
      ·rw [hF];simp only [hGG]
def SmIn (s:Sm):Prop:=(0≤s.tot∧s.tot≤4611686018427387903)∧(0≤s.lv∧s.lv≤4611686018427387903)∧(0≤s.am∧s.am≤4611686018427387903)
set_option maxRecDepth 10000 in
theorem HY (x:Int):Sp Tryz.prog 135 [.int .i64 x] [] [] (Is (.int .i64 (if x<0 then 30 else if x>1048576 then 31 else 0))):=by
 refine Sp.of (n:=7) ⟨_,Tryz.func135,rfl,rfl,rfl,rfl⟩ (Nat.le_of_ble_eq_true rfl) fun Ps As=>Jc (Ja (Lq (Jd rfl) (Je (Jf (Jc (Jc (Ja (Lq (Jb rfl) (Lq (Km rfl rfl) (Je (Jf (Jy rfl (fun h4=> ?_) (fun h4=> ?_)))))))))))))
 ·refine Jc (Ja (Lq (Jd rfl) (Je (Jf (Jo (Js ?_))))))
  refine ⟨_,[],[],fun Z w hs=> .tmp rfl (.nil),?_,fun Z w hs=>hs.out (Sr) (fun _ h=>h)⟩
  try simp only [Bp,Bq] at *
  exact ⟨congrArg (Value.int .i64) (by repeat' split;all_goals first | rfl | omega),rfl,rfl⟩
 ·refine Jp (Jf (Jc (Jc (Ja (Lq (Jb rfl) (Lq (Kk rfl rfl) (Je (Jf (Jy rfl (fun h6=> ?_) (fun h6=> ?_))))))))))
  ·refine Jc (Ja (Lq (Jd rfl) (Je (Jf (Jo (Js ?_))))))
   refine ⟨_,[],[],fun Z w hs=> .tmp rfl (.nil),?_,fun Z w hs=>hs.out (Sr) (fun _ h=>h)⟩
   try simp only [Bp,Bq] at *
   exact ⟨congrArg (Value.int .i64) (by repeat' split;all_goals first | rfl | omega),rfl,rfl⟩
  ·refine Jp (Jf (Jc (Ja (Lq (Jd rfl) (Je (Jf (Jo ?_)))))))
   refine ⟨_,[],[],fun Z w hs=> .tmp rfl (.nil),?_,fun Z w hs=>hs.out (Sr) (fun _ h=>h)⟩
   try simp only [Bp,Bq] at *
   exact ⟨congrArg (Value.int .i64) (by repeat' split;all_goals first | rfl | omega),rfl,rfl⟩
theorem bd112Xw21 (w:World):(Instr.build 149 #[]).run Tryz.prog w= .ok (.agg #[.int .i64 0, .int .i64 0, .int .i64 0, .int .i64 0, .int .i64 0, .int .i64 0]) w:=by kernel_rfl
set_option maxRecDepth 10000 in
theorem all_1:Sp Tryz.prog 86 [.pointer none] [] [TrF none .nil] (Is (smV (allF .nil))):=by
 refine Sp.of (n:=10) ⟨_,Tryz.func86,rfl,rfl,rfl,rfl⟩ (Nat.le_of_ble_eq_true rfl) fun Ps As=>Jc (Ja (Jg rfl (Jv (cs:= [_,_,_,_,_,_]) Kp rfl (by decide) fun b2=>Je (Jf (Jc (Jc (Ja (Lq (Jb rfl) (Lq (KK Un141 rfl rfl (by simp)) (Je (Jf (J3 rfl rfl (Jc (Ja (Lq (JZ (.nil) (bd112Xw21)) (Jg rfl (Jq (cs':= [_,_,_,_,_,_]) (vs:= [_,_,_,_,_,_]) Kp rfl rfl rfl rfl rfl (Nat.le_of_ble_eq_true rfl) (.z) (Je (Jf (Jo (Js ?_)))))))))))))))))))))
 refine ⟨_,[],[],fun Z w hs=>JV hs Un149 rfl Kp rfl Jm rfl (.nil),?_,fun Z w hs=>hs.out (Sd (Sr)) (fun _ h=>h)⟩
 exact ⟨rfl,rfl,rfl⟩
set_option maxRecDepth 10000 in
theorem all_2 (A:Option Addr) (s:Sm) (l r:Tr) (rs:List Int) (hid plus:Int):Sp Tryz.prog 86 [.pointer A] [] [TrF A (.nd s l rs hid r plus)] (Is (smV s)):=by
 refine Sp.of (n:=10) ⟨_,Tryz.func86,rfl,rfl,rfl,rfl⟩ (Nat.le_of_ble_eq_true rfl) fun Ps As=>Ef Mm0 fun b Al Ar Ac cc e=> ?_
 cases e
 refine Jc (Ja (Jg rfl (Jv (cs:= [_,_,_,_,_,_]) Kp rfl (by decide) fun b2=>Je (Jf (Jc (Jc (Ja (Lq (Jb rfl) (Lq (KK Un141 rfl rfl (by simp)) (Je (Jf (Ju rfl rfl (Jp (Jf (Jc (Ja (Lq (Jb rfl) (Lq (JC rfl) (Lq (Jh (o':=_+0) Un198 rfl Kp rfl rfl) (Lq (Kn (k:=0) (vs:= [_,_,_,_,_,_]) Un149 rfl Kp rfl Mm0 rfl rfl rfl) ?_))))))))))))))))))))
 refine Jg rfl (Jq (cs':= [_,_,_,_,_,_]) (vs:= [_,_,_,_,_,_]) Kp rfl rfl rfl rfl rfl (Nat.le_of_ble_eq_true rfl) (.z) (Je (Jf (Jo ?_))))
 refine ⟨_,[],[],fun Z w hs=>JV hs Un149 rfl Kp rfl Jm rfl (.nil),?_,fun Z w hs=>hs.out (Sd (Sr)) Tt4⟩
 exact ⟨rfl,rfl,rfl⟩
theorem Yw (A:Option Addr) (t:Tr):Sp Tryz.prog 86 [.pointer A] [] [TrF A t] (Is (smV (allF t))):=by
 cases t with
 | nil=>
  refine ⟨all_1.enters,fun Z w Ps As hs=> ?_⟩
  obtain rfl:A=none:=hs.facts _ (by simp:TrF A .nil∈ [TrF A .nil] ++As)
  exact all_1.calls Z w Ps As hs
 | nd s l rs hid r plus=>exact all_2 A s l r rs hid plus
theorem bd112_0_1_3_5Xw21 (x0_:Int) (x1_:Int) (x3_:Int) (x5_:Int) (w:World):(Instr.build 149 #[(0, .int .i64 x0_),(1, .int .i64 x1_),(3, .int .i64 x3_),(5, .int .i64 x5_)]).run Tryz.prog w= .ok (.agg #[.int .i64 x0_, .int .i64 x1_, .int .i64 0, .int .i64 x3_, .int .i64 0, .int .i64 x5_]) w:=by kernel_rfl
set_option maxRecDepth 10000 in
theorem XE (s t:Sm) (hs:SmIn s) (ht:SmIn t):Sp Tryz.prog 169 [smV s,smV t] [] [] (Is (smV (withF s t))):=by
 obtain ⟨⟨a1,a2⟩,⟨a3,a4⟩,a5,a6⟩:=hs
 obtain ⟨⟨b1,b2⟩,⟨b3,b4⟩,b5,b6⟩:=ht
 refine Sp.of (n:=58) ⟨_,Tryz.func169,rfl,rfl,rfl,rfl⟩ (Nat.le_of_ble_eq_true rfl) fun Ps As=>Jc (Ja (Jg rfl (J7 (cs:= [_,_,_,_,_,_]) rfl rfl (by decide) fun b2=>Jg rfl (J7 (cs:= [_,_,_,_,_,_]) rfl rfl (by decide) fun b3=>Jg rfl (Jv (cs:= [_,_,_,_,_,_]) Kp rfl (by decide) fun b4=>Je (Jf (Jc (Jc (Ja (Lq (Jh (o':=0) Un149 rfl ti3 rfl rfl) (Lq (Jj Un3 rfl rfl (Ji (Jm)) rfl) (Lq (Kh rfl rfl) (Je (Jf ?_))))))))))))))
 refine Jy rfl (fun h8=> ?_) (fun h8=> ?_)
 ·refine Jc (Ja (Lq (Jt (vs:= [_,_,_,_,_,_]) Un149 rfl Kp rfl (Ji (Ji (Jm))) rfl rfl) (Jg rfl (Jq (cs':= [_,_,_,_,_,_]) (vs:= [_,_,_,_,_,_]) Kp rfl rfl rfl rfl rfl (Nat.le_of_ble_eq_true rfl) (.z) (Je (Jf (Jo (Js ?_))))))))
  refine ⟨_,[],[],fun Z w hs=>JV hs Un149 rfl Kp rfl Jm rfl (.nil),?_,fun Z w hs=>hs.out (Sd (Sd (Sd (Sr)))) (fun _ h=>h)⟩
  try simp only [Bp,Bq] at *
  exact ⟨by unfold withF;rw [if_pos h8];rfl,rfl,rfl⟩
 ·refine Jp (Jf (Jc (Jc (Ja (Lq (Jh (o':=0) Un149 rfl ti3 rfl rfl) (Lq (Jj Un3 rfl rfl (Ji (Ji (Jm))) rfl) (Lq (Kh rfl rfl) (Je (Jf (Jy rfl (fun h12=> ?_) (fun h12=> ?_)))))))))))
  ·refine Jc (Ja (Lq (Jt (vs:= [_,_,_,_,_,_]) Un149 rfl Kp rfl (Ji (Jm)) rfl rfl) (Jg rfl (Jq (cs':= [_,_,_,_,_,_]) (vs:= [_,_,_,_,_,_]) Kp rfl rfl rfl rfl rfl (Nat.le_of_ble_eq_true rfl) (.z) (Je (Jf (Jo (Js ?_))))))))
   refine ⟨_,[],[],fun Z w hs=>JV hs Un149 rfl Kp rfl Jm rfl (.nil),?_,fun Z w hs=>hs.out (Sd (Sd (Sd (Sr)))) (fun _ h=>h)⟩
   try simp only [Bp,Bq] at *
   exact ⟨by unfold withF;rw [if_neg h8,if_pos h12];rfl,rfl,rfl⟩
  ·refine Jp (Jf (Jc (Ja (Lq (Jh (o':=0) Un149 rfl ti3 rfl rfl) (Lq (Jj Un3 rfl rfl (Ji (Ji (Jm))) rfl) (Lq (Jh (o':=0) Un149 rfl ti3 rfl rfl) (Lq (Jj Un3 rfl rfl (Ji (Jm)) rfl) (Lq (JU rfl rfl (wr64 (by omega))) (Lq (Jh (o':=1) Un149 rfl ti3 rfl rfl) (Lq (Jj Un3 rfl rfl (Ji (Ji (Jm))) rfl) (Lq (Jh (o':=1) Un149 rfl ti3 rfl rfl) (Lq (Jj Un3 rfl rfl (Ji (Jm)) rfl) ?_))))))))))))
   refine Lq (JU rfl rfl (wr64 (by omega))) (Lq (Jh (o':=3) Un149 rfl ti3 rfl rfl) (Lq (Jj Un3 rfl rfl (Ji (Ji (Jm))) rfl) (Lq (Jh (o':=3) Un149 rfl ti3 rfl rfl) (Lq (Jj Un3 rfl rfl (Ji (Jm)) rfl) (Lq (XR rfl rfl) (Lq (Jh (o':=5) Un149 rfl ti3 rfl rfl) (Lq (Jj Un3 rfl rfl (Ji (Ji (Jm))) rfl) (Lq (Jh (o':=5) Un149 rfl ti3 rfl rfl) (Lq (Jj Un3 rfl rfl (Ji (Jm)) rfl) ?_)))))))))
   refine Lq (VE rfl rfl) (Lq (JZ (.cons rfl (.cons rfl (.cons rfl (.cons rfl (.nil))))) (bd112_0_1_3_5Xw21 _ _ _ _)) (Jg rfl (Jv (cs:= [_,_,_,_,_,_]) Kp rfl (by decide) fun b5=>Jg rfl (Jq (cs':= [_,_,_,_,_,_]) (vs:= [_,_,_,_,_,_]) Kp rfl rfl rfl rfl rfl (Nat.le_of_ble_eq_true rfl) (.z) (Je (Jf (JF [(5,_),(4,_),(3,_),(2,_)] (.cons rfl (.cons rfl (.cons rfl (.cons rfl (.nil _))))) (Jc (Jc (Ja (Lq (Jh (o':=3) Un149 rfl ti3 rfl rfl) (Lq (Jj Un3 rfl rfl (Ji (Ji (Ji (Jm)))) rfl) (Lq (Jh (o':=3) Un149 rfl ti3 rfl rfl) ?_)))))))))))))
   refine Lq (Jj Un3 rfl rfl Jm rfl) (Lq (Kh rfl rfl) (Je (Jf (Jy rfl (fun h39=> ?_) (fun h39=> ?_)))))
   ·refine Ja (Lq (Jh (o':=4) Un149 rfl ti3 rfl rfl) (Lq (Jj Un3 rfl rfl Jm rfl) (Lq (Jh (o':=4) Un149 rfl ti3 rfl rfl) (Lq (Jj Un3 rfl rfl (Ji (Ji (Ji (Jm)))) rfl) (Lq (JU rfl rfl (wr64 (by omega))) (Lq (Jh (o':=4) Un149 rfl ti3 rfl rfl) (Jg rfl (JH ti3 rfl rfl rfl (.s (.s (.s (.s (.z))))) (.z) (Je (Jf (JF [(5,_),(4,_),(3,_)] (.cons rfl (.cons rfl (.cons rfl (.nil _)))) ?_)))))))))))
    refine Jc (Jc (Ja (Lq (Jh (o':=3) Un149 rfl ti3 rfl rfl) (Lq (Jj Un3 rfl rfl (Ji (Ji (Jm))) rfl) (Lq (Jh (o':=3) Un149 rfl ti3 rfl rfl) (Lq (Jj Un3 rfl rfl Jm rfl) (Lq (Kh rfl rfl) (Je (Jf (Jy rfl (fun h50=> ?_) (fun h50=> ?_)))))))))))
    ·refine Ja (Lq (Jh (o':=4) Un149 rfl ti3 rfl rfl) (Lq (Jj Un3 rfl rfl Jm rfl) (Lq (Jh (o':=4) Un149 rfl ti3 rfl rfl) (Lq (Jj Un3 rfl rfl (Ji (Ji (Jm))) rfl) (Lq (JU rfl rfl (wr64 (by omega))) (Lq (Jh (o':=4) Un149 rfl ti3 rfl rfl) (Jg rfl (JH ti3 rfl rfl rfl (.s (.s (.s (.s (.z))))) (.z) (Je (Jf (JF [(5,_),(4,_)] (.cons rfl (.cons rfl (.nil _))) ?_)))))))))))
     refine Jc (Ja (Lq (Jt (vs:= [_,_,_,_,_,_]) Un149 rfl Kp rfl Jm rfl rfl) (Jg rfl (Jq (cs':= [_,_,_,_,_,_]) (vs:= [_,_,_,_,_,_]) Kp rfl rfl rfl rfl rfl (Nat.le_of_ble_eq_true rfl) (.s (.z)) (Je (Jf (Jo ?_)))))))
     refine ⟨_,[],[],fun Z w hs=>JV hs Un149 rfl Kp rfl (Ji (Jm)) rfl (.nil),?_,fun Z w hs=>hs.out (Sd (Sd (Sd (Sd (Sr))))) (fun _ h=>h)⟩
     try simp only [Bp,Bq] at *
     refine ⟨?_,rfl,rfl⟩
     unfold withF
     rw [if_neg h8,if_neg h12]
     first
      | rw [if_pos h39,if_pos h50]
      | rw [if_pos h39,if_neg h50]
      | rw [if_neg h39,if_pos h50]
      | rw [if_neg h39,if_neg h50]
     simp only [tup,smV,smC,Int.zero_add,Int.add_zero]
    ·refine Jp (Jf (Jc (Ja (Lq (Jt (vs:= [_,_,_,_,_,_]) Un149 rfl Kp rfl Jm rfl rfl) (Jg rfl (Jq (cs':= [_,_,_,_,_,_]) (vs:= [_,_,_,_,_,_]) Kp rfl rfl rfl rfl rfl (Nat.le_of_ble_eq_true rfl) (.s (.z)) (Je (Jf (Jo ?_)))))))))
     refine ⟨_,[],[],fun Z w hs=>JV hs Un149 rfl Kp rfl (Ji (Jm)) rfl (.nil),?_,fun Z w hs=>hs.out (Sd (Sd (Sd (Sd (Sr))))) (fun _ h=>h)⟩
     try simp only [Bp,Bq] at *
     refine ⟨?_,rfl,rfl⟩
     unfold withF
     rw [if_neg h8,if_neg h12]
     first
      | rw [if_pos h39,if_pos h50]
      | rw [if_pos h39,if_neg h50]
      | rw [if_neg h39,if_pos h50]
      | rw [if_neg h39,if_neg h50]
     simp only [tup,smV,smC,Int.zero_add,Int.add_zero]
   ·refine Jp (Jf (Jc (Jc (Ja (Lq (Jh (o':=3) Un149 rfl ti3 rfl rfl) (Lq (Jj Un3 rfl rfl (Ji (Ji (Jm))) rfl) (Lq (Jh (o':=3) Un149 rfl ti3 rfl rfl) (Lq (Jj Un3 rfl rfl Jm rfl) (Lq (Kh rfl rfl) (Je (Jf (JF [(50,_),(5,_),(4,_),(3,_)] (.cons rfl (.cons rfl (.cons rfl (.cons rfl (.nil _))))) (Jy rfl (fun h50=> ?_) (fun h50=> ?_))))))))))))))
    ·refine Ja (Lq (Jh (o':=4) Un149 rfl ti3 rfl rfl) (Lq (Jj Un3 rfl rfl Jm rfl) (Lq (Jh (o':=4) Un149 rfl ti3 rfl rfl) (Lq (Jj Un3 rfl rfl (Ji (Ji (Jm))) rfl) (Lq (JU rfl rfl (wr64 (by omega))) (Lq (Jh (o':=4) Un149 rfl ti3 rfl rfl) (Jg rfl (JH ti3 rfl rfl rfl (.s (.s (.s (.s (.z))))) (.z) (Je (Jf (Jc (Ja (Lq (Jt (vs:= [_,_,_,_,_,_]) Un149 rfl Kp rfl Jm rfl rfl) ?_)))))))))))))
     refine Jg rfl (Jq (cs':= [_,_,_,_,_,_]) (vs:= [_,_,_,_,_,_]) Kp rfl rfl rfl rfl rfl (Nat.le_of_ble_eq_true rfl) (.s (.z)) (Je (Jf (Jo ?_))))
     refine ⟨_,[],[],fun Z w hs=>JV hs Un149 rfl Kp rfl (Ji (Jm)) rfl (.nil),?_,fun Z w hs=>hs.out (Sd (Sd (Sd (Sd (Sr))))) (fun _ h=>h)⟩
     try simp only [Bp,Bq] at *
     refine ⟨?_,rfl,rfl⟩
     unfold withF
     rw [if_neg h8,if_neg h12]
     first
      | rw [if_pos h39,if_pos h50]
      | rw [if_pos h39,if_neg h50]
      | rw [if_neg h39,if_pos h50]
      | rw [if_neg h39,if_neg h50]
     simp only [tup,smV,smC,Int.zero_add,Int.add_zero]
    ·refine Jp (Jf (Jc (Ja (Lq (Jt (vs:= [_,_,_,_,_,_]) Un149 rfl Kp rfl Jm rfl rfl) (Jg rfl (Jq (cs':= [_,_,_,_,_,_]) (vs:= [_,_,_,_,_,_]) Kp rfl rfl rfl rfl rfl (Nat.le_of_ble_eq_true rfl) (.s (.z)) (Je (Jf (Jo ?_)))))))))
     refine ⟨_,[],[],fun Z w hs=>JV hs Un149 rfl Kp rfl (Ji (Jm)) rfl (.nil),?_,fun Z w hs=>hs.out (Sd (Sd (Sd (Sd (Sr))))) (fun _ h=>h)⟩
     try simp only [Bp,Bq] at *
     refine ⟨?_,rfl,rfl⟩
     unfold withF
     rw [if_neg h8,if_neg h12]
     first
      | rw [if_pos h39,if_pos h50]
      | rw [if_pos h39,if_neg h50]
      | rw [if_neg h39,if_pos h50]
      | rw [if_neg h39,if_neg h50]
     simp only [tup,smV,smC,Int.zero_add,Int.add_zero]
set_option maxRecDepth 10000 in
theorem ZA (s:Sm) (x:Int) (h:(-4611686018427387904≤s.mn∧s.mn≤4611686018427387903)∧(-4611686018427387904≤s.mx∧s.mx≤4611686018427387903)∧(-4611686018427387904≤x∧x≤4611686018427387903)):Sp Tryz.prog 151 [smV s, .int .i64 x] [] [] (Is (smV (liftedF s x))):=by
 refine Sp.of (n:=16) ⟨_,Tryz.func151,rfl,rfl,rfl,rfl⟩ (Nat.le_of_ble_eq_true rfl) fun Ps As=>Jc (Ja (Jg rfl (J7 (cs:= [_,_,_,_,_,_]) rfl rfl (by decide) fun b2=>Jg rfl (Jv (cs:= [_,_,_,_,_,_]) Kp rfl (by decide) fun b4=>Je (Jf (Jc (Ja (Lq (Jh (o':=3) Un149 rfl ti3 rfl rfl) (Lq (Jj Un3 rfl rfl (Ji (Jm)) rfl) (Lq (Jb rfl) (Lq (JU rfl rfl (wr64 (by omega))) (Lq (Jh (o':=3) Un149 rfl ti3 rfl rfl) ?_))))))))))))
 refine Jg rfl (JH ti3 rfl rfl rfl (.s (.s (.s (.z)))) (.s (.z)) (Je (Jf (Jc (Ja (Lq (Jh (o':=5) Un149 rfl ti3 rfl rfl) (Lq (Jj Un3 rfl rfl (Ji (Jm)) rfl) (Lq (Jb rfl) (Lq (JU rfl rfl (wr64 (by omega))) (Lq (Jh (o':=5) Un149 rfl ti3 rfl rfl) (Jg rfl (JH ti3 rfl rfl rfl (.s (.s (.s (.s (.s (.z)))))) (.s (.z)) (Je (Jf (JF [(4,_),(2,_)] (.cons rfl (.cons rfl (.nil _))) ?_)))))))))))))))
 refine Jc (Ja (Lq (Jt (vs:= [_,_,_,_,_,_]) Un149 rfl Kp rfl (Ji (Jm)) rfl rfl) (Jg rfl (Jq (cs':= [_,_,_,_,_,_]) (vs:= [_,_,_,_,_,_]) Kp rfl rfl rfl rfl rfl (Nat.le_of_ble_eq_true rfl) (.z) (Je (Jf (Jo ?_)))))))
 refine ⟨_,[],[],fun Z w hs=>JV hs Un149 rfl Kp rfl Jm rfl (.nil),?_,fun Z w hs=>hs.out (Sd (Sd (Sr))) (fun _ h=>h)⟩
 exact ⟨rfl,rfl,rfl⟩
structure Sm40 (s:Sm):Prop where
 tot:0≤s.tot∧s.tot≤1099511627776
 lv:0≤s.lv∧s.lv≤1099511627776
 ht:0≤s.ht∧s.ht≤1099511627776
 am:0≤s.am∧s.am≤1099511627776
theorem Sm40.sm {s:Sm} (h:Sm40 s):SmIn s:=⟨⟨h.tot.1,by have:=h.tot;omega⟩,⟨h.lv.1,by have:=h.lv;omega⟩,⟨h.am.1,by have:=h.am;omega⟩⟩
theorem Sm40.zero:Sm40 zeroSm:=⟨by decide,by decide,by decide,by decide⟩
theorem smIn_with {a b:Sm} (ha:Sm40 a) (hb:Sm40 b):SmIn (withF a b):=by
 have h1:=ha.tot;have h2:=ha.lv;have h3:=ha.am
 have g1:=hb.tot;have g2:=hb.lv;have g3:=hb.am
 unfold withF
 split
 ·exact ha.sm
 ·split
  ·exact hb.sm
  ·refine ⟨by simp only;omega,by simp only;omega,?_⟩
   simp only
   split<;>split<;>omega
def NodeP (t:Tr):Value→List Part→List Fact→Prop:=fun v Lo fs=> ∃A:Option Addr,v= .pointer A∧Lo= [] ∧fs= [TrF A t]
theorem bd112_0_1_3_4_5Xw22 (x0_:Int) (x1_:Int) (x3_:Int) (x4_:Int) (x5_:Int) (w:World):(Instr.build 149 #[(0, .int .i64 x0_),(1, .int .i64 x1_),(3, .int .i64 x3_),(4, .int .i64 x4_),(5, .int .i64 x5_)]).run Tryz.prog w= .ok (.agg #[.int .i64 x0_, .int .i64 x1_, .int .i64 0, .int .i64 x3_, .int .i64 x4_, .int .i64 x5_]) w:=by kernel_rfl
theorem bd150_0_1_2_3Xw22 (x0_0:Int) (x0_1:Int) (x0_2:Int) (x0_3:Int) (x0_4:Int) (x0_5:Int) (x1_:Option Addr) (x2_:Option Addr) (x3_0A:Option Addr) (x3_0n x3_0c:Nat) (x3_1:Int) (w:World):(Instr.build 198 #[(0, .agg #[.int .i64 x0_0, .int .i64 x0_1, .int .i64 x0_2, .int .i64 x0_3, .int .i64 x0_4, .int .i64 x0_5]),(1, .pointer x1_),(2, .pointer x2_),(3, .agg #[.slice x3_0A x3_0n x3_0c, .int .i64 x3_1])]).run Tryz.prog w= .ok (.agg #[.int .i64 x0_0, .int .i64 x0_1, .int .i64 x0_2, .int .i64 x0_3, .int .i64 x0_4, .int .i64 x0_5, .pointer x1_, .pointer x2_, .slice x3_0A x3_0n x3_0c, .int .i64 x3_1, .int .i64 0]) w:=by kernel_rfl
set_option maxRecDepth 10000 in
theorem Jbg (Al Ar Ac:Option Addr) (c:Nat) (l r:Tr) (rs:List Int) (hid:Int) (hl:Sm40 (allF l)) (hr:Sm40 (allF r)) (hn:rs.length≤1099511627776):Sp Tryz.prog 164 [.pointer Al,pcV rs hid Ac c, .pointer Ar] [] [TrF Al l,TrF Ar r,RdF runeD Ac c rs] (NodeP (knotF l rs hid r)):=by
 refine Sp.of (n:=42) ⟨_,Tryz.func164,rfl,rfl,rfl,rfl⟩ (Nat.le_of_ble_eq_true rfl) fun Ps As=>Jc (Ja (Jg rfl (J7 (cs:= [_,_]) rfl rfl (by decide) fun b4=>Lq (Jd rfl) (Je (Jf (Jc (Ja (Lq (Jb rfl) (Jg rfl (Jn (Yw Al l) (.cons rfl (.nil)) (by decide) (Jl Mm0 Jx) fun u1_1 Lo fs hres=> ?_))))))))))
 obtain ⟨rfl,rfl,rfl⟩:=hres
 refine Lq (Jb rfl) (Jg rfl (Jn (Yw Ar r) (.cons rfl (.nil)) (by decide) (Jl Mm1 Jx) fun u1_3 Lo fs hres=> ?_))
 obtain ⟨rfl,rfl,rfl⟩:=hres
 refine Jg rfl (Jv (cs:= [_,_,_,_,_,_]) Kp rfl (by decide) fun b7=>Jg rfl (Jv (cs:= [_,_,_,_,_,_]) Kp rfl (by decide) fun b8=>Jg rfl (Jq (cs':= [_,_,_,_,_,_]) (vs:= [_,_,_,_,_,_]) Kp rfl rfl rfl rfl rfl (Nat.le_of_ble_eq_true rfl) (.s (.z)) (Jg rfl (Jq (cs':= [_,_,_,_,_,_]) (vs:= [_,_,_,_,_,_]) Kp rfl rfl rfl rfl rfl (Nat.le_of_ble_eq_true rfl) (.z) (Je (Jf (Jc ?_))))))))
 refine JG _ _ [16] (.c 0 0 (.c 1 0 (.c 2 0 (.c 3 0 (.c 4 0 (.c 5 0 (.c 6 0 (.c 7 0 (.c 8 0 (.c 9 0 (.c 10 0 (.c 11 0 (.c 13 0 (.b (.c 12 2 (.b (.c 14 2 (.c 15 2 (.c 16 3 .nil))) (.c 15 2 (.c 14 2 (.c 16 3 .nil))))) (.c 15 2 (.c 12 2 (.c 14 2 (.c 16 3 .nil)))))))))))))))))) mixed (fun _ _ _ _ h=>h) (Sk (Sk (Sk (Sr)))) (fun _ h=>h) (by kernel_rfl) (by decide) fun ws Z0=>Qe rfl (Jt (vs:= [_,_,_,_,_,_]) Un149 rfl Kp rfl (Ji (Jm)) rfl rfl) (Qe rfl (Jh (o':=0) Un145 rfl YN rfl rfl) (Qe rfl (Jj Un30 rfl rfl (Ji (Ji (Jm))) rfl) (Qe rfl (J2 Un30 rfl) (Qe rfl (Jh (o':=1) Un145 rfl ti3 rfl rfl) (Qe rfl (Jj Un3 rfl rfl (Ji (Ji (Jm))) rfl) ?_)))))
 refine Qe rfl (Jh (o':=0) Un145 rfl YN rfl rfl) (Qe rfl (Jj Un30 rfl rfl (Ji (Ji (Jm))) rfl) (Qe rfl (J2 Un30 rfl) (Qe rfl (Jh (o':=1) Un145 rfl ti3 rfl rfl) (Qe rfl (Jj Un3 rfl rfl (Ji (Ji (Jm))) rfl) (Qe rfl (JZ (.cons rfl (.cons rfl (.cons rfl (.cons rfl (.cons rfl (.nil)))))) (bd112_0_1_3_4_5Xw22 _ _ _ _ _)) (Qe rfl (Jt (vs:= [_,_,_,_,_,_]) Un149 rfl Kp rfl Jm rfl rfl) (Yd ?_ ?_)))))))
 ·refine Jz rfl rfl (Jn (XE (allF l) ⟨rs.length,1,0,hid,rs.length,hid⟩ hl.sm ⟨by simp only;omega,by simp only;omega,by simp only;omega⟩) (.cons rfl (.cons rfl (.nil))) (by decide) Jx fun u2_12 Lo fs hres=> ?_)
  obtain ⟨rfl,rfl,rfl⟩:=hres
  refine ⟨⟨(Sk (Sk (Sk (Sr)))),Mm0⟩,?_⟩
  refine Yd ?_ ?_
  ·refine Jz rfl rfl (Jn (XE (withF (allF l) ⟨rs.length,1,0,hid,rs.length,hid⟩) (allF r) (smIn_with hl ⟨by simp only;omega,by simp only;omega,by simp only;omega,by simp only;omega⟩) hr.sm) (.cons rfl (.cons rfl (.nil))) (by decide) Jx fun u2_14 Lo fs hres=> ?_)
   obtain ⟨rfl,rfl,rfl⟩:=hres
   refine ⟨⟨(Sk (Sk (Sk (Sr)))),Mm0⟩,?_⟩
   refine Jz rfl rfl (Jv (cs:= [_,_,_,_,_,_]) Kp rfl (by decide) fun b9=> ?_)
   refine ⟨⟨(Sd (Sk (Sk (Sk (Sr))))),Mm0⟩,?_⟩
   refine JN (J9 rfl rfl (Jq (cs':= [_,_,_,_,_,_]) (vs:= [_,_,_,_,_,_]) Kp rfl rfl rfl rfl rfl (Nat.le_of_ble_eq_true rfl) (.z) (JM (Jf (JF [(9,_),(8,_),(7,_),(6,_),(4,_),(0,_),(2,_)] (.cons rfl (.cons rfl (.cons rfl (.cons rfl (.cons rfl (.cons rfl (.cons rfl (.nil _)))))))) (Jc (Ja (Lq (Jh (o':=2) Un149 rfl ti3 rfl rfl) (Lq (Jj Un3 rfl rfl (Ji (Ji (Jm))) rfl) (Lq (Jh (o':=2) Un149 rfl ti3 rfl rfl) (Lq (Jj Un3 rfl rfl (Ji (Jm)) rfl) (Lq (VE rfl rfl) ?_))))))))))))
   refine Lq (JU rfl rfl (wr64 (by have:=hl.ht;have:=hr.ht;omega))) (Lq (Jh (o':=2) Un149 rfl ti3 rfl rfl) (Jg rfl (JH ti3 rfl rfl rfl (.s (.s (.z))) (.z) (Je (Jf (JF [(9,_),(6,_),(4,_),(0,_),(2,_)] (.cons rfl (.cons rfl (.cons rfl (.cons rfl (.cons rfl (.nil _)))))) (Jc (Ja (Lq (Jt (vs:= [_,_,_,_,_,_]) Un149 rfl Kp rfl Jm rfl rfl) (Lq (Jb rfl) (Lq (Jb rfl) (Lq (Jt (vs:= [_,_]) Un145 rfl JY rfl (Ji (Ji (Ji (Jm)))) rfl rfl) ?_))))))))))))
   refine Lq (JZ (.cons rfl (.cons rfl (.cons rfl (.cons rfl (.nil))))) (bd150_0_1_2_3Xw22 _ _ _ _ _ _ _ _ _ _ _ _)) (Jg rfl (J7 (cs:=ndC ({ withF (withF (allF l) ⟨rs.length,1,0,hid,rs.length,hid⟩) (allF r) with ht:=1+max (allF l).ht (allF r).ht }) Al Ar Ac rs c hid 0) rfl rfl (by decide) fun b41=>QX (lt:=l) (rt:=r) (.z) Mm1 Mm2 Mm3 (Lq (Jd rfl) (Je (Jf (Jo ?_))))))
   refine ⟨_,[],[_],fun Z w hs=> .tmp rfl (.nil),?_,fun Z w hs=>hs.out (Sd (Sd (Sd (Sd (Sr))))) (Jl Mm0 Tt2)⟩
   exact ⟨_,rfl,rfl,rfl⟩
  ·refine Jz rfl rfl (Jv (cs:= [_,_,_,_,_,_]) Kp rfl (by decide) fun b9=> ?_)
   refine ⟨⟨(Sd (Sk (Sk (Sk (Sr))))),Mm0⟩,?_⟩
   refine Jz rfl rfl (Jn (XE (withF (allF l) ⟨rs.length,1,0,hid,rs.length,hid⟩) (allF r) (smIn_with hl ⟨by simp only;omega,by simp only;omega,by simp only;omega,by simp only;omega⟩) hr.sm) (.cons rfl (.cons rfl (.nil))) (by decide) Jx fun u2_14 Lo fs hres=> ?_)
   obtain ⟨rfl,rfl,rfl⟩:=hres
   refine ⟨⟨(Sd (Sk (Sk (Sk (Sr))))),Mm0⟩,?_⟩
   refine JN (J9 rfl rfl (Jq (cs':= [_,_,_,_,_,_]) (vs:= [_,_,_,_,_,_]) Kp rfl rfl rfl rfl rfl (Nat.le_of_ble_eq_true rfl) (.z) (JM (Jf (JF [(9,_),(8,_),(7,_),(6,_),(4,_),(0,_),(2,_)] (.cons rfl (.cons rfl (.cons rfl (.cons rfl (.cons rfl (.cons rfl (.cons rfl (.nil _)))))))) (Jc (Ja (Lq (Jh (o':=2) Un149 rfl ti3 rfl rfl) (Lq (Jj Un3 rfl rfl (Ji (Ji (Jm))) rfl) (Lq (Jh (o':=2) Un149 rfl ti3 rfl rfl) (Lq (Jj Un3 rfl rfl (Ji (Jm)) rfl) (Lq (VE rfl rfl) ?_))))))))))))
   refine Lq (JU rfl rfl (wr64 (by have:=hl.ht;have:=hr.ht;omega))) (Lq (Jh (o':=2) Un149 rfl ti3 rfl rfl) (Jg rfl (JH ti3 rfl rfl rfl (.s (.s (.z))) (.z) (Je (Jf (JF [(9,_),(6,_),(4,_),(0,_),(2,_)] (.cons rfl (.cons rfl (.cons rfl (.cons rfl (.cons rfl (.nil _)))))) (Jc (Ja (Lq (Jt (vs:= [_,_,_,_,_,_]) Un149 rfl Kp rfl Jm rfl rfl) (Lq (Jb rfl) (Lq (Jb rfl) (Lq (Jt (vs:= [_,_]) Un145 rfl JY rfl (Ji (Ji (Ji (Jm)))) rfl rfl) ?_))))))))))))
   refine Lq (JZ (.cons rfl (.cons rfl (.cons rfl (.cons rfl (.nil))))) (bd150_0_1_2_3Xw22 _ _ _ _ _ _ _ _ _ _ _ _)) (Jg rfl (J7 (cs:=ndC ({ withF (withF (allF l) ⟨rs.length,1,0,hid,rs.length,hid⟩) (allF r) with ht:=1+max (allF l).ht (allF r).ht }) Al Ar Ac rs c hid 0) rfl rfl (by decide) fun b41=>QX (lt:=l) (rt:=r) (.z) Mm1 Mm2 Mm3 (Lq (Jd rfl) (Je (Jf (Jo ?_))))))
   refine ⟨_,[],[_],fun Z w hs=> .tmp rfl (.nil),?_,fun Z w hs=>hs.out (Sd (Sd (Sd (Sd (Sr))))) (Jl Mm0 Tt2)⟩
   exact ⟨_,rfl,rfl,rfl⟩
 ·refine Jz rfl rfl (Jv (cs:= [_,_,_,_,_,_]) Kp rfl (by decide) fun b9=> ?_)
  refine ⟨⟨(Sd (Sk (Sk (Sk (Sr))))),Mm0⟩,?_⟩
  refine Jz rfl rfl (Jn (XE (allF l) ⟨rs.length,1,0,hid,rs.length,hid⟩ hl.sm ⟨by simp only;omega,by simp only;omega,by simp only;omega⟩) (.cons rfl (.cons rfl (.nil))) (by decide) Jx fun u2_12 Lo fs hres=> ?_)
  obtain ⟨rfl,rfl,rfl⟩:=hres
  refine ⟨⟨(Sd (Sk (Sk (Sk (Sr))))),Mm0⟩,?_⟩
  refine Jz rfl rfl (Jn (XE (withF (allF l) ⟨rs.length,1,0,hid,rs.length,hid⟩) (allF r) (smIn_with hl ⟨by simp only;omega,by simp only;omega,by simp only;omega,by simp only;omega⟩) hr.sm) (.cons rfl (.cons rfl (.nil))) (by decide) Jx fun u2_14 Lo fs hres=> ?_)
  obtain ⟨rfl,rfl,rfl⟩:=hres
  refine ⟨⟨(Sd (Sk (Sk (Sk (Sr))))),Mm0⟩,?_⟩
  refine JN (J9 rfl rfl (Jq (cs':= [_,_,_,_,_,_]) (vs:= [_,_,_,_,_,_]) Kp rfl rfl rfl rfl rfl (Nat.le_of_ble_eq_true rfl) (.z) (JM (Jf (JF [(9,_),(8,_),(7,_),(6,_),(4,_),(0,_),(2,_)] (.cons rfl (.cons rfl (.cons rfl (.cons rfl (.cons rfl (.cons rfl (.cons rfl (.nil _)))))))) (Jc (Ja (Lq (Jh (o':=2) Un149 rfl ti3 rfl rfl) (Lq (Jj Un3 rfl rfl (Ji (Ji (Jm))) rfl) (Lq (Jh (o':=2) Un149 rfl ti3 rfl rfl) (Lq (Jj Un3 rfl rfl (Ji (Jm)) rfl) (Lq (VE rfl rfl) ?_))))))))))))
  refine Lq (JU rfl rfl (wr64 (by have:=hl.ht;have:=hr.ht;omega))) (Lq (Jh (o':=2) Un149 rfl ti3 rfl rfl) (Jg rfl (JH ti3 rfl rfl rfl (.s (.s (.z))) (.z) (Je (Jf (JF [(9,_),(6,_),(4,_),(0,_),(2,_)] (.cons rfl (.cons rfl (.cons rfl (.cons rfl (.cons rfl (.nil _)))))) (Jc (Ja (Lq (Jt (vs:= [_,_,_,_,_,_]) Un149 rfl Kp rfl Jm rfl rfl) (Lq (Jb rfl) (Lq (Jb rfl) (Lq (Jt (vs:= [_,_]) Un145 rfl JY rfl (Ji (Ji (Ji (Jm)))) rfl rfl) ?_))))))))))))
  refine Lq (JZ (.cons rfl (.cons rfl (.cons rfl (.cons rfl (.nil))))) (bd150_0_1_2_3Xw22 _ _ _ _ _ _ _ _ _ _ _ _)) (Jg rfl (J7 (cs:=ndC ({ withF (withF (allF l) ⟨rs.length,1,0,hid,rs.length,hid⟩) (allF r) with ht:=1+max (allF l).ht (allF r).ht }) Al Ar Ac rs c hid 0) rfl rfl (by decide) fun b41=>QX (lt:=l) (rt:=r) (.z) Mm1 Mm2 Mm3 (Lq (Jd rfl) (Je (Jf (Jo ?_))))))
  refine ⟨_,[],[_],fun Z w hs=> .tmp rfl (.nil),?_,fun Z w hs=>hs.out (Sd (Sd (Sd (Sd (Sr))))) (Jl Mm0 Tt2)⟩
  exact ⟨_,rfl,rfl,rfl⟩
theorem eq149 (x0:Int) (x1:Int) (x2:Int) (x3:Int) (x4:Int) (x5:Int) (y0:Int) (y1:Int) (y2:Int) (y3:Int) (y4:Int) (y5:Int):EqT Tryz.prog 149 [.int .i64 x0, .int .i64 x1, .int .i64 x2, .int .i64 x3, .int .i64 x4, .int .i64 x5].toArray [.int .i64 y0, .int .i64 y1, .int .i64 y2, .int .i64 y3, .int .i64 y4, .int .i64 y5].toArray ((x0==y0) && ((x1==y1) && ((x2==y2) && ((x3==y3) && ((x4==y4) && ((x5==y5) && true)))))):=EqD.eqT (D:=2) (EqD.struct (D:=0) (l:= [(3,0),(3,1),(3,2),(3,3),(3,4),(3,5)]) (by kernel_rfl) (by kernel_rfl) (by kernel_rfl) (.int Un3 rfl rfl (.int Un3 rfl rfl (.int Un3 rfl rfl (.int Un3 rfl rfl (.int Un3 rfl rfl (.int Un3 rfl rfl .nil))))))) (by decide) (by kernel_rfl)
set_option maxRecDepth 10000 in
theorem lift_1 (x:Int):Sp Tryz.prog 121 [.pointer none, .int .i64 x] [] [TrF none .nil] (NodeP .nil):=by
 refine Sp.of (n:=32) ⟨_,Tryz.func121,rfl,rfl,rfl,rfl⟩ (Nat.le_of_ble_eq_true rfl) fun Ps As=>Jc (Ja (Lq (Jd rfl) (Je (Jf (Jc (Jc (Ja (Lq (Jb rfl) (Lq (KK Un141 rfl rfl (by simp)) (Je (Jf (J3 rfl rfl (Jc (Ja (Lq (Jd rfl) (Je (Jf (Jo (Js ?_)))))))))))))))))))
 refine ⟨_,[],[_],fun Z w hs=> .tmp rfl (.nil),?_,fun Z w hs=>hs.out (Sr) (Jl Mm0 (fun _ h=>h))⟩
 exact ⟨_,rfl,rfl,rfl⟩
set_option maxRecDepth 10000 in
theorem lift_2 (A:Option Addr) (s:Sm) (l r:Tr) (rs:List Int) (hid plus x:Int) (hw:Wf (.nd s l rs hid r plus)) (hx: -4194304≤x∧x≤4194304):Sp Tryz.prog 121 [.pointer A, .int .i64 x] [] [TrF A (.nd s l rs hid r plus)] (NodeP (liftF (.nd s l rs hid r plus) x)):=by
 have hbd:=hw.bd
 simp only [allF] at hbd
 have hpl:=hw.opened.plusB
 refine Sp.of (n:=32) ⟨_,Tryz.func121,rfl,rfl,rfl,rfl⟩ (Nat.le_of_ble_eq_true rfl) fun Ps As=>Ef Mm0 fun b Al Ar Ac cc e=> ?_
 cases e
 refine Jc (Ja (Lq (Jd rfl) (Je (Jf (Jc (Jc (Ja (Lq (Jb rfl) (Lq (KK Un141 rfl rfl (by simp)) (Je (Jf (Ju rfl rfl (Jp (Jf (Jc (Ja (Lq (Jb rfl) (Lq (JC rfl) (Lq (Jh (o':=_+0) Un198 rfl Kp rfl rfl) (Lq (Kn (k:=0) (vs:= [_,_,_,_,_,_]) Un149 rfl Kp rfl Mm0 rfl rfl rfl) ?_))))))))))))))))))))
 refine Lq (Jb rfl) (Jg rfl (Jn (ZA s x (by omega)) (.cons rfl (.cons rfl (.nil))) (by decide) Jx fun u3_5 Lo fs hres=> ?_))
 obtain ⟨rfl,rfl,rfl⟩:=hres
 refine Jg rfl (Jv (cs:= [_,_,_,_,_,_]) Kp rfl (by decide) fun b5=>Jg rfl (Jq (cs':= [_,_,_,_,_,_]) (vs:= [_,_,_,_,_,_]) Kp rfl rfl rfl rfl rfl (Nat.le_of_ble_eq_true rfl) (.z) (Je (Jf (Jc (Jc (JG _ _ [] (.c 0 0 (.c 1 0 (.c 2 0 (.c 3 0 (.c 4 0 (.c 5 0 .nil)))))) mixed (fun _ _ _ _ h=>h) (Sk (Sr)) (fun _ h=>h) (by kernel_rfl) (by decide) fun ws Z0=>Qe rfl (Jt (vs:= [_,_,_,_,_,_]) Un149 rfl Kp rfl Jm rfl rfl) (Qe rfl (Jb rfl) (Qe rfl (JC rfl) (Qe rfl (Jh (o':=_+0) Un198 rfl Kp rfl rfl) (Qe rfl (Kn (k:=0) (vs:= [_,_,_,_,_,_]) Un149 rfl Kp rfl Mm0 rfl rfl rfl) (Qe rfl (Ql rfl rfl (eq149 _ _ _ _ _ _ _ _ _ _ _ _)) ?_))))))))))))
 refine JN (JM (Jf (JF [(20,_),(5,_),(4,_),(0,_),(1,_)] (.cons rfl (.cons rfl (.cons rfl (.cons rfl (.cons rfl (.nil _)))))) (Jy rfl (fun h20=> ?_) (fun h20=> ?_)))))
 ·refine Jc (Ja (Lq (Jb rfl) (Lq (Jd rfl) (Je (Jf (Jo (Js ?_)))))))
  refine ⟨_,[],[_],fun Z w hs=> .tmp rfl (.nil),?_,fun Z w hs=>hs.out (Sd (Sr)) (Jl Mm5 Tt5)⟩
  have hx0:x=0:=by simp [liftedF] at h20;omega
  exact ⟨_,rfl,rfl,by rw [Vm,if_pos (by subst hx0;simp [liftedF])]⟩
 ·refine Jp (Jf (Jc (Ja (Lq (Jb rfl) (Lq (JC rfl) (Lq (Kn (k:=0) (vs:= [_,_,_,_,_,_,_,_,_,_,_]) Un198 rfl Zg rfl Mm1 rfl rfl rfl) (Jg rfl (Jv (cs:= [_,_,_,_,_,_,_,_,_,_,_]) Zg rfl (by decide) fun b6=>Jg rfl (Jq (cs':= [_,_,_,_,_,_,_,_,_,_,_]) (vs:= [_,_,_,_,_,_,_,_,_,_,_]) Zg rfl rfl rfl rfl rfl (Nat.le_of_ble_eq_true rfl) (.z) (Je (Jf (Jc (Ja (Lq (Jt (vs:= [_,_,_,_,_,_]) Un149 rfl Kp rfl (Ji (Jm)) rfl rfl) (Lq (Jh (o':=0) Un198 rfl Kp rfl rfl) (Jg rfl (Jq (cs':= [_,_,_,_,_,_,_,_,_,_,_]) (vs:= [_,_,_,_,_,_]) Kp rfl rfl rfl rfl rfl (Nat.le_of_ble_eq_true rfl) (.z) ?_)))))))))))))))))
  refine Je (Jf (Jc (Ja (Lq (Jh (o':=10) Un198 rfl ti3 rfl rfl) (Lq (Jj Un3 rfl rfl Jm rfl) (Lq (Jb rfl) (Lq (JU rfl rfl (wr64 (by omega))) (Lq (Jh (o':=10) Un198 rfl ti3 rfl rfl) (Jg rfl (JH ti3 rfl rfl rfl (.s (.s (.s (.s (.s (.s (.s (.s (.s (.s (.z))))))))))) (.z) (Je (Jf (JF [(6,_),(4,_)] (.cons rfl (.cons rfl (.nil _))) (Jc (Ja ?_)))))))))))))))
  refine QX (s:=liftedF s x) (lt:=l) (rt:=r) (Al:=Al) (Ar:=Ar) (Ac:=Ac) (rs:=rs) (cc:=cc) (hid:=hid) (plus:=plus+x) (.z) Mm2 Mm3 Mm4 (Lq (Jd rfl) (Je (Jf (Jo ?_))))
  refine ⟨_,[],[_],fun Z w hs=> .tmp rfl (.nil),?_,fun Z w hs=>hs.out (Sd (Sr)) (Jl Mm0 Tt6)⟩
  have hne: ¬liftedF s x=s:=fun e=>by
   have:=congrArg Sm.mn e
   simp only [liftedF] at this
   have hx0:x=0:=by omega
   subst hx0;simp [liftedF] at h20
  exact ⟨_,rfl,rfl,by rw [Vm,if_neg hne]⟩
theorem G8 (A:Option Addr) (t:Tr) (x:Int) (hw:Wf t) (hx: -4194304≤x∧x≤4194304):Sp Tryz.prog 121 [.pointer A, .int .i64 x] [] [TrF A t] (NodeP (liftF t x)):=by
 cases t with
 | nil=>
  refine ⟨(lift_1 x).enters,fun Z w Ps As hs=> ?_⟩
  obtain rfl:A=none:=hs.facts _ (by simp:TrF A .nil∈ [TrF A .nil] ++As)
  exact (lift_1 x).calls Z w Ps As hs
 | nd s l rs hid r plus=>exact lift_2 A s l r rs hid plus x hw hx
def OpenP (t:Tr):Value→List Part→List Fact→Prop:=fun v Lo fs=> ∃(Al:Option Addr) (l:Tr) (rs:List Int) (hid:Int) (Ac:Option Addr) (cc:Nat) (Ar:Option Addr) (r:Tr),v= .tuple #[.pointer Al,pcV rs hid Ac cc, .pointer Ar] ∧Lo= [] ∧fs= [TrF Al l,RdF runeD Ac cc rs,TrF Ar r] ∧Wf l∧Wf r∧rs≠ [] ∧(0≤hid∧hid≤1048576)∧t.row=l.row++(cellsOf rs hid++r.row)∧l.size<t.size∧r.size<t.size
set_option maxRecDepth 10000 in
theorem open_1 (A:Option Addr) (s:Sm) (l r:Tr) (rs:List Int) (hid plus:Int) (hw:Wf (.nd s l rs hid r plus)):Sp Tryz.prog 85 [.pointer A] [] [TrF A (.nd s l rs hid r plus)] (OpenP (.nd s l rs hid r plus)):=by
 have ho:=hw.opened
 have hpl:=ho.plusB
 have hhb:=ho.hidB
 have hwl:=hw.1
 have hwr:=hw.2.1
 refine Sp.of (n:=37) ⟨_,Tryz.func85,rfl,rfl,rfl,rfl⟩ (Nat.le_of_ble_eq_true rfl) fun Ps As=>Ef Mm0 fun b Al Ar Ac cc e=> ?_
 cases e
 refine Jc (Ja (Lq (Jd rfl) (Jg rfl (Jv (cs:= [_,_]) JY rfl (by decide) fun b3=>Lq (Jd rfl) (Je (Jf (Jc (Ja (Lq (Jb rfl) (Lq (JC rfl) (Lq (Jh (o':=_+8) Un198 rfl JY rfl rfl) (Lq (Kn (k:=8) (vs:= [_,_]) Un145 rfl JY rfl Mm0 rfl rfl rfl) (Jg rfl (Jv (cs:= [_,_]) JY rfl (by decide) fun b5=> ?_))))))))))))))
 refine Jg rfl (Jq (cs':= [_,_]) (vs:= [_,_]) JY rfl rfl rfl rfl rfl (Nat.le_of_ble_eq_true rfl) (.z) (Je (Jf (Jc (JG _ _ [8] (.c 0 0 (.c 1 0 (.c 2 0 (.c 3 0 (.c 4 0 (.c 5 0 (.c 6 0 (.c 7 0 (.c 8 3 .nil))))))))) mixed (fun _ _ _ _ h=>h) (Sk (Sk (Sr))) (fun _ h=>h) (by kernel_rfl) (by decide) fun ws Z0=>Qe rfl (Jh (o':=1) Un145 rfl ti3 rfl rfl) (Qe rfl (Jj Un3 rfl rfl Jm rfl) (Qe rfl (Jb rfl) (Qe rfl (JC rfl) (Qe rfl (Jh (o':=_+10) Un198 rfl ti3 rfl rfl) (Qe rfl (J6 (j:=10) Un3 rfl rfl Mm0 rfl rfl) (Qe rfl (JU rfl rfl (wr64 (by omega))) ?_)))))))))))
 refine Qe rfl (Jh (o':=1) Un145 rfl ti3 rfl rfl) (JN (J9 rfl rfl (JH ti3 rfl rfl rfl (.s (.z)) (.z) (JM (Jf (JF [(5,_),(4,_),(3,_),(2,_),(0,_)] (.cons rfl (.cons rfl (.cons rfl (.cons rfl (.cons rfl (.nil _)))))) (Jc (JG _ _ [20] (.c 0 0 (.c 1 0 (.c 2 0 (.c 3 0 (.c 4 0 (.c 5 0 (.c 6 0 (.c 7 0 (.c 9 0 (.c 10 0 (.c 11 0 (.c 12 0 (.c 13 0 (.c 14 0 (.c 15 0 (.c 16 0 (.c 17 0 (.c 8 2 (.c 18 2 (.c 19 0 (.c 20 3 (.c 21 1 .nil)))))))))))))))))))))) mixed (fun _ _ _ _ h=>h) (Sk (Sk (Sr))) (fun _ h=>h) (by kernel_rfl) (by decide) fun ws Z0=>Qe rfl (Jb rfl) (Qe rfl (JC rfl) (Qe rfl (Jh (o':=_+6) Un198 rfl YP rfl rfl) ?_))))))))))
 refine Qe rfl (J6 (j:=6) Un141 rfl rfl Mm1 rfl rfl) (Qe rfl (Jb rfl) (Qe rfl (JC rfl) (Qe rfl (Jh (o':=_+10) Un198 rfl ti3 rfl rfl) (Qe rfl (J6 (j:=10) Un3 rfl rfl Mm1 rfl rfl) (Qe rfl (Jt (vs:= [_,_]) Un145 rfl JY rfl Jm rfl rfl) (Qe rfl (Jb rfl) (Qe rfl (JC rfl) (Qe rfl (Jh (o':=_+7) Un198 rfl YP rfl rfl) (Qe rfl (J6 (j:=7) Un141 rfl rfl Mm1 rfl rfl) ?_)))))))))
 refine Qe rfl (Jb rfl) (Qe rfl (JC rfl) (Qe rfl (Jh (o':=_+10) Un198 rfl ti3 rfl rfl) (Qe rfl (J6 (j:=10) Un3 rfl rfl Mm1 rfl rfl) (Jz rfl rfl (Jn (G8 Al l plus hwl (by omega)) (.cons rfl (.cons rfl (.nil))) (by decide) (Jl Mm3 Jx) fun u3_8 Lo fs hres=> ?_)))))
 obtain ⟨Al2,rfl,rfl,rfl⟩:=hres
 refine ⟨⟨(Sk (Sk (Sr))),Mm1⟩,?_⟩
 refine Jz rfl rfl (Jn (G8 Ar r plus hwr (by omega)) (.cons rfl (.cons rfl (.nil))) (by decide) (Jl Mm5 Jx) fun u3_18 Lo fs hres=> ?_)
 obtain ⟨Ar2,rfl,rfl,rfl⟩:=hres
 refine ⟨⟨(Sk (Sk (Sr))),Mm2⟩,?_⟩
 refine Qe rfl (Jd rfl) (JN (J9 rfl rfl (Jq (cs':= [_,_]) (vs:= [_,_]) JY rfl rfl rfl rfl rfl (Nat.le_of_ble_eq_true rfl) (.s (.z)) (YO rfl (Jd rfl) (by decide) (JM (Jf (JF [(4,_),(2,_),(3,_)] (.cons rfl (.cons rfl (.cons rfl (.nil _)))) (Jo ?_))))))))
 refine ⟨_,[],[_,_,_],fun Z w hs=> .tmp rfl (JV hs Un145 rfl JY rfl (Ji (Jm)) rfl (.tmp rfl (.nil))),?_,fun Z w hs=>hs.out (Sd (Sd (Sr))) (Jl Mm1 (Jl Mm7 (Jl Mm0 Tt8)))⟩
 exact ⟨_,liftF l plus,rs,hid+plus,Ac,cc,_,liftF r plus,rfl,rfl,rfl,ho.wl,ho.wr,ho.ne,hhb,ho.row,by rw [size_lift];simp only [Tr.size];omega,by rw [size_lift];simp only [Tr.size];omega⟩
theorem open_r (A:Option Addr) (t:Tr) (hw:Wf t) (ht:t≠ .nil) (hb:t.row.length≤1073741824):Sp Tryz.prog 85 [.pointer A] [] [TrF A t] (OpenP t):=by
 cases t with
 | nil=>exact absurd rfl ht
 | nd s l rs hid r plus=>exact open_1 A s l r rs hid plus hw
def NP (row:List Ce):Value→List Part→List Fact→Prop:=fun v Lo fs=> ∃(A:Option Addr) (t:Tr),v= .pointer A∧Lo= [] ∧fs= [TrF A t] ∧Wf t∧t.row=row
theorem knot_r (Al Ar Ac:Option Addr) (c:Nat) (l r:Tr) (rs:List Int) (hid:Int) (hl:Wf l) (hr:Wf r) (hn:rs≠ []) (hh:0≤hid∧hid≤1048576) (hb:l.row.length+rs.length+r.row.length≤1073741824):Sp Tryz.prog 164 [.pointer Al,pcV rs hid Ac c, .pointer Ar] [] [TrF Al l,TrF Ar r,RdF runeD Ac c rs] (NP (l.row++(cellsOf rs hid++r.row))):=by
 obtain ⟨a1,a2,a3,a4⟩:=hl.sm40 (by omega)
 obtain ⟨b1,b2,b3,b4⟩:=hr.sm40 (by omega)
 obtain ⟨k1,k2⟩:=wf_knot hl hr hn hh
 refine (Jbg Al Ar Ac c l r rs hid ⟨a1,a2,a3,a4⟩ ⟨b1,b2,b3,b4⟩ (by omega)).mono ?_
 rintro v Lo fs ⟨A,rfl,rfl,rfl⟩
 exact ⟨A,_,rfl,rfl,rfl,k1,k2⟩
theorem wnilT:Wf .nil:=trivial
theorem nn {t:Tr} (h:0<(allF t).ht):t≠ .nil:=fun e=>by subst e;simp [allF,zeroSm] at h
theorem fd112_2Xw24 (x0:Int) (x1:Int) (x2:Int) (x3:Int) (x4:Int) (x5:Int) (w:World):(Instr.field 149 (.agg #[.int .i64 x0, .int .i64 x1, .int .i64 x2, .int .i64 x3, .int .i64 x4, .int .i64 x5]) 2).run Tryz.prog w= .ok (.int .i64 x2) w:=by kernel_rfl
set_option maxRecDepth 10000 in
theorem weigh_r (Al Ar Ac:Option Addr) (c:Nat) (l r:Tr) (rs:List Int) (hid:Int) (wl:Wf l) (wr:Wf r) (n0:rs≠ []) (h0:0≤hid∧hid≤1048576) (hb:l.row.length+rs.length+r.row.length≤1073741824):Sp Tryz.prog 168 [.pointer Al,pcV rs hid Ac c, .pointer Ar] [] [TrF Al l,TrF Ar r,RdF runeD Ac c rs] (NP (l.row++(cellsOf rs hid++r.row))):=by
 have bl:=wl.sm40 (by omega)
 have br:=wr.sm40 (by omega)
 refine Sp.of (n:=113) ⟨_,Tryz.func168,rfl,rfl,rfl,rfl⟩ (Nat.le_of_ble_eq_true rfl) fun Ps As=>Jc (Ja (Jg rfl (J7 (cs:= [_,_]) rfl rfl (by decide) fun b4=>Lq (Jd rfl) (Je (Jf (Jc (Ja (Lq (Jb rfl) (Jg rfl (Jn (Yw Al l) (.cons rfl (.nil)) (by decide) (Jl Mm0 Jx) fun u1_1 Lo fs hres=> ?_))))))))))
 obtain ⟨rfl,rfl,rfl⟩:=hres
 refine Lq (Yg rfl (fd112_2Xw24 _ _ _ _ _ _)) (Lq (Jb rfl) (Jg rfl (Jn (Yw Ar r) (.cons rfl (.nil)) (by decide) (Jl Mm1 Jx) fun u1_4 Lo fs hres=> ?_)))
 obtain ⟨rfl,rfl,rfl⟩:=hres
 refine Lq (Yg rfl (fd112_2Xw24 _ _ _ _ _ _)) (Lq (Jd rfl) (Lq (Jd rfl) (Je (Jf (Jc (JE (Jc (Ja (Lq (Jb rfl) (Lq (Jb rfl) (Lq (JU rfl rfl (wr64 (by omega))) (Lq (Kk rfl rfl) (Lq (Jd rfl) (Je (Jf ?_)))))))))))))))
 refine JF [(27,_),(8,_),(7,_),(6,_),(4,_),(0,_),(2,_)] (.cons rfl (.cons rfl (.cons rfl (.cons rfl (.cons rfl (.cons rfl (.cons rfl (.nil _)))))))) (Jy rfl (fun h27=> ?_) (fun h27=> ?_))
 ·refine Jc (Ja (Lq (Jb rfl) (Jg rfl (Jn (open_r Al l wl (nn (by have:=wr.bd;simp only [decide_eq_true_eq] at h27;omega)) (by omega)) (.cons rfl (.nil)) (by decide) (Jl Mm0 Jx) fun u3_1 Lo fs hres=> ?_))))
  obtain ⟨B1,l1,s1,k1,C1,d1,D1,m1,rfl,rfl,rfl,wl1,wm1,n1,h1,r1,zl1,zm1⟩:=hres
  have e1:=congrArg List.length r1
  simp only [List.length_append,Jr,Tr.row,List.length_nil,List.length_take,List.length_drop] at e1
  refine Lq (Jb rfl) (Lq (Jk (vs:= [_,_,_]) rfl rfl) (Lq (Jk (vs:= [_,_,_]) rfl rfl) (Lq (Jk (vs:= [_,_,_]) rfl rfl) (Jg rfl (Jv (cs:= [_,_]) JY rfl (by decide) fun b10=>Lq (Jd rfl) (Jg rfl (Jq (cs':= [_,_]) (vs:= [_,_]) JY rfl rfl rfl rfl rfl (Nat.le_of_ble_eq_true rfl) (.z) (Lq (Jd rfl) (Je (Jf (JF [(11,_),(9,_),(10,_),(6,_),(4,_),(0,_),(2,_)] (.cons rfl (.cons rfl (.cons rfl (.cons rfl (.cons rfl (.cons rfl (.cons rfl (.nil _)))))))) ?_)))))))))))
  refine Jc (Jc (Ja (Lq (Jb rfl) (Jg rfl (Jn (Yw B1 l1) (.cons rfl (.nil)) (by decide) (Jl Mm0 Jx) fun u4_1 Lo fs hres=> ?_)))))
  obtain ⟨rfl,rfl,rfl⟩:=hres
  refine Lq (Yg rfl (fd112_2Xw24 _ _ _ _ _ _)) (Lq (Jb rfl) (Jg rfl (Jn (Yw D1 m1) (.cons rfl (.nil)) (by decide) (Jl Mm2 Jx) fun u4_4 Lo fs hres=> ?_)))
  obtain ⟨rfl,rfl,rfl⟩:=hres
  refine Lq (Yg rfl (fd112_2Xw24 _ _ _ _ _ _)) (Lq (YC rfl rfl) (Je (Jf (JF [(44,_),(11,_),(9,_),(10,_),(6,_),(4,_),(0,_),(2,_)] (.cons rfl (.cons rfl (.cons rfl (.cons rfl (.cons rfl (.cons rfl (.cons rfl (.cons rfl (.nil _))))))))) (Jy rfl (fun h44=> ?_) (fun h44=> ?_))))))
  ·refine Jc (JG _ _ [] (.c 0 0 (.c 1 0 (.c 2 0 (.c 3 0 (.c 4 0 (.c 5 2 (.c 6 2 (.c 7 0 .nil)))))))) mixed (fun _ _ _ _ h=>h) (Sk (Sk (Sr))) (fun _ h=>h) (by kernel_rfl) (by decide) fun ws Z0=>Qe rfl (Jb rfl) (Qe rfl (Jt (vs:= [_,_]) Un145 rfl JY rfl Jm rfl rfl) (Qe rfl (Jb rfl) (Qe rfl (Jt (vs:= [_,_]) Un145 rfl JY rfl (Ji (Jm)) rfl rfl) (Qe rfl (Jb rfl) (Jz rfl rfl (Jn (knot_r D1 Ar Ac c m1 r rs hid wm1 wr n0 h0 (by omega)) (.cons rfl (.cons rfl (.cons rfl (.nil)))) (by decide) (Jl Mm3 (Jl Mm5 (Jl Mm6 Jx))) fun u5_5 Lo fs hres=> ?_)))))))
   obtain ⟨T2,t2,rfl,rfl,rfl,wt2,r2⟩:=hres
   have e2:=congrArg List.length r2
   simp only [List.length_append,Jr,Tr.row,List.length_nil,List.length_take,List.length_drop] at e2
   refine ⟨⟨(Sk (Sk (Sr))),Mm1⟩,?_⟩
   refine Jz rfl rfl (Jn (knot_r B1 T2 C1 d1 l1 t2 s1 k1 wl1 wt2 n1 h1 (by omega)) (.cons rfl (.cons rfl (.cons rfl (.nil)))) (by decide) (Jl Mm2 (Jl Mm0 (Jl Mm3 Jx))) fun u5_6 Lo fs hres=> ?_)
   obtain ⟨T3,t3,rfl,rfl,rfl,wt3,r3⟩:=hres
   have e3:=congrArg List.length r3
   simp only [List.length_append,Jr,Tr.row,List.length_nil,List.length_take,List.length_drop] at e3
   refine ⟨⟨(Sk (Sk (Sr))),Mm2⟩,?_⟩
   refine Qe rfl (Jd rfl) (JN (JM (Jf (JF [(6,_),(11,_),(9,_),(10,_),(4,_),(0,_),(2,_)] (.cons rfl (.cons rfl (.cons rfl (.cons rfl (.cons rfl (.cons rfl (.cons rfl (.nil _)))))))) (Jo (Js (JJ (Js ?_))))))))
   refine ⟨_,[],[_],fun Z w hs=> .tmp rfl (.nil),?_,fun Z w hs=>hs.out (Sd (Sd (Sr))) (Jl Mm0 Tt6)⟩
   exact ⟨_,_,rfl,rfl,rfl,wt3,by simp only [r1,r2,r3,List.append_assoc,Tr.row,List.nil_append,List.append_nil]⟩
  ·refine Jp (Jf (Jc (Ja (Lq (Jb rfl) (Jg rfl (Jn (open_r D1 m1 wm1 (nn (by have:=wl1.bd;simp only [decide_eq_false_iff_not] at h44;omega)) (by omega)) (.cons rfl (.nil)) (by decide) (Jl Mm2 Jx) fun u6_1 Lo fs hres=> ?_))))))
   obtain ⟨B4,l4,s4,k4,C4,d4,D4,m4,rfl,rfl,rfl,wl4,wm4,n4,h4,r4,zl4,zm4⟩:=hres
   have e4:=congrArg List.length r4
   simp only [List.length_append,Jr,Tr.row,List.length_nil,List.length_take,List.length_drop] at e4
   refine Lq (Jb rfl) (Lq (Jk (vs:= [_,_,_]) rfl rfl) (Lq (Jk (vs:= [_,_,_]) rfl rfl) (Lq (Jk (vs:= [_,_,_]) rfl rfl) (Jg rfl (Jv (cs:= [_,_]) JY rfl (by decide) fun b13=>Lq (Jd rfl) (Jg rfl (Jq (cs':= [_,_]) (vs:= [_,_]) JY rfl rfl rfl rfl rfl (Nat.le_of_ble_eq_true rfl) (.z) (Lq (Jd rfl) (Je (Jf (JF [(14,_),(12,_),(13,_),(9,_),(10,_),(6,_),(4,_),(0,_),(2,_)] (.cons rfl (.cons rfl (.cons rfl (.cons rfl (.cons rfl (.cons rfl (.cons rfl (.cons rfl (.cons rfl (.nil _)))))))))) ?_)))))))))))
   refine Jc (JG _ _ [] (.c 0 0 (.c 1 0 (.c 2 0 (.c 4 0 (.c 5 0 (.c 6 0 (.c 7 0 (.c 3 2 (.c 8 2 (.c 9 2 (.c 10 0 .nil))))))))))) mixed (fun _ _ _ _ h=>h) (Sk (Sk (Sk (Sr)))) (fun _ h=>h) (by kernel_rfl) (by decide) fun ws Z0=>Qe rfl (Jb rfl) (Qe rfl (Jt (vs:= [_,_]) Un145 rfl JY rfl (Ji (Jm)) rfl rfl) (Qe rfl (Jb rfl) (Qe rfl (Jt (vs:= [_,_]) Un145 rfl JY rfl Jm rfl rfl) (Qe rfl (Jb rfl) (Qe rfl (Jt (vs:= [_,_]) Un145 rfl JY rfl (Ji (Ji (Jm))) rfl rfl) (Qe rfl (Jb rfl) ?_)))))))
   refine Jz rfl rfl (Jn (knot_r B1 B4 C1 d1 l1 l4 s1 k1 wl1 wl4 n1 h1 (by omega)) (.cons rfl (.cons rfl (.cons rfl (.nil)))) (by decide) (Jl Mm4 (Jl Mm1 (Jl Mm5 Jx))) fun u7_3 Lo fs hres=> ?_)
   obtain ⟨T5,t5,rfl,rfl,rfl,wt5,r5⟩:=hres
   have e5:=congrArg List.length r5
   simp only [List.length_append,Jr,Tr.row,List.length_nil,List.length_take,List.length_drop] at e5
   refine ⟨⟨(Sk (Sk (Sk (Sr)))),Mm1⟩,?_⟩
   refine Jz rfl rfl (Jn (knot_r D4 Ar Ac c m4 r rs hid wm4 wr n0 h0 (by omega)) (.cons rfl (.cons rfl (.cons rfl (.nil)))) (by decide) (Jl Mm4 (Jl Mm9 (Jl Mm10 Jx))) fun u7_8 Lo fs hres=> ?_)
   obtain ⟨T6,t6,rfl,rfl,rfl,wt6,r6⟩:=hres
   have e6:=congrArg List.length r6
   simp only [List.length_append,Jr,Tr.row,List.length_nil,List.length_take,List.length_drop] at e6
   refine ⟨⟨(Sk (Sk (Sk (Sr)))),Mm2⟩,?_⟩
   refine Jz rfl rfl (Jn (knot_r T5 T6 C4 d4 t5 t6 s4 k4 wt5 wt6 n4 h4 (by omega)) (.cons rfl (.cons rfl (.cons rfl (.nil)))) (by decide) (Jl Mm1 (Jl Mm0 (Jl Mm4 Jx))) fun u7_9 Lo fs hres=> ?_)
   obtain ⟨T7,t7,rfl,rfl,rfl,wt7,r7⟩:=hres
   have e7:=congrArg List.length r7
   simp only [List.length_append,Jr,Tr.row,List.length_nil,List.length_take,List.length_drop] at e7
   refine ⟨⟨(Sk (Sk (Sk (Sr)))),Mm3⟩,?_⟩
   refine Qe rfl (Jd rfl) (JN (JM (Jf (JF [(6,_),(4,_),(0,_),(2,_)] (.cons rfl (.cons rfl (.cons rfl (.cons rfl (.nil _))))) (Jo (JJ (Js ?_)))))))
   refine ⟨_,[],[_],fun Z w hs=> .tmp rfl (.nil),?_,fun Z w hs=>hs.out (Sd (Sd (Sd (Sr)))) (Jl Mm0 Tt10)⟩
   exact ⟨_,_,rfl,rfl,rfl,wt7,by simp only [r1,r4,r5,r6,r7,List.append_assoc,Tr.row,List.nil_append,List.append_nil]⟩
 ·refine Jc (Ja (Lq (Jb rfl) (Lq (Jb rfl) (Lq (JU rfl rfl (wr64 (by omega))) (Lq (Kk rfl rfl) (Lq (Jd rfl) (Je (Jf (Jy rfl (fun h68=> ?_) (fun h68=> ?_))))))))))
  ·refine Jc (Ja (Lq (Jb rfl) (Jg rfl (Jn (open_r Ar r wr (nn (by have:=wl.bd;simp only [decide_eq_true_eq] at h68;omega)) (by omega)) (.cons rfl (.nil)) (by decide) (Jl Mm1 Jx) fun u9_1 Lo fs hres=> ?_))))
   obtain ⟨B8,l8,s8,k8,C8,d8,D8,m8,rfl,rfl,rfl,wl8,wm8,n8,h8,r8,zl8,zm8⟩:=hres
   have e8:=congrArg List.length r8
   simp only [List.length_append,Jr,Tr.row,List.length_nil,List.length_take,List.length_drop] at e8
   refine Lq (Jb rfl) (Lq (Jk (vs:= [_,_,_]) rfl rfl) (Lq (Jk (vs:= [_,_,_]) rfl rfl) (Lq (Jk (vs:= [_,_,_]) rfl rfl) (Jg rfl (Jv (cs:= [_,_]) JY rfl (by decide) fun b16=>Lq (Jd rfl) (Jg rfl (Jq (cs':= [_,_]) (vs:= [_,_]) JY rfl rfl rfl rfl rfl (Nat.le_of_ble_eq_true rfl) (.z) (Lq (Jd rfl) (Je (Jf (JF [(17,_),(15,_),(16,_),(6,_),(4,_),(0,_),(2,_)] (.cons rfl (.cons rfl (.cons rfl (.cons rfl (.cons rfl (.cons rfl (.cons rfl (.nil _)))))))) ?_)))))))))))
   refine Jc (Jc (Ja (Lq (Jb rfl) (Jg rfl (Jn (Yw D8 m8) (.cons rfl (.nil)) (by decide) (Jl Mm2 Jx) fun u10_1 Lo fs hres=> ?_)))))
   obtain ⟨rfl,rfl,rfl⟩:=hres
   refine Lq (Yg rfl (fd112_2Xw24 _ _ _ _ _ _)) (Lq (Jb rfl) (Jg rfl (Jn (Yw B8 l8) (.cons rfl (.nil)) (by decide) (Jl Mm0 Jx) fun u10_4 Lo fs hres=> ?_)))
   obtain ⟨rfl,rfl,rfl⟩:=hres
   refine Lq (Yg rfl (fd112_2Xw24 _ _ _ _ _ _)) (Lq (YC rfl rfl) (Je (Jf (JF [(85,_),(17,_),(15,_),(16,_),(6,_),(4,_),(0,_),(2,_)] (.cons rfl (.cons rfl (.cons rfl (.cons rfl (.cons rfl (.cons rfl (.cons rfl (.cons rfl (.nil _))))))))) (Jy rfl (fun h85=> ?_) (fun h85=> ?_))))))
   ·refine Jc (JG _ _ [] (.c 0 0 (.c 1 0 (.c 2 0 (.c 4 0 (.c 5 0 (.c 3 2 (.c 6 2 (.c 7 0 .nil)))))))) mixed (fun _ _ _ _ h=>h) (Sk (Sk (Sr))) (fun _ h=>h) (by kernel_rfl) (by decide) fun ws Z0=>Qe rfl (Jb rfl) (Qe rfl (Jt (vs:= [_,_]) Un145 rfl JY rfl (Ji (Jm)) rfl rfl) (Qe rfl (Jb rfl) (Qe rfl (Jt (vs:= [_,_]) Un145 rfl JY rfl Jm rfl rfl) (Qe rfl (Jb rfl) (Jz rfl rfl (Jn (knot_r Al B8 Ac c l l8 rs hid wl wl8 n0 h0 (by omega)) (.cons rfl (.cons rfl (.cons rfl (.nil)))) (by decide) (Jl Mm4 (Jl Mm1 (Jl Mm6 Jx))) fun u11_3 Lo fs hres=> ?_)))))))
    obtain ⟨T9,t9,rfl,rfl,rfl,wt9,r9⟩:=hres
    have e9:=congrArg List.length r9
    simp only [List.length_append,Jr,Tr.row,List.length_nil,List.length_take,List.length_drop] at e9
    refine ⟨⟨(Sk (Sk (Sr))),Mm1⟩,?_⟩
    refine Jz rfl rfl (Jn (knot_r T9 D8 C8 d8 t9 m8 s8 k8 wt9 wm8 n8 h8 (by omega)) (.cons rfl (.cons rfl (.cons rfl (.nil)))) (by decide) (Jl Mm0 (Jl Mm4 (Jl Mm3 Jx))) fun u11_6 Lo fs hres=> ?_)
    obtain ⟨T10,t10,rfl,rfl,rfl,wt10,r10⟩:=hres
    have e10:=congrArg List.length r10
    simp only [List.length_append,Jr,Tr.row,List.length_nil,List.length_take,List.length_drop] at e10
    refine ⟨⟨(Sk (Sk (Sr))),Mm2⟩,?_⟩
    refine Qe rfl (Jd rfl) (JN (JM (Jf (JF [(6,_),(17,_),(15,_),(16,_),(4,_),(0,_),(2,_)] (.cons rfl (.cons rfl (.cons rfl (.cons rfl (.cons rfl (.cons rfl (.cons rfl (.nil _)))))))) (Jo (Js (JJ (Js ?_))))))))
    refine ⟨_,[],[_],fun Z w hs=> .tmp rfl (.nil),?_,fun Z w hs=>hs.out (Sd (Sd (Sr))) (Jl Mm0 Tt6)⟩
    exact ⟨_,_,rfl,rfl,rfl,wt10,by simp only [r8,r9,r10,List.append_assoc,Tr.row,List.nil_append,List.append_nil]⟩
   ·refine Jp (Jf (Jc (Ja (Lq (Jb rfl) (Jg rfl (Jn (open_r B8 l8 wl8 (nn (by have:=wm8.bd;simp only [decide_eq_false_iff_not] at h85;omega)) (by omega)) (.cons rfl (.nil)) (by decide) (Jl Mm0 Jx) fun u12_1 Lo fs hres=> ?_))))))
    obtain ⟨B11,l11,s11,k11,C11,d11,D11,m11,rfl,rfl,rfl,wl11,wm11,n11,h11,r11,zl11,zm11⟩:=hres
    have e11:=congrArg List.length r11
    simp only [List.length_append,Jr,Tr.row,List.length_nil,List.length_take,List.length_drop] at e11
    refine Lq (Jb rfl) (Lq (Jk (vs:= [_,_,_]) rfl rfl) (Lq (Jk (vs:= [_,_,_]) rfl rfl) (Lq (Jk (vs:= [_,_,_]) rfl rfl) (Jg rfl (Jv (cs:= [_,_]) JY rfl (by decide) fun b19=>Lq (Jd rfl) (Jg rfl (Jq (cs':= [_,_]) (vs:= [_,_]) JY rfl rfl rfl rfl rfl (Nat.le_of_ble_eq_true rfl) (.z) (Lq (Jd rfl) (Je (Jf (JF [(20,_),(18,_),(19,_),(17,_),(16,_),(6,_),(4,_),(0,_),(2,_)] (.cons rfl (.cons rfl (.cons rfl (.cons rfl (.cons rfl (.cons rfl (.cons rfl (.cons rfl (.cons rfl (.nil _)))))))))) ?_)))))))))))
    refine Jc (JG _ _ [] (.c 0 0 (.c 1 0 (.c 2 0 (.c 4 0 (.c 5 0 (.c 6 0 (.c 7 0 (.c 3 2 (.c 8 2 (.c 9 2 (.c 10 0 .nil))))))))))) mixed (fun _ _ _ _ h=>h) (Sk (Sk (Sk (Sr)))) (fun _ h=>h) (by kernel_rfl) (by decide) fun ws Z0=>Qe rfl (Jb rfl) (Qe rfl (Jt (vs:= [_,_]) Un145 rfl JY rfl (Ji (Ji (Jm))) rfl rfl) (Qe rfl (Jb rfl) (Qe rfl (Jt (vs:= [_,_]) Un145 rfl JY rfl Jm rfl rfl) (Qe rfl (Jb rfl) (Qe rfl (Jt (vs:= [_,_]) Un145 rfl JY rfl (Ji (Jm)) rfl rfl) (Qe rfl (Jb rfl) ?_)))))))
    refine Jz rfl rfl (Jn (knot_r Al B11 Ac c l l11 rs hid wl wl11 n0 h0 (by omega)) (.cons rfl (.cons rfl (.cons rfl (.nil)))) (by decide) (Jl Mm7 (Jl Mm1 (Jl Mm9 Jx))) fun u13_3 Lo fs hres=> ?_)
    obtain ⟨T12,t12,rfl,rfl,rfl,wt12,r12⟩:=hres
    have e12:=congrArg List.length r12
    simp only [List.length_append,Jr,Tr.row,List.length_nil,List.length_take,List.length_drop] at e12
    refine ⟨⟨(Sk (Sk (Sk (Sr)))),Mm1⟩,?_⟩
    refine Jz rfl rfl (Jn (knot_r D11 D8 C8 d8 m11 m8 s8 k8 wm11 wm8 n8 h8 (by omega)) (.cons rfl (.cons rfl (.cons rfl (.nil)))) (by decide) (Jl Mm4 (Jl Mm7 (Jl Mm6 Jx))) fun u13_8 Lo fs hres=> ?_)
    obtain ⟨T13,t13,rfl,rfl,rfl,wt13,r13⟩:=hres
    have e13:=congrArg List.length r13
    simp only [List.length_append,Jr,Tr.row,List.length_nil,List.length_take,List.length_drop] at e13
    refine ⟨⟨(Sk (Sk (Sk (Sr)))),Mm2⟩,?_⟩
    refine Jz rfl rfl (Jn (knot_r T12 T13 C11 d11 t12 t13 s11 k11 wt12 wt13 n11 h11 (by omega)) (.cons rfl (.cons rfl (.cons rfl (.nil)))) (by decide) (Jl Mm1 (Jl Mm0 (Jl Mm4 Jx))) fun u13_9 Lo fs hres=> ?_)
    obtain ⟨T14,t14,rfl,rfl,rfl,wt14,r14⟩:=hres
    have e14:=congrArg List.length r14
    simp only [List.length_append,Jr,Tr.row,List.length_nil,List.length_take,List.length_drop] at e14
    refine ⟨⟨(Sk (Sk (Sk (Sr)))),Mm3⟩,?_⟩
    refine Qe rfl (Jd rfl) (JN (JM (Jf (JF [(6,_),(4,_),(0,_),(2,_)] (.cons rfl (.cons rfl (.cons rfl (.cons rfl (.nil _))))) (Jo (JJ (Js ?_)))))))
    refine ⟨_,[],[_],fun Z w hs=> .tmp rfl (.nil),?_,fun Z w hs=>hs.out (Sd (Sd (Sd (Sr)))) (Jl Mm0 Tt10)⟩
    exact ⟨_,_,rfl,rfl,rfl,wt14,by simp only [r8,r11,r12,r13,r14,List.append_assoc,Tr.row,List.nil_append,List.append_nil]⟩
  ·refine Jp (J8 (Jf (Jc (Ja (Lq (Jb rfl) (Lq (Jt (vs:= [_,_]) Un145 rfl JY rfl Jm rfl rfl) (Lq (Jb rfl) (Jg rfl (Jn (knot_r Al Ar Ac c l r rs hid wl wr n0 h0 (by omega)) (.cons rfl (.cons rfl (.cons rfl (.nil)))) (by decide) (Jl Mm0 (Jl Mm1 (Jl Mm2 Jx))) fun u14_3 Lo fs hres=> ?_)))))))))
   obtain ⟨T15,t15,rfl,rfl,rfl,wt15,r15⟩:=hres
   have e15:=congrArg List.length r15
   simp only [List.length_append,Jr,Tr.row,List.length_nil,List.length_take,List.length_drop] at e15
   refine Lq (Jd rfl) (Je (Jf (JF [(6,_)] (.cons rfl (.nil _)) (Jo ?_))))
   refine ⟨_,[],[_],fun Z w hs=> .tmp rfl (.nil),?_,fun Z w hs=>hs.out (Sd (Sr)) (fun _ h=>h)⟩
   exact ⟨_,_,rfl,rfl,rfl,wt15,by simp only [r15,List.append_assoc,Tr.row,List.nil_append,List.append_nil]⟩
set_option maxRecDepth 10000 in
theorem join_n (N:Nat): ∀(Al Ar Ac:Option Addr) (c:Nat) (l r:Tr) (rs:List Int) (hid:Int) (wl:Wf l) (wr:Wf r) (n0:rs≠ []) (h0:0≤hid∧hid≤1048576) (hb:l.row.length+rs.length+r.row.length≤1073741824),l.size+r.size≤N→Sp Tryz.prog 160 [.pointer Al,pcV rs hid Ac c, .pointer Ar] [] [TrF Al l,TrF Ar r,RdF runeD Ac c rs] (NP (l.row++(cellsOf rs hid++r.row))):=by
 induction N using Nat.strongRecOn
 rename_i N ih
 intro Al Ar Ac c l r rs hid wl wr n0 h0 hb hN
 have bl:=wl.sm40 (by omega)
 have br:=wr.sm40 (by omega)
 refine Sp.of (n:=61) ⟨_,Tryz.func160,rfl,rfl,rfl,rfl⟩ (Nat.le_of_ble_eq_true rfl) fun Ps As=>Jc (Ja (Jg rfl (J7 (cs:= [_,_]) rfl rfl (by decide) fun b4=>Lq (Jd rfl) (Je (Jf (Jc (Ja (Lq (Jb rfl) (Jg rfl (Jn (Yw Al l) (.cons rfl (.nil)) (by decide) (Jl Mm0 Jx) fun u1_1 Lo fs hres=> ?_))))))))))
 obtain ⟨rfl,rfl,rfl⟩:=hres
 refine Lq (Yg rfl (fd112_2Xw24 _ _ _ _ _ _)) (Lq (Jb rfl) (Jg rfl (Jn (Yw Ar r) (.cons rfl (.nil)) (by decide) (Jl Mm1 Jx) fun u1_4 Lo fs hres=> ?_)))
 obtain ⟨rfl,rfl,rfl⟩:=hres
 refine Lq (Yg rfl (fd112_2Xw24 _ _ _ _ _ _)) (Lq (Jd rfl) (Lq (Jd rfl) (Je (Jf (Jc (JE (Jc (Ja (Lq (Jb rfl) (Lq (Jb rfl) (Lq (JU rfl rfl (wr64 (by omega))) (Lq (Kk rfl rfl) (Lq (Jd rfl) (Je (Jf ?_)))))))))))))))
 refine JF [(21,_),(8,_),(7,_),(6,_),(4,_),(0,_),(2,_)] (.cons rfl (.cons rfl (.cons rfl (.cons rfl (.cons rfl (.cons rfl (.cons rfl (.nil _)))))))) (Jy rfl (fun h21=> ?_) (fun h21=> ?_))
 ·refine Jc (Ja (Lq (Jb rfl) (Jg rfl (Jn (open_r Al l wl (nn (by have:=wr.bd;simp only [decide_eq_true_eq] at h21;omega)) (by omega)) (.cons rfl (.nil)) (by decide) (Jl Mm0 Jx) fun u3_1 Lo fs hres=> ?_))))
  obtain ⟨B16,l16,s16,k16,C16,d16,D16,m16,rfl,rfl,rfl,wl16,wm16,n16,h16,r16,zl16,zm16⟩:=hres
  have e16:=congrArg List.length r16
  simp only [List.length_append,Jr,Tr.row,List.length_nil,List.length_take,List.length_drop] at e16
  refine Lq (Jb rfl) (Lq (Jk (vs:= [_,_,_]) rfl rfl) (Lq (Jk (vs:= [_,_,_]) rfl rfl) (Lq (Jk (vs:= [_,_,_]) rfl rfl) (Jg rfl (Jv (cs:= [_,_]) JY rfl (by decide) fun b10=>Lq (Jd rfl) (Jg rfl (Jq (cs':= [_,_]) (vs:= [_,_]) JY rfl rfl rfl rfl rfl (Nat.le_of_ble_eq_true rfl) (.z) (Lq (Jd rfl) (Je (Jf (JF [(11,_),(9,_),(10,_),(6,_),(4,_),(0,_),(2,_)] (.cons rfl (.cons rfl (.cons rfl (.cons rfl (.cons rfl (.cons rfl (.cons rfl (.nil _)))))))) ?_)))))))))))
  refine Jc (JG _ _ [] (.c 0 0 (.c 1 0 (.c 2 0 (.c 3 0 (.c 4 0 (.c 5 2 (.c 6 2 (.c 7 0 .nil)))))))) mixed (fun _ _ _ _ h=>h) (Sk (Sk (Sr))) (fun _ h=>h) (by kernel_rfl) (by decide) fun ws Z0=>Qe rfl (Jb rfl) (Qe rfl (Jt (vs:= [_,_]) Un145 rfl JY rfl Jm rfl rfl) (Qe rfl (Jb rfl) (Qe rfl (Jt (vs:= [_,_]) Un145 rfl JY rfl (Ji (Jm)) rfl rfl) (Qe rfl (Jb rfl) ?_)))))
  refine Jz rfl rfl (Jn (ih (m16.size+r.size) (by omega) D16 Ar Ac c m16 r rs hid wm16 wr n0 h0 (by omega) (Nat.le_refl _)) (.cons rfl (.cons rfl (.cons rfl (.nil)))) (by decide) (Jl Mm3 (Jl Mm5 (Jl Mm6 Jx))) fun u4_5 Lo fs hres=> ?_)
  obtain ⟨T17,t17,rfl,rfl,rfl,wt17,r17⟩:=hres
  have e17:=congrArg List.length r17
  simp only [List.length_append,Jr,Tr.row,List.length_nil,List.length_take,List.length_drop] at e17
  refine ⟨⟨(Sk (Sk (Sr))),Mm1⟩,?_⟩
  refine Jz rfl rfl (Jn (weigh_r B16 T17 C16 d16 l16 t17 s16 k16 wl16 wt17 n16 h16 (by omega)) (.cons rfl (.cons rfl (.cons rfl (.nil)))) (by decide) (Jl Mm2 (Jl Mm0 (Jl Mm3 Jx))) fun u4_6 Lo fs hres=> ?_)
  obtain ⟨T18,t18,rfl,rfl,rfl,wt18,r18⟩:=hres
  have e18:=congrArg List.length r18
  simp only [List.length_append,Jr,Tr.row,List.length_nil,List.length_take,List.length_drop] at e18
  refine ⟨⟨(Sk (Sk (Sr))),Mm2⟩,?_⟩
  refine Qe rfl (Jd rfl) (JN (JM (Jf (JF [(6,_),(4,_),(0,_),(2,_)] (.cons rfl (.cons rfl (.cons rfl (.cons rfl (.nil _))))) (Jo (JJ (Js ?_)))))))
  refine ⟨_,[],[_],fun Z w hs=> .tmp rfl (.nil),?_,fun Z w hs=>hs.out (Sd (Sd (Sr))) (Jl Mm0 Tt6)⟩
  exact ⟨_,_,rfl,rfl,rfl,wt18,by simp only [r16,r17,r18,List.append_assoc,Tr.row,List.nil_append,List.append_nil]⟩
 ·refine Jc (Ja (Lq (Jb rfl) (Lq (Jb rfl) (Lq (JU rfl rfl (wr64 (by omega))) (Lq (Kk rfl rfl) (Lq (Jd rfl) (Je (Jf (Jy rfl (fun h39=> ?_) (fun h39=> ?_))))))))))
  ·refine Jc (Ja (Lq (Jb rfl) (Jg rfl (Jn (open_r Ar r wr (nn (by have:=wl.bd;simp only [decide_eq_true_eq] at h39;omega)) (by omega)) (.cons rfl (.nil)) (by decide) (Jl Mm1 Jx) fun u6_1 Lo fs hres=> ?_))))
   obtain ⟨B19,l19,s19,k19,C19,d19,D19,m19,rfl,rfl,rfl,wl19,wm19,n19,h19,r19,zl19,zm19⟩:=hres
   have e19:=congrArg List.length r19
   simp only [List.length_append,Jr,Tr.row,List.length_nil,List.length_take,List.length_drop] at e19
   refine Lq (Jb rfl) (Lq (Jk (vs:= [_,_,_]) rfl rfl) (Lq (Jk (vs:= [_,_,_]) rfl rfl) (Lq (Jk (vs:= [_,_,_]) rfl rfl) (Jg rfl (Jv (cs:= [_,_]) JY rfl (by decide) fun b13=>Lq (Jd rfl) (Jg rfl (Jq (cs':= [_,_]) (vs:= [_,_]) JY rfl rfl rfl rfl rfl (Nat.le_of_ble_eq_true rfl) (.z) (Lq (Jd rfl) (Je (Jf (JF [(14,_),(12,_),(13,_),(6,_),(4,_),(0,_),(2,_)] (.cons rfl (.cons rfl (.cons rfl (.cons rfl (.cons rfl (.cons rfl (.cons rfl (.nil _)))))))) ?_)))))))))))
   refine Jc (JG _ _ [] (.c 0 0 (.c 1 0 (.c 2 0 (.c 4 0 (.c 5 0 (.c 3 2 (.c 6 2 (.c 7 0 .nil)))))))) mixed (fun _ _ _ _ h=>h) (Sk (Sk (Sr))) (fun _ h=>h) (by kernel_rfl) (by decide) fun ws Z0=>Qe rfl (Jb rfl) (Qe rfl (Jt (vs:= [_,_]) Un145 rfl JY rfl (Ji (Jm)) rfl rfl) (Qe rfl (Jb rfl) (Qe rfl (Jt (vs:= [_,_]) Un145 rfl JY rfl Jm rfl rfl) (Qe rfl (Jb rfl) (Jz rfl rfl (Jn (ih (l.size+l19.size) (by omega) Al B19 Ac c l l19 rs hid wl wl19 n0 h0 (by omega) (Nat.le_refl _)) (.cons rfl (.cons rfl (.cons rfl (.nil)))) (by decide) (Jl Mm4 (Jl Mm1 (Jl Mm6 Jx))) fun u7_3 Lo fs hres=> ?_)))))))
   obtain ⟨T20,t20,rfl,rfl,rfl,wt20,r20⟩:=hres
   have e20:=congrArg List.length r20
   simp only [List.length_append,Jr,Tr.row,List.length_nil,List.length_take,List.length_drop] at e20
   refine ⟨⟨(Sk (Sk (Sr))),Mm1⟩,?_⟩
   refine Jz rfl rfl (Jn (weigh_r T20 D19 C19 d19 t20 m19 s19 k19 wt20 wm19 n19 h19 (by omega)) (.cons rfl (.cons rfl (.cons rfl (.nil)))) (by decide) (Jl Mm0 (Jl Mm4 (Jl Mm3 Jx))) fun u7_6 Lo fs hres=> ?_)
   obtain ⟨T21,t21,rfl,rfl,rfl,wt21,r21⟩:=hres
   have e21:=congrArg List.length r21
   simp only [List.length_append,Jr,Tr.row,List.length_nil,List.length_take,List.length_drop] at e21
   refine ⟨⟨(Sk (Sk (Sr))),Mm2⟩,?_⟩
   refine Qe rfl (Jd rfl) (JN (JM (Jf (JF [(6,_),(4,_),(0,_),(2,_)] (.cons rfl (.cons rfl (.cons rfl (.cons rfl (.nil _))))) (Jo (JJ (Js ?_)))))))
   refine ⟨_,[],[_],fun Z w hs=> .tmp rfl (.nil),?_,fun Z w hs=>hs.out (Sd (Sd (Sr))) (Jl Mm0 Tt6)⟩
   exact ⟨_,_,rfl,rfl,rfl,wt21,by simp only [r19,r20,r21,List.append_assoc,Tr.row,List.nil_append,List.append_nil]⟩
  ·refine Jp (J8 (Jf (Jc (Ja (Lq (Jb rfl) (Lq (Jt (vs:= [_,_]) Un145 rfl JY rfl Jm rfl rfl) (Lq (Jb rfl) (Jg rfl (Jn (knot_r Al Ar Ac c l r rs hid wl wr n0 h0 (by omega)) (.cons rfl (.cons rfl (.cons rfl (.nil)))) (by decide) (Jl Mm0 (Jl Mm1 (Jl Mm2 Jx))) fun u8_3 Lo fs hres=> ?_)))))))))
   obtain ⟨T22,t22,rfl,rfl,rfl,wt22,r22⟩:=hres
   have e22:=congrArg List.length r22
   simp only [List.length_append,Jr,Tr.row,List.length_nil,List.length_take,List.length_drop] at e22
   refine Lq (Jd rfl) (Je (Jf (JF [(6,_)] (.cons rfl (.nil _)) (Jo ?_))))
   refine ⟨_,[],[_],fun Z w hs=> .tmp rfl (.nil),?_,fun Z w hs=>hs.out (Sd (Sr)) (fun _ h=>h)⟩
   exact ⟨_,_,rfl,rfl,rfl,wt22,by simp only [r22,List.append_assoc,Tr.row,List.nil_append,List.append_nil]⟩
theorem join_r (Al Ar Ac:Option Addr) (c:Nat) (l r:Tr) (rs:List Int) (hid:Int) (wl:Wf l) (wr:Wf r) (n0:rs≠ []) (h0:0≤hid∧hid≤1048576) (hb:l.row.length+rs.length+r.row.length≤1073741824):Sp Tryz.prog 160 [.pointer Al,pcV rs hid Ac c, .pointer Ar] [] [TrF Al l,TrF Ar r,RdF runeD Ac c rs] (NP (l.row++(cellsOf rs hid++r.row))):=join_n _ Al Ar Ac c l r rs hid wl wr n0 h0 hb (Nat.le_refl _)
theorem QY {P:Program} {n:Dm} {R:Post} {l:Fr} {Ps:List Part} {As:List Fact} {c:Code} {A:Option Addr} {t:Tr} (hA:TrF A t∈As) (ht:t≠ .nil) (h: ∀b:Nat,A=some ⟨b,0,none⟩→WC P n c R l Ps As):WC P n c R l Ps As:=fun Z w a hs ha=>by
 cases t with
 | nil=>exact absurd rfl ht
 | nd s lt rs hid rt plus=>
  obtain ⟨b,Al,Ar,Ac,cc,e,_⟩:trRep Z w (.nd s lt rs hid rt plus) A:=hs.facts _ hA
  exact h b e Z w a hs ha
def LastP (row:List Ce):Value→List Part→List Fact→Prop:=fun v Lo fs=> ∃(A:Option Addr) (t:Tr) (rs:List Int) (hid:Int) (Ac:Option Addr) (c:Nat),v= .tuple #[.pointer A,pcV rs hid Ac c] ∧Lo= [] ∧fs= [TrF A t,RdF runeD Ac c rs] ∧Wf t∧rs≠ [] ∧(0≤hid∧hid≤1048576)∧row=t.row++cellsOf rs hid
def FirstP (row:List Ce):Value→List Part→List Fact→Prop:=fun v Lo fs=> ∃(A:Option Addr) (t:Tr) (rs:List Int) (hid:Int) (Ac:Option Addr) (c:Nat),v= .tuple #[pcV rs hid Ac c, .pointer A] ∧Lo= [] ∧fs= [TrF A t,RdF runeD Ac c rs] ∧Wf t∧rs≠ [] ∧(0≤hid∧hid≤1048576)∧row=cellsOf rs hid++t.row
set_option maxRecDepth 10000 in
theorem popLast_n (N:Nat): ∀(A:Option Addr) (t:Tr) (wt:Wf t) (nt:t≠ .nil) (hb:t.row.length≤1073741824),t.size≤N→Sp Tryz.prog 161 [.pointer A] [] [TrF A t] (LastP t.row):=by
 induction N using Nat.strongRecOn
 rename_i N ih
 intro A t wt nt hb hN
 refine Sp.of (n:=29) ⟨_,Tryz.func161,rfl,rfl,rfl,rfl⟩ (Nat.le_of_ble_eq_true rfl) fun Ps As=>Jc (Ja (Lq (Jd rfl) (Jg rfl (Jv (cs:= [_,_]) JY rfl (by decide) fun b3=>Je (Jf (Jc (Ja (Lq (Jb rfl) (Jg rfl (Jn (open_r A t wt nt (by omega)) (.cons rfl (.nil)) (by decide) (Jl Mm0 Jx) fun u1_1 Lo fs hres=> ?_))))))))))
 obtain ⟨B1,l1,s1,k1,C1,d1,D1,m1,rfl,rfl,rfl,wl1,wm1,n1,h1,r1,zl1,zm1⟩:=hres
 have e1:=congrArg List.length r1
 simp only [List.length_append,Jr,Tr.row,List.length_nil,List.length_take,List.length_drop] at e1
 refine Lq (Jb rfl) (Lq (Jk (vs:= [_,_,_]) rfl rfl) (Lq (Jk (vs:= [_,_,_]) rfl rfl) (Lq (Jk (vs:= [_,_,_]) rfl rfl) (Jg rfl (Jv (cs:= [_,_]) JY rfl (by decide) fun b5=>Lq (Jd rfl) (Jg rfl (Jq (cs':= [_,_]) (vs:= [_,_]) JY rfl rfl rfl rfl rfl (Nat.le_of_ble_eq_true rfl) (.z) (Lq (Jd rfl) (Je (Jf (Jc (Jc ?_))))))))))))
 by_cases hzm1:m1= .nil
 ·rw [hzm1]
  refine Vz Mm2 fun e=> ?_
  subst e
  refine Ja (Lq (Jb rfl) (Lq (KK Un141 rfl rfl (by simp)) (Je (Jf (JF [(16,_),(6,_),(4,_),(5,_),(3,_),(2,_)] (.cons rfl (.cons rfl (.cons rfl (.cons rfl (.cons rfl (.cons rfl (.nil _))))))) (J3 rfl rfl (Jc (JG _ _ [3] (.c 0 0 (.c 1 0 (.c 2 0 (.c 3 3 .nil)))) mixed (fun _ _ _ _ h=>h) (Sk (Sk (Sr))) (fun _ h=>h) (by kernel_rfl) (by decide) fun ws Z0=>Qe rfl (Jb rfl) (Qe rfl (Jt (vs:= [_,_]) Un145 rfl JY rfl Jm rfl rfl) (Qe rfl (Jd rfl) ?_))))))))))
  refine JN (J9 rfl rfl (Jq (cs':= [_,_]) (vs:= [_,_]) JY rfl rfl rfl rfl rfl (Nat.le_of_ble_eq_true rfl) (.s (.z)) (JM (Jf (Jo (Js ?_))))))
  refine ⟨_,[],[_,_],fun Z w hs=> .tmp rfl (JV hs Un145 rfl JY rfl (Ji (Jm)) rfl (.nil)),?_,fun Z w hs=>hs.out (Sd (Sd (Sr))) (Jl Mm1 (Jl Mm2 Tt4))⟩
  exact ⟨_,_,_,_,_,_,rfl,rfl,rfl,wl1,n1,h1,by simp only [r1,hzm1,Tr.row,List.append_nil,List.nil_append]⟩
 ·refine QY Mm2 hzm1 fun _ e=> ?_
  subst e
  refine Ja (Lq (Jb rfl) (Lq (KK Un141 rfl rfl (by simp)) (Je (Jf (JF [(16,_),(6,_),(4,_),(5,_),(3,_),(2,_)] (.cons rfl (.cons rfl (.cons rfl (.cons rfl (.cons rfl (.cons rfl (.nil _))))))) (Ju rfl rfl (Jp (Jf (Jc (Ja (Lq (Jb rfl) (Jg rfl (Jn (ih m1.size (by omega) _ m1 wm1 hzm1 (by omega) (Nat.le_refl _)) (.cons rfl (.nil)) (by decide) (Jl Mm2 Jx) fun u4_1 Lo fs hres=> ?_)))))))))))))
  obtain ⟨A2,t2,s2,k2,C2,d2,rfl,rfl,rfl,wt2,n2,h2,r2⟩:=hres
  have e2:=congrArg List.length r2
  simp only [List.length_append,Jr] at e2
  refine Lq (Jb rfl) (Lq (Jk (vs:= [_,_]) rfl rfl) (Lq (Jk (vs:= [_,_]) rfl rfl) (Jg rfl (Jv (cs:= [_,_]) JY rfl (by decide) fun b8=>Lq (Jd rfl) (Jg rfl (Jq (cs':= [_,_]) (vs:= [_,_]) JY rfl rfl rfl rfl rfl (Nat.le_of_ble_eq_true rfl) (.z) (Je (Jf (Jc (JG _ _ [6] (.c 0 0 (.c 1 0 (.c 2 0 (.c 4 0 (.c 3 2 (.c 5 0 (.c 6 3 .nil))))))) mixed (fun _ _ _ _ h=>h) (Sk (Sk (Sk (Sr)))) (fun _ h=>h) (by kernel_rfl) (by decide) fun ws Z0=>Qe rfl (Jb rfl) (Qe rfl (Jt (vs:= [_,_]) Un145 rfl JY rfl (Ji (Jm)) rfl rfl) ?_)))))))))))
  refine Qe rfl (Jb rfl) (Qe rfl (Jt (vs:= [_,_]) Un145 rfl JY rfl Jm rfl rfl) (Jz rfl rfl (Jn (join_r B1 A2 C1 d1 l1 t2 s1 k1 wl1 wt2 n1 h1 (by omega)) (.cons rfl (.cons rfl (.cons rfl (.nil)))) (by decide) (Jl Mm3 (Jl Mm1 (Jl Mm4 Jx))) fun u5_3 Lo fs hres=> ?_)))
  obtain ⟨T3,t3,rfl,rfl,rfl,wt3,r3⟩:=hres
  have e3:=congrArg List.length r3
  simp only [List.length_append,Jr,Tr.row,List.length_nil,List.length_take,List.length_drop] at e3
  refine ⟨⟨(Sk (Sk (Sk (Sr)))),Mm1⟩,?_⟩
  refine Qe rfl (Jd rfl) (JN (J9 rfl rfl (Jq (cs':= [_,_]) (vs:= [_,_]) JY rfl rfl rfl rfl rfl (Nat.le_of_ble_eq_true rfl) (.s (.s (.z))) (JM (Jf (JF [(2,_),(3,_)] (.cons rfl (.cons rfl (.nil _))) (Jo ?_)))))))
  refine ⟨_,[],[_,_],fun Z w hs=> .tmp rfl (JV hs Un145 rfl JY rfl (Ji (Ji (Jm))) rfl (.nil)),?_,fun Z w hs=>hs.out (Sd (Sd (Sd (Sr)))) (Jl Mm0 (Jl Mm3 Tt7))⟩
  exact ⟨_,_,_,_,_,_,rfl,rfl,rfl,wt3,n2,h2,by simp only [r1,r2,r3,List.append_assoc]⟩
set_option maxRecDepth 10000 in
theorem popFirst_n (N:Nat): ∀(A:Option Addr) (t:Tr) (wt:Wf t) (nt:t≠ .nil) (hb:t.row.length≤1073741824),t.size≤N→Sp Tryz.prog 162 [.pointer A] [] [TrF A t] (FirstP t.row):=by
 induction N using Nat.strongRecOn
 rename_i N ih
 intro A t wt nt hb hN
 refine Sp.of (n:=29) ⟨_,Tryz.func162,rfl,rfl,rfl,rfl⟩ (Nat.le_of_ble_eq_true rfl) fun Ps As=>Jc (Ja (Jg rfl (Jv (cs:= [_,_]) JY rfl (by decide) fun b2=>Lq (Jd rfl) (Je (Jf (Jc (Ja (Lq (Jb rfl) (Jg rfl (Jn (open_r A t wt nt (by omega)) (.cons rfl (.nil)) (by decide) (Jl Mm0 Jx) fun u1_1 Lo fs hres=> ?_))))))))))
 obtain ⟨B1,l1,s1,k1,C1,d1,D1,m1,rfl,rfl,rfl,wl1,wm1,n1,h1,r1,zl1,zm1⟩:=hres
 have e1:=congrArg List.length r1
 simp only [List.length_append,Jr,Tr.row,List.length_nil,List.length_take,List.length_drop] at e1
 refine Lq (Jb rfl) (Lq (Jk (vs:= [_,_,_]) rfl rfl) (Lq (Jk (vs:= [_,_,_]) rfl rfl) (Lq (Jk (vs:= [_,_,_]) rfl rfl) (Jg rfl (Jv (cs:= [_,_]) JY rfl (by decide) fun b5=>Lq (Jd rfl) (Jg rfl (Jq (cs':= [_,_]) (vs:= [_,_]) JY rfl rfl rfl rfl rfl (Nat.le_of_ble_eq_true rfl) (.z) (Lq (Jd rfl) (Je (Jf (Jc (Jc ?_))))))))))))
 by_cases hzl1:l1= .nil
 ·rw [hzl1]
  refine Vz Mm0 fun e=> ?_
  subst e
  refine Ja (Lq (Jb rfl) (Lq (KK Un141 rfl rfl (by simp)) (Je (Jf (JF [(16,_),(6,_),(4,_),(5,_),(3,_),(2,_)] (.cons rfl (.cons rfl (.cons rfl (.cons rfl (.cons rfl (.cons rfl (.nil _))))))) (J3 rfl rfl (Jc (Ja (Lq (Jt (vs:= [_,_]) Un145 rfl JY rfl Jm rfl rfl) (Lq (Jb rfl) (Jg rfl (Jq (cs':= [_,_]) (vs:= [_,_]) JY rfl rfl rfl rfl rfl (Nat.le_of_ble_eq_true rfl) (.s (.z)) (Lq (Jd rfl) ?_)))))))))))))
  refine Je (Jf (Jo (Js ?_)))
  refine ⟨_,[],[_,_],fun Z w hs=>JV hs Un145 rfl JY rfl (Ji (Jm)) rfl (.tmp rfl (.nil)),?_,fun Z w hs=>hs.out (Sd (Sd (Sr))) (Jl Mm2 (Jl Mm1 Tt3))⟩
  exact ⟨_,_,_,_,_,_,rfl,rfl,rfl,wm1,n1,h1,by simp only [r1,hzl1,Tr.row,List.append_nil,List.nil_append]⟩
 ·refine QY Mm0 hzl1 fun _ e=> ?_
  subst e
  refine Ja (Lq (Jb rfl) (Lq (KK Un141 rfl rfl (by simp)) (Je (Jf (JF [(16,_),(6,_),(4,_),(5,_),(3,_),(2,_)] (.cons rfl (.cons rfl (.cons rfl (.cons rfl (.cons rfl (.cons rfl (.nil _))))))) (Ju rfl rfl (Jp (Jf (Jc (Ja (Lq (Jb rfl) (Jg rfl (Jn (ih l1.size (by omega) _ l1 wl1 hzl1 (by omega) (Nat.le_refl _)) (.cons rfl (.nil)) (by decide) (Jl Mm0 Jx) fun u4_1 Lo fs hres=> ?_)))))))))))))
  obtain ⟨A2,t2,s2,k2,C2,d2,rfl,rfl,rfl,wt2,n2,h2,r2⟩:=hres
  have e2:=congrArg List.length r2
  simp only [List.length_append,Jr] at e2
  refine Lq (Jb rfl) (Lq (Jk (vs:= [_,_]) rfl rfl) (Lq (Jk (vs:= [_,_]) rfl rfl) (Jg rfl (Jv (cs:= [_,_]) JY rfl (by decide) fun b7=>Jg rfl (Jq (cs':= [_,_]) (vs:= [_,_]) JY rfl rfl rfl rfl rfl (Nat.le_of_ble_eq_true rfl) (.z) (Lq (Jd rfl) (Je (Jf (Jc (JG _ _ [5] (.c 0 0 (.c 1 0 (.c 2 0 (.c 3 0 (.c 4 2 (.c 5 3 (.c 6 1 .nil))))))) mixed (fun _ _ _ _ h=>h) (Sk (Sk (Sk (Sr)))) (fun _ h=>h) (by kernel_rfl) (by decide) fun ws Z0=>Qe rfl (Jt (vs:= [_,_]) Un145 rfl JY rfl Jm rfl rfl) (Qe rfl (Jb rfl) ?_)))))))))))
  refine Qe rfl (Jt (vs:= [_,_]) Un145 rfl JY rfl (Ji (Jm)) rfl rfl) (Qe rfl (Jb rfl) (Jz rfl rfl (Jn (join_r A2 D1 C1 d1 t2 m1 s1 k1 wt2 wm1 n1 h1 (by omega)) (.cons rfl (.cons rfl (.cons rfl (.nil)))) (by decide) (Jl Mm1 (Jl Mm5 (Jl Mm4 Jx))) fun u5_4 Lo fs hres=> ?_)))
  obtain ⟨T3,t3,rfl,rfl,rfl,wt3,r3⟩:=hres
  have e3:=congrArg List.length r3
  simp only [List.length_append,Jr,Tr.row,List.length_nil,List.length_take,List.length_drop] at e3
  refine ⟨⟨(Sk (Sk (Sk (Sr)))),Mm1⟩,?_⟩
  refine JN (J9 rfl rfl (Jq (cs':= [_,_]) (vs:= [_,_]) JY rfl rfl rfl rfl rfl (Nat.le_of_ble_eq_true rfl) (.s (.s (.z))) (YO rfl (Jd rfl) (by decide) (JM (Jf (JF [(3,_),(2,_)] (.cons rfl (.cons rfl (.nil _))) (Jo ?_)))))))
  refine ⟨_,[],[_,_],fun Z w hs=>JV hs Un145 rfl JY rfl (Ji (Ji (Jm))) rfl (.tmp rfl (.nil)),?_,fun Z w hs=>hs.out (Sd (Sd (Sd (Sr)))) (Jl Mm0 (Jl Mm3 Tt7))⟩
  exact ⟨_,_,_,_,_,_,rfl,rfl,rfl,wt3,n2,h2,by simp only [r1,r2,r3,List.append_assoc]⟩
theorem popLast_r (A:Option Addr) (t:Tr) (wt:Wf t) (nt:t≠ .nil) (hb:t.row.length≤1073741824):Sp Tryz.prog 161 [.pointer A] [] [TrF A t] (LastP t.row):=popLast_n _ A t wt nt hb (Nat.le_refl _)
theorem popFirst_r (A:Option Addr) (t:Tr) (wt:Wf t) (nt:t≠ .nil) (hb:t.row.length≤1073741824):Sp Tryz.prog 162 [.pointer A] [] [TrF A t] (FirstP t.row):=popFirst_n _ A t wt nt hb (Nat.le_refl _)
theorem sp1 {a b:List Ce} {x:Int} (h0:0≤x) (h:x≤a.length):(a++b).take x.toNat=a.take x.toNat∧(a++b).drop x.toNat=a.drop x.toNat ++b:=
 ⟨List.take_append_of_le_length (by omega),List.drop_append_of_le_length (by omega)⟩
theorem sp2 {a c b:List Ce} {x:Int} (h:(a.length:Int)+c.length≤x):(a++(c++b)).take x.toNat=a++(c++b.take (x-a.length-c.length).toNat)∧(a++(c++b)).drop x.toNat=b.drop (x-a.length-c.length).toNat:=by
 have e:x.toNat=a.length+(c.length+(x-a.length-c.length).toNat):=by omega
 rw [e,List.take_length_add_append,List.take_length_add_append,List.drop_length_add_append,List.drop_length_add_append]
 exact ⟨rfl,rfl⟩
theorem sp3 {a c b:List Ce} {x:Int} (h:(a.length:Int)≤x) (h2:x≤a.length+c.length):(a++(c++b)).take x.toNat=a++c.take (x-a.length).toNat∧(a++(c++b)).drop x.toNat=c.drop (x-a.length).toNat ++b:=by
 have e:x.toNat=a.length+(x-a.length).toNat:=by omega
 rw [e,List.take_length_add_append,List.drop_length_add_append,List.take_append_of_le_length (by omega),List.drop_append_of_le_length (by omega)]
 exact ⟨rfl,rfl⟩
theorem cells_take (rs:List Int) (hid:Int) (k:Nat):(cellsOf rs hid).take k=cellsOf (rs.take k) hid:=by unfold cellsOf;rw [List.map_take]
theorem cells_drop (rs:List Int) (hid:Int) (k:Nat):(cellsOf rs hid).drop k=cellsOf (rs.drop k) hid:=by unfold cellsOf;rw [List.map_drop]
theorem take_ne {rs:List Int} {k:Nat} (h:0<k) (h2:k≤rs.length):rs.take k≠ [] :=fun e=>by have:=congrArg List.length e;rw [List.length_take,List.length_nil] at this;omega
theorem drop_ne {rs:List Int} {k:Nat} (h2:k<rs.length):rs.drop k≠ [] :=fun e=>by have:=congrArg List.length e;simp at this;omega
def NP2 (a b:List Ce):Value→List Part→List Fact→Prop:=fun v Lo fs=> ∃(A:Option Addr) (t:Tr) (B:Option Addr) (u:Tr),v= .tuple #[.pointer A, .pointer B] ∧Lo= [] ∧fs= [TrF A t,TrF B u] ∧Wf t∧Wf u∧t.row=a∧u.row=b
set_option maxRecDepth 10000 in
theorem split_0 (x:Int):Sp Tryz.prog 136 [.pointer none, .int .i64 x] [] [TrF none .nil] (NP2 [] []):=by
 refine Sp.of (n:=89) ⟨_,Tryz.func136,rfl,rfl,rfl,rfl⟩ (Nat.le_of_ble_eq_true rfl) fun Ps As=>Jc (Ja (Lq (Jd rfl) (Lq (Jd rfl) (Je (Jf (Jc (Jc (Ja (Lq (Jb rfl) (Lq (KK Un141 rfl rfl (by simp)) (Je (Jf (J3 rfl rfl (Jc (Ja (Lq (Jd rfl) (Lq (Jd rfl) ?_)))))))))))))))))
 refine Je (Jf (Jo (Js ?_)))
 refine ⟨_,[],[_,_],fun Z w hs=> .tmp rfl (.tmp rfl (.nil)),?_,fun Z w hs=>hs.out (Sr) (Jl Mm0 (Jl Mm0 (fun _ h=>h)))⟩
 exact ⟨_,_,_,_,rfl,rfl,rfl,wnilT,wnilT,rfl,rfl⟩
theorem fd112_0Xw26 (x0:Int) (x1:Int) (x2:Int) (x3:Int) (x4:Int) (x5:Int) (w:World):(Instr.field 149 (.agg #[.int .i64 x0, .int .i64 x1, .int .i64 x2, .int .i64 x3, .int .i64 x4, .int .i64 x5]) 0).run Tryz.prog w= .ok (.int .i64 x0) w:=by kernel_rfl
set_option maxRecDepth 10000 in
theorem split_n (N:Nat): ∀(A:Option Addr) (t:Tr) (x:Int) (wt:Wf t) (hb:t.row.length≤1073741824) (hx:0≤x) (hx2:x≤1073741824),t.size≤N→Sp Tryz.prog 136 [.pointer A, .int .i64 x] [] [TrF A t] (NP2 (t.row.take x.toNat) (t.row.drop x.toNat)):=by
 induction N using Nat.strongRecOn
 rename_i N ih
 intro A t x wt hb hx hx2 hN
 by_cases nt:t= .nil
 ·subst nt
  refine ⟨(split_0 x).enters,fun Z w Ps As hs=> ?_⟩
  obtain rfl:A=none:=hs.facts _ (by simp:TrF A .nil∈ [TrF A .nil] ++As)
  simpa [Tr.row] using (split_0 x).calls Z w Ps As hs
 refine Sp.of (n:=89) ⟨_,Tryz.func136,rfl,rfl,rfl,rfl⟩ (Nat.le_of_ble_eq_true rfl) fun Ps As=>QY Mm0 nt fun _ e=> ?_
 subst e
 refine Jc (Ja (Lq (Jd rfl) (Lq (Jd rfl) (Je (Jf (Jc (Jc (Ja (Lq (Jb rfl) (Lq (KK Un141 rfl rfl (by simp)) (Je (Jf (Ju rfl rfl (Jp (Jf (Jc (Ja (Lq (Jb rfl) (Jg rfl (Jn (open_r _ t wt nt (by omega)) (.cons rfl (.nil)) (by decide) (Jl Mm0 Jx) fun u3_1 Lo fs hres=> ?_))))))))))))))))))))
 obtain ⟨B1,l1,s1,k1,C1,d1,D1,m1,rfl,rfl,rfl,wl1,wm1,n1,h1,r1,zl1,zm1⟩:=hres
 have e1:=congrArg List.length r1
 simp only [List.length_append,Jr,Tr.row,List.length_nil,List.length_take,List.length_drop] at e1
 refine Lq (Jb rfl) (Lq (Jk (vs:= [_,_,_]) rfl rfl) (Lq (Jk (vs:= [_,_,_]) rfl rfl) (Lq (Jk (vs:= [_,_,_]) rfl rfl) (Jg rfl (Jv (cs:= [_,_]) JY rfl (by decide) fun b7=>Lq (Jd rfl) (Jg rfl (Jq (cs':= [_,_]) (vs:= [_,_]) JY rfl rfl rfl rfl rfl (Nat.le_of_ble_eq_true rfl) (.z) (Lq (Jd rfl) (Je (Jf (JF [(8,_),(6,_),(7,_),(5,_),(4,_),(1,_)] (.cons rfl (.cons rfl (.cons rfl (.cons rfl (.cons rfl (.cons rfl (.nil _))))))) ?_)))))))))))
 refine Jc (Ja (Lq (Jb rfl) (Jg rfl (Jn (Yw B1 l1) (.cons rfl (.nil)) (by decide) (Jl Mm0 Jx) fun u4_1 Lo fs hres=> ?_))))
 obtain ⟨rfl,rfl,rfl⟩:=hres
 refine Lq (Yg rfl (fd112_0Xw26 _ _ _ _ _ _)) (Lq (Jd rfl) (Je (Jf (Jc (JE (Jc ?_))))))
 have hkk:=wl1.tot
 refine Ja (Lq (Jb rfl) (Lq (Jb rfl) (Lq (YS rfl rfl) (Lq (Jd rfl) (Je (Jf (JF [(27,_),(9,_),(8,_),(6,_),(7,_),(5,_),(4,_),(1,_)] (.cons rfl (.cons rfl (.cons rfl (.cons rfl (.cons rfl (.cons rfl (.cons rfl (.cons rfl (.nil _))))))))) (Jy rfl (fun h27=> ?_) (fun h27=> ?_)))))))))
 ·refine Jc ?_
  simp only [decide_eq_true_eq] at h27
  refine Ja (Lq (Jb rfl) (Lq (Jb rfl) (Jg rfl (Jn (ih l1.size (by omega) B1 l1 x wl1 (by omega) (by omega) (by omega) (Nat.le_refl _)) (.cons rfl (.cons rfl (.nil))) (by decide) (Jl Mm0 Jx) fun u6_2 Lo fs hres=> ?_))))
  obtain ⟨A2,t2,E2,q2,rfl,rfl,rfl,wt2,wq2,r2,rq2⟩:=hres
  have e2:=congrArg List.length r2
  simp only [List.length_append,Jr,Tr.row,List.length_nil,List.length_take,List.length_drop] at e2
  have eq2:=congrArg List.length rq2
  simp only [List.length_append,Jr,Tr.row,List.length_nil,List.length_take,List.length_drop] at eq2
  refine Lq (Jb rfl) (Lq (Jk (vs:= [_,_]) rfl rfl) (Lq (Jk (vs:= [_,_]) rfl rfl) (Lq (Jd rfl) (Lq (Jd rfl) (Je (Jf (JF [(11,_),(10,_),(9,_),(8,_),(6,_),(7,_),(5,_),(4,_),(1,_)] (.cons rfl (.cons rfl (.cons rfl (.cons rfl (.cons rfl (.cons rfl (.cons rfl (.cons rfl (.cons rfl (.nil _)))))))))) (Jc (Ja (Lq (Jb rfl) (Lq (Jb rfl) ?_)))))))))))
  refine Lq (Jt (vs:= [_,_]) Un145 rfl JY rfl Jm rfl rfl) (Lq (Jb rfl) (Jg rfl (Jn (join_r E2 D1 C1 d1 q2 m1 s1 k1 wq2 wm1 n1 h1 (by omega)) (.cons rfl (.cons rfl (.cons rfl (.nil)))) (by decide) (Jl Mm1 (Jl Mm4 (Jl Mm3 Jx))) fun u7_4 Lo fs hres=> ?_)))
  obtain ⟨T3,t3,rfl,rfl,rfl,wt3,r3⟩:=hres
  have e3:=congrArg List.length r3
  simp only [List.length_append,Jr,Tr.row,List.length_nil,List.length_take,List.length_drop] at e3
  refine Lq (Jd rfl) (Lq (Jd rfl) (Je (Jf (JF [(5,_),(4,_),(9,_),(8,_),(6,_),(7,_),(1,_)] (.cons rfl (.cons rfl (.cons rfl (.cons rfl (.cons rfl (.cons rfl (.cons rfl (.nil _)))))))) (Jo (JJ (Js ?_)))))))
  refine ⟨_,[],[_,_],fun Z w hs=> .tmp rfl (.tmp rfl (.nil)),?_,fun Z w hs=>hs.out (Sd (Sr)) (Jl Mm1 (Jl Mm0 Tt6))⟩
  obtain ⟨g1,g2⟩:=sp1 (a:=l1.row) (b:=cellsOf s1 k1++m1.row) (x:=x) hx (by omega)
  refine ⟨_,_,_,_,rfl,rfl,rfl,wt2,wt3,?_,?_⟩
  ·rw [r1,g1];simp only [r2,r3,rq2,cells_take,cells_drop,Jr,List.append_assoc,Tr.row,List.append_nil,List.nil_append,hkk]
  ·rw [r1,g2];simp only [r2,r3,rq2,cells_take,cells_drop,Jr,List.append_assoc,Tr.row,List.append_nil,List.nil_append,hkk]
 ·refine Jc (Ja (Lq (Jb rfl) (Lq (Jb rfl) (Lq (Jh (o':=0) Un145 rfl YN rfl rfl) (Lq (Jj Un30 rfl rfl Jm rfl) (Lq (J2 Un30 rfl) (Lq (JU rfl rfl (wr64 (by omega))) (Lq (YC rfl rfl) (Lq (Jd rfl) (Je (Jf ?_)))))))))))
  refine JF [(42,_),(9,_),(8,_),(6,_),(7,_),(5,_),(4,_),(1,_)] (.cons rfl (.cons rfl (.cons rfl (.cons rfl (.cons rfl (.cons rfl (.cons rfl (.cons rfl (.nil _))))))))) (Jy rfl (fun h42=> ?_) (fun h42=> ?_))
  ·refine Jc ?_
   simp only [decide_eq_true_eq] at h42
   refine Ja (Lq (Jb rfl) (Lq (Jb rfl) (Lq (Jb rfl) (Lq (KO rfl rfl (wr64 (by omega))) (Lq (Jh (o':=0) Un145 rfl YN rfl rfl) (Lq (Jj Un30 rfl rfl Jm rfl) (Lq (J2 Un30 rfl) (Lq (KO rfl rfl (wr64 (by omega))) (Jg rfl (Jn (ih m1.size (by omega) D1 m1 (x-(allF l1).tot-s1.length) wm1 (by omega) (by omega) (by omega) (Nat.le_refl _)) (.cons rfl (.cons rfl (.nil))) (by decide) (Jl Mm2 Jx) fun u9_8 Lo fs hres=> ?_))))))))))
   obtain ⟨A4,t4,E4,q4,rfl,rfl,rfl,wt4,wq4,r4,rq4⟩:=hres
   have e4:=congrArg List.length r4
   simp only [List.length_append,Jr,Tr.row,List.length_nil,List.length_take,List.length_drop] at e4
   have eq4:=congrArg List.length rq4
   simp only [List.length_append,Jr,Tr.row,List.length_nil,List.length_take,List.length_drop] at eq4
   refine Lq (Jb rfl) (Lq (Jk (vs:= [_,_]) rfl rfl) (Lq (Jk (vs:= [_,_]) rfl rfl) (Lq (Jd rfl) (Lq (Jd rfl) (Je (Jf (JF [(13,_),(12,_),(9,_),(8,_),(6,_),(7,_),(5,_),(4,_),(1,_)] (.cons rfl (.cons rfl (.cons rfl (.cons rfl (.cons rfl (.cons rfl (.cons rfl (.cons rfl (.cons rfl (.nil _)))))))))) (Jc (Ja (Lq (Jb rfl) (Lq (Jt (vs:= [_,_]) Un145 rfl JY rfl Jm rfl rfl) ?_)))))))))))
   refine Lq (Jb rfl) (Jg rfl (Jn (join_r B1 A4 C1 d1 l1 t4 s1 k1 wl1 wt4 n1 h1 (by omega)) (.cons rfl (.cons rfl (.cons rfl (.nil)))) (by decide) (Jl Mm2 (Jl Mm0 (Jl Mm3 Jx))) fun u10_3 Lo fs hres=> ?_))
   obtain ⟨T5,t5,rfl,rfl,rfl,wt5,r5⟩:=hres
   have e5:=congrArg List.length r5
   simp only [List.length_append,Jr,Tr.row,List.length_nil,List.length_take,List.length_drop] at e5
   refine Lq (Jb rfl) (Lq (Jd rfl) (Lq (Jd rfl) (Je (Jf (JF [(5,_),(4,_),(9,_),(8,_),(6,_),(7,_),(1,_)] (.cons rfl (.cons rfl (.cons rfl (.cons rfl (.cons rfl (.cons rfl (.cons rfl (.nil _)))))))) (Jo (JJ (Js ?_))))))))
   refine ⟨_,[],[_,_],fun Z w hs=> .tmp rfl (.tmp rfl (.nil)),?_,fun Z w hs=>hs.out (Sd (Sr)) (Jl Mm0 (Jl Mm2 Tt6))⟩
   obtain ⟨g1,g2⟩:=sp2 (a:=l1.row) (c:=cellsOf s1 k1) (b:=m1.row) (x:=x) (by rw [Jr];omega)
   refine ⟨_,_,_,_,rfl,rfl,rfl,wt5,wq4,?_,?_⟩
   ·rw [r1,g1];simp only [r4,r5,rq4,cells_take,cells_drop,Jr,List.append_assoc,Tr.row,List.append_nil,List.nil_append,hkk]
   ·rw [r1,g2];simp only [r4,r5,rq4,cells_take,cells_drop,Jr,List.append_assoc,Tr.row,List.append_nil,List.nil_append,hkk]
  ·refine Jp (J8 (Jf (Jc (JG _ _ [5] (.c 0 0 (.c 1 0 (.c 2 4 (.c 3 4 (.c 4 2 (.c 5 3 .nil)))))) mixed (fun _ _ _ _ h=>h) (Sk (Sr)) (fun _ h=>h) (by kernel_rfl) (by decide) fun ws Z0=>Qe rfl (Jt (vs:= [_,_]) Un145 rfl JY rfl Jm rfl rfl) (Qe rfl (Jt (vs:= [_,_]) Un145 rfl JY rfl Jm rfl rfl) (GK rfl rfl (cs1:= [_,_]) (cs2:= [_,_]) JY rfl JY rfl (by decide) (by decide) (by decide) (Sk (Sr)) Mm0 fun b14 b15=>Jz rfl rfl (Jq (cs':= [_,_]) (vs:= [_,_]) JY rfl rfl rfl rfl rfl (Nat.le_of_ble_eq_true rfl) (.s (.z)) ?_)))))))
   refine ⟨⟨(Sd (Sd (Sk (Sr)))),Mm0⟩,?_⟩
   refine JN (J9 rfl rfl (Jq (cs':= [_,_]) (vs:= [_,_]) JY rfl rfl rfl rfl rfl (Nat.le_of_ble_eq_true rfl) (.z) (JM (Jf (Jc ?_)))))
   simp only [decide_eq_false_iff_not] at h27 h42
   obtain ⟨k0,hk0⟩: ∃k:Nat,k=(x-l1.row.length).toNat:=⟨_,rfl⟩
   have hk1:0<k0:=by omega
   have hk2:k0<s1.length:=by omega
   have ht1:(s1.take k0).length=k0:=by rw [List.length_take];omega
   have hd1:(s1.drop k0).length=s1.length-k0:=by rw [List.length_drop]
   refine Gi Mm2 fun hcap=>VW k0 Mm2 (by omega) (VV k0 Mm3 (by omega) (Kb (A:=TrF none .nil) (fun _ _ _=>rfl) (JG _ _ [15] (.c 0 0 (.c 1 0 (.c 2 0 (.c 3 0 (.c 4 0 (.c 5 0 (.c 6 0 (.c 7 0 (.c 8 0 (.c 9 0 (.c 10 0 (.c 11 0 (.c 12 0 (.c 13 2 (.c 14 0 (.c 15 3 .nil)))))))))))))))) mixed (fun _ _ _ _ h=>h) (Sk (Sd (Sk (Sr)))) (fun _ h=>h) (by kernel_rfl) (by decide) fun ws Z0=>Qe rfl (Jh (o':=0) Un145 rfl YN rfl rfl) (Qe rfl (Jj Un30 rfl rfl (Ji (Jm)) rfl) (Qe rfl (Jb rfl) (Qe rfl (Jb rfl) (Qe rfl (KO rfl rfl (wr64 (by omega))) ?_)))))))
   refine Qe rfl (Vi (m:=(s1.take k0).length) (by omega) Un30 VO rfl rfl (by omega) (by omega)) (Qe rfl (Jh (o':=0) Un145 rfl YN rfl rfl) (Qe rfl (Jj Un30 rfl rfl (Ji (Jm)) rfl) (Qe rfl (Jb rfl) (Qe rfl (Jb rfl) (Qe rfl (KO rfl rfl (wr64 (by omega))) (Qe rfl (Vh (j:=k0) (m:=(s1.drop k0).length) (by omega) (by omega) Un30 VO rfl rfl (by omega) (by omega)) (Qe rfl (Jh (o':=0) Un145 rfl YN rfl rfl) (Jz rfl rfl (JH YN rfl rfl rfl (.z) (.s (.z)) ?_)))))))))
   refine ⟨⟨(Sk (Sd (Sk (Sr)))),Mm0⟩,?_⟩
   refine Qe rfl (Jh (o':=0) Un145 rfl YN rfl rfl) (JN (J9 rfl rfl (JH YN rfl rfl rfl (.z) (.z) (JM (Jf (JF [(15,_),(14,_),(8,_),(6,_),(5,_),(4,_)] (.cons rfl (.cons rfl (.cons rfl (.cons rfl (.cons rfl (.cons rfl (.nil _))))))) (Jc (JG _ _ [] (.c 0 0 (.c 1 0 (.c 3 0 (.c 4 0 (.c 2 2 (.c 5 2 (.c 6 0 (.c 7 0 .nil)))))))) mixed (fun _ _ _ _ h=>h) (Sk (Sk (Sk (Sr)))) (fun _ h=>h) (by kernel_rfl) (by decide) fun ws Z0=>Qe rfl (Jb rfl) (Qe rfl (Jt (vs:= [_,_]) Un145 rfl JY rfl (Ji (Jm)) rfl rfl) (Qe rfl (Jt (vs:= [_,_]) Un145 rfl JY rfl Jm rfl rfl) ?_))))))))))
   refine Qe rfl (Jb rfl) (Jz rfl rfl (Jn (join_r B1 none (cutA C1 0 d1 1) d1 l1 Tr.nil (s1.take k0) k1 wl1 wnilT (take_ne hk1 (by omega)) h1 (by simp only [Tr.row,List.length_nil];omega)) (.cons rfl (.cons rfl (.cons rfl (.nil)))) (by decide) (Jl Mm6 (Jl Mm2 (Jl Mm4 Jx))) fun u13_2 Lo fs hres=> ?_))
   obtain ⟨T6,t6,rfl,rfl,rfl,wt6,r6⟩:=hres
   have e6:=congrArg List.length r6
   simp only [List.length_append,Jr,Tr.row,List.length_nil,List.length_take,List.length_drop] at e6
   refine ⟨⟨(Sk (Sk (Sk (Sr)))),Mm1⟩,?_⟩
   refine Jz rfl rfl (Jn (join_r none D1 (cutA C1 k0 d1 1) (d1-k0) Tr.nil m1 (s1.drop k0) k1 wnilT wm1 (drop_ne hk2) h1 (by simp only [Tr.row,List.length_nil];omega)) (.cons rfl (.cons rfl (.cons rfl (.nil)))) (by decide) (Jl Mm3 (Jl Mm9 (Jl Mm4 Jx))) fun u13_5 Lo fs hres=> ?_)
   obtain ⟨T7,t7,rfl,rfl,rfl,wt7,r7⟩:=hres
   have e7:=congrArg List.length r7
   simp only [List.length_append,Jr,Tr.row,List.length_nil,List.length_take,List.length_drop] at e7
   refine ⟨⟨(Sk (Sk (Sk (Sr)))),Mm2⟩,?_⟩
   refine Qe rfl (Jd rfl) (Qe rfl (Jd rfl) (JN (JM (Jf (Jo ?_)))))
   refine ⟨_,[],[_,_],fun Z w hs=> .tmp rfl (.tmp rfl (.nil)),?_,fun Z w hs=>hs.out (Sd (Sd (Sd (Sr)))) (Jl Mm1 (Jl Mm0 Tt11))⟩
   obtain ⟨g1,g2⟩:=sp3 (a:=l1.row) (c:=cellsOf s1 k1) (b:=m1.row) (x:=x) (by omega) (by rw [Jr];omega)
   refine ⟨_,_,_,_,rfl,rfl,rfl,wt6,wt7,?_,?_⟩
   ·rw [r1,g1];simp only [r6,r7,←hk0,cells_take,cells_drop,Jr,List.append_assoc,Tr.row,List.append_nil,List.nil_append,hkk]
   ·rw [r1,g2];simp only [r6,r7,←hk0,cells_take,cells_drop,Jr,List.append_assoc,Tr.row,List.append_nil,List.nil_append,hkk]
theorem split_r (A:Option Addr) (t:Tr) (x:Int) (wt:Wf t) (hb:t.row.length≤1073741824) (hx:0≤x) (hx2:x≤1073741824):Sp Tryz.prog 136 [.pointer A, .int .i64 x] [] [TrF A t] (NP2 (t.row.take x.toNat) (t.row.drop x.toNat)):=split_n _ A t x wt hb hx hx2 (Nat.le_refl _)
structure RuI (s:ByteArray) (p:Nat) (acc:List Int) (v:Value) (pa:Part):Prop where
 le:p≤s.size
 len:acc.length≤p
 eq:Ko s=acc++runesAt s p
 row:Row 21 1 v acc.length (ints .i32 acc) pa
set_option maxRecDepth 10000 in
theorem HP (s:ByteArray) (hs:s.size≤1073741824):Sp Tryz.prog 140 [.string s] [] [] (fun v Lo fs=> ∃A c,v= .slice A (Ko s).length c∧Lo= [] ∧fs= [RdF runeD A c (Ko s)]):=by
 refine Sp.of (n:=16) ⟨_,Tryz.func140,rfl,rfl,rfl,rfl⟩ (Nat.le_of_ble_eq_true rfl) fun Ps As=>Jc (Ja (Lq (Jd rfl) (Je (Jf (Jc (Ja (Lq (Jd rfl) (Je (Jf (Jc (Jc (Ja (Lq (Jb rfl) (Jg rfl (GM Un9 rfl (by decide) fun b7=>Je (Jf (JE (Ks ?_))))))))))))))))))
 refine Kf (α:=Nat×List Int×Value×Part) (fun (p,acc,v,pa)=>s.size-p)
  (fun (p,acc,v,pa)=> [(3,v),(7, .pointer (some ⟨b7,0,none⟩))])
  (fun (p,acc,v,pa)=>(pa:: [(b7, .stringIter s p)] ::Ps))
  (fun (p,acc,v,pa)=>As)
  (fun (p,acc,v,pa)=>RuI s p acc v pa)
  (0,[], .slice none 0 0,[]) ?_ (.cons rfl (.cons rfl (.nil _))) (Sk (Sk (Sr))) (fun _ h=>h) ?_
 ·exact ⟨Nat.zero_le _,Nat.le_refl _,rfl,Row.nil _ _⟩
 ·rintro ⟨p,acc,v,pa⟩ hI
  have hle:=hI.le
  have hal:=hI.len
  refine Jc ?_
  by_cases hp:p<s.size
  ·refine Ja (Jg rfl (GN rfl hp (.s (.z)) (by decide) (Lq (Jk (vs:= [_,_,_]) rfl rfl) (Je (Jf (Jc (J3 rfl rfl (Jp (Jf (JE (Jc (Ja (Lq (Jk (vs:= [_,_,_]) rfl rfl) (Lq (Jd rfl) (Je (Jf (Ja (Lq (Jb rfl) (Lq (Jb rfl) ?_)))))))))))))))))))
   refine Jg rfl (KD (cs:= [_]) Un30 VO (by decide) (by decide) rfl rfl rfl rfl (by decide) fun b13=>Jg rfl (KH (news:= [_]) Un30 VO rfl (by decide) rfl rfl hI.row Jm rfl rfl (by omega) (by unfold maxLen;omega) (by decide) (DelAt.perm (.s (.z))) fun v14 p14 hr14=>Lq (Jd rfl) (Je (J8 (Kq ?_)))))
   have hd:=decode_pos s p
   have hd2:=decode_leP hp
   refine ⟨(p+(Utf8.decode s p).2,acc++ [((Utf8.decode s p).1:Int)],v14,p14),?_,(.cons rfl (.cons rfl (.nil _))),(Sk (Sd (Sk (Sr)))),(fun _ h=>h)⟩
   exact ⟨by show s.size-(p+(Utf8.decode s p).2)<s.size-p;omega,by show p+(Utf8.decode s p).2≤s.size;exact hd2,by rw [List.length_append];show acc.length+1≤p+(Utf8.decode s p).2;omega,by rw [hI.eq,runesAt_next hp,List.append_assoc];rfl,by rw [KT,List.length_append];exact hr14⟩
  ·refine Ja (Jg rfl (GO rfl (Ji (Jm)) hp (by decide) (Lq (Jk (vs:= [_]) rfl rfl) (Je (Jf (Jc (Ju rfl rfl (Ki (JK (JK (Ka (Jf (Jc ?_)))))))))))))
   have hdone:Ko s=acc:=by rw [hI.eq,runesAt_end hp,List.append_nil]
   subst hdone
   refine Kb (A:=RepsF runeD (Ko s) ((Ko s).map fun x=> [Value.int .i32 x])) (fun Z w _=>ints_reps _ _ Z w) (KI (e:=runeD) (xs:=Ko s) (css:=(Ko s).map fun x=> [Value.int .i32 x]) (by rw [ints_flat];exact hI.row) (.z) rfl Mm0 fun A9 c9 e9=> ?_)
   cases e9
   refine Ja (Lq (Jb rfl) (Lq (Jd rfl) (Je (Jf (Jo ?_)))))
   refine ⟨_,[],[_],fun Z w hs=> .tmp rfl (.nil),?_,fun Z w hs=>hs.out (Sd (Sr)) (Jl Mm0 Tt2)⟩
   exact ⟨_,_,rfl,rfl,rfl⟩
theorem tdiv_nat (a b:Nat) (h:a≤4611686018427387904):IntKind.i64.wrap ((a:Int).tdiv (b:Int))=((a / b:Nat):Int):=by
 rw [←Int.ofNat_tdiv]
 have:a / b≤a:=Nat.div_le_self a b
 generalize a / b=q at this
 exact wr64 (by omega)
theorem mul_nat (a b:Nat) (h:a*b≤4611686018427387904):IntKind.i64.wrap ((a:Int)*(b:Int))=((a*b:Nat):Int):=by
 rw [←Int.natCast_mul];exact wr64 (by omega)
def PcsP (row:List Ce):Value→List Part→List Fact→Prop:=fun v Lo fs=> ∃(A:Option Addr) (c:Nat) (ps:List Pc),v= .slice A ps.length c∧Lo= [] ∧fs= [RdF pcD A c ps] ∧PcOk ps∧pcsRow ps=row
def CuI (rs:List Int) (hid:Int) (K i:Nat) (v:Value) (p:Part) (css:List (List Value)):Prop:=i≤K∧Row 145 2 v (cutPcs rs hid K i).length css.flatten p
theorem bd118_0_1Xw28 (x0_A:Option Addr) (x0_n x0_c:Nat) (x1_:Int) (w:World):(Instr.build 145 #[(0, .slice x0_A x0_n x0_c),(1, .int .i64 x1_)]).run Tryz.prog w= .ok (.agg #[.slice x0_A x0_n x0_c, .int .i64 x1_]) w:=by kernel_rfl
set_option maxRecDepth 10000 in
theorem Eb (A:Option Addr) (c:Nat) (rs:List Int) (hid:Int) (hb:rs.length≤1073741824) (hh:0≤hid∧hid≤1048576):Sp Tryz.prog 139 [.slice A rs.length c, .int .i64 hid] [] [RdF runeD A c rs] (PcsP (cellsOf rs hid)):=by
 obtain ⟨K,hK⟩: ∃K:Nat,K=(rs.length+63) / 64:=⟨_,rfl⟩
 refine Sp.of (n:=39) ⟨_,Tryz.func139,rfl,rfl,rfl,rfl⟩ (Nat.le_of_ble_eq_true rfl) fun Ps As=>Jc (Ja (Lq (Jd rfl) (Je (Jf (Jc (Ja (Lq (Jb rfl) (Lq (J2 Un30 rfl) (Lq (JU rfl rfl (wr64 (by omega)) (c:=((rs.length+64:Nat):Int))) (Lq (KO rfl rfl (by rw [wr64 (by omega)];omega) (c:=((rs.length+63:Nat):Int))) (Lq (Hm rfl rfl (by decide) (by rw [hK];exact tdiv_nat (rs.length+63) 64 (by omega)) (c:=((K:Nat):Int))) (Lq (Jd rfl) ?_))))))))))))
 refine Je (Jf (Jc (Ja (Lq (Jd rfl) (Je (Jf (Jc (Jc (Ja (Lq (Jb rfl) (Lq (Jb rfl) (Je (Jf (JE (Ks (Kb (A:=RepsF pcD [] []) (fun Z w _=> .nil) ?_))))))))))))))))
 refine Kf (α:=Nat×Value×Part×List (List Value)) (fun (i,v,p,css)=>K-i)
  (fun (i,v,p,css)=> [(0, .slice A rs.length c),(1, .int .i64 hid),(5, .int .i64 (K:Nat)),(6,v),(13, .int .i64 (K:Nat)),(14, .int .i64 i)])
  (fun (i,v,p,css)=>(p::Ps))
  (fun (i,v,p,css)=>(RepsF pcD (cutPcs rs hid K i) css::RdF runeD A c rs::As))
  (fun (i,v,p,css)=>CuI rs hid K i v p css)
  (0, .slice none 0 0,[],[]) ?_ (.cons rfl (.cons rfl (.cons rfl (.cons rfl (.cons rfl (.cons rfl (.nil _))))))) (Sk (Sr)) (fun _ h=>h) ?_
 ·exact ⟨Nat.zero_le _,Row.nil _ _⟩
 ·rintro ⟨i,v,pa,css⟩ hI
  refine Jc (Ja (Lq (Km rfl rfl) (Je (Jf (Jc (Jy rfl (fun h15=> ?_) (fun h15=> ?_)))))))
  ·refine Jp (Jf (Jc (JE (Jc (Ja (Lq (Jb rfl) (Lq (Jd rfl) (Je (Jf ?_)))))))))
   try simp only [Bp,Bq] at *
   have hiK:i<K:=by omega
   have hK0:0<K:=by omega
   have hc1:=cutAt_lt (n:=rs.length) (k:=K) (i:=i) hK0 (by omega)
   have hc2:=EC (n:=rs.length) (k:=K) (i:=i+1) hK0 hiK
   have hm1:i*rs.length≤1073741824*1073741824:=Nat.mul_le_mul (by omega) hb
   have hm2:(i+1)*rs.length≤1073741824*1073741824:=Nat.mul_le_mul (by omega) hb
   have hpl:(cutPc rs hid K i).rs.length=cutAt rs.length K (i+1)-cutAt rs.length K i:=by unfold cutPc;simp only [List.length_drop,List.length_take];omega
   have hil:=QB rs hid K i
   refine Gi Mm1 fun hcap=>E9 (cutAt rs.length K i) (cutAt rs.length K (i+1)) Mm1 (by omega) hc2 (JG _ _ [] (.c 0 0 (.c 1 0 (.c 2 0 (.c 3 0 (.c 4 0 (.c 5 0 (.c 6 0 (.c 7 0 (.c 8 0 (.c 9 0 (.c 10 0 (.c 11 0 (.c 12 0 (.c 13 0 (.c 14 0 (.c 15 0 (.c 16 0 (.c 17 0 (.c 18 2 (.c 19 2 (.c 20 0 .nil))))))))))))))))))))) mixed (fun _ _ _ _ h=>h) (Sd (Sr)) (fun _ h=>h) (by kernel_rfl) (by decide) fun ws Z0=>Qe rfl (Jb rfl) (Qe rfl (Jb rfl) (Qe rfl (Jb rfl) (Qe rfl (Jb rfl) (Qe rfl (J2 Un30 rfl) (Qe rfl (Ja3 rfl rfl (mul_nat i rs.length (by omega))) (Qe rfl (Jb rfl) ?_)))))))
   refine Qe rfl (Hm rfl rfl (by omega) (tdiv_nat (i*rs.length) K (by omega)) (c:=((cutAt rs.length K i:Nat):Int))) (Qe rfl (Jb rfl) (Qe rfl (JU rfl rfl (wr64 (by omega)) (c:=((i+1:Nat):Int))) (Qe rfl (Jb rfl) (Qe rfl (J2 Un30 rfl) (Qe rfl (Ja3 rfl rfl (mul_nat (i+1) rs.length (by omega))) (Qe rfl (Jb rfl) (Qe rfl (Hm rfl rfl (by omega) (tdiv_nat ((i+1)*rs.length) K (by omega)) (c:=((cutAt rs.length K (i+1):Nat):Int))) (Qe rfl (XS (k:=cutAt rs.length K i) (m:=(cutPc rs hid K i).rs.length) (by omega) (by omega) Un30 VO rfl rfl rfl (by omega) (by omega) (by omega)) (Qe rfl (Jb rfl) ?_)))))))))
   refine Qe rfl (JZ (.cons rfl (.cons rfl (.nil))) (bd118_0_1Xw28 _ _ _ _)) (Jz rfl rfl (KD (cs:= [_,_]) Un213 JY (by decide) (by decide) rfl rfl rfl rfl (by decide) fun b35=> ?_))
   refine ⟨⟨(Sd (Sd (Sr))),Mm0⟩,?_⟩
   refine Jz rfl rfl (KH (news:= [_,_]) Un213 JY rfl (by decide) rfl rfl hI.2 Jm rfl rfl (by omega) (by unfold maxLen;omega) (by decide) (DelAt.perm (.s (.z))) fun v36 p36 hr36=> ?_)
   refine ⟨⟨(Sd (Sd (Sr))),Mm0⟩,?_⟩
   refine Qe rfl (Jd rfl) (JN (JM (J8 (Jf (Q0 (xs':=cutPcs rs hid K (i+1)) (u:=cutPc rs hid K i) (cs:=pcC (cutPc rs hid K i).rs hid (cutA A (cutAt rs.length K i) c 1) (c-cutAt rs.length K i)) Mm2 (fun Z w hs=>⟨_,_,rfl,hs.facts _ Mm1⟩) rfl (Ja (Lq (JU rfl rfl (wr64 (by omega)) (c:=((i+1:Nat):Int))) (Lq (Jb rfl) (Je (Kq ?_))))))))))
   refine ⟨(i+1,v36,p36,css++ [pcC (cutPc rs hid K i).rs hid (cutA A (cutAt rs.length K i) c 1) (c-cutAt rs.length K i)]),?_,(.cons rfl (.cons rfl (.cons rfl (.cons rfl (.cons rfl (.cons rfl (.nil _))))))),(Sk (Sd (Sr))),(Jl Mm0 Tt4)⟩
   refine ⟨by show K-(i+1)<K-i;omega,hiK,?_⟩
   have e:(cutPcs rs hid K (i+1)).length=(cutPcs rs hid K i).length+1:=by rw [hil,QB]
   show Row 145 2 v36 (cutPcs rs hid K (i+1)).length _ p36
   rw [e,List.flatten_append];exact hr36
  ·refine Ki (JK (JK (Ka (Jf (Jc ?_)))))
   try simp only [Bp,Bq] at *
   obtain rfl:i=K:=by have:=hI.1;omega
   refine KI (e:=pcD) (xs:=cutPcs rs hid i i) (css:=css) hI.2 (.z) rfl Mm0 fun A9 c9 e9=> ?_
   cases e9
   refine Ja (Lq (Jb rfl) (Lq (Jd rfl) (Je (Jf (Jo ?_)))))
   refine ⟨_,[],[_],fun Z w hs=> .tmp rfl (.nil),?_,fun Z w hs=>hs.out (Sr) (Jl Mm0 Tt2)⟩
   by_cases hz:rs.length=0
   ·have h1:rs= [] :=List.length_eq_zero_iff.1 hz
    have h2:i=0:=by omega
    subst h2
    exact ⟨_,_,_,rfl,rfl,rfl,(fun p hp=>by simp [cutPcs] at hp),by rw [h1];rfl⟩
   ·obtain ⟨k1,k2⟩:=GB (rs:=rs) (hid:=hid) (k:=i) (by omega) (by omega) hh i (Nat.le_refl _)
    exact ⟨_,_,_,rfl,rfl,rfl,k1,by rw [k2,cutAt_last (by omega),List.take_length]⟩
set_option maxRecDepth 10000 in
theorem ZF (A:Option Addr) (c:Nat) (ps:List Pc) (hok:PcOk ps) (hb:(pcsRow ps).length≤1073741824):Sp Tryz.prog 163 [.slice A ps.length c] [] [RdF pcD A c ps] (PcsP (pcsRow ps)):=by
 have hpl:=hok.len
 refine Sp.of (n:=49) ⟨_,Tryz.func163,rfl,rfl,rfl,rfl⟩ (Nat.le_of_ble_eq_true rfl) fun Ps As=>Jc (Ja (Lq (Jd rfl) (Je (Jf (Jc (Ja (Lq (Jd rfl) (Je (Jf (Jc (Jc (Ja (Lq (Jd rfl) (Je (Jf (JE (Ks (Kb (A:=RepsF pcD [] []) (fun Z w _=> .nil) ?_))))))))))))))))))
 refine Kf (α:=Nat×List Pc×Value×Part×List (List Value)) (fun (i,os,v,p,css)=>ps.length-i)
  (fun (i,os,v,p,css)=> [(0, .slice A ps.length c),(3,v),(4, .int .i64 i)])
  (fun (i,os,v,p,css)=>(p::Ps))
  (fun (i,os,v,p,css)=>(RepsF pcD os css::RdF pcD A c ps::As))
  (fun (i,os,v,p,css)=>EvI ps i os v p css)
  (0,[], .slice none 0 0,[],[]) ?_ (.cons rfl (.cons rfl (.cons rfl (.nil _)))) (Sk (Sr)) (fun _ h=>h) ?_
 ·exact ⟨Nat.zero_le _,Row.nil _ _,(fun p hp=>by cases hp),rfl⟩
 ·rintro ⟨i,os,v,pa,css⟩ hI
  refine Jc (Jc (Ja (Lq (Jb rfl) (Lq (Jb rfl) (Lq (J2 Un213 rfl) (Lq (Km rfl rfl) (Je (Jf (Jy rfl (fun h10=> ?_) (fun h10=> ?_))))))))))
  ·refine Jp (Jf (JE (Jc ?_)))
   try simp only [Bp,Bq] at *
   have hiL:i<ps.length:=by omega
   refine Kc (k:=i) Mm1 (List.getElem?_eq_getElem hiL) (pc_open _) fun bi qi yi ei=> ?_
   cases ei
   refine Ja (Lq (Jd rfl) (Je (Jf (Jc (Ja (Lq (Jb rfl) (Lq (Jd rfl) (Je (Jf (Jc (JE (Ks ?_))))))))))))
   refine Kf (α:=Nat×List Int×Value×Part) (fun (k,run,w,p)=>ps.length-k)
    (fun (k,run,w,p)=> [(0, .slice (some ⟨bi,qi,none⟩) ps.length c),(3,v),(4, .int .i64 i),(5,w),(6, .int .i64 k)])
    (fun (k,run,w,p)=>(p::pa::Ps))
    (fun (k,run,w,p)=>(FzA bi (qi+i*2) (pcC ps[i].rs ps[i].hid yi.1 yi.2)::RdF runeD yi.1 yi.2 ps[i].rs::RepsF pcD os css::RdF pcD (some ⟨bi,qi,none⟩) c ps::As))
    (fun (k,run,w,p)=>EvJ ps i k run ps[i].hid∧Row 21 1 w run.length (ints .i32 run) p)
    (i,[], .slice none 0 0,[]) ?_ (.cons rfl (.cons rfl (.cons rfl (.cons rfl (.cons rfl (.nil _)))))) (Sk (Sk (Sr))) (fun _ h=>h) ?_
   ·exact ⟨⟨Nat.le_refl _,by omega,by rw [List.drop_eq_nil_of_le (by rw [List.length_take];omega)];rfl⟩,Row.nil _ _⟩
   ·rintro ⟨k,run,w,pr⟩ ⟨hJ,hR⟩
    have hkle:=hJ.le
    refine Jc (Jc ?_)
    by_cases hkL:k<ps.length
    ·refine Gh (k:=k) Mm3 (List.getElem?_eq_getElem hkL) (pc_open _) fun yk=> ?_
     refine JG _ _ [] (.c 0 0 (.c 1 0 (.c 2 0 (.c 3 0 (.c 4 0 (.c 5 0 (.c 6 0 (.c 7 0 (.c 8 0 (.c 9 0 (.c 10 0 (.c 11 0 (.c 12 0 (.c 13 0 (.c 14 0 (.c 15 0 (.c 16 0 .nil))))))))))))))))) mixed (fun _ _ _ _ h=>h) (Sk (Sk (Sr))) (fun _ h=>h) (by kernel_rfl) (by decide) fun ws Z0=>Qe rfl (Jb rfl) (Qe rfl (Jb rfl) (Qe rfl (J2 Un213 rfl) (Qe rfl (Km rfl rfl) (Qe rfl (Jb rfl) (Kj rfl rfl rfl rfl (by simpa using hkL) (Jb rfl) (by decide) (Kj rfl rfl rfl rfl (by simpa using hkL) (Jb rfl) (by decide) (Kj rfl rfl rfl rfl (by simpa using hkL) (J1 Un213 JY rfl rfl (by omega) (by omega)) (by decide) (Kj rfl rfl rfl rfl (by simpa using hkL) (Jh (o':=_+1) Un145 rfl ti3 rfl rfl) (by decide) ?_))))))))
     refine Kj rfl rfl rfl rfl (by simpa using hkL) (J6 (j:=1) Un3 rfl rfl Mm0 rfl rfl) (by decide) (Kj rfl rfl rfl rfl (by simpa using hkL) (Jb rfl) (by decide) (Kj rfl rfl rfl rfl (by simpa using hkL) (Jb rfl) (by decide) (Kj rfl rfl rfl rfl (by simpa using hkL) (J1 Un213 JY rfl rfl (by omega) (by omega)) (by decide) (Kj rfl rfl rfl rfl (by simpa using hkL) (Jh (o':=_+1) Un145 rfl ti3 rfl rfl) (by decide) (Kj rfl rfl rfl rfl (by simpa using hkL) (J6 (j:=1) Un3 rfl rfl Mm2 rfl rfl) (by decide) (Kj rfl rfl rfl rfl (by simpa using hkL) (Kh rfl rfl) (by decide) (Qe rfl (JP rfl (by simpa using hkL) rfl) (JN (JM (Jf ?_))))))))))
     refine Jy rfl (fun h28=> ?_) (fun h28=> ?_)
     ·refine Jp (Jf (JE (Jc ?_)))
      try simp only [Bp,Bq] at *
      have hJn:=hJ.next hkL h28
      have hJl:=hJn.len
      rw [List.length_append] at hJl
      refine Ja (Lq (Jb rfl) (Lq (Jb rfl) (Lq (Jb rfl) (Lq (J1 Un213 JY rfl rfl (by omega) (by omega)) (Lq (Jh (o':=_+0) Un145 rfl YN rfl rfl) (Lq (J6 (j:=0) Un30 rfl rfl Mm1 rfl rfl) (Jg rfl (YJ (e:=runeD) (ys:=(ps[k]).rs) Un30 VO rfl (by decide) rfl rfl hR Mm2 (by omega) (by unfold maxLen;omega) (by decide) (List.Perm.refl _) fun v35 p35 cs35 hr35=>Lq (Jd rfl) (Je (Jf ?_))))))))))
      refine Jaz Mm0 fun hcs=>Ja (Lq (Jb rfl) (Lq (JU rfl rfl (wr64 (by omega)) (c:=((k+1:Nat):Int))) (Lq (Jd rfl) (Je (J8 (Kq ?_))))))
      refine ⟨(k+1,run++ps[k].rs,v35,p35),?_,(.cons rfl (.cons rfl (.cons rfl (.cons rfl (.cons rfl (.nil _)))))),(Sk (Sk (Sr))),Tt4⟩
      refine ⟨by show ps.length-(k+1)<ps.length-k;omega,hJn,?_⟩
      rw [List.length_append,KT,←hcs];exact hr35
     ·refine Ki (JK (JK (Ka (Jf (Jc ?_)))))
      try simp only [Bp,Bq] at *
      have hik:i<k:=by
       rcases Nat.lt_or_ge i k with h | h
       ·exact h
       ·exfalso
        have e:k=i:=by have:=hJ.ik;omega
        first | (exact hkL (by omega)) | (subst e;exact h28 rfl)
      have hJl:=hJ.len
      have hIl:=hI.len
      refine Kb (A:=RepsF runeD run (run.map fun x=> [Value.int .i32 x])) (fun Z w _=>ints_reps _ _ Z w) (KI (e:=runeD) (xs:=run) (css:=run.map fun x=> [Value.int .i32 x]) (by rw [ints_flat];exact hR) (.z) rfl Mm0 fun A9 c9 e9=> ?_)
      cases e9
      refine Ja (Lq (Jb rfl) (Lq (Jb rfl) (Lq (Jb rfl) (Lq (Jb rfl) (Lq (J1 Un213 JY rfl rfl (by omega) (by omega)) (Lq (Jh (o':=_+1) Un145 rfl ti3 rfl rfl) (Lq (J6 (j:=1) Un3 rfl rfl Mm5 rfl rfl) (Jg rfl (Jn (Eb A9 c9 run ps[i].hid (by omega) (hok _ (List.getElem_mem hiL)).2) (.cons rfl (.cons rfl (.nil))) (by decide) (Jl Mm0 Jx) fun u9_7 Lo fs hres=> ?_)))))))))
      obtain ⟨A0,c0,qs,rfl,rfl,rfl,hqok,hqs⟩:=hres
      have hql:=hqok.len
      rw [hqs,Jr] at hql
      refine Jg rfl (YJ (e:=pcD) (ys:=qs) Un213 JY rfl (by decide) rfl rfl hI.row Mm0 (by omega) (by unfold maxLen;omega) (by decide) (List.Perm.refl _) fun v46 p46 cs46 hr46=>Lq (Jd rfl) (Je (Jf (Gg Mm9 Mm0 (Ja (Lq (Jb rfl) (Lq (Jd rfl) (Je (J8 (Kq ?_))))))))))
      refine ⟨(k,os++qs,v46,p46,css++cs46),?_,(.cons rfl (.cons rfl (.cons rfl (.nil _)))),(Sk (Sr)),(Jl Mm0 Tt11)⟩
      refine ⟨by show ps.length-k<ps.length-i;omega,hJ.le,by rw [List.length_append,List.flatten_append];exact hr46,PcOk.append.2 ⟨hI.ok,hqok⟩,?_⟩
      rw [KG,hqs,hI.eq,hJ.done]
    ·refine JG _ _ [] (.c 0 0 (.c 1 0 (.c 2 0 (.c 3 0 (.c 4 0 (.c 5 0 (.c 6 0 (.c 7 0 (.c 8 0 (.c 9 0 (.c 10 0 (.c 11 0 (.c 12 0 (.c 13 0 (.c 14 0 (.c 15 0 (.c 16 0 .nil))))))))))))))))) mixed (fun _ _ _ _ h=>h) (Sk (Sk (Sr))) (fun _ h=>h) (by kernel_rfl) (by decide) fun ws Z0=>Qe rfl (Jb rfl) (Qe rfl (Jb rfl) (Qe rfl (J2 Un213 rfl) (Qe rfl (Km rfl rfl) (Qe rfl (Jb rfl) (KU rfl rfl rfl rfl (by simpa using hkL) (by decide) (KU rfl rfl rfl rfl (by simpa using hkL) (by decide) (KU rfl rfl rfl rfl (by simpa using hkL) (by decide) (KU rfl rfl rfl rfl (by simpa using hkL) (by decide) ?_))))))))
     refine KU rfl rfl rfl rfl (by simpa using hkL) (by decide) (KU rfl rfl rfl rfl (by simpa using hkL) (by decide) (KU rfl rfl rfl rfl (by simpa using hkL) (by decide) (KU rfl rfl rfl rfl (by simpa using hkL) (by decide) (KU rfl rfl rfl rfl (by simpa using hkL) (by decide) (KU rfl rfl rfl rfl (by simpa using hkL) (by decide) (KU rfl rfl rfl rfl (by simpa using hkL) (by decide) (Qe rfl (JL rfl (by simpa using hkL) rfl) (JN (JM (Jf (Ju rfl rfl (Ki (JK (JK (Ka (Jf (Jc ?_)))))))))))))))))
     try simp only [Bp,Bq] at *
     have hik:i<k:=by
      rcases Nat.lt_or_ge i k with h | h
      ·exact h
      ·exfalso
       have e:k=i:=by have:=hJ.ik;omega
       first | (exact hkL (by omega)) | (subst e;exact h28 rfl)
     have hJl:=hJ.len
     have hIl:=hI.len
     refine Kb (A:=RepsF runeD run (run.map fun x=> [Value.int .i32 x])) (fun Z w _=>ints_reps _ _ Z w) (KI (e:=runeD) (xs:=run) (css:=run.map fun x=> [Value.int .i32 x]) (by rw [ints_flat];exact hR) (.z) rfl Mm0 fun A9 c9 e9=> ?_)
     cases e9
     refine Ja (Lq (Jb rfl) (Lq (Jb rfl) (Lq (Jb rfl) (Lq (Jb rfl) (Lq (J1 Un213 JY rfl rfl (by omega) (by omega)) (Lq (Jh (o':=_+1) Un145 rfl ti3 rfl rfl) (Lq (J6 (j:=1) Un3 rfl rfl Mm3 rfl rfl) (Jg rfl (Jn (Eb A9 c9 run ps[i].hid (by omega) (hok _ (List.getElem_mem hiL)).2) (.cons rfl (.cons rfl (.nil))) (by decide) (Jl Mm0 Jx) fun u9_7 Lo fs hres=> ?_)))))))))
     obtain ⟨A0,c0,qs,rfl,rfl,rfl,hqok,hqs⟩:=hres
     have hql:=hqok.len
     rw [hqs,Jr] at hql
     refine Jg rfl (YJ (e:=pcD) (ys:=qs) Un213 JY rfl (by decide) rfl rfl hI.row Mm0 (by omega) (by unfold maxLen;omega) (by decide) (List.Perm.refl _) fun v46 p46 cs46 hr46=>Lq (Jd rfl) (Je (Jf (Gg Mm7 Mm0 (Ja (Lq (Jb rfl) (Lq (Jd rfl) (Je (J8 (Kq ?_))))))))))
     refine ⟨(k,os++qs,v46,p46,css++cs46),?_,(.cons rfl (.cons rfl (.cons rfl (.nil _)))),(Sk (Sr)),(Jl Mm0 Tt9)⟩
     refine ⟨by show ps.length-k<ps.length-i;omega,hJ.le,by rw [List.length_append,List.flatten_append];exact hr46,PcOk.append.2 ⟨hI.ok,hqok⟩,?_⟩
     rw [KG,hqs,hI.eq,hJ.done]
  ·refine Ki (JK (JK (Ka (Jf (Jc ?_)))))
   try simp only [Bp,Bq] at *
   have hfin:i=ps.length:=by have:=hI.le;omega
   refine KI (e:=pcD) (xs:=os) (css:=css) hI.row (.z) rfl Mm0 fun A8 c8 e8=> ?_
   cases e8
   refine Ja (Lq (Jb rfl) (Lq (Jd rfl) (Je (Jf (Jo ?_)))))
   refine ⟨_,[],[_],fun Z w hs=> .tmp rfl (.nil),?_,fun Z w hs=>hs.out (Sr) (Jl Mm0 Tt2)⟩
   exact ⟨_,_,_,rfl,rfl,rfl,hI.ok,by rw [hI.eq,hfin,List.take_length]⟩
theorem PcOk.take {ps:List Pc} (h:PcOk ps) (k:Nat):PcOk (ps.take k):=fun p hp=>h p (List.mem_of_mem_take hp)
theorem PcOk.drop {ps:List Pc} (h:PcOk ps) (k:Nat):PcOk (ps.drop k):=fun p hp=>h p (List.mem_of_mem_drop hp)
theorem HU {ps:List Pc} {k:Nat} (hk:k<ps.length):pcsRow ps=pcsRow (ps.take k)++(cellsOf ps[k].rs ps[k].hid++pcsRow (ps.drop (k+1))):=by
 conv=>lhs;rw [←List.take_append_drop k ps,List.drop_eq_getElem_cons hk]
 rw [KG,Vk]
set_option maxRecDepth 10000 in
theorem build_n (N:Nat): ∀(A:Option Addr) (c:Nat) (ps:List Pc) (hok:PcOk ps) (hb:(pcsRow ps).length≤1073741824),ps.length≤N→Sp Tryz.prog 138 [.slice A ps.length c] [] [RdF pcD A c ps] (NP (pcsRow ps)):=by
 induction N using Nat.strongRecOn
 rename_i N ih
 intro A c ps hok hb hN
 have hpl:=hok.len
 obtain ⟨k0,hk0⟩: ∃k0:Nat,k0=ps.length / 2:=⟨_,rfl⟩
 refine Sp.of (n:=24) ⟨_,Tryz.func138,rfl,rfl,rfl,rfl⟩ (Nat.le_of_ble_eq_true rfl) fun Ps As=>Jc (Ja (Lq (Jd rfl) (Je (Jf (Jc (Jc (Ja (Lq (Jb rfl) (Lq (J2 Un213 rfl) (Lq (Kh rfl rfl) (Je (Jf (Jy rfl (fun h6=> ?_) (fun h6=> ?_))))))))))))))
 ·refine Jc (Kb (A:=TrF none .nil) (fun _ _ _=>rfl) (Ja (Lq (Jd rfl) (Je (Jf (Jo (Js ?_)))))))
  refine ⟨_,[],[_],fun Z w hs=> .tmp rfl (.nil),?_,fun Z w hs=>hs.out (Sr) (fun _ h=>h)⟩
  try simp only [Bp,Bq] at *
  have hz:ps= [] :=List.length_eq_zero_iff.1 (by omega)
  exact ⟨_,_,rfl,rfl,rfl,wnilT,by rw [hz];rfl⟩
 ·refine Jp (Jf (Jc (Ja (Lq (Jb rfl) (Lq (J2 Un213 rfl) (Lq (Hm rfl rfl (by decide) (by rw [hk0];exact tdiv_nat ps.length 2 (by omega)) (c:=(k0:Int))) (Lq (Jd rfl) (Je (Jf (Jc ?_))))))))))
  try simp only [Bp,Bq] at *
  have hkl:k0<ps.length:=by omega
  have r0:=HU hkl
  have e0:=congrArg List.length r0
  simp only [List.length_append,Jr] at e0
  have ht1:(ps.take k0).length=k0:=by rw [List.length_take];omega
  have hd1:(ps.drop (k0+1)).length=ps.length-(k0+1):=by rw [List.length_drop]
  refine Gi Mm0 fun hcap=>Kc (k:=k0) Mm0 (List.getElem?_eq_getElem hkl) (pc_open _) fun bk qk yk ek=> ?_
  cases ek
  refine VW k0 Mm2 (by omega) (VV (k0+1) Mm3 (by omega) (JG _ _ [] (.c 0 0 (.c 1 0 (.c 2 0 (.c 4 0 (.c 5 0 (.c 6 0 (.c 7 0 (.c 8 0 (.c 9 0 (.c 10 0 (.c 11 0 (.c 3 2 (.c 12 2 (.c 13 2 (.c 14 0 .nil))))))))))))))) mixed (fun _ _ _ _ h=>h) (Sr) (fun _ h=>h) (by kernel_rfl) (by decide) fun ws Z0=>Qe rfl (Jb rfl) (Qe rfl (Jb rfl) (Qe rfl (Vi (m:=(ps.take k0).length) (by omega) Un213 JY rfl rfl (by omega) (by omega)) (Qe rfl (Jb rfl) (Qe rfl (Jb rfl) (Qe rfl (J1 Un213 JY rfl rfl (by omega) (by omega)) (Qe rfl (Kn (k:=0) (vs:= [_,_]) Un145 rfl JY rfl Mm2 rfl rfl rfl) ?_))))))))
  refine Qe rfl (Jb rfl) (Qe rfl (Jb rfl) (Qe rfl (JU rfl rfl (wr64 (by omega)) (c:=((k0+1:Nat):Int))) (Qe rfl (Vh (j:=k0+1) (m:=(ps.drop (k0+1)).length) (by omega) (by omega) Un213 JY rfl rfl (by omega) (by omega)) (Jz rfl rfl (Jn (ih (ps.take k0).length (by omega) (cutA (some ⟨bk,qk,none⟩) 0 c 2) c (ps.take k0) (hok.take k0) (by omega) (Nat.le_refl _)) (.cons rfl (.nil)) (by decide) (Jl Mm2 Jx) fun u4_3 Lo fs hres=> ?_)))))
  obtain ⟨T1,t1,rfl,rfl,rfl,wt1,r1⟩:=hres
  have e1:=congrArg List.length r1
  refine ⟨⟨(Sr),Mm1⟩,?_⟩
  refine Jz rfl rfl (Jn (ih (ps.drop (k0+1)).length (by omega) (cutA (some ⟨bk,qk,none⟩) (k0+1) c 2) (c-(k0+1)) (ps.drop (k0+1)) (hok.drop (k0+1)) (by omega) (Nat.le_refl _)) (.cons rfl (.nil)) (by decide) (Jl Mm2 Jx) fun u4_12 Lo fs hres=> ?_)
  obtain ⟨T2,t2,rfl,rfl,rfl,wt2,r2⟩:=hres
  have e2:=congrArg List.length r2
  refine ⟨⟨(Sr),Mm2⟩,?_⟩
  refine Jz rfl rfl (Jn (knot_r T1 T2 yk.1 yk.2 t1 t2 (ps[k0]).rs (ps[k0]).hid wt1 wt2 (hok _ (List.getElem_mem hkl)).1 (hok _ (List.getElem_mem hkl)).2 (by omega)) (.cons rfl (.cons rfl (.cons rfl (.nil)))) (by decide) (Jl Mm1 (Jl Mm0 (Jl Mm6 Jx))) fun u4_13 Lo fs hres=> ?_)
  obtain ⟨T3,t3,rfl,rfl,rfl,wt3,r3⟩:=hres
  have e3:=congrArg List.length r3
  simp only [List.length_append,Jr,Tr.row,List.length_nil,List.length_take,List.length_drop] at e3
  refine ⟨⟨(Sr),Mm3⟩,?_⟩
  refine Qe rfl (Jd rfl) (JN (JM (Jf (JF [(2,_)] (.cons rfl (.nil _)) (Jo ?_)))))
  refine ⟨_,[],[_],fun Z w hs=> .tmp rfl (.nil),?_,fun Z w hs=>hs.out (Sr) (Jl Mm0 Tt8)⟩
  exact ⟨_,_,rfl,rfl,rfl,wt3,by rw [r0];simp only [r1,r2,r3,List.append_assoc]⟩
theorem build_r (A:Option Addr) (c:Nat) (ps:List Pc) (hok:PcOk ps) (hb:(pcsRow ps).length≤1073741824):Sp Tryz.prog 138 [.slice A ps.length c] [] [RdF pcD A c ps] (NP (pcsRow ps)):=build_n _ A c ps hok hb (Nat.le_refl _)
theorem Row.single {T:TypeId} {sz b:Nat} {cs:List Value} (hl:cs.length=sz):Row T sz (.slice (some ⟨b,0,none⟩) 1 1) 1 cs [(b,JB cs T)] :=
 ⟨by rw [hl,Nat.one_mul], .inr ⟨b,1,[],rfl,by simp,by simp [hl],Nat.le_refl _,by simp [maxLen]⟩⟩
structure MeL (X:List Ce) (j:Nat) (t:Tr) (S:List Pc) (v:Value) (p:Part) (css:List (List Value)):Prop where
 le:j≤2
 wf:Wf t
 ok:PcOk S
 eq:t.row++pcsRow S=X
 row:Row 145 2 v S.length css.flatten p
structure MeR (X:List Ce) (l:Tr) (j:Nat) (t:Tr) (S:List Pc) (v:Value) (p:Part) (css:List (List Value)):Prop where
 le:j≤2
 wf:Wf t
 ok:PcOk S
 eq:l.row++(pcsRow S++t.row)=X
 row:Row 145 2 v S.length css.flatten p
structure MeJ (X:List Ce) (qs:List Pc) (i:Nat) (t:Tr):Prop where
 le:i≤qs.length
 wf:Wf t
 eq:t.row=X++pcsRow (qs.take i)
set_option maxRecDepth 10000 in
theorem mend_r (Al Ar:Option Addr) (l r:Tr) (wl:Wf l) (wr:Wf r) (hb:l.row.length+r.row.length≤1073741824):Sp Tryz.prog 137 [.pointer Al, .pointer Ar] [] [TrF Al l,TrF Ar r] (NP (l.row++r.row)):=by
 refine Sp.of (n:=67) ⟨_,Tryz.func137,rfl,rfl,rfl,rfl⟩ (Nat.le_of_ble_eq_true rfl) fun Ps As=>Kb (A:=TrF none .nil) (fun _ _ _=>rfl) (Jc (Ja (Lq (Jd rfl) (Je (Jf (Jc (Ja (Lq (Jd rfl) (Je (Jf (Jc (Jc (Ja (Lq (Jb rfl) (Je (Jf (JE (Ks ?_))))))))))))))))))
 refine Kb (A:=RepsF pcD [] []) (fun Z w _=> .nil) ?_
 refine Kf (α:=Nat×Option Addr×Tr×Value×Part×List Pc×List (List Value)) (fun (j,A,t,v,p,S,css)=>2-j)
  (fun (j,A,t,v,p,S,css)=> [(0, .pointer A),(1, .pointer Ar),(5,v),(14, .int .i64 j)])
  (fun (j,A,t,v,p,S,css)=>(p::Ps))
  (fun (j,A,t,v,p,S,css)=>(TrF A t::RepsF pcD S css::TrF none .nil::TrF Al l::TrF Ar r::As))
  (fun (j,A,t,v,p,S,css)=>MeL l.row j t S v p css)
  (0,Al,l, .slice none 0 0,[],[],[]) ?_ (.cons rfl (.cons rfl (.cons rfl (.cons rfl (.nil _))))) (Sk (Sr)) (Jl Mm2 (fun _ h=>h)) ?_
 ·exact ⟨Nat.zero_le _,wl,(fun p hp=>by cases hp),by simp [pcsRow],Row.nil _ _⟩
 ·rintro ⟨j,AL,tL,v,pa,S,css⟩ hI
  have wtL:=hI.wf
  have eI:=congrArg List.length hI.eq
  simp only [List.length_append] at eI
  have okl:=hI.ok.len
  refine Jc (Ja (Lq (Km rfl rfl) (Je (Jf (Jc (Jy rfl (fun h15=> ?_) (fun h15=> ?_)))))))
  ·have hj2:j<2:=by simp only [decide_eq_true_eq] at h15;omega
   refine Jp (Jf (Jc (JE (Jc ?_))))
   by_cases hztL:tL= .nil
   ·rw [hztL]
    refine Vz Mm0 fun e=> ?_
    subst e
    refine Ja (Lq (Jb rfl) (Lq (Vf Un141 rfl rfl (by simp)) (Je (Jf (Ju rfl rfl (Jp (J8 (Jf (Ja (Lq (JU rfl rfl (wr64 (by omega)) (c:=((j+1:Nat):Int))) (Lq (Jb rfl) (Je (Kq ?_)))))))))))))
    refine ⟨(j+1,none, .nil,v,pa,S,css),?_,(.cons rfl (.cons rfl (.cons rfl (.cons rfl (.nil _))))),(Sk (Sr)),(fun _ h=>h)⟩
    exact ⟨by show 2-(j+1)<2-j;omega,by omega,wnilT,hI.ok,by rw [←hztL];exact hI.eq,hI.row⟩
   ·refine QY Mm0 hztL fun _ e=> ?_
    subst e
    refine Ja (Lq (Jb rfl) (Lq (Vf Un141 rfl rfl (by simp)) (Je (Jf (J3 rfl rfl (Jc (Ja (Lq (Jb rfl) (Jg rfl (Jn (popLast_r _ tL wtL hztL (by omega)) (.cons rfl (.nil)) (by decide) (Jl Mm0 Jx) fun u5_1 Lo fs hres=> ?_))))))))))
    obtain ⟨A1,t1,s1,k1,C1,d1,rfl,rfl,rfl,wt1,n1,h1,r1⟩:=hres
    have e1:=congrArg List.length r1
    simp only [List.length_append,Jr] at e1
    have g1:=List.length_pos_iff.2 n1
    refine Lq (Jb rfl) (Lq (Jk (vs:= [_,_]) rfl rfl) (Lq (Jk (vs:= [_,_]) rfl rfl) (Jg rfl (Jv (cs:= [_,_]) JY rfl (by decide) fun b7=>Lq (Jd rfl) (Jg rfl (Jq (cs':= [_,_]) (vs:= [_,_]) JY rfl rfl rfl rfl rfl (Nat.le_of_ble_eq_true rfl) (.z) (Je (Jf (KI (e:=pcD) (xs:=S) (css:=css) hI.row (.s (.z)) rfl Mm3 fun A6 c6 e6=> ?_)))))))))
    cases e6
    refine Ja (Lq (Jb rfl) (Lq (Jt (vs:= [_,_]) Un145 rfl JY rfl Jm rfl rfl) (Jg rfl (KD (cs:= [_,_]) Un213 JY (by decide) (by decide) rfl rfl rfl rfl (by decide) fun b25=>Lq (Jb rfl) (Jg rfl (YJ (e:=pcD) (ys:=S) Un213 JY rfl (by decide) rfl rfl (Row.single rfl) Mm0 (by omega) (by unfold maxLen;omega) (by decide) (List.Perm.refl _) fun v27 p27 cs27 hr27=>Lq (Jd rfl) (Lq (Jd rfl) (Je (J8 (Jf (Kb (A:=RepsF pcD (⟨s1,k1⟩::S) (pcC s1 k1 C1 d1::cs27)) (fun Z w hs=> .cons ⟨_,_,rfl,hs.facts _ Mm3⟩ (hs.facts _ Mm0)) ?_)))))))))))
    refine Ja (Lq (JU rfl rfl (wr64 (by omega)) (c:=((j+1:Nat):Int))) (Lq (Jb rfl) (Je (Kq ?_))))
    refine ⟨(j+1,A1,t1,v27,p27,⟨s1,k1⟩::S,pcC s1 k1 C1 d1::cs27),?_,(.cons rfl (.cons rfl (.cons rfl (.cons rfl (.nil _))))),(Sk (Sd (Sr))),(Jl Mm3 (Jl Mm0 Tt7))⟩
    refine ⟨by show 2-(j+1)<2-j;omega,by omega,wt1,fun p hp=> ?_,by rw [Vk,←List.append_assoc,←r1];exact hI.eq,?_⟩
    ·rcases List.mem_cons.1 hp with rfl | hp
     ·exact ⟨n1,h1⟩
     ·exact hI.ok p hp
    ·rw [List.length_cons,Nat.add_comm,List.flatten_cons];exact hr27
  ·refine Ki (JK (JK (Ka (Jf (Jc (Jc (Ja (Lq (Jb rfl) (Je (Jf (JE ?_)))))))))))
   have hL:=hI
   clear hI
   have wtL:=hL.wf
   refine Kf (α:=Nat×Option Addr×Tr×Value×Part×List Pc×List (List Value)) (fun (j,A,t,v,p,S,css)=>2-j)
    (fun (j,A,t,v,p,S,css)=> [(1, .pointer A),(0, .pointer AL),(5,v),(29, .int .i64 j)])
    (fun (j,A,t,v,p,S,css)=>(p::Ps))
    (fun (j,A,t,v,p,S,css)=>(TrF A t::RepsF pcD S css::TrF AL tL::TrF none .nil::TrF Al l::TrF Ar r::As))
    (fun (j,A,t,v,p,S,css)=>MeR (l.row++r.row) tL j t S v p css)
    (0,Ar,r,v,pa,S,css) ?_ (.cons rfl (.cons rfl (.cons rfl (.cons rfl (.nil _))))) (Sk (Sr)) (Jl Mm4 (Jl Mm1 (Jl Mm0 Tt2))) ?_
   ·exact ⟨Nat.zero_le _,wr,hL.ok,by rw [←List.append_assoc,hL.eq],hL.row⟩
   ·rintro ⟨j,AR,tR,v,pa,S,css⟩ hI
    have wtR:=hI.wf
    have eI:=congrArg List.length hI.eq
    simp only [List.length_append] at eI
    have okl:=hI.ok.len
    refine Jc (Ja (Lq (Km rfl rfl) (Je (Jf (Jc (Jy rfl (fun h30=> ?_) (fun h30=> ?_)))))))
    ·have hj2:j<2:=by simp only [decide_eq_true_eq] at h30;omega
     refine Jp (Jf (Jc (JE (Jc ?_))))
     by_cases hztR:tR= .nil
     ·rw [hztR]
      refine Vz Mm0 fun e=> ?_
      subst e
      refine Ja (Lq (Jb rfl) (Lq (Vf Un141 rfl rfl (by simp)) (Je (Jf (Ju rfl rfl (Jp (J8 (Jf (Ja (Lq (JU rfl rfl (wr64 (by omega)) (c:=((j+1:Nat):Int))) (Lq (Jb rfl) (Je (Kq ?_)))))))))))))
      refine ⟨(j+1,none, .nil,v,pa,S,css),?_,(.cons rfl (.cons rfl (.cons rfl (.cons rfl (.nil _))))),(Sk (Sr)),(fun _ h=>h)⟩
      exact ⟨by show 2-(j+1)<2-j;omega,by omega,wnilT,hI.ok,by rw [←hztR];exact hI.eq,hI.row⟩
     ·refine QY Mm0 hztR fun _ e=> ?_
      subst e
      refine Ja (Lq (Jb rfl) (Lq (Vf Un141 rfl rfl (by simp)) (Je (Jf (J3 rfl rfl (Jc (Ja (Lq (Jb rfl) (Jg rfl (Jn (popFirst_r _ tR wtR hztR (by omega)) (.cons rfl (.nil)) (by decide) (Jl Mm0 Jx) fun u11_1 Lo fs hres=> ?_))))))))))
      obtain ⟨A2,t2,s2,k2,C2,d2,rfl,rfl,rfl,wt2,n2,h2,r2⟩:=hres
      have e2:=congrArg List.length r2
      simp only [List.length_append,Jr] at e2
      have g2:=List.length_pos_iff.2 n2
      refine Lq (Jb rfl) (Lq (Jk (vs:= [_,_]) rfl rfl) (Lq (Jk (vs:= [_,_]) rfl rfl) (Jg rfl (Jv (cs:= [_,_]) JY rfl (by decide) fun b8=>Jg rfl (Jq (cs':= [_,_]) (vs:= [_,_]) JY rfl rfl rfl rfl rfl (Nat.le_of_ble_eq_true rfl) (.z) (Lq (Jd rfl) (Je (Jf (Ja (Lq (Jb rfl) (Lq (Jb rfl) (Lq (Jt (vs:= [_,_]) Un145 rfl JY rfl Jm rfl rfl) ?_))))))))))))
      refine Jg rfl (KD (cs:= [_,_]) Un213 JY (by decide) (by decide) rfl rfl rfl rfl (by decide) fun b41=>Jg rfl (KH (news:= [_,_]) Un213 JY rfl (by decide) rfl rfl hI.row Jm rfl rfl (by omega) (by unfold maxLen;omega) (by decide) (DelAt.perm (.s (.s (.z)))) fun v42 p42 hr42=>Lq (Jd rfl) (Lq (Jd rfl) (Je (J8 (Jf (Q0 (u:=(⟨s2,k2⟩:Pc)) (cs:=pcC s2 k2 C2 d2) Mm3 (fun Z w hs=>⟨_,_,rfl,hs.facts _ Mm1⟩) rfl (Ja (Lq (JU rfl rfl (wr64 (by omega)) (c:=((j+1:Nat):Int))) (Lq (Jb rfl) (Je (Kq ?_))))))))))))
      refine ⟨(j+1,A2,t2,v42,p42,S++ [⟨s2,k2⟩],css++ [pcC s2 k2 C2 d2]),?_,(.cons rfl (.cons rfl (.cons rfl (.cons rfl (.nil _))))),(Sk (Sd (Sd (Sr)))),(Jl Mm1 (Jl Mm0 Tt5))⟩
      refine ⟨by show 2-(j+1)<2-j;omega,by omega,wt2,PcOk.append.2 ⟨hI.ok,PcOk.one n2 h2⟩,?_,?_⟩
      ·rw [KG,Qm,List.append_assoc,←r2];exact hI.eq
      ·rw [List.length_append,List.flatten_append];exact hr42
    ·refine Ki (JK (JK (Ka (Jf (Jc (Jc (KI (e:=pcD) (xs:=S) (css:=css) hI.row (.z) rfl Mm1 fun A14 c14 e14=> ?_)))))))
     cases e14
     refine Ja (Lq (Jb rfl) (Jg rfl (Jn (ZF A14 c14 S hI.ok (by omega)) (.cons rfl (.nil)) (by decide) (Jl Mm0 Jx) fun u14_1 Lo fs hres=> ?_)))
     obtain ⟨Aq,cq,qs,rfl,rfl,rfl,hqok,hqs⟩:=hres
     have eq0:=congrArg List.length hqs
     have hql:=hqok.len
     refine Lq (J2 Un213 rfl) (Lq (Jb rfl) (Je (Jf (JE ?_))))
     refine Kf (α:=Nat×Option Addr×Tr) (fun (i,A,t)=>qs.length-i)
      (fun (i,A,t)=> [(0, .pointer A),(1, .pointer AR),(45, .slice Aq qs.length cq),(46, .int .i64 qs.length),(47, .int .i64 i)])
      (fun (i,A,t)=>Ps)
      (fun (i,A,t)=>(TrF A t::RdF pcD Aq cq qs::TrF AR tR::TrF none .nil::TrF Al l::TrF Ar r::As))
      (fun (i,A,t)=>MeJ tL.row qs i t)
      (0,AL,tL) ?_ (.cons rfl (.cons rfl (.cons rfl (.cons rfl (.cons rfl (.nil _)))))) (Sr) (Jl Mm4 (Jl Mm0 (Jl Mm2 Tt5))) ?_
     ·exact ⟨Nat.zero_le _,wtL,by simp [pcsRow]⟩
     ·rintro ⟨i,AJ,tJ⟩ hJ
      have wtJ:=hJ.wf
      refine Jc (Ja (Lq (Km rfl rfl) (Je (Jf (Jc (Jy rfl (fun h48=> ?_) (fun h48=> ?_)))))))
      ·refine Jp (Jf (Jc (JE (Jc ?_))))
       try simp only [Bp,Bq] at *
       have hiq:i<qs.length:=by omega
       have hsub:=QS qs 0 i
       have hsub2:=QS qs 0 (i+1)
       rw [List.drop_zero] at hsub hsub2
       have ht1:qs.take (i+1)=qs.take i++ [qs[i]] :=by rw [List.take_succ_eq_append_getElem hiq]
       rw [ht1,KG,Qm,List.length_append,Jr] at hsub2
       have eJ:=congrArg List.length hJ.eq
       rw [List.length_append] at eJ
       refine Kc (k:=i) Mm1 (List.getElem?_eq_getElem hiq) (pc_open _) fun bk qk yk ek=> ?_
       cases ek
       refine Ja (Lq (J1 Un213 JY rfl rfl (by omega) (by omega)) (Lq (Kn (k:=0) (vs:= [_,_]) Un145 rfl JY rfl Mm0 rfl rfl rfl) (Jg rfl (Jv (cs:= [_,_]) JY rfl (by decide) fun b11=>Jg rfl (Jq (cs':= [_,_]) (vs:= [_,_]) JY rfl rfl rfl rfl rfl (Nat.le_of_ble_eq_true rfl) (.z) (Je (Jf (Ja (Lq (Jb rfl) (Lq (Jt (vs:= [_,_]) Un145 rfl JY rfl Jm rfl rfl) ?_))))))))))
       refine Jg rfl (Jn (join_r AJ none yk.1 yk.2 tJ Tr.nil (qs[i]).rs (qs[i]).hid wtJ wnilT (hqok _ (List.getElem_mem hiq)).1 (hqok _ (List.getElem_mem hiq)).2 (by simp only [Tr.row,List.length_nil];omega)) (.cons rfl (.cons rfl (.cons rfl (.nil)))) (by decide) (Jl Mm2 (Jl Mm5 (Jl Mm1 Jx))) fun u17_2 Lo fs hres=> ?_)
       obtain ⟨T3,t3,rfl,rfl,rfl,wt3,r3⟩:=hres
       have e3:=congrArg List.length r3
       simp only [List.length_append,Jr,Tr.row,List.length_nil,List.length_take,List.length_drop] at e3
       refine Lq (Jd rfl) (Je (J8 (Jf (Ja (Lq (JU rfl rfl (wr64 (by omega)) (c:=((i+1:Nat):Int))) (Lq (Jb rfl) (Je (Kq ?_))))))))
       refine ⟨(i+1,T3,t3),?_,(.cons rfl (.cons rfl (.cons rfl (.cons rfl (.cons rfl (.nil _)))))),(Sd (Sr)),(Jl Mm0 Tt4)⟩
       exact ⟨by show qs.length-(i+1)<qs.length-i;omega,hiq,wt3,by rw [r3,hJ.eq,ht1,KG,Qm];simp [Tr.row]⟩
      ·refine Ki (JK (JK (Ka (Jf (Jc (Jc ?_))))))
       try simp only [Bp,Bq] at *
       have hfin:i=qs.length:=by have:=hJ.le;omega
       have rJ:tJ.row++tR.row=l.row++r.row:=by rw [hJ.eq,hfin,List.take_length,hqs,List.append_assoc];exact hI.eq
       have eJ:=congrArg List.length rJ
       simp only [List.length_append] at eJ
       by_cases hztR:tR= .nil
       ·rw [hztR]
        refine Vz Mm2 fun e=> ?_
        subst e
        refine Ja (Lq (Jb rfl) (Lq (KK Un141 rfl rfl (by simp)) (Je (Jf (J3 rfl rfl (Jc (Ja (Lq (Jb rfl) (Lq (Jd rfl) (Je (Jf (Jo (Js ?_)))))))))))))
        refine ⟨_,[],[_],fun Z w hs=> .tmp rfl (.nil),?_,fun Z w hs=>hs.out (Sr) (Jl Mm0 Tt4)⟩
        exact ⟨_,_,rfl,rfl,rfl,wtJ,by rw [←rJ,hztR];simp [Tr.row]⟩
       ·refine QY Mm2 hztR fun _ e=> ?_
        subst e
        refine Ja (Lq (Jb rfl) (Lq (KK Un141 rfl rfl (by simp)) (Je (Jf (Ju rfl rfl (Jp (Jf (Jc (Ja (Lq (Jb rfl) (Jg rfl (Jn (popFirst_r _ tR wtR hztR (by omega)) (.cons rfl (.nil)) (by decide) (Jl Mm2 Jx) fun u21_1 Lo fs hres=> ?_))))))))))))
        obtain ⟨A4,t4,s4,k4,C4,d4,rfl,rfl,rfl,wt4,n4,h4,r4⟩:=hres
        have e4:=congrArg List.length r4
        simp only [List.length_append,Jr] at e4
        have g4:=List.length_pos_iff.2 n4
        refine Lq (Jb rfl) (Lq (Jk (vs:= [_,_]) rfl rfl) (Lq (Jk (vs:= [_,_]) rfl rfl) (Jg rfl (Jv (cs:= [_,_]) JY rfl (by decide) fun b12=>Jg rfl (Jq (cs':= [_,_]) (vs:= [_,_]) JY rfl rfl rfl rfl rfl (Nat.le_of_ble_eq_true rfl) (.z) (Lq (Jd rfl) (Je (Jf (Jc (Ja (Lq (Jb rfl) (Lq (Jt (vs:= [_,_]) Un145 rfl JY rfl Jm rfl rfl) (Lq (Jb rfl) ?_)))))))))))))
        refine Jg rfl (Jn (join_r AJ A4 C4 d4 tJ t4 s4 k4 wtJ wt4 n4 h4 (by omega)) (.cons rfl (.cons rfl (.cons rfl (.nil)))) (by decide) (Jl Mm2 (Jl Mm0 (Jl Mm1 Jx))) fun u22_3 Lo fs hres=> ?_)
        obtain ⟨T5,t5,rfl,rfl,rfl,wt5,r5⟩:=hres
        have e5:=congrArg List.length r5
        simp only [List.length_append,Jr,Tr.row,List.length_nil,List.length_take,List.length_drop] at e5
        refine Lq (Jd rfl) (Je (Jf (Jo ?_)))
        refine ⟨_,[],[_],fun Z w hs=> .tmp rfl (.nil),?_,fun Z w hs=>hs.out (Sd (Sr)) (Jl Mm0 Tt7)⟩
        exact ⟨_,_,rfl,rfl,rfl,wt5,by rw [r5,←rJ,r4]⟩
theorem bd115Xw32 (w:World):(Instr.build 143 #[]).run Tryz.prog w= .ok (.agg #[.pointer none]) w:=by kernel_rfl
set_option maxRecDepth 10000 in
theorem Jbc:Sp Tryz.prog 69 [] [] [] (fun v Lo fs=> ∃b:Nat,v= .pointer (some ⟨b,0,none⟩)∧Lo= [rpP b none] ∧fs= []):=by
 refine Sp.of (n:=3) ⟨_,Tryz.func69,rfl,rfl,rfl,rfl⟩ (Nat.le_of_ble_eq_true rfl) fun Ps As=>Jc (Ja (Lq (Jd rfl) (Je (Jf (Jc (Ja (Lq (JZ (.nil) (bd115Xw32)) (Jg rfl (J7 (cs:= [_]) rfl rfl (by decide) fun b2=>Lq (Jd rfl) (Je (Jf (Jo ?_))))))))))))
 refine ⟨_,[_],[],fun Z w hs=> .tmp rfl (.nil),?_,fun Z w hs=>hs.out (Sk (Sr)) (fun _ h=>h)⟩
 exact ⟨_,rfl,rfl,rfl⟩
theorem fd112_0Xw32 (x0:Int) (x1:Int) (x2:Int) (x3:Int) (x4:Int) (x5:Int) (w:World):(Instr.field 149 (.agg #[.int .i64 x0, .int .i64 x1, .int .i64 x2, .int .i64 x3, .int .i64 x4, .int .i64 x5]) 0).run Tryz.prog w= .ok (.int .i64 x0) w:=by kernel_rfl
set_option maxRecDepth 10000 in
theorem Y5 (b:Nat) (A:Option Addr) (t:Tr) (wt:Wf t):Sp Tryz.prog 74 [.pointer (some ⟨b,0,none⟩)] [rpP b A] [TrF A t] (fun v Lo fs=>v= .int .i64 t.row.length∧Lo= [rpP b A] ∧fs= []):=by
 refine Sp.of (n:=9) ⟨_,Tryz.func74,rfl,rfl,rfl,rfl⟩ (Nat.le_of_ble_eq_true rfl) fun Ps As=>Jc (Ja (Lq (Jd rfl) (Je (Jf (Jc (Ja (Lq (Jb rfl) (Lq (JC rfl) (Lq (Jh (o':=0) Un143 rfl YP rfl rfl) (Lq (Jj Un141 rfl rfl Jm rfl) (Jg rfl (Jn (Yw A t) (.cons rfl (.nil)) (by decide) (Jl Mm0 Jx) fun u1_4 Lo fs hres=> ?_))))))))))))
 obtain ⟨rfl,rfl,rfl⟩:=hres
 refine Lq (Yg rfl (fd112_0Xw32 _ _ _ _ _ _)) (Lq (Jd rfl) (Je (Jf (Jo ?_))))
 refine ⟨_,[_],[],fun Z w hs=> .tmp rfl (.nil),?_,fun Z w hs=>hs.out (Sk (Sr)) (fun _ h=>h)⟩
 exact ⟨congrArg (Value.int .i64) wt.tot,rfl,rfl⟩
theorem counter_0 (x:Int) (h:0≤x∧x≤1048576):Sp Tryz.prog 135 [.int .i64 x] [] [] (Is (.int .i64 0)):=by
 have:=HY x
 rwa [if_neg (by omega),if_neg (by omega)] at this
set_option maxRecDepth 10000 in
theorem HS (b:Nat) (A:Option Addr) (t:Tr) (x:Int) (s:ByteArray) (hid:Int) (wt:Wf t) (hx:0≤x∧x≤t.row.length) (hs:s.size≤1073741824) (hu:(utF s).2.2=0) (hne:0<(Ko s).length) (hh:0≤hid∧hid≤1048576) (hb:t.row.length+(Ko s).length≤1048576):Sp Tryz.prog 108 [.pointer (some ⟨b,0,none⟩), .int .i64 x, .string s, .int .i64 hid] [rpP b A] [barF,TrF A t] (RpP b (t.row.take x.toNat ++(cellsOf (Ko s) hid++t.row.drop x.toNat))):=by
 have hru:=YY hu
 refine Sp.of (n:=64) ⟨_,Tryz.func108,rfl,rfl,rfl,rfl⟩ (Nat.le_of_ble_eq_true rfl) fun Ps As=>Jc (Ja (Lq (Jd rfl) (Je (Jf (Jc (Jc (Ja (Lq (Jb rfl) (Lq (Km rfl rfl) (Lq (Jb rfl) (Lg rfl rfl rfl (by simp;omega) (Jb rfl) (Lg rfl rfl rfl (by simp;omega) (Jb rfl) (Kv rfl rfl rfl (by simp;omega) (JO (Y5 b A t wt) (.cons rfl (.nil)) (by decide) (.z) (Jl Mm1 Jx) fun u1_5 Lo fs hres=> ?_))))))))))))))
 obtain ⟨rfl,rfl,rfl⟩:=hres
 refine Lg rfl rfl rfl (by simp;omega) (Kk rfl rfl) (Lq (JL rfl (by simp;omega) rfl) (Je (Jf (Ju rfl (by simp;omega) (Jp (Jf (Jc (Ja (Lq (Jb rfl) (Jg rfl (Jn (Vr s (by omega)) (.cons rfl (.nil)) (by decide) (Jl Mm0 Jx) fun u3_1 Lo fs hres=> ?_)))))))))))
 obtain ⟨rfl,rfl,rfl⟩:=hres
 refine Lq (Jb rfl) (Lq (Jk (vs:= [_,_,_]) rfl rfl) (Lq (Jk (vs:= [_,_,_]) rfl rfl) (Lq (Jk (vs:= [_,_,_]) rfl rfl) (Lq (Jd rfl) (Lq (Jd rfl) (Lq (Jd rfl) (Je (Jf (JF [(11,_),(9,_),(8,_),(0,_),(1,_),(2,_),(3,_)] (.cons rfl (.cons rfl (.cons rfl (.cons rfl (.cons rfl (.cons rfl (.cons rfl (.nil _)))))))) (Jc (Jc (Ja ?_))))))))))))
 refine Lq (Jb rfl) (Lq (Kr rfl rfl) (Je (Jf (Ju rfl (by rw [hu];rfl) (Jp (Jf (Jc (Jc (Ja (Lq (Jb rfl) (Jg rfl (Jn (counter_0 hid hh) (.cons rfl (.nil)) (by decide) Jx fun u6_1 Lo fs hres=> ?_))))))))))))
 obtain ⟨rfl,rfl,rfl⟩:=hres
 refine Lq (Jd rfl) (Je (Jf (Jc (Ja (Lq (Jb rfl) (Lq (Kr rfl rfl) (Je (Jf (Ju rfl rfl (Jp (Jf (Jc (Jc (Ja (Lq (Jb rfl) (Jg rfl (JO (Y5 b A t wt) (.cons rfl (.nil)) (by decide) (.z) (Jl Mm1 Jx) fun u9_1 Lo fs hres=> ?_)))))))))))))))))
 obtain ⟨rfl,rfl,rfl⟩:=hres
 refine Lq (Jb rfl) (Lq (JU rfl rfl (wr64 (by omega))) (Lq (Kk rfl rfl) (Je (Jf (JF [(40,_),(9,_),(8,_),(0,_),(1,_),(2,_),(3,_)] (.cons rfl (.cons rfl (.cons rfl (.cons rfl (.cons rfl (.cons rfl (.cons rfl (.nil _)))))))) (Ju rfl (by simp;omega) (Jp (Jf (Jc (Jc (Ja (Lq (Jb rfl) (Lq (Kh rfl rfl) (Je (Jf ?_)))))))))))))))
 refine Ju rfl (beq_eq_false_iff_ne.2 (by omega)) (Jp (Jf (Jc (Ja (Lq (Jb rfl) (Lq (JC rfl) (Lq (Jh (o':=0) Un143 rfl YP rfl rfl) (Lq (Jj Un141 rfl rfl Jm rfl) (Lq (Jb rfl) (Jg rfl (Jn (split_r A t x wt (by omega) (by omega) (by omega)) (.cons rfl (.cons rfl (.nil))) (by decide) (Jl Mm1 Jx) fun u13_5 Lo fs hres=> ?_)))))))))))
 obtain ⟨A1,t1,E1,q1,rfl,rfl,rfl,wt1,wq1,r1,rq1⟩:=hres
 have e1:=congrArg List.length r1
 have eq1:=congrArg List.length rq1
 simp only [List.length_take,List.length_drop] at e1 eq1
 refine Lq (Jb rfl) (Lq (Jk (vs:= [_,_]) rfl rfl) (Lq (Jk (vs:= [_,_]) rfl rfl) (Lq (Jd rfl) (Lq (Jd rfl) (Je (Jf (JF [(13,_),(12,_),(8,_),(0,_),(2,_),(3,_)] (.cons rfl (.cons rfl (.cons rfl (.cons rfl (.cons rfl (.cons rfl (.nil _))))))) (Jc (Ja (Lq (Jb rfl) (Lq (Jb rfl) ?_)))))))))))
 refine Lq (Jb rfl) (Jg rfl (Jn (HP s hs) (.cons rfl (.nil)) (by decide) Jx fun u14_3 Lo fs hres=> ?_))
 obtain ⟨Ar,cr,rfl,rfl,rfl⟩:=hres
 refine Lq (Jb rfl) (Jg rfl (Jn (Eb Ar cr (Ko s) hid (by omega) hh) (.cons rfl (.cons rfl (.nil))) (by decide) (Jl Mm0 Jx) fun u14_5 Lo fs hres=> ?_))
 obtain ⟨Ap,cp,ps,rfl,rfl,rfl,hpk,hps⟩:=hres
 have eps:=congrArg List.length hps
 rw [Jr] at eps
 refine Jg rfl (Jn (build_r Ap cp ps hpk (by omega)) (.cons rfl (.nil)) (by decide) (Jl Mm0 Jx) fun u14_6 Lo fs hres=> ?_)
 obtain ⟨T2,t2,rfl,rfl,rfl,wt2,r2⟩:=hres
 have e2:=congrArg List.length r2
 refine Jg rfl (Jn (mend_r A1 T2 t1 t2 wt1 wt2 (by omega)) (.cons rfl (.cons rfl (.nil))) (by decide) (Jl Mm3 (Jl Mm0 Jx)) fun u14_7 Lo fs hres=> ?_)
 obtain ⟨T3,t3,rfl,rfl,rfl,wt3,r3⟩:=hres
 have e3:=congrArg List.length r3
 simp only [List.length_append] at e3
 refine Lq (Jb rfl) (Jg rfl (Jn (mend_r T3 E1 t3 q1 wt3 wq1 (by omega)) (.cons rfl (.cons rfl (.nil))) (by decide) (Jl Mm0 (Jl Mm5 Jx)) fun u14_9 Lo fs hres=> ?_))
 obtain ⟨T4,t4,rfl,rfl,rfl,wt4,r4⟩:=hres
 have e4:=congrArg List.length r4
 simp only [List.length_append] at e4
 refine Lq (JC rfl) (Lq (Jh (o':=0) Un143 rfl YP rfl rfl) (Jg rfl (JH YP rfl rfl rfl (.z) (.z) (Je (Jf (JF [(8,_)] (.cons rfl (.nil _)) (Jc (Ja (Lq (Jd rfl) (Je (Jf (Jo ?_))))))))))))
 refine ⟨_,[_],[_],fun Z w hs=> .tmp rfl (.nil),?_,fun Z w hs=>hs.out (Sk (Sr)) (Jl Mm0 Tt7)⟩
 exact ⟨_,_,rfl,rfl,rfl,wt4,by simp only [r1,r2,r3,r4,rq1,hps,List.append_assoc]⟩
theorem fd112_5Xw32 (x0:Int) (x1:Int) (x2:Int) (x3:Int) (x4:Int) (x5:Int) (w:World):(Instr.field 149 (.agg #[.int .i64 x0, .int .i64 x1, .int .i64 x2, .int .i64 x3, .int .i64 x4, .int .i64 x5]) 5).run Tryz.prog w= .ok (.int .i64 x5) w:=by kernel_rfl
set_option maxRecDepth 10000 in
theorem ZO (b:Nat) (A Ar:Option Addr) (cr:Nat) (t:Tr) (rs:List Rg) (wt:Wf t) (hb:t.row.length≤1048576) (ho:BuOk rs 1 t.row) (hne:rs≠ []):Sp Tryz.prog 109 [.pointer (some ⟨b,0,none⟩), .slice Ar rs.length cr, .int .i64 1] [rpP b A] [TrF A t,RdF rgD Ar cr rs] (RpP b (KL rs 1 t.row)):=by
 have hrs:=(QF ho.ck).1
 refine Sp.of (n:=100) ⟨_,Tryz.func109,rfl,rfl,rfl,rfl⟩ (Nat.le_of_ble_eq_true rfl) fun Ps As=>Jc (Ja (Lq (Jd rfl) (Je (Jf (Jc (Jc ?_))))))
 have hz1:rs.length-1<rs.length:=by have:=List.length_pos_iff.2 hne;omega
 have hlast:=ho.below _ (List.getElem_mem hz1)
 refine Kc (k:=(rs.length-1)) Mm1 (List.getElem?_eq_getElem hz1) (rg_open _) fun b6 q6 y6 e6=> ?_
 cases e6
 refine Ja (Lq (Jb rfl) (Lq (Kr rfl rfl) (Lq (Jb rfl) (Ln rfl rfl rfl rfl (Ln rfl rfl rfl rfl (Lq (JL rfl rfl rfl) (Je (Jf (Ju rfl rfl (Jp (Jf (Jc (Jc (Ja (Lq (Jb rfl) (Jg rfl (Jn (XC (some ⟨b6,q6,none⟩) cr rs (by omega)) (.cons rfl (.nil)) (by decide) (Jl Mm2 Jx) fun u3_1 Lo fs hres=> ?_)))))))))))))))))
 obtain ⟨rfl,rfl,rfl⟩:=hres
 refine Lq (Jb rfl) (Lq (Jk (vs:= [_,_]) rfl rfl) (Lq (Jk (vs:= [_,_]) rfl rfl) (Lq (Jd rfl) (Lq (Jd rfl) (Je (Jf (JF [(8,_),(6,_),(0,_),(1,_),(2,_)] (.cons rfl (.cons rfl (.cons rfl (.cons rfl (.cons rfl (.nil _)))))) (Jc (Ja (Lq (Jb rfl) (Lq (Kr rfl rfl) ?_)))))))))))
 refine Je (Jf (Ju rfl (by rw [ho.ck];rfl) (Jp (Jf (Jc (Jc (JG _ _ [] (.c 0 0 (.c 1 0 (.c 2 0 (.c 3 0 (.c 4 0 (.c 5 0 (.c 6 0 (.c 7 0 (.c 8 0 (.c 9 0 (.c 10 0 (.c 11 0 (.c 12 2 (.c 13 0 (.c 14 0 .nil))))))))))))))) mixed (fun _ _ _ _ h=>h) (Sk (Sr)) (fun _ h=>h) (by kernel_rfl) (by decide) fun ws Z0=>Qe rfl (Jb rfl) (Qe rfl (J2 Un50 rfl) (Qe rfl (Kk rfl rfl) (Qe rfl (Jb rfl) (Kj rfl rfl rfl rfl (by simp;omega) (Jb rfl) (by decide) (Kj rfl rfl rfl rfl (by simp;omega) (Jb rfl) (by decide) ?_))))))))))))
 refine Kj rfl rfl rfl rfl (by simp;omega) (J2 Un50 rfl) (by decide) (Kj rfl rfl rfl rfl (by simp;omega) (KO rfl rfl (by rw [wr64 (by omega)];omega) (c:=((rs.length-1:Nat):Int))) (by decide) (Kj rfl rfl rfl rfl (by simp;omega) (J1 Un50 KY rfl rfl (by omega) (by omega)) (by decide) (Kj rfl rfl rfl rfl (by simp;omega) (Jh (o':=_+1) Un74 rfl ti3 rfl rfl) (by decide) (Kj rfl rfl rfl rfl (by simp;omega) (J6 (j:=1) Un3 rfl rfl Mm0 rfl rfl) (by decide) (Kj rfl rfl rfl rfl (by simp;omega) (Jb rfl) (by decide) (YV rfl rfl rfl rfl rfl (by simp;omega) (JO (Y5 b A t wt) (.cons rfl (.nil)) (by decide) (.z) (Jl Mm2 Jx) fun u6_12 Lo fs hres=> ?_)))))))
 obtain ⟨rfl,rfl,rfl⟩:=hres
 refine ⟨⟨(Sk (Sr)),Mm0⟩,?_⟩
 refine Kj rfl rfl rfl rfl (by simp;omega) (Kk rfl rfl) (by decide) (Qe rfl (JP rfl (by simp;omega) rfl) (JN (JM (Jf (JF [(44,_),(6,_),(0,_),(1,_),(2,_)] (.cons rfl (.cons rfl (.cons rfl (.cons rfl (.cons rfl (.nil _)))))) (Ju rfl (by simp;omega) (Jp (Jf (Jc (Ja (Lq (Jb rfl) (Lq (JC rfl) (Lq (Jh (o':=0) Un143 rfl YP rfl rfl) ?_)))))))))))))
 refine Lq (Jj Un141 rfl rfl Jm rfl) (Lq (Jd rfl) (Je (Jf (Jc (Jc (Ja (Lq (Jb rfl) (Lq (J2 Un50 rfl) (Lq (Jb rfl) (Je (Jf (JE ?_))))))))))))
 refine Kf (α:=Nat×Option Addr×Tr) (fun (i,B,u)=>rs.length-i)
  (fun (i,B,u)=> [(0, .pointer (some ⟨b,0,none⟩)),(2, .int .i64 1),(9, .pointer B),(49, .slice (some ⟨b6,q6,none⟩) rs.length cr),(50, .int .i64 rs.length),(51, .int .i64 i)])
  (fun (i,B,u)=>(rpP b A::Ps))
  (fun (i,B,u)=>(TrF B u::TrF A t::RdF rgD (some ⟨b6,q6,none⟩) cr rs::As))
  (fun (i,B,u)=>BuI rs 1 t.row i u)
  (0,A,t) ?_ (.cons rfl (.cons rfl (.cons rfl (.cons rfl (.cons rfl (.cons rfl (.nil _))))))) (Sk (Sr)) (Jl Mm2 Tt2) ?_
 ·exact ⟨Nat.zero_le _,wt,rfl⟩
 ·rintro ⟨i,AJ,tJ⟩ hI
  have wtJ:=hI.wf
  refine Jc (Ja (Lq (Km rfl rfl) (Je (Jf (Jc (Jy rfl (fun h52=> ?_) (fun h52=> ?_)))))))
  ·refine Jp (Jf (Jc (JE (Jc ?_))))
   try simp only [Bp,Bq] at *
   have hil:i<rs.length:=by omega
   have hm:=ho.norm.mem _ (List.getElem_mem hil)
   have hbl:=ho.below _ (List.getElem_mem hil)
   have hrl:=hI.len ho
   have hsl:=hI.slice ho hil
   refine Gh (k:=i) Mm2 (List.getElem?_eq_getElem hil) (rg_open _) fun yk=> ?_
   refine Ja (Lq (J1 Un50 KY rfl rfl (by omega) (by omega)) (Lq (Kn (k:=0) (vs:= [_,_]) Un74 rfl KY rfl Mm0 rfl rfl rfl) (Jg rfl (Jv (cs:= [_,_]) KY rfl (by decide) fun b11=>Jg rfl (Jq (cs':= [_,_]) (vs:= [_,_]) KY rfl rfl rfl rfl rfl (Nat.le_of_ble_eq_true rfl) (.z) (Je (Jf (Jc (Ja (Lq (Jb rfl) (Lq (Jh (o':=0) Un74 rfl ti3 rfl rfl) (Lq (Jj Un3 rfl rfl Jm rfl) (Jg rfl (Jn (split_r AJ tJ rs[i].lo wtJ (by omega) (by omega) (by omega)) (.cons rfl (.cons rfl (.nil))) (by decide) (Jl Mm1 Jx) fun u12_3 Lo fs hres=> ?_))))))))))))))
   obtain ⟨A1,t1,E1,q1,rfl,rfl,rfl,wt1,wq1,r1,rq1⟩:=hres
   have e1:=congrArg List.length r1
   have eq1:=congrArg List.length rq1
   simp only [List.length_take,List.length_drop] at e1 eq1
   refine Lq (Jb rfl) (Lq (Jk (vs:= [_,_]) rfl rfl) (Lq (Jk (vs:= [_,_]) rfl rfl) (Lq (Jd rfl) (Lq (Jd rfl) (Je (Jf (Jc (Ja (Lq (Jb rfl) (Lq (Jh (o':=1) Un74 rfl ti3 rfl rfl) (Lq (Jj Un3 rfl rfl Jm rfl) (Lq (Jh (o':=0) Un74 rfl ti3 rfl rfl) ?_))))))))))))
   refine Lq (Jj Un3 rfl rfl Jm rfl) (Lq (KO rfl rfl (wr64 (by omega))) (Jg rfl (Jn (split_r E1 q1 (rs[i].hi-rs[i].lo) wq1 (by omega) (by omega) (by omega)) (.cons rfl (.cons rfl (.nil))) (by decide) (Jl Mm1 Jx) fun u13_6 Lo fs hres=> ?_)))
   obtain ⟨A2,t2,E2,q2,rfl,rfl,rfl,wt2,wq2,r2,rq2⟩:=hres
   have e2:=congrArg List.length r2
   have eq2:=congrArg List.length rq2
   simp only [List.length_take,List.length_drop] at e2 eq2
   refine Lq (Jb rfl) (Lq (Jk (vs:= [_,_]) rfl rfl) (Lq (Jk (vs:= [_,_]) rfl rfl) (Lq (Jd rfl) (Lq (Jd rfl) (Je (Jf (Jc (Jc ?_))))))))
   have hn2:t2.row≠ [] :=fun e=>by have h1:=congrArg List.length e;rw [List.length_nil] at h1;omega
   obtain ⟨⟨cm,hcm,em⟩,cx,hcx,ex⟩:=wf_mn wt2 hn2
   have hs1:InR (up 1 t2.row):=by rw [r2,rq1];exact hsl
   have hc1:=hs1 _ (mem_up.2 ⟨cm,hcm,rfl⟩)
   have hc2:=hs1 _ (mem_up.2 ⟨cx,hcx,rfl⟩)
   simp only at hc1 hc2
   have hwl:=wf_lift wt2 hs1
   have hlr:=row_lift t2 1
   have hll:(liftF t2 1).row.length=t2.row.length:=by rw [hlr,Qa]
   refine Ja (Lq (Jb rfl) (Lq (Km rfl rfl) (Lq (Jb rfl) (Ln rfl rfl rfl rfl (Ln rfl rfl rfl rfl (Ln rfl rfl rfl rfl (Ln rfl rfl rfl rfl (Lq (JL rfl rfl rfl) (Je (Jf (Ju rfl rfl (Jp (Jf (Jc (Jc (Ja ?_))))))))))))))))
   refine Lq (Jb rfl) (Lq (Kk rfl rfl) (Lq (Jb rfl) (Lg rfl rfl rfl rfl (Jb rfl) (Kv rfl rfl rfl rfl (Jn (Yw A2 t2) (.cons rfl (.nil)) (by decide) (Jl Mm0 Jx) fun u16_4 Lo fs hres=> ?_)))))
   obtain ⟨rfl,rfl,rfl⟩:=hres
   refine Lg rfl rfl rfl rfl (Yg rfl (fd112_5Xw32 _ _ _ _ _ _)) (Lg rfl rfl rfl rfl (Kh rfl rfl) (Lq (JP rfl rfl rfl) (Je (Jf (Ju rfl (by simp;omega) (Jp (Jf (Ja (Lq (Jb rfl) (Lq (Jb rfl) (Lq (Jb rfl) (Jg rfl (Jn (G8 A2 t2 1 wt2 (by omega)) (.cons rfl (.cons rfl (.nil))) (by decide) (Jl Mm0 Jx) fun u18_3 Lo fs hres=> ?_)))))))))))))
   obtain ⟨L9,rfl,rfl,rfl⟩:=hres
   obtain ⟨L9t,hL9⟩: ∃z,z=liftF t2 1:=⟨_,rfl⟩
   rw [←hL9] at hwl hlr hll ⊢
   have wL9t:=hwl
   refine Jg rfl (Jn (mend_r A1 L9 t1 L9t wt1 wL9t (by omega)) (.cons rfl (.cons rfl (.nil))) (by decide) (Jl Mm3 (Jl Mm0 Jx)) fun u18_4 Lo fs hres=> ?_)
   obtain ⟨T3,t3,rfl,rfl,rfl,wt3,r3⟩:=hres
   have e3:=congrArg List.length r3
   simp only [List.length_append] at e3
   refine Lq (Jb rfl) (Jg rfl (Jn (mend_r T3 E2 t3 q2 wt3 wq2 (by omega)) (.cons rfl (.cons rfl (.nil))) (by decide) (Jl Mm0 (Jl Mm3 Jx)) fun u18_6 Lo fs hres=> ?_))
   obtain ⟨T4,t4,rfl,rfl,rfl,wt4,r4⟩:=hres
   have e4:=congrArg List.length r4
   simp only [List.length_append] at e4
   refine Lq (Jd rfl) (Je (J8 (Jf (Ja (Lq (JU rfl rfl (wr64 (by omega)) (c:=((i+1:Nat):Int))) (Lq (Jb rfl) (Je (Kq ?_))))))))
   refine ⟨(i+1,T4,t4),?_,(.cons rfl (.cons rfl (.cons rfl (.cons rfl (.cons rfl (.cons rfl (.nil _))))))),(Sd (Sk (Sr))),(Jl Mm0 Tt9)⟩
   refine ⟨by show rs.length-(i+1)<rs.length-i;omega,hI.next hil wt4 ?_⟩
   have e8:rs[i].lo.toNat +(rs[i].hi-rs[i].lo).toNat=rs[i].hi.toNat:=by omega
   rw [r4,r3,hlr,r1,r2,rq2,rq1,List.drop_drop,e8,List.append_assoc];rfl
  ·refine Ki (JK (JK (Ka (Jf (Jc (Ja (Lq (Jb rfl) (Lq (Jb rfl) (Lq (JC rfl) (Lq (Jh (o':=0) Un143 rfl YP rfl rfl) (Jg rfl (JH YP rfl rfl rfl (.z) (.z) (Je (Jf (Jc (Ja (Lq (Jd rfl) (Je (Jf (Jo ?_))))))))))))))))))))
   refine ⟨_,[_],[_],fun Z w hs=> .tmp rfl (.nil),?_,fun Z w hs=>hs.out (Sk (Sr)) (fun _ h=>h)⟩
   try simp only [Bp,Bq] at *
   exact ⟨_,_,rfl,rfl,rfl,wtJ,hI.done (by omega)⟩
theorem fd112_3Xw32 (x0:Int) (x1:Int) (x2:Int) (x3:Int) (x4:Int) (x5:Int) (w:World):(Instr.field 149 (.agg #[.int .i64 x0, .int .i64 x1, .int .i64 x2, .int .i64 x3, .int .i64 x4, .int .i64 x5]) 3).run Tryz.prog w= .ok (.int .i64 x3) w:=by kernel_rfl
set_option maxRecDepth 10000 in
theorem ZP (b:Nat) (A Ar:Option Addr) (cr:Nat) (t:Tr) (rs:List Rg) (wt:Wf t) (hb:t.row.length≤1048576) (ho:BuOk rs (-1) t.row) (hne:rs≠ []):Sp Tryz.prog 109 [.pointer (some ⟨b,0,none⟩), .slice Ar rs.length cr, .int .i64 (-1)] [rpP b A] [TrF A t,RdF rgD Ar cr rs] (RpP b (KL rs (-1) t.row)):=by
 have hrs:=(QF ho.ck).1
 refine Sp.of (n:=100) ⟨_,Tryz.func109,rfl,rfl,rfl,rfl⟩ (Nat.le_of_ble_eq_true rfl) fun Ps As=>Jc (Ja (Lq (Jd rfl) (Je (Jf (Jc (Jc ?_))))))
 have hz1:rs.length-1<rs.length:=by have:=List.length_pos_iff.2 hne;omega
 have hlast:=ho.below _ (List.getElem_mem hz1)
 refine Kc (k:=(rs.length-1)) Mm1 (List.getElem?_eq_getElem hz1) (rg_open _) fun b6 q6 y6 e6=> ?_
 cases e6
 refine Ja (Lq (Jb rfl) (Lq (Kr rfl rfl) (Lq (Jb rfl) (Lg rfl rfl rfl rfl (Jb rfl) (Lg rfl rfl rfl rfl (Kr rfl rfl) (Lq (JP rfl rfl rfl) (Je (Jf (Ju rfl rfl (Jp (Jf (Jc (Jc (Ja (Lq (Jb rfl) (Jg rfl (Jn (XC (some ⟨b6,q6,none⟩) cr rs (by omega)) (.cons rfl (.nil)) (by decide) (Jl Mm2 Jx) fun u3_1 Lo fs hres=> ?_)))))))))))))))))
 obtain ⟨rfl,rfl,rfl⟩:=hres
 refine Lq (Jb rfl) (Lq (Jk (vs:= [_,_]) rfl rfl) (Lq (Jk (vs:= [_,_]) rfl rfl) (Lq (Jd rfl) (Lq (Jd rfl) (Je (Jf (JF [(8,_),(6,_),(0,_),(1,_),(2,_)] (.cons rfl (.cons rfl (.cons rfl (.cons rfl (.cons rfl (.nil _)))))) (Jc (Ja (Lq (Jb rfl) (Lq (Kr rfl rfl) ?_)))))))))))
 refine Je (Jf (Ju rfl (by rw [ho.ck];rfl) (Jp (Jf (Jc (Jc (JG _ _ [] (.c 0 0 (.c 1 0 (.c 2 0 (.c 3 0 (.c 4 0 (.c 5 0 (.c 6 0 (.c 7 0 (.c 8 0 (.c 9 0 (.c 10 0 (.c 11 0 (.c 12 2 (.c 13 0 (.c 14 0 .nil))))))))))))))) mixed (fun _ _ _ _ h=>h) (Sk (Sr)) (fun _ h=>h) (by kernel_rfl) (by decide) fun ws Z0=>Qe rfl (Jb rfl) (Qe rfl (J2 Un50 rfl) (Qe rfl (Kk rfl rfl) (Qe rfl (Jb rfl) (Kj rfl rfl rfl rfl (by simp;omega) (Jb rfl) (by decide) (Kj rfl rfl rfl rfl (by simp;omega) (Jb rfl) (by decide) ?_))))))))))))
 refine Kj rfl rfl rfl rfl (by simp;omega) (J2 Un50 rfl) (by decide) (Kj rfl rfl rfl rfl (by simp;omega) (KO rfl rfl (by rw [wr64 (by omega)];omega) (c:=((rs.length-1:Nat):Int))) (by decide) (Kj rfl rfl rfl rfl (by simp;omega) (J1 Un50 KY rfl rfl (by omega) (by omega)) (by decide) (Kj rfl rfl rfl rfl (by simp;omega) (Jh (o':=_+1) Un74 rfl ti3 rfl rfl) (by decide) (Kj rfl rfl rfl rfl (by simp;omega) (J6 (j:=1) Un3 rfl rfl Mm0 rfl rfl) (by decide) (Kj rfl rfl rfl rfl (by simp;omega) (Jb rfl) (by decide) (YV rfl rfl rfl rfl rfl (by simp;omega) (JO (Y5 b A t wt) (.cons rfl (.nil)) (by decide) (.z) (Jl Mm2 Jx) fun u6_12 Lo fs hres=> ?_)))))))
 obtain ⟨rfl,rfl,rfl⟩:=hres
 refine ⟨⟨(Sk (Sr)),Mm0⟩,?_⟩
 refine Kj rfl rfl rfl rfl (by simp;omega) (Kk rfl rfl) (by decide) (Qe rfl (JP rfl (by simp;omega) rfl) (JN (JM (Jf (JF [(44,_),(6,_),(0,_),(1,_),(2,_)] (.cons rfl (.cons rfl (.cons rfl (.cons rfl (.cons rfl (.nil _)))))) (Ju rfl (by simp;omega) (Jp (Jf (Jc (Ja (Lq (Jb rfl) (Lq (JC rfl) (Lq (Jh (o':=0) Un143 rfl YP rfl rfl) ?_)))))))))))))
 refine Lq (Jj Un141 rfl rfl Jm rfl) (Lq (Jd rfl) (Je (Jf (Jc (Jc (Ja (Lq (Jb rfl) (Lq (J2 Un50 rfl) (Lq (Jb rfl) (Je (Jf (JE ?_))))))))))))
 refine Kf (α:=Nat×Option Addr×Tr) (fun (i,B,u)=>rs.length-i)
  (fun (i,B,u)=> [(0, .pointer (some ⟨b,0,none⟩)),(2, .int .i64 (-1)),(9, .pointer B),(49, .slice (some ⟨b6,q6,none⟩) rs.length cr),(50, .int .i64 rs.length),(51, .int .i64 i)])
  (fun (i,B,u)=>(rpP b A::Ps))
  (fun (i,B,u)=>(TrF B u::TrF A t::RdF rgD (some ⟨b6,q6,none⟩) cr rs::As))
  (fun (i,B,u)=>BuI rs (-1) t.row i u)
  (0,A,t) ?_ (.cons rfl (.cons rfl (.cons rfl (.cons rfl (.cons rfl (.cons rfl (.nil _))))))) (Sk (Sr)) (Jl Mm2 Tt2) ?_
 ·exact ⟨Nat.zero_le _,wt,rfl⟩
 ·rintro ⟨i,AJ,tJ⟩ hI
  have wtJ:=hI.wf
  refine Jc (Ja (Lq (Km rfl rfl) (Je (Jf (Jc (Jy rfl (fun h52=> ?_) (fun h52=> ?_)))))))
  ·refine Jp (Jf (Jc (JE (Jc ?_))))
   try simp only [Bp,Bq] at *
   have hil:i<rs.length:=by omega
   have hm:=ho.norm.mem _ (List.getElem_mem hil)
   have hbl:=ho.below _ (List.getElem_mem hil)
   have hrl:=hI.len ho
   have hsl:=hI.slice ho hil
   refine Gh (k:=i) Mm2 (List.getElem?_eq_getElem hil) (rg_open _) fun yk=> ?_
   refine Ja (Lq (J1 Un50 KY rfl rfl (by omega) (by omega)) (Lq (Kn (k:=0) (vs:= [_,_]) Un74 rfl KY rfl Mm0 rfl rfl rfl) (Jg rfl (Jv (cs:= [_,_]) KY rfl (by decide) fun b11=>Jg rfl (Jq (cs':= [_,_]) (vs:= [_,_]) KY rfl rfl rfl rfl rfl (Nat.le_of_ble_eq_true rfl) (.z) (Je (Jf (Jc (Ja (Lq (Jb rfl) (Lq (Jh (o':=0) Un74 rfl ti3 rfl rfl) (Lq (Jj Un3 rfl rfl Jm rfl) (Jg rfl (Jn (split_r AJ tJ rs[i].lo wtJ (by omega) (by omega) (by omega)) (.cons rfl (.cons rfl (.nil))) (by decide) (Jl Mm1 Jx) fun u12_3 Lo fs hres=> ?_))))))))))))))
   obtain ⟨A1,t1,E1,q1,rfl,rfl,rfl,wt1,wq1,r1,rq1⟩:=hres
   have e1:=congrArg List.length r1
   have eq1:=congrArg List.length rq1
   simp only [List.length_take,List.length_drop] at e1 eq1
   refine Lq (Jb rfl) (Lq (Jk (vs:= [_,_]) rfl rfl) (Lq (Jk (vs:= [_,_]) rfl rfl) (Lq (Jd rfl) (Lq (Jd rfl) (Je (Jf (Jc (Ja (Lq (Jb rfl) (Lq (Jh (o':=1) Un74 rfl ti3 rfl rfl) (Lq (Jj Un3 rfl rfl Jm rfl) (Lq (Jh (o':=0) Un74 rfl ti3 rfl rfl) ?_))))))))))))
   refine Lq (Jj Un3 rfl rfl Jm rfl) (Lq (KO rfl rfl (wr64 (by omega))) (Jg rfl (Jn (split_r E1 q1 (rs[i].hi-rs[i].lo) wq1 (by omega) (by omega) (by omega)) (.cons rfl (.cons rfl (.nil))) (by decide) (Jl Mm1 Jx) fun u13_6 Lo fs hres=> ?_)))
   obtain ⟨A2,t2,E2,q2,rfl,rfl,rfl,wt2,wq2,r2,rq2⟩:=hres
   have e2:=congrArg List.length r2
   have eq2:=congrArg List.length rq2
   simp only [List.length_take,List.length_drop] at e2 eq2
   refine Lq (Jb rfl) (Lq (Jk (vs:= [_,_]) rfl rfl) (Lq (Jk (vs:= [_,_]) rfl rfl) (Lq (Jd rfl) (Lq (Jd rfl) (Je (Jf (Jc (Jc ?_))))))))
   have hn2:t2.row≠ [] :=fun e=>by have h1:=congrArg List.length e;rw [List.length_nil] at h1;omega
   obtain ⟨⟨cm,hcm,em⟩,cx,hcx,ex⟩:=wf_mn wt2 hn2
   have hs1:InR (up (-1) t2.row):=by rw [r2,rq1];exact hsl
   have hc1:=hs1 _ (mem_up.2 ⟨cm,hcm,rfl⟩)
   have hc2:=hs1 _ (mem_up.2 ⟨cx,hcx,rfl⟩)
   simp only at hc1 hc2
   have hwl:=wf_lift wt2 hs1
   have hlr:=row_lift t2 (-1)
   have hll:(liftF t2 (-1)).row.length=t2.row.length:=by rw [hlr,Qa]
   refine Ja (Lq (Jb rfl) (Lq (Km rfl rfl) (Lq (Jb rfl) (Lg rfl rfl rfl rfl (Jb rfl) (Kv rfl rfl rfl rfl (Jn (Yw A2 t2) (.cons rfl (.nil)) (by decide) (Jl Mm0 Jx) fun u14_4 Lo fs hres=> ?_))))))
   obtain ⟨rfl,rfl,rfl⟩:=hres
   refine Lg rfl rfl rfl rfl (Yg rfl (fd112_3Xw32 _ _ _ _ _ _)) (Lg rfl rfl rfl rfl (Kh rfl rfl) (Lq (JP rfl rfl rfl) (Je (Jf (Ju rfl (by simp;omega) (Jp (Jf (Jc (Jc (Ja (Lq (Jb rfl) (Lq (Kk rfl rfl) (Lq (Jb rfl) (Ln rfl rfl rfl rfl ?_))))))))))))))
   refine Ln rfl rfl rfl rfl (Ln rfl rfl rfl rfl (Ln rfl rfl rfl rfl (Lq (JL rfl rfl rfl) (Je (Jf (Ju rfl rfl (Jp (Jf (Ja (Lq (Jb rfl) (Lq (Jb rfl) (Lq (Jb rfl) (Jg rfl (Jn (G8 A2 t2 (-1) wt2 (by omega)) (.cons rfl (.cons rfl (.nil))) (by decide) (Jl Mm0 Jx) fun u18_3 Lo fs hres=> ?_))))))))))))))
   obtain ⟨L9,rfl,rfl,rfl⟩:=hres
   obtain ⟨L9t,hL9⟩: ∃z,z=liftF t2 (-1):=⟨_,rfl⟩
   rw [←hL9] at hwl hlr hll ⊢
   have wL9t:=hwl
   refine Jg rfl (Jn (mend_r A1 L9 t1 L9t wt1 wL9t (by omega)) (.cons rfl (.cons rfl (.nil))) (by decide) (Jl Mm3 (Jl Mm0 Jx)) fun u18_4 Lo fs hres=> ?_)
   obtain ⟨T3,t3,rfl,rfl,rfl,wt3,r3⟩:=hres
   have e3:=congrArg List.length r3
   simp only [List.length_append] at e3
   refine Lq (Jb rfl) (Jg rfl (Jn (mend_r T3 E2 t3 q2 wt3 wq2 (by omega)) (.cons rfl (.cons rfl (.nil))) (by decide) (Jl Mm0 (Jl Mm3 Jx)) fun u18_6 Lo fs hres=> ?_))
   obtain ⟨T4,t4,rfl,rfl,rfl,wt4,r4⟩:=hres
   have e4:=congrArg List.length r4
   simp only [List.length_append] at e4
   refine Lq (Jd rfl) (Je (J8 (Jf (Ja (Lq (JU rfl rfl (wr64 (by omega)) (c:=((i+1:Nat):Int))) (Lq (Jb rfl) (Je (Kq ?_))))))))
   refine ⟨(i+1,T4,t4),?_,(.cons rfl (.cons rfl (.cons rfl (.cons rfl (.cons rfl (.cons rfl (.nil _))))))),(Sd (Sk (Sr))),(Jl Mm0 Tt9)⟩
   refine ⟨by show rs.length-(i+1)<rs.length-i;omega,hI.next hil wt4 ?_⟩
   have e8:rs[i].lo.toNat +(rs[i].hi-rs[i].lo).toNat=rs[i].hi.toNat:=by omega
   rw [r4,r3,hlr,r1,r2,rq2,rq1,List.drop_drop,e8,List.append_assoc];rfl
  ·refine Ki (JK (JK (Ka (Jf (Jc (Ja (Lq (Jb rfl) (Lq (Jb rfl) (Lq (JC rfl) (Lq (Jh (o':=0) Un143 rfl YP rfl rfl) (Jg rfl (JH YP rfl rfl rfl (.z) (.z) (Je (Jf (Jc (Ja (Lq (Jd rfl) (Je (Jf (Jo ?_))))))))))))))))))))
   refine ⟨_,[_],[_],fun Z w hs=> .tmp rfl (.nil),?_,fun Z w hs=>hs.out (Sk (Sr)) (fun _ h=>h)⟩
   try simp only [Bp,Bq] at *
   exact ⟨_,_,rfl,rfl,rfl,wtJ,hI.done (by omega)⟩
structure CeI (c:Ce) (x:Int) (t:Tr):Prop where
 wf:Wf t
 lo:0≤x
 hi:x<t.row.length
 le:t.row.length≤1073741824
 eq:t.row[x.toNat]? =some c
theorem EffOk.bump {x:GOp} {row:List Ce} (h:EffOk x row) (hb:row.length≤60000) (hr:InR row):(x.kind=2→BuOk x.rs 1 row∧x.rs≠ [])∧(x.kind=3→BuOk x.rs (-1) row∧x.rs≠ []):=by
 have key: ∀k:Int,(x.kind=2∧k=1)∨(x.kind=3∧k= -1)→BuOk x.rs k row∧x.rs≠ [] :=by
  intro k hk
  obtain ⟨h1,h2⟩:=(YI (xs:=x.rs) (w:=row.length) (by omega)).1 ((check_cov (by omega) (by omega)).1 h.ck).2
  refine ⟨⟨h2.ck (by omega),h2.below,fun q c hq hi=> ?_⟩,h1⟩
  have hc:=hr c (List.mem_of_getElem? hq)
  rcases hk with ⟨hk,rfl⟩ | ⟨hk,rfl⟩
  ·have:=h.up hk q c hq hi;omega
  ·have:=h.dn hk q c hq hi;omega
 exact ⟨fun hk=>key 1 (.inl ⟨hk,rfl⟩),fun hk=>key (-1) (.inr ⟨hk,rfl⟩)⟩
set_option maxRecDepth 10000 in
theorem Hv (b:Nat) (A Ax:Option Addr) (cx:Nat) (t:Tr) (x:GOp) (wt:Wf t) (hb:t.row.length≤60000) (he:EffOk x t.row) (hs:x.text.size≤1073741824) (hl:x.rs.length≤4398046511104):Sp Tryz.prog 71 [.pointer (some ⟨b,0,none⟩),opV x Ax cx] [rpP b A] [barF,TrF A t,RdF rgD Ax cx x.rs] (RpP b (JT x t.row)):=by
 obtain ⟨hb2,hb3⟩:=he.bump hb wt.inR
 refine Sp.of (n:=38) ⟨_,Tryz.func71,rfl,rfl,rfl,rfl⟩ (Nat.le_of_ble_eq_true rfl) fun Ps As=>Jc (Ja (Jg rfl (J7 (cs:= [_,_,_,_,_,_,_,_,_]) rfl rfl (by decide) fun b3=>Lq (Jd rfl) (Je (Jf (Jc (Jc (Ja (Lq (Jb rfl) (Lq (KK Un34 rfl rfl (by simp)) (Je (Jf (Ju rfl rfl (Jp (Jf (Jc (Jc (JA (.s (.z)) (JG _ _ [] (.c 0 0 (.c 1 0 (.c 2 2 (.c 3 2 (.c 4 0 .nil))))) mixed (fun _ _ _ _ h=>h) (Sk (Sk (Sr))) (fun _ h=>h) (by kernel_rfl) (by decide) fun ws Z0=> ?_)))))))))))))))))))
 refine Qe rfl (Jt (vs:= [_,_,_,_,_,_,_,_,_]) Un52 rfl JD rfl (Ji (Jm)) rfl rfl) (Qe rfl (Jb rfl) (Jz rfl rfl (JO (Y5 b A t wt) (.cons rfl (.nil)) (by decide) (.z) (Jl Mm2 Jx) fun u3_2 Lo fs hres=> ?_)))
 obtain ⟨rfl,rfl,rfl⟩:=hres
 refine ⟨⟨(Sk (Sk (Sr))),Mm0⟩,?_⟩
 refine Jz rfl rfl (Jn (Qb x Ax cx t.row.length (by omega) hl) (.cons rfl (.cons rfl (.nil))) (by decide) (Jl Mm1 (Jl Mm3 Jx)) fun u3_3 Lo fs hres=> ?_)
 obtain ⟨rfl,rfl,rfl⟩:=hres
 refine ⟨⟨(Sk (Sk (Sr))),Mm0⟩,?_⟩
 refine Qe rfl (Jd rfl) (JN (JM (Jf (Jc (Ja (Lq (Jb rfl) (Lq (Kr rfl rfl) (Je (Jf (Ju rfl (by rw [he.ck];rfl) (Jp (Jf (Jc (Jc (Ja (Lq (Jh (o':=0) Un52 rfl KM rfl rfl) (Lq (Jh (o':=2) Un49 rfl Yp rfl rfl) ?_)))))))))))))))))
 refine Lq (Jj Un47 rfl rfl (Ji (Jm)) rfl) (Je (Jf (JF [(17,_),(4,_),(3,_),(0,_)] (.cons rfl (.cons rfl (.cons rfl (.cons rfl (.nil _))))) (JE (Jc (Ja (Lq (Kh rfl rfl) (Lq (Jd rfl) (Je (Jf (Jy rfl (fun h18=> ?_) (fun h18=> ?_))))))))))))
 ·have hk:x.kind=1:=by simpa using h18
  obtain ⟨hu,hn,hat,hw⟩:=Yo.1 ((check_ins hk (by omega)).1 he.ck).2
  have hru:=YY hu
  refine Jc (Ja (Lq (Jb rfl) (Lq (Jh (o':=3) Un52 rfl ti3 rfl rfl) (Lq (Jj Un3 rfl rfl (Ji (Jm)) rfl) (Lq (Jh (o':=4) Un52 rfl ti9 rfl rfl) (Lq (Jj Un9 rfl rfl (Ji (Jm)) rfl) (Jg rfl (JO (HS b A t x.at_ x.text 0 wt hat hs hu (by omega) (by omega) (by omega)) (.cons rfl (.cons rfl (.cons rfl (.cons rfl (.nil))))) (by decide) (.z) (Jl Mm1 (Jl Mm2 Jx)) fun u8_5 Lo fs hres=> ?_))))))))
  obtain ⟨A2,t2,rfl,rfl,rfl,wt2,r2⟩:=hres
  refine Lq (Jd rfl) (Je (Jf (Jo (JJ (Js ?_)))))
  refine ⟨_,[_],[_],fun Z w hs=> .tmp rfl (.nil),?_,fun Z w hs=>hs.out (Sk (Sd (Sr))) (Jl Mm0 Tt2)⟩
  exact ⟨_,_,rfl,rfl,rfl,wt2,by rw [r2];unfold JT;rw [if_pos hk]⟩
 ·refine Jc (Ja (Lq (Kh rfl rfl) (Lq (Jd rfl) (Je (Jf (Jy rfl (fun h26=> ?_) (fun h26=> ?_)))))))
  ·have hk:x.kind=2:=by simpa using h26
   refine Jc (Ja (Lq (Jb rfl) (Lq (Jh (o':=5) Un52 rfl Yc rfl rfl) (Lq (Jj Un50 rfl rfl (Ji (Jm)) rfl) (Jg rfl (JO (ZO b A Ax cx t x.rs wt (by omega) (hb2 hk).1 (hb2 hk).2) (.cons rfl (.cons rfl (.cons rfl (.nil)))) (by decide) (.z) (Jl Mm2 (Jl Mm3 Jx)) fun u10_3 Lo fs hres=> ?_))))))
   obtain ⟨A2,t2,rfl,rfl,rfl,wt2,r2⟩:=hres
   refine Lq (Jd rfl) (Je (Jf (Jo (JJ (Js ?_)))))
   refine ⟨_,[_],[_],fun Z w hs=> .tmp rfl (.nil),?_,fun Z w hs=>hs.out (Sk (Sd (Sr))) (Jl Mm0 Tt2)⟩
   exact ⟨_,_,rfl,rfl,rfl,wt2,by rw [r2];unfold JT;rw [if_neg (by omega),if_pos hk]⟩
  ·refine Jc (Ja (Lq (Kh rfl rfl) (Lq (Jd rfl) (Je (Jf (Jy rfl (fun h32=> ?_) (fun h32=> ?_)))))))
   ·have hk:x.kind=3:=by simpa using h32
    refine Jc (Ja (Lq (Jb rfl) (Lq (Jh (o':=5) Un52 rfl Yc rfl rfl) (Lq (Jj Un50 rfl rfl (Ji (Jm)) rfl) (Jg rfl (JO (ZP b A Ax cx t x.rs wt (by omega) (hb3 hk).1 (hb3 hk).2) (.cons rfl (.cons rfl (.cons rfl (.nil)))) (by decide) (.z) (Jl Mm2 (Jl Mm3 Jx)) fun u12_3 Lo fs hres=> ?_))))))
    obtain ⟨A2,t2,rfl,rfl,rfl,wt2,r2⟩:=hres
    refine Lq (Jd rfl) (Je (Jf (JF [(4,_)] (.cons rfl (.nil _)) (Jo (JJ (Js ?_))))))
    refine ⟨_,[_],[_],fun Z w hs=> .tmp rfl (.nil),?_,fun Z w hs=>hs.out (Sk (Sd (Sr))) (Jl Mm0 Tt2)⟩
    exact ⟨_,_,rfl,rfl,rfl,wt2,by rw [r2];unfold JT;rw [if_neg (by omega),if_neg (by omega),if_pos hk]⟩
   ·exfalso
    have:=he.kind
    simp at h18 h26 h32
    omega
def u8w (x:Int):Int:=IntKind.u8.wrap x
def encI (r:Int):List Int:=
 if IntKind.u32.wrap r≤127 then [u8w r]
 else if IntKind.u32.wrap r≤2047 then [bits .or .u8 192 (u8w (r.fdiv (2 ^ 6))),bits .or .u8 128 (bits .and .u8 (u8w r) 63)]
 else if IntKind.u32.wrap r<55296∨(57343<IntKind.u32.wrap r∧IntKind.u32.wrap r≤65535) then [bits .or .u8 224 (u8w (r.fdiv (2 ^ 12))),bits .or .u8 128 (bits .and .u8 (u8w (r.fdiv (2 ^ 6))) 63),bits .or .u8 128 (bits .and .u8 (u8w r) 63)]
 else if IntKind.u32.wrap r>65535∧IntKind.u32.wrap r≤1114111 then [bits .or .u8 240 (u8w (r.fdiv (2 ^ 18))),bits .or .u8 128 (bits .and .u8 (u8w (r.fdiv (2 ^ 12))) 63),bits .or .u8 128 (bits .and .u8 (u8w (r.fdiv (2 ^ 6))) 63),bits .or .u8 128 (bits .and .u8 (u8w r) 63)]
 else [239,191,189]
theorem u8_range (x:Int):0≤IntKind.u8.wrap x∧IntKind.u8.wrap x<256:=by
 have h:IntKind.u8.wrap x=x % 256:=rfl
 rw [h];omega
theorem or_range (a b:Int):0≤bits .or .u8 a b∧bits .or .u8 a b<256:=u8_range _
theorem encI_by (r:Int):By (encI r):=by
 have h1:=u8_range r
 intro x hx
 unfold encI at hx
 split at hx
 ·simp only [List.mem_singleton] at hx;subst hx;exact h1
 ·split at hx
  ·simp only [List.mem_cons,List.not_mem_nil,or_false] at hx;rcases hx with rfl | rfl<;>exact or_range _ _
  ·split at hx
   ·simp only [List.mem_cons,List.not_mem_nil,or_false] at hx;rcases hx with rfl | rfl | rfl<;>exact or_range _ _
   ·split at hx
    ·simp only [List.mem_cons,List.not_mem_nil,or_false] at hx;rcases hx with rfl | rfl | rfl | rfl<;>exact or_range _ _
    ·simp only [List.mem_cons,List.not_mem_nil,or_false] at hx;omega
theorem VT (r:Int):1≤(encI r).length∧(encI r).length≤4:=by
 unfold encI
 split
 ·simp
 ·split
  ·simp
  ·split
   ·simp
   ·split<;>simp
theorem GD {a b:List Int} (ha:By a) (hb:By b):By (a++b):=fun x hx=>(List.mem_append.1 hx).elim (ha x) (hb x)
abbrev blP (b:Nat) (ad:Option Addr) (v:Value):Part:= [(b,JB [.pointer ad,v] 170)]
theorem cv32 (x:Int) (w:World):(convert 21 234 (.int .i32 x)).run Tryz.prog w= .ok (.int .u32 (IntKind.u32.wrap x)) w:=by kernel_rfl
theorem cv8 (x:Int) (w:World):(convert 21 5 (.int .i32 x)).run Tryz.prog w= .ok (.int .u8 (u8w x)) w:=by kernel_rfl
theorem bs122_2 (a b:Int) (w:World):(Instr.buildSlice 168 2 #[(0, .int .u8 a),(1, .int .u8 b)]).run Tryz.prog w= .ok (.slice (some ⟨w.heap.size,0,none⟩) 2 2) (w.alloc (JB [.int .u8 a, .int .u8 b] 5)):=by kernel_rfl
theorem bs122_3 (a b c:Int) (w:World):(Instr.buildSlice 168 3 #[(0, .int .u8 a),(1, .int .u8 b),(2, .int .u8 c)]).run Tryz.prog w= .ok (.slice (some ⟨w.heap.size,0,none⟩) 3 3) (w.alloc (JB [.int .u8 a, .int .u8 b, .int .u8 c] 5)):=by kernel_rfl
theorem bs122_4 (a b c d:Int) (w:World):(Instr.buildSlice 168 4 #[(0, .int .u8 a),(1, .int .u8 b),(2, .int .u8 c),(3, .int .u8 d)]).run Tryz.prog w= .ok (.slice (some ⟨w.heap.size,0,none⟩) 4 4) (w.alloc (JB [.int .u8 a, .int .u8 b, .int .u8 c, .int .u8 d] 5)):=by kernel_rfl
theorem Jbv (v:Value) (w:World):(callFunc 152 #[v]).run Tryz.prog w= .ok (.value v) w:=by kernel_rfl
def BwP (us:List Int):Value→List Part→List Fact→Prop:=fun v Lo fs=> ∃p,Row 5 1 v us.length (ints .u8 us) p∧Lo= [p] ∧fs= []
set_option maxRecDepth 10000 in
theorem ZU (v:Value) (us:List Int) (p:Part) (r:Int) (hr:Row 5 1 v us.length (ints .u8 us) p) (hb:us.length≤1073741824) (hn: ¬IntKind.u32.wrap r≤127):Sp Tryz.prog 153 [v, .int .i32 r] [p] [] (BwP (us++encI r)):=by
 refine Sp.of (n:=78) ⟨_,Tryz.func153,rfl,rfl,rfl,rfl⟩ (Nat.le_of_ble_eq_true rfl) fun Ps As=>Jc (Ja (Lq (Jd rfl) (Je (Jf (Jc (Ja (Lq (Jb rfl) (Lq (Yh rfl (cv32 _)) (Lq (Jd rfl) (Je (Jf (JE (Jc (Ja (Lq (Jb rfl) (Lq (YS rfl rfl) ?_))))))))))))))))
 refine Lq (Jd rfl) (Je (Jf (Jy rfl (fun h11=> ?_) (fun h11=> ?_))))
 ·refine Jc (Ja (Lq (Jb rfl) (Lq (Jb rfl) (Lq (Ve rfl rfl (by decide) rfl) (Lq (Yh rfl (cv8 _)) (Lq (VA rfl rfl rfl) (Lq (Jb rfl) (Lq (Yh rfl (cv8 _)) (Lq (Q5 rfl rfl rfl) (Lq (VA rfl rfl rfl) ?_))))))))))
  refine Jg rfl (YB (cs:= [_,_]) (.cons rfl (.cons rfl (.nil))) (fun w=>bs122_2 _ _ w) (by decide) fun b23=>Jg rfl (Yk (m:=2) (news:= [_,_]) Un168 ti5 rfl (by decide) rfl rfl hr Jm rfl rfl (by omega) (by unfold maxLen;omega) (by decide) (DelAt.perm (.s (.z))) fun v24 p24 hr24=>Lq (Jd rfl) (Je (Jf (Jo (JJ ?_))))))
  refine ⟨_,[_],[],fun Z w hs=> .tmp rfl (.nil),?_,fun Z w hs=>hs.out (Sk (Sd (Sr))) (fun _ h=>h)⟩
  try simp only [Bp,Bq] at *
  refine ⟨_,?_,rfl,rfl⟩
  unfold encI
  rw [if_neg (by omega),if_pos (by omega)]
  rw [List.length_append,KT]
  exact hr24
 ·refine Jc (Jc (Ja (Lq (Jb rfl) (Lq (Km rfl rfl) (Lq (Jd rfl) (Je (Jf (Jy rfl (fun h25=> ?_) (fun h25=> ?_)))))))))
  ·refine Jp (Jf (J3 rfl h25 (Jc (Ja (Lq (Jb rfl) (Lq (Jb rfl) (Lq (Ve rfl rfl (by decide) rfl) (Lq (Yh rfl (cv8 _)) (Lq (VA rfl rfl rfl) (Lq (Jb rfl) (Lq (Ve rfl rfl (by decide) rfl) ?_)))))))))))
   refine Lq (Yh rfl (cv8 _)) (Lq (Q5 rfl rfl rfl) (Lq (VA rfl rfl rfl) (Lq (Jb rfl) (Lq (Yh rfl (cv8 _)) (Lq (Q5 rfl rfl rfl) (Lq (VA rfl rfl rfl) (Jg rfl (YB (cs:= [_,_,_]) (.cons rfl (.cons rfl (.cons rfl (.nil)))) (fun w=>bs122_3 _ _ _ w) (by decide) fun b48=>Jg rfl (Yk (m:=3) (news:= [_,_,_]) Un168 ti5 rfl (by decide) rfl rfl hr Jm rfl rfl (by omega) (by unfold maxLen;omega) (by decide) (DelAt.perm (.s (.z))) fun v49 p49 hr49=>Lq (Jd rfl) ?_)))))))))
   refine Je (Jf (Jo (JJ ?_)))
   refine ⟨_,[_],[],fun Z w hs=> .tmp rfl (.nil),?_,fun Z w hs=>hs.out (Sk (Sd (Sr))) (fun _ h=>h)⟩
   try simp only [Bp,Bq] at *
   refine ⟨_,?_,rfl,rfl⟩
   unfold encI
   rw [if_neg (by omega),if_neg (by omega),if_pos (by omega)]
   rw [List.length_append,KT]
   exact hr49
  ·refine Ja (Lq (Jb rfl) (Lq (Km rfl rfl) (Lq (Jb rfl) (J4 (t:=30) rfl (fun g30=> ?_) (fun g30=> ?_)))))
   ·refine Lg rfl rfl rfl g30 (Jb rfl) (Lg rfl rfl rfl g30 (YS rfl rfl) (Lq (JP rfl g30 rfl) (Lq (Jd rfl) (Je (Jf (Jy rfl (fun h25=> ?_) (fun h25=> ?_)))))))
    ·refine Jc (Ja (Lq (Jb rfl) (Lq (Jb rfl) (Lq (Ve rfl rfl (by decide) rfl) (Lq (Yh rfl (cv8 _)) (Lq (VA rfl rfl rfl) (Lq (Jb rfl) (Lq (Ve rfl rfl (by decide) rfl) (Lq (Yh rfl (cv8 _)) (Lq (Q5 rfl rfl rfl) ?_))))))))))
     refine Lq (VA rfl rfl rfl) (Lq (Jb rfl) (Lq (Yh rfl (cv8 _)) (Lq (Q5 rfl rfl rfl) (Lq (VA rfl rfl rfl) (Jg rfl (YB (cs:= [_,_,_]) (.cons rfl (.cons rfl (.cons rfl (.nil)))) (fun w=>bs122_3 _ _ _ w) (by decide) fun b48=>Jg rfl (Yk (m:=3) (news:= [_,_,_]) Un168 ti5 rfl (by decide) rfl rfl hr Jm rfl rfl (by omega) (by unfold maxLen;omega) (by decide) (DelAt.perm (.s (.z))) fun v49 p49 hr49=>Lq (Jd rfl) (Je (Jf (Jo (JJ ?_)))))))))))
     refine ⟨_,[_],[],fun Z w hs=> .tmp rfl (.nil),?_,fun Z w hs=>hs.out (Sk (Sd (Sr))) (fun _ h=>h)⟩
     try simp only [Bp,Bq] at *
     refine ⟨_,?_,rfl,rfl⟩
     unfold encI
     rw [if_neg (by omega),if_neg (by omega),if_pos (by omega)]
     rw [List.length_append,KT]
     exact hr49
    ·refine Jc (Ja (Lq (Jb rfl) (Lq (Kk rfl rfl) (Lq (Jb rfl) (J4 (t:=53) rfl (fun g53=> ?_) (fun g53=> ?_))))))
     ·refine Lg rfl rfl rfl g53 (Jb rfl) (Lg rfl rfl rfl g53 (YS rfl rfl) (Lq (JP rfl g53 rfl) (Lq (Jd rfl) (Je (Jf (Jy rfl (fun h50=> ?_) (fun h50=> ?_)))))))
      ·refine Jc (Ja (Lq (Jb rfl) (Lq (Jb rfl) (Lq (Ve rfl rfl (by decide) rfl) (Lq (Yh rfl (cv8 _)) (Lq (VA rfl rfl rfl) (Lq (Jb rfl) (Lq (Ve rfl rfl (by decide) rfl) (Lq (Yh rfl (cv8 _)) (Lq (Q5 rfl rfl rfl) ?_))))))))))
       refine Lq (VA rfl rfl rfl) (Lq (Jb rfl) (Lq (Ve rfl rfl (by decide) rfl) (Lq (Yh rfl (cv8 _)) (Lq (Q5 rfl rfl rfl) (Lq (VA rfl rfl rfl) (Lq (Jb rfl) (Lq (Yh rfl (cv8 _)) (Lq (Q5 rfl rfl rfl) (Lq (VA rfl rfl rfl) ?_)))))))))
       refine Jg rfl (YB (cs:= [_,_,_,_]) (.cons rfl (.cons rfl (.cons rfl (.cons rfl (.nil))))) (fun w=>bs122_4 _ _ _ _ w) (by decide) fun b76=>Jg rfl (Yk (m:=4) (news:= [_,_,_,_]) Un168 ti5 rfl (by decide) rfl rfl hr Jm rfl rfl (by omega) (by unfold maxLen;omega) (by decide) (DelAt.perm (.s (.z))) fun v77 p77 hr77=>Lq (Jd rfl) (Je (Jf (Jo (JJ ?_))))))
       refine ⟨_,[_],[],fun Z w hs=> .tmp rfl (.nil),?_,fun Z w hs=>hs.out (Sk (Sd (Sr))) (fun _ h=>h)⟩
       try simp only [Bp,Bq] at *
       refine ⟨_,?_,rfl,rfl⟩
       unfold encI
       rw [if_neg (by omega),if_neg (by omega),if_neg (by omega),if_pos (by omega)]
       rw [List.length_append,KT]
       exact hr77
      ·refine Jc (Ja (Lq (Jb rfl) (Jg rfl (YB (cs:= [_,_,_]) (.cons rfl (.cons rfl (.cons rfl (.nil)))) (fun w=>bs122_3 _ _ _ w) (by decide) fun b9=>Jg rfl (Yk (m:=3) (news:= [_,_,_]) Un168 ti5 rfl (by decide) rfl rfl hr Jm rfl rfl (by omega) (by unfold maxLen;omega) (by decide) (DelAt.perm (.s (.z))) fun v10 p10 hr10=>Lq (Jd rfl) (Je (Jf (Jo (JJ ?_)))))))))
       refine ⟨_,[_],[],fun Z w hs=> .tmp rfl (.nil),?_,fun Z w hs=>hs.out (Sk (Sd (Sr))) (fun _ h=>h)⟩
       try simp only [Bp,Bq] at *
       refine ⟨_,?_,rfl,rfl⟩
       unfold encI
       rw [if_neg (by omega),if_neg (by omega),if_neg (by omega),if_neg (by omega)]
       rw [List.length_append,KT]
       exact hr10
     ·refine Ln rfl rfl rfl g53 (Ln rfl rfl rfl g53 (Lq (JL rfl g53 rfl) (Lq (Jd rfl) (Je (Jf (Ju rfl rfl (Jc (Ja (Lq (Jb rfl) (Jg rfl (YB (cs:= [_,_,_]) (.cons rfl (.cons rfl (.cons rfl (.nil)))) (fun w=>bs122_3 _ _ _ w) (by decide) fun b9=>Jg rfl (Yk (m:=3) (news:= [_,_,_]) Un168 ti5 rfl (by decide) rfl rfl hr Jm rfl rfl (by omega) (by unfold maxLen;omega) (by decide) (DelAt.perm (.s (.z))) fun v10 p10 hr10=>Lq (Jd rfl) (Je (Jf (Jo (JJ ?_))))))))))))))))
      refine ⟨_,[_],[],fun Z w hs=> .tmp rfl (.nil),?_,fun Z w hs=>hs.out (Sk (Sd (Sr))) (fun _ h=>h)⟩
      try simp only [Bp,Bq] at *
      refine ⟨_,?_,rfl,rfl⟩
      unfold encI
      rw [if_neg (by omega),if_neg (by omega),if_neg (by omega),if_neg (by omega)]
      rw [List.length_append,KT]
      exact hr10
   ·refine Ln rfl rfl rfl g30 (Ln rfl rfl rfl g30 (Lq (JL rfl g30 rfl) (Lq (Jd rfl) (Je (Jf (Ju rfl rfl (Jc (Ja (Lq (Jb rfl) (Lq (Kk rfl rfl) (Lq (Jb rfl) (J4 (t:=53) rfl (fun g53=> ?_) (fun g53=> ?_)))))))))))))
    ·refine Lg rfl rfl rfl g53 (Jb rfl) (Lg rfl rfl rfl g53 (YS rfl rfl) (Lq (JP rfl g53 rfl) (Lq (Jd rfl) (Je (Jf (Jy rfl (fun h50=> ?_) (fun h50=> ?_)))))))
     ·refine Jc (Ja (Lq (Jb rfl) (Lq (Jb rfl) (Lq (Ve rfl rfl (by decide) rfl) (Lq (Yh rfl (cv8 _)) (Lq (VA rfl rfl rfl) (Lq (Jb rfl) (Lq (Ve rfl rfl (by decide) rfl) (Lq (Yh rfl (cv8 _)) (Lq (Q5 rfl rfl rfl) ?_))))))))))
      refine Lq (VA rfl rfl rfl) (Lq (Jb rfl) (Lq (Ve rfl rfl (by decide) rfl) (Lq (Yh rfl (cv8 _)) (Lq (Q5 rfl rfl rfl) (Lq (VA rfl rfl rfl) (Lq (Jb rfl) (Lq (Yh rfl (cv8 _)) (Lq (Q5 rfl rfl rfl) (Lq (VA rfl rfl rfl) ?_)))))))))
      refine Jg rfl (YB (cs:= [_,_,_,_]) (.cons rfl (.cons rfl (.cons rfl (.cons rfl (.nil))))) (fun w=>bs122_4 _ _ _ _ w) (by decide) fun b76=>Jg rfl (Yk (m:=4) (news:= [_,_,_,_]) Un168 ti5 rfl (by decide) rfl rfl hr Jm rfl rfl (by omega) (by unfold maxLen;omega) (by decide) (DelAt.perm (.s (.z))) fun v77 p77 hr77=>Lq (Jd rfl) (Je (Jf (Jo (JJ ?_))))))
      refine ⟨_,[_],[],fun Z w hs=> .tmp rfl (.nil),?_,fun Z w hs=>hs.out (Sk (Sd (Sr))) (fun _ h=>h)⟩
      try simp only [Bp,Bq] at *
      refine ⟨_,?_,rfl,rfl⟩
      unfold encI
      rw [if_neg (by omega),if_neg (by omega),if_neg (by omega),if_pos (by omega)]
      rw [List.length_append,KT]
      exact hr77
     ·refine Jc (Ja (Lq (Jb rfl) (Jg rfl (YB (cs:= [_,_,_]) (.cons rfl (.cons rfl (.cons rfl (.nil)))) (fun w=>bs122_3 _ _ _ w) (by decide) fun b9=>Jg rfl (Yk (m:=3) (news:= [_,_,_]) Un168 ti5 rfl (by decide) rfl rfl hr Jm rfl rfl (by omega) (by unfold maxLen;omega) (by decide) (DelAt.perm (.s (.z))) fun v10 p10 hr10=>Lq (Jd rfl) (Je (Jf (Jo (JJ ?_)))))))))
      refine ⟨_,[_],[],fun Z w hs=> .tmp rfl (.nil),?_,fun Z w hs=>hs.out (Sk (Sd (Sr))) (fun _ h=>h)⟩
      try simp only [Bp,Bq] at *
      refine ⟨_,?_,rfl,rfl⟩
      unfold encI
      rw [if_neg (by omega),if_neg (by omega),if_neg (by omega),if_neg (by omega)]
      rw [List.length_append,KT]
      exact hr10
    ·refine Ln rfl rfl rfl g53 (Ln rfl rfl rfl g53 (Lq (JL rfl g53 rfl) (Lq (Jd rfl) (Je (Jf (Ju rfl rfl (Jc (Ja (Lq (Jb rfl) (Jg rfl (YB (cs:= [_,_,_]) (.cons rfl (.cons rfl (.cons rfl (.nil)))) (fun w=>bs122_3 _ _ _ w) (by decide) fun b9=>Jg rfl (Yk (m:=3) (news:= [_,_,_]) Un168 ti5 rfl (by decide) rfl rfl hr Jm rfl rfl (by omega) (by unfold maxLen;omega) (by decide) (DelAt.perm (.s (.z))) fun v10 p10 hr10=>Lq (Jd rfl) (Je (Jf (Jo (JJ ?_))))))))))))))))
     refine ⟨_,[_],[],fun Z w hs=> .tmp rfl (.nil),?_,fun Z w hs=>hs.out (Sk (Sd (Sr))) (fun _ h=>h)⟩
     try simp only [Bp,Bq] at *
     refine ⟨_,?_,rfl,rfl⟩
     unfold encI
     rw [if_neg (by omega),if_neg (by omega),if_neg (by omega),if_neg (by omega)]
     rw [List.length_append,KT]
     exact hr10
set_option maxRecDepth 10000 in
theorem H0 (v:Value) (us:List Int) (p:Part) (r:Int) (hr:Row 5 1 v us.length (ints .u8 us) p) (hb:us.length≤1073741824):Sp Tryz.prog 125 [v, .int .i32 r] [p] [] (BwP (us++encI r)):=by
 refine Sp.of (n:=16) ⟨_,Tryz.func125,rfl,rfl,rfl,rfl⟩ (Nat.le_of_ble_eq_true rfl) fun Ps As=>Jc (Ja (Lq (Jd rfl) (Je (Jf (Jc (Jc (Ja (Lq (Jb rfl) (Lq (Yh rfl (cv32 _)) (Lq (YS rfl rfl) (Je (Jf (Jy rfl (fun h7=> ?_) (fun h7=> ?_))))))))))))))
 ·refine Jc (Ja (Lq (Jb rfl) (Lq (Jb rfl) (Lq (Yh rfl (cv8 _)) (Jg rfl (KD (cs:= [_]) Un168 ti5 (by decide) (by decide) rfl rfl rfl rfl (by decide) fun b11=>Jg rfl (KH (news:= [_]) Un168 ti5 rfl (by decide) rfl rfl hr Jm rfl rfl (by omega) (by unfold maxLen;omega) (by decide) (DelAt.perm (.s (.z))) fun v12 p12 hr12=>Lq (Jd rfl) (Je (Jf (Jo (Js ?_)))))))))))
  refine ⟨_,[_],[],fun Z w hs=> .tmp rfl (.nil),?_,fun Z w hs=>hs.out (Sk (Sd (Sr))) (fun _ h=>h)⟩
  try simp only [Bp,Bq] at *
  refine ⟨_,?_,rfl,rfl⟩
  unfold encI
  rw [if_pos (by omega)]
  rw [List.length_append,KT]
  exact hr12
 ·refine Jp (Jf (Jc (Ja (Lq (Jb rfl) (Lq (Jb rfl) (Jg rfl (JO (ZU v us p r hr hb (by simpa using h7)) (.cons rfl (.cons rfl (.nil))) (by decide) (.z) Jx fun u3_2 Lo fs hres=> ?_)))))))
  obtain ⟨p15,hr15,rfl,rfl⟩:=hres
  refine Lq (Jd rfl) (Je (Jf (Jo ?_)))
  refine ⟨_,[_],[],fun Z w hs=> .tmp rfl (.nil),?_,fun Z w hs=>hs.out (Sk (Sr)) (fun _ h=>h)⟩
  exact ⟨_,hr15,rfl,rfl⟩
set_option maxRecDepth 10000 in
theorem Jbl (b:Nat) (ad A:Option Addr) (n c:Nat):Sp Tryz.prog 96 [.pointer (some ⟨b,0,none⟩)] [blP b ad (.slice A n c)] [] (fun v Lo fs=>v= .int .i64 n∧Lo= [blP b ad (.slice A n c)] ∧fs= []):=by
 refine Sp.of (n:=8) ⟨_,Tryz.func96,rfl,rfl,rfl,rfl⟩ (Nat.le_of_ble_eq_true rfl) fun Ps As=>Jc (Ja (Lq (Jd rfl) (Je (Jf (Jc (Ja (Lq (Jb rfl) (Lq (JC rfl) (Lq (Jh (o':=1) Un170 rfl Q4 rfl rfl) (Lq (Jj Un168 rfl rfl Jm rfl) (Lq (J2 Un168 rfl) (Lq (Jd rfl) ?_))))))))))))
 refine Je (Jf (Jo ?_))
 refine ⟨_,[_],[],fun Z w hs=> .tmp rfl (.nil),?_,fun Z w hs=>hs.out (Sk (Sr)) (fun _ h=>h)⟩
 exact ⟨rfl,rfl,rfl⟩
set_option maxRecDepth 10000 in
theorem EI (b:Nat) (ad:Option Addr) (v:Value):Sp Tryz.prog 98 [.pointer (some ⟨b,0,none⟩)] [blP b ad v] [] (fun u Lo fs=>u= .tuple #[] ∧Lo= [blP b none (.slice none 0 0)] ∧fs= []):=by
 refine Sp.of (n:=8) ⟨_,Tryz.func98,rfl,rfl,rfl,rfl⟩ (Nat.le_of_ble_eq_true rfl) fun Ps As=>Jc (Ja (Lq (Jb rfl) (Lq (JC rfl) (Lq (Jh (o':=0) Un170 rfl XJ rfl rfl) (Jg rfl (JH XJ rfl rfl rfl (.z) (.z) (Je (Jf (Ja (Lq (Jb rfl) (Lq (JC rfl) (Lq (Jh (o':=1) Un170 rfl Q4 rfl rfl) ?_))))))))))))
 refine Jg rfl (JH Q4 rfl rfl rfl (.s (.z)) (.z) (Je ?_))
 refine ⟨_,[_],[],fun Z w hs=> .nil,?_,fun Z w hs=>hs.out (Sk (Sr)) (fun _ h=>h)⟩
 exact ⟨rfl,rfl,rfl⟩
set_option maxRecDepth 10000 in
theorem bcopy_0 (b:Nat) (v:Value):Sp Tryz.prog 124 [.pointer (some ⟨b,0,none⟩)] [blP b none v] [] (fun u Lo fs=>u= .tuple #[] ∧Lo= [blP b (some ⟨b,0,none⟩) v] ∧fs= []):=by
 refine Sp.of (n:=20) ⟨_,Tryz.func124,rfl,rfl,rfl,rfl⟩ (Nat.le_of_ble_eq_true rfl) fun Ps As=>Jc (Ja (Lq (Jb rfl) (Lq (JC rfl) (Lq (Jh (o':=0) Un170 rfl XJ rfl rfl) (Lq (Jj Un167 rfl rfl Jm rfl) (Lq (KK Un167 rfl rfl (by simp)) (Je (Jf (J3 rfl rfl (Ja (Lq (Jb rfl) (Lq (Jb rfl) ?_))))))))))))
 refine Lq (EO (j:=_) Un167 Un219 rfl (by decide) rfl Jm (Nat.succ_pos _)) (Lq (Zu (Jbv _) rfl) (Lq (GY (j:=_) Un219 Un167 rfl rfl Jm (by kernel_rfl)) (Lq (JC rfl) (Lq (Jh (o':=0) Un170 rfl XJ rfl rfl) (Jg rfl (JH XJ rfl rfl rfl (.z) (.z) (Je ?_)))))))
 refine ⟨_,[_],[],fun Z w hs=> .nil,?_,fun Z w hs=>hs.out (Sk (Sr)) (fun _ h=>h)⟩
 exact ⟨rfl,rfl,rfl⟩
set_option maxRecDepth 10000 in
theorem bcopy_1 (b:Nat) (v:Value):Sp Tryz.prog 124 [.pointer (some ⟨b,0,none⟩)] [blP b (some ⟨b,0,none⟩) v] [] (fun u Lo fs=>u= .tuple #[] ∧Lo= [blP b (some ⟨b,0,none⟩) v] ∧fs= []):=by
 refine Sp.of (n:=20) ⟨_,Tryz.func124,rfl,rfl,rfl,rfl⟩ (Nat.le_of_ble_eq_true rfl) fun Ps As=>Jc (Ja (Lq (Jb rfl) (Lq (JC rfl) (Lq (Jh (o':=0) Un170 rfl XJ rfl rfl) (Lq (Jj Un167 rfl rfl Jm rfl) (Lq (KK Un167 rfl rfl (by simp)) (Je (Jf (Ju rfl rfl (Jc (Ja (Lq (Jb rfl) (Lq (JC rfl) ?_)))))))))))))
 refine Lq (Jh (o':=0) Un170 rfl XJ rfl rfl) (Lq (Jj Un167 rfl rfl Jm rfl) (Lq (Jb rfl) (Lq (ES (j:=_) Un167 rfl rfl rfl) (Je (Jf (Ju rfl rfl (Jp ?_)))))))
 refine ⟨_,[_],[],fun Z w hs=> .nil,?_,fun Z w hs=>hs.out (Sk (Sr)) (fun _ h=>h)⟩
 exact ⟨rfl,rfl,rfl⟩
theorem Jaq (b:Nat) (ad:Option Addr) (v:Value) (h:ad=none∨ad=some ⟨b,0,none⟩):Sp Tryz.prog 124 [.pointer (some ⟨b,0,none⟩)] [blP b ad v] [] (fun u Lo fs=>u= .tuple #[] ∧Lo= [blP b (some ⟨b,0,none⟩) v] ∧fs= []):=by
 rcases h with rfl | rfl
 ·exact bcopy_0 b v
 ·exact bcopy_1 b v
set_option maxRecDepth 10000 in
theorem EH (b:Nat) (ad:Option Addr) (v:Value) (us:List Int) (p:Part) (r:Int) (had:ad=none∨ad=some ⟨b,0,none⟩) (hr:Row 5 1 v us.length (ints .u8 us) p) (hb:us.length≤1073741824):Sp Tryz.prog 101 [.pointer (some ⟨b,0,none⟩), .int .i32 r] [blP b ad v,p] [] (fun u Lo fs=> ∃v' p',Row 5 1 v' (us++encI r).length (ints .u8 (us++encI r)) p'∧Lo= [blP b (some ⟨b,0,none⟩) v',p'] ∧fs= []):=by
 have hel:=VT r
 obtain ⟨Av,cv,rfl⟩:=hr.slice
 refine Sp.of (n:=30) ⟨_,Tryz.func101,rfl,rfl,rfl,rfl⟩ (Nat.le_of_ble_eq_true rfl) fun Ps As=>Jc (Ja (Lq (Jd rfl) (Lq (Jd rfl) (Je (Jf (Jc (Ja (Lq (Jb rfl) (Jg rfl (JO (Jaq b ad _ had) (.cons rfl (.nil)) (by decide) (.z) Jx fun u1_1 Lo fs hres=> ?_))))))))))
 obtain ⟨rfl,rfl,rfl⟩:=hres
 refine Je (Jf (Jc (Ja (Lq (Jb rfl) (Lq (JC rfl) (Lq (Jh (o':=1) Un170 rfl Q4 rfl rfl) (Lq (Jj Un168 rfl rfl Jm rfl) (Lq (J2 Un168 rfl) (Lq (Jd rfl) (Je (Jf (Jc (Ja (Lq (Jb rfl) (Lq (Jb rfl) ?_)))))))))))))))
 refine Lq (JC rfl) (Lq (Jh (o':=1) Un170 rfl Q4 rfl rfl) (Lq (Jj Un168 rfl rfl Jm rfl) (Lq (Jb rfl) (Jg rfl (JO (H0 _ us p r hr hb) (.cons rfl (.cons rfl (.nil))) (by decide) (.s (.z)) Jx fun u3_6 Lo fs hres=> ?_)))))
 obtain ⟨p2,hr2,rfl,rfl⟩:=hres
 obtain ⟨A2,c2,rfl⟩:=hr2.slice
 refine Lq (JC rfl) (Lq (Jh (o':=1) Un170 rfl Q4 rfl rfl) (Jg rfl (JH Q4 rfl rfl rfl (.s (.z)) (.s (.z)) (Je (Jf (JF [(6,_),(5,_),(4,_),(0,_)] (.cons rfl (.cons rfl (.cons rfl (.cons rfl (.nil _))))) (Jc (JA (.z) (JA (.s (.z)) (Ja (Lq (Jb rfl) ?_)))))))))))
 refine Lq (JC rfl) (Lq (Jh (o':=1) Un170 rfl Q4 rfl rfl) (Lq (Jj Un168 rfl rfl Jm rfl) (Lq (J2 Un168 rfl) (Lq (Jb rfl) (Lq (KO rfl rfl rfl) (Lq (Jd rfl) (Lq (Jd rfl) (Je (Jf (Jo ?_))))))))))
 refine ⟨_,[_,_],[],fun Z w hs=> .tmp rfl (.tmp rfl (.nil)),?_,fun Z w hs=>hs.out (Sk (Sk (Sr))) (fun _ h=>h)⟩
 exact ⟨_,_,hr2,rfl,rfl⟩
set_option maxRecDepth 10000 in
theorem ZQ (b:Nat) (ad:Option Addr) (v:Value) (us:List Int) (p:Part) (hr:Row 5 1 v us.length (ints .u8 us) p) (hb:us.length≤1073741824) (hby:By us) (hne:us≠ []):Sp Tryz.prog 97 [.pointer (some ⟨b,0,none⟩)] [blP b ad v,p] [] (fun u Lo fs=>u= .string (strOf us)∧Lo= [blP b ad v] ∧fs= []):=by
 have hl0:=List.length_pos_iff.2 hne
 obtain ⟨hl,⟨_,h0,_⟩ | ⟨bb,cap,jk,rfl,rfl,h1,h2,h3⟩⟩:=hr
 ·omega
 refine Sp.of (n:=14) ⟨_,Tryz.func97,rfl,rfl,rfl,rfl⟩ (Nat.le_of_ble_eq_true rfl) fun Ps As=>Jc (Ja (Lq (Jd rfl) (Je (Jf (Jc (JG _ _ [] (.c 0 0 (.c 1 0 (.c 2 0 (.c 3 0 (.c 4 0 (.c 5 0 (.c 6 0 (.c 7 0 (.c 8 0 (.c 9 0 (.c 10 2 (.c 11 0 .nil)))))))))))) mixed (fun _ _ _ _ h=>h) (Sk (Sd (Sr))) (fun _ h=>h) (by kernel_rfl) (by decide) fun ws Z0=>Qe rfl (Jb rfl) (Qe rfl (JC rfl) (Qe rfl (Jh (o':=1) Un170 rfl Q4 rfl rfl) (Qe rfl (Jj Un168 rfl rfl Jm rfl) (Qe rfl (Eq (by omega) rfl) ?_))))))))))
 refine Qe rfl (Jb rfl) (Qe rfl (JC rfl) (Qe rfl (Jh (o':=1) Un170 rfl Q4 rfl rfl) (Qe rfl (Jj Un168 rfl rfl Jm rfl) (Qe rfl (J2 Un168 rfl) (Jz rfl rfl (Xp (e:=5) (T:=5) Un201 rfl hby hne (by omega) rfl rfl (by decide) (.s (.z)) ?_))))))
 refine ⟨⟨(Sk (Sr)),Mm0⟩,?_⟩
 refine Qe rfl (Jd rfl) (JN (JM (Jf (Jo ?_))))
 refine ⟨_,[_],[],fun Z w hs=> .tmp rfl (.nil),?_,fun Z w hs=>hs.out (Sk (Sr)) Tt1⟩
 exact ⟨rfl,rfl,rfl⟩
end Go.Proofs.YtgedhdmpiciikaaGreatDoor
