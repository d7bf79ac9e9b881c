/- Part of the proof that this claim's law answers true, whatever its arguments. Condition: the laid variables hold what their initialisers lay (the card ties that to the program's text). -/
import Derived.Test.YtggbpikbmnkiaaaGreatDoorQB
set_option maxRecDepth 10000
set_option linter.unusedVariables false
set_option linter.unusedSimpArgs false
open Go.Proofs.Tryz renaming underlying3→Un3,underlying4→Un4,underlying9→Un9,underlying20→Un20,underlying21→Un21,underlying22→Un22,underlying24→Un24,underlying25→Un25,underlying29→Un29,underlying31→Un31,underlying32→Un32,underlying34→Un34,underlying36→Un36,underlying37→Un37,underlying38→Un38,underlying40→Un40,underlying43→Un43,underlying44→Un44,underlying45→Un45,underlying47→Un47,underlying49→Un49,underlying53→Un53,underlying58→Un58,underlying60→Un60,underlying63→Un63,underlying74→Un74,underlying77→Un77,underlying83→Un83,underlying85→Un85,underlying113→Un113,underlying115→Un115,underlying117→Un117,underlying120→Un120,underlying122→Un122,underlying134→Un134,underlying135→Un135,underlying137→Un137,underlying141→Un141,underlying148→Un148,underlying150→Un150,underlying153→Un153,underlying155→Un155,underlying159→Un159,underlying163→Un163,underlying166→Un166,underlying169→Un169,underlying171→Un171,underlying172→Un172,underlying174→Un174,underlying193→Un193,underlying199→Un199,underlying200→Un200,underlying202→Un202,underlying209→Un209,underlying222→Un222
namespace Go.GW
open Go
theorem Ks {P:Program} {n:Dm} {R:Post} {l:Fr} {Ps Ps':List Part} {As:List Fact} {ops:Array Oper} {ws:World} {Z0:Nat→Prop} {Ps0:List Part} {r:OT} {p:Part} (hd:DelAt Ps p Ps') (k:WF P n ops R ws Z0 Ps0 r l (p::Ps') As):WF P n ops R ws Z0 Ps0 r l Ps As:=fun Z w a hs ha=>k Z w a (hs.pick hd) ha
end Go.GW
namespace Go.Proofs.YtggbpikbmnkiaaaGreatDoor
open Go Go.GW
theorem decode_le4 (s:ByteArray) (p:Nat):(Utf8.decode s p).2≤4:=by
 unfold Utf8.decode
 simp only
 repeat' split
 all_goals (show _≤4;first | exact (by decide:1≤4) | exact (by decide:2≤4) | exact (by decide:3≤4) | exact (by decide:4≤4))
theorem runes_size (s:ByteArray): ∀(m p:Nat),s.size-p≤m→s.size-p≤4*(runesAt s p).length
 | m,p,hm=>by
  by_cases hp:p<s.size
  ·rw [runesAt,dif_pos hp]
   have h1:=decode_pos s p
   have h2:=decode_le4 s p
   cases m with
   | zero=>omega
   | succ m=>
    have:=runes_size s m (p+(Utf8.decode s p).2) (by omega)
    simp only [List.length_cons];omega
  ·omega
theorem Right.text {w:Int} {o:GOp} (h:Right w o):o.text.size≤1024:=by
 by_cases hk:o.kind=1
 ·have h3:=YD.1 ((check_ins hk h.w0).1 h.ck).2
  have h4:=Y7 h3.1
  have h5:=runes_size o.text o.text.size 0 (by omega)
  unfold Kq at h4
  omega
 ·have hh:=(h.head h.w0).2.2
  unfold extraF at hh
  have h6:(o.text==⟨#[]⟩)=true:=by
   cases hx:o.text==⟨#[]⟩ with
   | true=>rfl
   | false=>exfalso;apply hh;simp [hk,hx]
  rw [H9 h6];exact Nat.zero_le _
structure DI (n:Nat) (H:Hist) (X:List Ce):Prop where
 made:Made n H X
 le:n≤900
theorem DI.hv {n:Nat} {H:Hist} {X:List Ce} (h:DI n H X):HV H:=(h.made.inv (by have:=h.le;omega)).1
theorem DI.rule {n:Nat} {H:Hist} {X:List Ce} (h:DI n H X):Rule H X:=(h.made.inv (by have:=h.le;omega)).2.1
theorem DI.len {n:Nat} {H:Hist} {X:List Ce} (h:DI n H X):H.ents.length=n:=(h.made.inv (by have:=h.le;omega)).2.2
theorem DI.tot0 {n:Nat} {H:Hist} {X:List Ce} (h:DI n H X):0≤H.total∧H.total≤60000:=by
 have h1:=h.hv
 have h2:=sumO_nonneg h1.ctx
 rw [h1.tot]
 exact ⟨h2,by rw [←h1.tot];exact h1.le⟩
theorem DI.row {n:Nat} {H:Hist} {X:List Ce} (h:DI n H X):(X.length:Int)=H.total:=h.rule.len
theorem DI.zero:DI 0 ⟨[],0⟩ [] :=⟨.zero,by decide⟩
theorem DI.room {n:Nat} {H:Hist} {X:List Ce} (h:DI n H X) (i:Nat):0≤K6 H i∧K6 H i≤H.total:=by
 obtain ⟨s1,s2,s3,s4⟩:=h.hv.split i
 have h2:=sumO_nonneg s2
 have h3:=sumO_nonneg s1
 omega
structure TkD (H:Hist) (X:List Ce) (n i:Nat) (o:GOp) (H2:Hist) (eff:GOp):Prop where
 put:putF H i o=(H2,eff,0)
 len:H2.ents.length=n+1
 app:eff.kind≠0→EffOk eff X
 noEff:eff.kind=0→eff=zeroOp∧o.kind=4
 text:eff.text.size≤o.text.size
 rs:eff.rs.length≤60001
 fit:Fit o
 tx:o.text.size≤1024
 next:n<900→DI (n+1) H2 (JX eff X)
theorem DI.take {n:Nat} {H:Hist} {X:List Ce} (h:DI n H X) {i:Nat} {o:GOp} (g:Good H i o): ∃H2 eff,TkD H X n i o H2 eff:=by
 obtain ⟨es,nw,eff,p⟩:=put_good h.hv g
 have hp:=p.put
 have hv2:=put_hv h.hv g p
 have hrow:=put_row h.hv g p h.rule (by rw [h.len];have:=h.le;omega)
 have htx:=g.right.text
 refine ⟨_,eff,hp,?_,hrow.1,hrow.2.1,?_,?_,?_,htx,fun hn=>⟨?_,hn⟩⟩
 ·have:=p.length h.hv g
  rw [hp,h.len] at this;exact this
 ·rcases g.right.kind with hk | hk | hk
  ·rw [(p.ins hk).2.2];exact Nat.le_refl _
  ·rw [(p.hide hk).2.2];exact Nat.zero_le _
  ·rw [(p.status hk).2.2]
   rcases turned_cases H i o with e | ⟨k,e,_,_,_,_,h5⟩
   ·rw [e];exact Nat.zero_le _
   ·rw [h5];exact Nat.zero_le _
 ·obtain ⟨c1,c2,c3,c4,c5⟩:=cross_good h.hv g
  have ht:=h.tot0
  have hl:=h.le
  rcases g.right.kind with hk | hk | hk
  ·rw [(p.ins hk).2.2];exact Nat.zero_le _
  ·rw [(p.hide hk).2.2]
   obtain ⟨t1,t2⟩:=c2.cov (c4.kind.trans hk) (by omega)
   have:=t2.len (by omega)
   show (JV o (H.ops.drop i)).1.rs.length≤_
   omega
  ·rw [(p.status hk).2.2]
   rcases turned_cases H i o with e | ⟨k,e,_,h2,_,_,h5⟩
   ·rw [e];exact Nat.zero_le _
   ·rw [h5]
    have:=(h.hv.pls e (List.mem_of_getElem? h2)).len (by omega)
    show e.now.length≤_
    omega
 ·have htt:=h.tot0
  have hr:=h.room i
  have hrs:o.rs.length≤4398046511104:=by
   by_cases hk:o.kind=2
   ·have:=(g.right.cov hk (by omega)).2.len (by omega)
    omega
   ·rw [g.right.noRs hk];exact Nat.zero_le _
  have hat:0≤o.at_∧o.at_≤65535:=by
   rcases g.right.kind with hk | hk | hk
   ·have:=g.right.ins hk;omega
   all_goals
    have hh:=(g.right.head g.right.w0).2.2
    have h0:o.at_=0:=by
     unfold extraF at hh
     have h1:o.kind≠1:=by omega
     rcases Int.lt_trichotomy o.at_ 0 with h2 | h2 | h2
     ·exfalso;apply hh;have:o.at_≠0:=by omega
      simp [h1,this]
     ·exact h2
     ·exfalso;apply hh;have:o.at_≠0:=by omega
      simp [h1,this]
    omega
  exact ⟨by omega,hrs,by omega,by omega⟩
 ·have:=Made.step h.made g
  rw [hp] at this
  exact this
theorem DI.ops {n:Nat} {H:Hist} {X:List Ce} (h:DI n H X) {i:Nat} {o:GOp} (g:Good H i o):(putF H i o).1.ops=H.ops.take i++([o] ++(JV o (H.ops.drop i)).2):=h.made.ops (by have:=h.le;omega) g
theorem Eh (c n:Int):Sp Tryz.prog 115 [.agg #[.int .i64 c, .int .i64 n]] [] [] (Is (.bool (decide (1≤c∧c≤8∧1≤n∧n≤1024)))):=by
 refine Sp.of (n:=21) ⟨_,Tryz.func115,V,V,V,V⟩ (Nat.le_of_ble_eq_true V) fun Ps As=>Jc (Ja (Jg V (J3 (cs:= [_,_]) V V (by decide) fun b1=>Lq (Jd V) (Je (Jf (Jc (Ja (Lq (Yn (o':=0) Un43 ti3 V V (by decide) (by decide) V) (Lq (Jk Un3 V V Jn V) (Lq (Yc V V) (Lq (Jb V) (J1 (t:=6) V (fun g6=> ?_) (fun g6=> ?_)))))))))))))
 ·refine Lg V V V g6 (Yn (o':=0) Un43 ti3 V V (by decide) (by decide) V) (Lg V V V g6 (Jk Un3 V V Jn V) (Lg V V V g6 (YQ V V) (Lq (JO V g6 V) (Lq (Jb V) (J1 (t:=11) V (fun g11=> ?_) (fun g11=> ?_))))))
  ·refine Lg V V V g11 (Yn (o':=1) Un43 ti3 V V (by decide) (by decide) V) (Lg V V V g11 (Jk Un3 V V Jn V) (Lg V V V g11 (Yc V V) (Lq (JO V g11 V) (Lq (Jb V) (J1 (t:=16) V (fun g16=> ?_) (fun g16=> ?_))))))
   ·refine Lg V V V g16 (Yn (o':=1) Un43 ti3 V V (by decide) (by decide) V) (Lg V V V g16 (Jk Un3 V V Jn V) (Lg V V V g16 (YQ V V) (Lq (JO V g16 V) (Lq (Jd V) (Je (Jf (JG [(2,_)] (.m1 V) (Jp ?_))))))))
    refine ⟨_,[],[],fun Z w hs=> .tmp V .nil,?_,fun Z w hs=>hs.out (Sd (Sr)) (fun _ h=>h)⟩
    try simp only [Bp,Bq] at *
    exact ⟨congrArg Value.bool (by first | exact (decide_eq_true (by omega)).symm | exact (decide_eq_false (by omega)).symm | exact decide_eq_decide.2 (by omega) | (rw [Bool.eq_iff_iff];simp;omega) | (rw [Bool.eq_iff_iff];simp;done)),V,V⟩
   ·refine Ln V V V g16 (Ln V V V g16 (Ln V V V g16 (Lq (JL V g16 V) (Lq (Jd V) (Je (Jf (JG [(2,_)] (.m1 V) (Jp ?_))))))))
    refine ⟨_,[],[],fun Z w hs=> .tmp V .nil,?_,fun Z w hs=>hs.out (Sd (Sr)) (fun _ h=>h)⟩
    try simp only [Bp,Bq] at *
    exact ⟨congrArg Value.bool (by first | exact (decide_eq_true (by omega)).symm | exact (decide_eq_false (by omega)).symm | exact decide_eq_decide.2 (by omega) | (rw [Bool.eq_iff_iff];simp;omega) | (rw [Bool.eq_iff_iff];simp;done)),V,V⟩
  ·refine Ln V V V g11 (Ln V V V g11 (Ln V V V g11 (Lq (JL V g11 V) (Lq (Jb V) (Ln V V V V (Ln V V V V (Ln V V V V (Lq (JL V V V) (Lq (Jd V) ?_)))))))))
   refine Je (Jf (JG [(2,_)] (.m1 V) (Jp ?_)))
   refine ⟨_,[],[],fun Z w hs=> .tmp V .nil,?_,fun Z w hs=>hs.out (Sd (Sr)) (fun _ h=>h)⟩
   try simp only [Bp,Bq] at *
   exact ⟨congrArg Value.bool (by first | exact (decide_eq_true (by omega)).symm | exact (decide_eq_false (by omega)).symm | exact decide_eq_decide.2 (by omega) | (rw [Bool.eq_iff_iff];simp;omega) | (rw [Bool.eq_iff_iff];simp;done)),V,V⟩
 ·refine Ln V V V g6 (Ln V V V g6 (Ln V V V g6 (Lq (JL V g6 V) (Lq (Jb V) (Ln V V V V (Ln V V V V (Ln V V V V (Lq (JL V V V) (Lq (Jb V) ?_)))))))))
  refine Ln V V V V (Ln V V V V (Ln V V V V (Lq (JL V V V) (Lq (Jd V) (Je (Jf (JG [(2,_)] (.m1 V) (Jp ?_))))))))
  refine ⟨_,[],[],fun Z w hs=> .tmp V .nil,?_,fun Z w hs=>hs.out (Sd (Sr)) (fun _ h=>h)⟩
  try simp only [Bp,Bq] at *
  exact ⟨congrArg Value.bool (by first | exact (decide_eq_true (by omega)).symm | exact (decide_eq_false (by omega)).symm | exact decide_eq_decide.2 (by omega) | (rw [Bool.eq_iff_iff];simp;omega) | (rw [Bool.eq_iff_iff];simp;done)),V,V⟩
theorem GS (n:Int):Sp Tryz.prog 108 [.int .i64 n] [] [] (Is (.bool (decide (n<0∨n>1048576)))):=by
 refine Sp.of (n:=9) ⟨_,Tryz.func108,V,V,V,V⟩ (Nat.le_of_ble_eq_true V) fun Ps As=>Jc (Ja (Lq (Jd V) (Je (Jf (Jc (Ja (Lq (Jb V) (Lq (Km V V) (Lq (Jb V) (J1 (t:=5) V (fun g5=> ?_) (fun g5=> ?_)))))))))))
 ·refine Ln V V V g5 (Ln V V V g5 (Lq (JO V g5 V) (Lq (Jd V) (Je (Jf (Jp ?_))))))
  refine ⟨_,[],[],fun Z w hs=> .tmp V .nil,?_,fun Z w hs=>hs.out (Sr) (fun _ h=>h)⟩
  try simp only [Bp,Bq] at *
  exact ⟨congrArg Value.bool (by first | exact (decide_eq_true (by omega)).symm | exact (decide_eq_false (by omega)).symm | exact decide_eq_decide.2 (by omega) | (rw [Bool.eq_iff_iff];simp;omega) | (rw [Bool.eq_iff_iff];simp;done)),V,V⟩
 ·refine Lg V V V g5 (Jb V) (Lg V V V g5 (Kl V V) (Lq (JL V g5 V) (Lq (Jd V) (Je (Jf (Jp ?_))))))
  refine ⟨_,[],[],fun Z w hs=> .tmp V .nil,?_,fun Z w hs=>hs.out (Sr) (fun _ h=>h)⟩
  try simp only [Bp,Bq] at *
  exact ⟨congrArg Value.bool (by first | exact (decide_eq_true (by omega)).symm | exact (decide_eq_false (by omega)).symm | exact decide_eq_decide.2 (by omega) | (rw [Bool.eq_iff_iff];simp;omega) | (rw [Bool.eq_iff_iff];simp;done)),V,V⟩
def bndV (A:Option Addr) (c:Nat) (xs:List Rg):Value:=if xs.length>32768 then .tuple #[.slice none 0 0, .int .i64 21] else .tuple #[.slice A xs.length c, .int .i64 0]
theorem G5 (A:Option Addr) (c:Nat) (xs:List Rg):Sp Tryz.prog 110 [.slice A xs.length c] [] [] (Is (bndV A c xs)):=by
 refine Sp.of (n:=8) ⟨_,Tryz.func110,V,V,V,V⟩ (Nat.le_of_ble_eq_true V) fun Ps As=>Jc (Ja (Lq (Jd V) (Lq (Jd V) (Je (Jf (Jc (Jc (Ja (Lq (Jb V) (Lq (J4 Un45 V) (Lq (Kl V V) (Je (Jf (Jz V (fun h6=> ?_) (fun h6=> ?_)))))))))))))))
 ·refine Jc (Ja (Lq (Jd V) (Lq (Jd V) (Je (Jf (Jp (Jt ?_)))))))
  refine ⟨_,[],[],fun Z w hs=> .tmp V (.tmp V .nil),?_,fun Z w hs=>hs.out (Sr) (fun _ h=>h)⟩
  try simp only [Bp,Bq] at *
  unfold bndV
  first | (rw [if_pos (by omega)];exact ⟨rfl,rfl,rfl⟩) | (rw [if_neg (by omega)];exact ⟨rfl,rfl,rfl⟩)
 ·refine Jo (Jf (Jc (Ja (Lq (Jb V) (Lq (Jd V) (Lq (Jd V) (Je (Jf (Jp ?_)))))))))
  refine ⟨_,[],[],fun Z w hs=> .tmp V (.tmp V .nil),?_,fun Z w hs=>hs.out (Sr) (fun _ h=>h)⟩
  try simp only [Bp,Bq] at *
  unfold bndV
  first | (rw [if_pos (by omega)];exact ⟨rfl,rfl,rfl⟩) | (rw [if_neg (by omega)];exact ⟨rfl,rfl,rfl⟩)
theorem bd25Xw1 (w:World):(Instr.build 43 #[]).run Tryz.prog w= .ok (.agg #[.int .i64 0, .int .i64 0]) w:=by kernel_rfl
theorem Ja4 (a b:GOp) (Aa Ab:Option Addr) (ca cb:Nat):Sp Tryz.prog 143 [opV a Aa ca,opV b Ab cb] [] [] (Is (.bool (decide (a.c=b.c∧a.n=b.n∧ ¬(a.c=0∧a.n=0))))):=by
 refine Sp.of (n:=19) ⟨_,Tryz.func143,V,V,V,V⟩ (Nat.le_of_ble_eq_true V) fun Ps As=>Jc (Ja (Jg V (J3 (cs:= [_,_,_,_,_,_,_,_,_]) V V (by decide) fun b2=>Jg V (J3 (cs:= [_,_,_,_,_,_,_,_,_]) V V (by decide) fun b3=>Lq (Jd V) (Je (Jf (Jc (Ja (Lq (Jh (o':=0) Un60 V KM V V) (Lq (Jh (o':=0) Un58 V JW V V) (Lq (Js (vs:= [_,_]) Un43 V JW V (Jj (Jn)) V V) (Lq (Jh (o':=0) Un60 V KM V V) ?_))))))))))))
 refine Lq (Jh (o':=0) Un58 V JW V V) (Lq (Js (vs:= [_,_]) Un43 V JW V Jn V V) (Lq (YS V V (eq43 _ _ _ _)) (Lq (Jb V) (J1 (t:=12) V (fun g12=> ?_) (fun g12=> ?_)))))
 ·refine Lg V V V g12 (Jh (o':=0) Un60 V KM V V) (Lg V V V g12 (Jh (o':=0) Un58 V JW V V) (Lg V V V g12 (Js (vs:= [_,_]) Un43 V JW V (Jj (Jn)) V V) (Lg V V V g12 (JY .nil (bd25Xw1)) (Lg V V V g12 (YR V V (eq43 _ _ _ _)) (Lq (JO V g12 V) (Lq (Jd V) (Je (Jf (JG [(4,_)] (.m1 V) (Jp ?_))))))))))
  refine ⟨_,[],[],fun Z w hs=> .tmp V .nil,?_,fun Z w hs=>hs.out (Sd2 (Sr)) (fun _ h=>h)⟩
  try simp only [Bp,Bq] at *
  exact ⟨congrArg Value.bool (by first | exact (decide_eq_true (by omega)).symm | exact (decide_eq_false (by omega)).symm | exact decide_eq_decide.2 (by omega) | (rw [Bool.eq_iff_iff];simp;omega) | (rw [Bool.eq_iff_iff];simp;done)),V,V⟩
 ·refine Ln V V V g12 (Ln V V V g12 (Ln V V V g12 (Ln V V V g12 (Ln V V V g12 (Lq (JL V g12 V) (Lq (Jd V) (Je (Jf (JG [(4,_)] (.m1 V) (Jp ?_))))))))))
  refine ⟨_,[],[],fun Z w hs=> .tmp V .nil,?_,fun Z w hs=>hs.out (Sd2 (Sr)) (fun _ h=>h)⟩
  try simp only [Bp,Bq] at *
  exact ⟨congrArg Value.bool (by first | exact (decide_eq_true (by omega)).symm | exact (decide_eq_false (by omega)).symm | exact decide_eq_decide.2 (by omega) | (rw [Bool.eq_iff_iff];simp;omega) | (rw [Bool.eq_iff_iff];simp;done)),V,V⟩
theorem YU (o:GOp) (A:Option Addr) (c:Nat) (hl:o.rs.length≤4398046511104):Sp Tryz.prog 66 [opV o A c] [] [RdF rgD A c o.rs] (fun v Lo fs=> ∃A' c',v=opV o A' c'∧Lo= [] ∧fs= [RdF rgD A' c' o.rs]):=by
 refine Sp.of (n:=8) ⟨_,Tryz.func66,V,V,V,V⟩ (Nat.le_of_ble_eq_true V) fun Ps As=>Jc (Ja (Jg V (J3 (cs:= [_,_,_,_,_,_,_,_,_]) V V (by decide) fun b1=>Jg V (Jw (cs:= [_,_,_,_,_,_,_,_,_]) JA V (by decide) fun b2=>Je (Jf (Jc (Ja (Lq (Jh (o':=5) Un60 V K3 V V) (Lq (Jk Un45 V V (Jj (Jn)) V) (Xa (Jg V (YM (e:=rgD) (ys:=o.rs) Un45 Kf V (by decide) V V (Row.nil _ _) Mm0 (by simp only [Nat.zero_add];omega) (by unfold maxLen;omega) (by decide) (List.Perm.refl _) fun v5 p5 cs5 hr5=>QV (e:=rgD) (css:=cs5) hr5 .z (by simp) Mm0 fun A5 c5 e5=> ?_))))))))))))
 subst e5
 refine Lq (Jh (o':=5) Un60 V K3 V V) (Jg V (JN K3 V V V .z5 .z1 (Je (Jf (Jc (Ja (Lq (Js (vs:= [_,_,_,_,_,_,_,_,_]) Un60 V JA V (Jj (Jn)) V V) (Jg V (Jq (cs':= [_,_,_,_,_,_,_,_,_]) (vs:= [_,_,_,_,_,_,_,_,_]) JA V V V V V (Nat.le_of_ble_eq_true V) .z (Je (Jf (Jp ?_))))))))))))
 refine ⟨_,[],[RdF rgD A5 c5 o.rs],fun Z w hs=>JT hs Un60 V JA V Jn V .nil,?_,fun Z w hs=>hs.out (Sd2 (Sr)) (Jl Mm0 Tt2)⟩
 exact ⟨A5,c5,V,V,V⟩
theorem add_1 (v:Value) (xs:List Rg) (p:Part) (lo hi:Int) (hr:Row 134 2 v xs.length (rgs xs) p) (h:hi≤lo):Sp Tryz.prog 109 [v, .int .i64 lo, .int .i64 hi] [p] [] (fun v' Lo fs=> ∃p',Row 134 2 v' (addF xs lo hi).length (rgs (addF xs lo hi)) p'∧Lo= [p'] ∧fs= []):=by
 refine Sp.of (n:=46) ⟨_,Tryz.func109,V,V,V,V⟩ (Nat.le_of_ble_eq_true V) fun Ps As=>Jc (Ja (Lq (Jd V) (Je (Jf (Jc (Jc (Ja (Lq (Jb V) (Lq (Jb V) (Lq (Yc V V) (Je (Jf (JS V (by simpa using h) (Jc (Ja ?_)))))))))))))))
 refine Lq (Jb V) (Lq (Jd V) (Je (Jf (Jp (Jt ?_)))))
 refine ⟨_,[p],[],fun Z w hs=> .tmp V .nil,?_,fun Z w hs=>hs.out (Sk (Sr)) (fun _ h=>h)⟩
 exact ⟨p,by rw [VU h];exact hr,V,V⟩
theorem bd37_0_1Xw3 (x0_:Int) (x1_:Int) (w:World):(Instr.build 134 #[(0, .int .i64 x0_),(1, .int .i64 x1_)]).run Tryz.prog w= .ok (.agg #[.int .i64 x0_, .int .i64 x1_]) w:=by kernel_rfl
theorem add_2 (v:Value) (p:Part) (lo hi:Int) (hr:Row 134 2 v 0 (rgs []) p) (h: ¬hi≤lo):Sp Tryz.prog 109 [v, .int .i64 lo, .int .i64 hi] [p] [] (fun v' Lo fs=> ∃p',Row 134 2 v' (addF [] lo hi).length (rgs (addF [] lo hi)) p'∧Lo= [p'] ∧fs= []):=by
 obtain ⟨A,cap,rfl⟩:=hr.slice
 refine Sp.of (n:=46) ⟨_,Tryz.func109,V,V,V,V⟩ (Nat.le_of_ble_eq_true V) fun Ps As=>Jc (Ja (Lq (Jd V) (Je (Jf (Jc (Jc (Ja (Lq (Jb V) (Lq (Jb V) (Lq (Yc V V) (Je (Jf (Ju V (by simpa using h) (Jo (Jf (Jc (Jc (Ja ?_))))))))))))))))))
 refine Lq (Jb V) (Lq (J4 Un45 V) (Lq (Jd V) (Je (Jf (Jc (Ja (Lq (Jb V) (Lq (Kl V V) (Lq (Jb V) (Ln V V V (by simp) (Ln V V V (by simp) (Ln V V V (by simp) ?_))))))))))))
 refine Ln V V V (by simp) (Ln V V V (by simp) (Ln V V V (by simp) (Ln V V V (by simp) (Ln V V V (by simp) (Lq (JL V (by simp) V) (Je (Jf (JG [(25,_),(7,_),(6,_),(0,_),(1,_),(2,_)] (.m6 V V V V V V) (Ju V V (Jo (Jf (Jc (Ja (Lq (Jb V) ?_))))))))))))))
 refine Lq (Jb V) (Lq (Jb V) (Lq (JY (.n2 V V) (bd37_0_1Xw3 _ _)) (Jg V (KF (cs:= [_,_]) Un45 Kf (by decide) (by decide) V V V V (by decide) fun b44=>Jg V (KK (news:= [_,_]) Un45 Kf V (by decide) V V hr Jn V V (by omega) (by unfold maxLen;omega) (by decide) (DelAt.perm .z1) fun v45 p45 hr45=>Lq (Jd V) (Je (Jf (Jp ?_))))))))
 refine ⟨_,[p45],[],fun Z w hs=> .tmp V .nil,?_,fun Z w hs=>hs.out (Sk (Sd (Sr))) (fun _ h=>h)⟩
 exact ⟨p45,by rw [VI h,Vd];exact hr45,V,V⟩
theorem add_3 (v:Value) (ys:List Rg) (r:Rg) (p:Part) (lo hi:Int) (hr:Row 134 2 v (ys++ [r]).length (rgs (ys++ [r])) p) (hb:ys.length≤1000000) (h: ¬hi≤lo) (hj:lo≤r.hi):Sp Tryz.prog 109 [v, .int .i64 lo, .int .i64 hi] [p] [] (fun v' Lo fs=> ∃p',Row 134 2 v' (addF (ys++ [r]) lo hi).length (rgs (addF (ys++ [r]) lo hi)) p'∧Lo= [p'] ∧fs= []):=by
 have hn:(ys++ [r]).length=ys.length+1:=by simp
 obtain ⟨hlen,⟨_,h0,_⟩ | ⟨b,cap,jk,rfl,rfl,h1,h2,h3⟩⟩:=hr
 ·omega
 have hcs:(rgs (ys++ [r])++jk).length=((ys++ [r]).length)*2+jk.length:=by rw [List.length_append,hlen]
 have hix:((((ys++ [r]).length:Nat):Int)-1).toNat=ys.length:=by omega
 refine Sp.of (n:=46) ⟨_,Tryz.func109,V,V,V,V⟩ (Nat.le_of_ble_eq_true V) fun Ps As=>Jc (Ja (Lq (Jd V) (Je (Jf (Jc (Jc (Ja (Lq (Jb V) (Lq (Jb V) (Lq (Yc V V) (Je (Jf (Ju V (by simpa using h) (Jo (Jf (Jc (Jc (Ja ?_))))))))))))))))))
 refine Lq (Jb V) (Lq (J4 Un45 V) (Lq (Jd V) (Je (Jf (Jc (Ja (Lq (Jb V) (Lq (Kl V V) (Lq (Jb V) (Lg V V V (by simp) (Jb V) (Lg V V V (by simp) (Jb V) (Lg V V V (by simp) (KG V V (wr64 (by omega))) ?_))))))))))))
 refine Lg V V V (by simp) (Yl Un45 Kf V V (by omega) (by omega)) (Lg V V V (by simp) (Jh (o':=_+1) Un134 V ti3 V V) (Lg V V V (by simp) (Jk Un3 V V Jn (by rw [hix];exact rgs_last ys r jk)) (Lg V V V (by simp) (Jb V) (Lg V V V (by simp) (Yc V V) (Lq (JO V (by simp) V) (Je (Jf (JG [(25,_),(7,_),(6,_),(0,_),(1,_),(2,_)] (.m6 V V V V V V) (JS V (by simpa using hj) (Jc (Ja ?_)))))))))))
 refine Lq (Jb V) (Lq (Jb V) (Lq (KG V V (wr64 (by omega))) (Lq (Jb V) (Lq (Jb V) (Lq (KG V V (wr64 (by omega))) (Lq (Yl Un45 Kf V V (by omega) (by omega)) (Lq (Jh (o':=_+1) Un134 V ti3 V V) (Lq (Jk Un3 V V Jn (by rw [hix];exact rgs_last ys r jk)) (Lq (Jb V) ?_)))))))))
 refine Lq (Vz V V) (Lq (Yl Un45 Kf V V (by omega) (by omega)) (Lq (Jh (o':=_+1) Un134 V ti3 V V) (Jg V (Yf ti3 V V V (by rw [hcs,hix];omega) .z (Je (Jf (JG [(6,_),(0,_),(1,_),(2,_)] (.m4 V V V V) (Jc (Ja (Lq (Jb V) (Lq (Jd V) (Je (Jf (Jp (Jt ?_)))))))))))))))
 refine ⟨_,[_],[],fun Z w hs=> .tmp V .nil,?_,fun Z w hs=>hs.out (Sk (Sr)) (fun _ h=>h)⟩
 refine ⟨_,?_,V,V⟩
 rw [QU h hj,hix,Hz,show (ys++ [r]).length=(ys++ [(⟨r.lo,max r.hi hi⟩:Rg)]).length from by simp]
 refine ⟨Ym _, .inr ⟨b,cap,jk,V,V,?_,by simpa using h2,h3⟩⟩
 rw [List.length_append,Ym] at h1 ⊢
 simpa using h1
theorem add_4 (v:Value) (ys:List Rg) (r:Rg) (p:Part) (lo hi:Int) (hr:Row 134 2 v (ys++ [r]).length (rgs (ys++ [r])) p) (hb:ys.length≤1000000) (h: ¬hi≤lo) (hj: ¬lo≤r.hi):Sp Tryz.prog 109 [v, .int .i64 lo, .int .i64 hi] [p] [] (fun v' Lo fs=> ∃p',Row 134 2 v' (addF (ys++ [r]) lo hi).length (rgs (addF (ys++ [r]) lo hi)) p'∧Lo= [p'] ∧fs= []):=by
 have hr0:=hr
 have hn:(ys++ [r]).length=ys.length+1:=by simp
 obtain ⟨hlen,⟨_,h0,_⟩ | ⟨b,cap,jk,rfl,rfl,h1,h2,h3⟩⟩:=hr
 ·omega
 have hcs:(rgs (ys++ [r])++jk).length=((ys++ [r]).length)*2+jk.length:=by rw [List.length_append,hlen]
 have hix:((((ys++ [r]).length:Nat):Int)-1).toNat=ys.length:=by omega
 refine Sp.of (n:=46) ⟨_,Tryz.func109,V,V,V,V⟩ (Nat.le_of_ble_eq_true V) fun Ps As=>Jc (Ja (Lq (Jd V) (Je (Jf (Jc (Jc (Ja (Lq (Jb V) (Lq (Jb V) (Lq (Yc V V) (Je (Jf (Ju V (by simpa using h) (Jo (Jf (Jc (Jc (Ja ?_))))))))))))))))))
 refine Lq (Jb V) (Lq (J4 Un45 V) (Lq (Jd V) (Je (Jf (Jc (Ja (Lq (Jb V) (Lq (Kl V V) (Lq (Jb V) (Lg V V V (by simp) (Jb V) (Lg V V V (by simp) (Jb V) (Lg V V V (by simp) (KG V V (wr64 (by omega))) ?_))))))))))))
 refine Lg V V V (by simp) (Yl Un45 Kf V V (by omega) (by omega)) (Lg V V V (by simp) (Jh (o':=_+1) Un134 V ti3 V V) (Lg V V V (by simp) (Jk Un3 V V Jn (by rw [hix];exact rgs_last ys r jk)) (Lg V V V (by simp) (Jb V) (Lg V V V (by simp) (Yc V V) (Lq (JO V (by simp) V) (Je (Jf (JG [(25,_),(7,_),(6,_),(0,_),(1,_),(2,_)] (.m6 V V V V V V) (Ju V (by simpa using hj) (Jo (Jf (Jc (Ja ?_)))))))))))))
 refine Lq (Jb V) (Lq (Jb V) (Lq (Jb V) (Lq (JY (.n2 V V) (bd37_0_1Xw3 _ _)) (Jg V (KF (cs:= [_,_]) Un45 Kf (by decide) (by decide) V V V V (by decide) fun b44=>Jg V (KK (news:= [_,_]) Un45 Kf V (by decide) V V hr0 Jn V V (by omega) (by unfold maxLen;omega) (by decide) (DelAt.perm .z1) fun v45 p45 hr45=>Lq (Jd V) (Je (Jf (Jp ?_)))))))))
 refine ⟨_,[p45],[],fun Z w hs=> .tmp V .nil,?_,fun Z w hs=>hs.out (Sk (Sd (Sr))) (fun _ h=>h)⟩
 exact ⟨p45,by rw [QS h hj,Qw (ys++ [r]),Vd,List.length_append];exact hr45,V,V⟩
theorem XS (v:Value) (xs:List Rg) (p:Part) (lo hi:Int) (hr:Row 134 2 v xs.length (rgs xs) p) (hb:xs.length≤1000000):Sp Tryz.prog 109 [v, .int .i64 lo, .int .i64 hi] [p] [] (fun v' Lo fs=> ∃p',Row 134 2 v' (addF xs lo hi).length (rgs (addF xs lo hi)) p'∧Lo= [p'] ∧fs= []):=by
 by_cases h:hi≤lo
 ·exact add_1 v xs p lo hi hr h
 ·rcases List.eq_nil_or_concat xs with rfl | ⟨ys,r,rfl⟩
  ·exact add_2 v p lo hi hr h
  ·rw [List.concat_eq_append] at *
   have hb':ys.length≤1000000:=by simp at hb;omega
   by_cases hj:lo≤r.hi
   ·exact add_3 v ys r p lo hi hr hb' h hj
   ·exact add_4 v ys r p lo hi hr hb' h hj
theorem bounded_1 (A:Option Addr) (c:Nat) (xs:List Rg) (h:xs.length>32768):Sp Tryz.prog 110 [.slice A xs.length c] [] [] (Is (.tuple #[.slice none 0 0, .int .i64 21])):=by
 have:=G5 A c xs
 unfold bndV at this
 rwa [if_pos h] at this
theorem bounded_2 (A:Option Addr) (c:Nat) (xs:List Rg) (h: ¬xs.length>32768):Sp Tryz.prog 110 [.slice A xs.length c] [] [] (Is (.tuple #[.slice A xs.length c, .int .i64 0])):=by
 have:=G5 A c xs
 unfold bndV at this
 rwa [if_neg h] at this
theorem Xl (A:Option Addr) (c:Nat) (xs:List Rg) (hl:xs.length≤4398046511104):Sp Tryz.prog 107 [.slice A xs.length c] [] [RdF rgD A c xs] (Is (.tuple #[.int .i64 (ckF xs).1, .int .i64 (ckF xs).2])):=by
 refine Sp.of (n:=47) ⟨_,Tryz.func107,V,V,V,V⟩ (Nat.le_of_ble_eq_true V) fun Ps As=>Jc (Ja (Lq (Jd V) (Lq (Jd V) (Je (Jf (Jc (Jc (Ja (Lq (Jb V) (Lq (J4 Un45 V) (Lq (Kl V V) (Je (Jf (Jz V (fun h8=> ?_) (fun h8=> ?_)))))))))))))))
 ·refine Jc (Ja (Lq (Jd V) (Lq (Jd V) (Je (Jf (Jp (Jt ?_)))))))
  refine ⟨_,[],[],fun Z w hs=> .tmp V (.tmp V .nil),?_,fun Z w hs=>hs.out (Sr) (fun _ h=>h)⟩
  try simp only [Bp,Bq] at *
  exact ⟨by unfold ckF;rw [if_pos (by omega)];rfl,V,V⟩
 ·refine Jo (Jf (Jc (Jc (Ja (Lq (Jb V) (Lq (J4 Un45 V) (Lq (Jb V) (Je (Jf (JD ?_))))))))))
  refine Ke (α:=Nat) (fun k=>xs.length-k)
   (fun k=> [(0, .slice A xs.length c),(9, .slice A xs.length c),(10, .int .i64 xs.length),(11, .int .i64 k)])
   (fun k=>Ps)
   (fun k=>(RdF rgD A c xs::As))
   (fun k=>CkI xs k)
   0 ?_ (.m4 rfl rfl rfl rfl) (Sr) (fun _ h=>h) ?_
  ·simp only [decide_eq_false_iff_not] at h8
   exact CkI.zero (by omega)
  ·rintro k hI
   refine Jc (Ja (Lq (Km V V) (Je (Jf (Jc (Jz V (fun h12=> ?_) (fun h12=> ?_)))))))
   ·refine Jo (Jf (Jc (JD (Jc ?_))))
    have hk:k<xs.length:=by simpa using h12
    refine Kd (k:=k) Mm0 (List.getElem?_eq_getElem hk) (rg_open _) fun b5 q5 y5 e5=> ?_
    cases e5
    refine Ja (Lq (Jb V) (Lq (J0 Un45 Kf V V (by omega) (by omega)) (Lq (Kg (k:=0) (vs:= [_,_]) Un134 V Kf V Mm0 V V V) (Jg V (Jw (cs:= [_,_]) Kf V (by decide) fun b5=>Lq (Jd V) (Jg V (Jq (cs':= [_,_]) (vs:= [_,_]) Kf V V V V V (Nat.le_of_ble_eq_true V) .z (Je (Jf (Jc (Jc (Ja (Lq (Jh (o':=0) Un134 V ti3 V V) (Lq (Jk Un3 V V Jn V) ?_))))))))))))))
    refine Lq (Km V V) (Lq (Jb V) (J1 (t:=19) V (fun g19=> ?_) (fun g19=> ?_)))
    ·refine Ln V V V g19 (Ln V V V g19 (Ln V V V g19 (Lq (JO V g19 V) (Lq (Jb V) (Ln V V V V (Ln V V V V (Ln V V V V (Ln V V V V (Ln V V V V ?_)))))))))
     refine Lq (JO V V V) (Je (Jf (JS V V (Jc (Ja (Lq (Jb V) (Lq (Jd V) (Lq (Jd V) (Je (Jf (Jp (Jt (JF (Jt (Jt (JF (Jt ?_)))))))))))))))))
     refine ⟨_,[],[],fun Z w hs=> .tmp V (.tmp V .nil),?_,fun Z w hs=>hs.out (Sd (Sr)) Tt1⟩
     try simp only [Bp,Bq] at *
     first
      | (have hF:=CkI.bad hI hk (by omega);exact ⟨by rw [hF];rfl,rfl,rfl⟩)
      | (have hF:=CkI.ord hI hk (by omega) (by omega);exact ⟨by rw [hF];rfl,rfl,rfl⟩)
      | (have hF:=CkI.done hI (by omega);exact ⟨by rw [hF];rfl,rfl,rfl⟩)
    ·refine Lg V V V g19 (Jh (o':=1) Un134 V ti3 V V) (Lg V V V g19 (Jk Un3 V V Jn V) (Lg V V V g19 (Kl V V) (Lq (JL V g19 V) (Lq (Jb V) (J1 (t:=24) V (fun g24=> ?_) (fun g24=> ?_))))))
     ·refine Ln V V V g24 (Ln V V V g24 (Ln V V V g24 (Ln V V V g24 (Ln V V V g24 (Lq (JO V g24 V) (Je (Jf (JS V V (Jc (Ja (Lq (Jb V) (Lq (Jd V) (Lq (Jd V) ?_)))))))))))))
      refine Je (Jf (Jp (Jt (JF (Jt (Jt (JF (Jt ?_))))))))
      refine ⟨_,[],[],fun Z w hs=> .tmp V (.tmp V .nil),?_,fun Z w hs=>hs.out (Sd (Sr)) Tt1⟩
      try simp only [Bp,Bq] at *
      first
       | (have hF:=CkI.bad hI hk (by omega);exact ⟨by rw [hF];rfl,rfl,rfl⟩)
       | (have hF:=CkI.ord hI hk (by omega) (by omega);exact ⟨by rw [hF];rfl,rfl,rfl⟩)
       | (have hF:=CkI.done hI (by omega);exact ⟨by rw [hF];rfl,rfl,rfl⟩)
     ·refine Lg V V V g24 (Jh (o':=0) Un134 V ti3 V V) (Lg V V V g24 (Jk Un3 V V Jn V) (Lg V V V g24 (Jh (o':=1) Un134 V ti3 V V) (Lg V V V g24 (Jk Un3 V V Jn V) (Lg V V V g24 (Yc V V) (Lq (JL V g24 V) (Je (Jf (Jz V (fun h30=> ?_) (fun h30=> ?_)))))))))
      ·refine Jc (Ja (Lq (Jb V) (Lq (Jd V) (Lq (Jd V) (Je (Jf (Jp (Jt (JF (Jt (Jt (JF (Jt ?_)))))))))))))
       refine ⟨_,[],[],fun Z w hs=> .tmp V (.tmp V .nil),?_,fun Z w hs=>hs.out (Sd (Sr)) Tt1⟩
       try simp only [Bp,Bq] at *
       first
        | (have hF:=CkI.bad hI hk (by omega);exact ⟨by rw [hF];rfl,rfl,rfl⟩)
        | (have hF:=CkI.ord hI hk (by omega) (by omega);exact ⟨by rw [hF];rfl,rfl,rfl⟩)
        | (have hF:=CkI.done hI (by omega);exact ⟨by rw [hF];rfl,rfl,rfl⟩)
      ·refine Jo (Jf (Jc ?_))
       rcases k with _ | k
       ·refine JI _ _ [] (.c 0 0 (.c 1 0 (.c 2 0 (.c 3 0 (.c 4 0 (.c 5 0 (.c 6 0 (.c 7 0 (.c 8 0 (.c 9 0 (.c 10 0 (.c 11 0 (.c 12 0 .nil))))))))))))) mixed (fun _ _ _ _ h=>h) (Sk (Sr)) (fun _ h=>h) (by kernel_rfl) (by decide) fun ws Z0=>Qe V (Jb V) (Qe V (Kl V V) (Qe V (Jb V) (KB V V V V (by simp) (by decide) (KB V V V V (by simp) (by decide) (KB V V V V (by simp) (by decide) (KB V V V V (by simp) (by decide) (KB V V V V (by simp) (by decide) (KB V V V V (by simp) (by decide) ?_))))))))
        refine KB V V V V (by simp) (by decide) (KB V V V V (by simp) (by decide) (KB V V V V (by simp) (by decide) (Qe V (JL V (by simp) V) (JK (JJ (Jf (Ju V V (Jo (J7 (Jf (Ja (Lq (JQ V V (wr64 (by omega))) (Lq (Jb V) (Je (Ko ?_)))))))))))))))
        refine ⟨0+1,?_,(.m4 V V V V),(Sd (Sr)),Tt2⟩
        try simp only [Bp,Bq] at *
        exact ⟨by omega,by first | exact CkI.first hI hk (by omega) | exact CkI.next hI hk (by omega) (by omega)⟩
       ·refine Kd (k:=k) Mm1 (List.getElem?_eq_getElem (by omega:k<xs.length)) (rg_open _) fun b7 q7 y7 e7=> ?_
        cases e7
        refine JI _ _ [] (.c 0 0 (.c 1 0 (.c 2 0 (.c 3 0 (.c 4 0 (.c 5 0 (.c 6 0 (.c 7 0 (.c 8 0 (.c 9 0 (.c 10 0 (.c 11 0 (.c 12 0 .nil))))))))))))) mixed (fun _ _ _ _ h=>h) (Sk (Sr)) (fun _ h=>h) (by kernel_rfl) (by decide) fun ws Z0=>Qe V (Jb V) (Qe V (Kl V V) (Qe V (Jb V) (Kj V V V V (by first | (simp;done) | (simp;omega)) (Jh (o':=0) Un134 V ti3 V V) (by decide) (Kj V V V V (by first | (simp;done) | (simp;omega)) (Jk Un3 V V Jn V) (by decide) (Kj V V V V (by first | (simp;done) | (simp;omega)) (Jb V) (by decide) (Kj V V V V (by first | (simp;done) | (simp;omega)) (Jb V) (by decide) ?_))))))
        refine Kj V V V V (by first | (simp;done) | (simp;omega)) (KG V V (by rw [wr64 (by omega)];omega) (c:=(k:Int))) (by decide) (Kj V V V V (by first | (simp;done) | (simp;omega)) (J0 Un45 Kf V V (by omega) (by omega)) (by decide) (Kj V V V V (by first | (simp;done) | (simp;omega)) (Jh (o':=_+1) Un134 V ti3 V V) (by decide) (Kj V V V V (by first | (simp;done) | (simp;omega)) (Kk (j:=1) Un3 V V Mm0 V V) (by decide) (Kj V V V V (by first | (simp;done) | (simp;omega)) (YQ V V) (by decide) (Qe V (JO V (by first | (simp;done) | (simp;omega)) V) (JK (JJ (Jf (Jz V (fun h44=> ?_) (fun h44=> ?_))))))))))
        ·refine Jc (Ja (Lq (Jb V) (Lq (Jd V) (Lq (Jd V) (Je (Jf (Jp (JF (Jt (Jt (JF (Jt ?_))))))))))))
         refine ⟨_,[],[],fun Z w hs=> .tmp V (.tmp V .nil),?_,fun Z w hs=>hs.out (Sd (Sr)) Tt3⟩
         try simp only [Bp,Bq] at *
         first
          | (have hF:=CkI.bad hI hk (by omega);exact ⟨by rw [hF];rfl,rfl,rfl⟩)
          | (have hF:=CkI.ord hI hk (by omega) (by omega);exact ⟨by rw [hF];rfl,rfl,rfl⟩)
          | (have hF:=CkI.done hI (by omega);exact ⟨by rw [hF];rfl,rfl,rfl⟩)
        ·refine Jo (J7 (Jf (Ja (Lq (JQ V V (wr64 (by omega))) (Lq (Jb V) (Je (Ko ?_)))))))
         refine ⟨(k+1)+1,?_,(.m4 V V V V),(Sd (Sr)),Tt3⟩
         try simp only [Bp,Bq] at *
         exact ⟨by omega,by first | exact CkI.first hI hk (by omega) | exact CkI.next hI hk (by omega) (by omega)⟩
   ·refine Kh (JH (JH (J6 (Jf (Jc (Ja (Lq (Jd V) (Lq (Jd V) (Je (Jf (Jp ?_)))))))))))
    refine ⟨_,[],[],fun Z w hs=> .tmp V (.tmp V .nil),?_,fun Z w hs=>hs.out (Sr) (fun _ h=>h)⟩
    try simp only [Bp,Bq] at *
    first
     | (have hF:=CkI.bad hI hk (by omega);exact ⟨by rw [hF];rfl,rfl,rfl⟩)
     | (have hF:=CkI.ord hI hk (by omega) (by omega);exact ⟨by rw [hF];rfl,rfl,rfl⟩)
     | (have hF:=CkI.done hI (by omega);exact ⟨by rw [hF];rfl,rfl,rfl⟩)
def ThrP (xs:List Rg) (at_ n:Int):Value→List Part→List Fact→Prop:=fun v Lo fs=>
 ∃(A':Option Addr) (c':Nat),v= .tuple #[.slice A' (thrF xs at_ n).1.length c', .int .i64 (thrF xs at_ n).2] ∧Lo= [] ∧fs= [RdF rgD A' c' (thrF xs at_ n).1]
theorem VN (A:Option Addr) (c:Nat) (xs:List Rg) (at_ n:Int) (hl:xs.length≤4398046511104):Sp Tryz.prog 71 [.slice A xs.length c, .int .i64 at_, .int .i64 n] [] [RdF rgD A c xs] (ThrP xs at_ n):=by
 refine Sp.of (n:=78) ⟨_,Tryz.func71,V,V,V,V⟩ (Nat.le_of_ble_eq_true V) fun Ps As=>Jc (Ja (Lq (Jd V) (Lq (Jd V) (Je (Jf (Jc (Jc (Ja (Lq (Jb V) (Jg V (Jm (Xl A c xs hl) (.n1 V) (by decide) (Jl Mm0 Jx) fun _ _ _ q9=>?_)))))))))))
 obtain ⟨rfl,rfl,rfl⟩:=q9
 refine Lq (Jb V) (Lq (Ji (vs:= [_,_]) V V) (Lq (Ji (vs:= [_,_]) V V) (Lq (Jd V) (Lq (Jd V) (Je (Jf (Jc (Ja (Lq (Jb V) (Lq (Kr V V) (Je (Jf (JG [(20,_),(9,_),(7,_),(6,_),(0,_),(1,_),(2,_)] (.m7 V V V V V V V) ?_)))))))))))))
 refine Jz V (fun h20=> ?_) (fun h20=> ?_)
 ·refine Jc (Ja (Lq (Jb V) (Lq (Jd V) (Lq (Jd V) (Je (Jf (Jp (Jt ?_))))))))
  refine ⟨_,[],[RdF rgD none 0 []],fun Z w hs=> .tmp V (.tmp V .nil),?_,fun Z w hs=>⟨Z,((hs.subParts (Sr)).subFacts (fun _ h=>h)).addFact (A:=RdF rgD none 0 []) (RdS.nil _ _ _)⟩⟩
  try simp only [Bp,Bq] at *
  have hF:thrF xs at_ n=_:=Jao (by omega)
  exact ⟨none,0,by rw [hF];rfl,V,by rw [hF]⟩
 ·refine Jo (Jf (Jc (Jc (Ja (Lq (Jb V) (Jg V (Jm (GS at_) (.n1 V) (by decide) Jx fun _ _ _ q9=>?_)))))))
  obtain ⟨rfl,rfl,rfl⟩:=q9
  refine Lq (Jb V) (J1 (t:=24) V (fun g24=> ?_) (fun g24=> ?_))
  ·refine Ln V V V g24 (Ln V V V g24 (Lq (JO V g24 V) (Je (Jf (JS V V (Jc (Ja (Lq (Jd V) (Lq (Jd V) (Je (Jf (Jp (Jt ?_)))))))))))))
   refine ⟨_,[],[RdF rgD none 0 []],fun Z w hs=> .tmp V (.tmp V .nil),?_,fun Z w hs=>⟨Z,((hs.subParts (Sr)).subFacts (fun _ h=>h)).addFact (A:=RdF rgD none 0 []) (RdS.nil _ _ _)⟩⟩
   try simp only [Bp,Bq] at *
   have hF:thrF xs at_ n=_:=EC (by omega) (by omega)
   exact ⟨none,0,by rw [hF];rfl,V,by rw [hF]⟩
  ·refine Lg V V V g24 (Jb V) (KD V V V g24 (Jm (GS n) (.n1 V) (by decide) Jx fun _ _ _ q9=>?_))
   obtain ⟨rfl,rfl,rfl⟩:=q9
   refine Lq (JL V g24 V) (Je (Jf (Jz V (fun h27=> ?_) (fun h27=> ?_))))
   ·refine Jc (Ja (Lq (Jd V) (Lq (Jd V) (Je (Jf (Jp (Jt ?_)))))))
    refine ⟨_,[],[RdF rgD none 0 []],fun Z w hs=> .tmp V (.tmp V .nil),?_,fun Z w hs=>⟨Z,((hs.subParts (Sr)).subFacts (fun _ h=>h)).addFact (A:=RdF rgD none 0 []) (RdS.nil _ _ _)⟩⟩
    try simp only [Bp,Bq] at *
    have hF:thrF xs at_ n=_:=EC (by omega) (by omega)
    exact ⟨none,0,by rw [hF];rfl,V,by rw [hF]⟩
   ·refine Jo (Jf (Jc (Jc (Ja (Lq (Jb V) (Lq (J4 Un45 V) (Lq (Kl V V) (Je (Jf (JG [(30,_),(7,_),(6,_),(0,_),(1,_),(2,_)] (.m6 V V V V V V) (Jz V (fun h30=> ?_) (fun h30=> ?_))))))))))))
    ·refine Jc ?_
     try simp only [Bp,Bq] at *
     have hk0:xs.length-1<xs.length:=by omega
     have hg:=Eu (by omega) hk0
     refine Kd (k:=(xs.length-1)) Mm0 (List.getElem?_eq_getElem hk0) (rg_open _) fun b7 q7 y7 e7=> ?_
     cases e7
     refine Ja (Lq (Jb V) (Lq (Jb V) (Lq (J4 Un45 V) (Lq (KG V V (by rw [wr64 (by omega)];omega) (c:=((xs.length-1:Nat):Int))) (Lq (J0 Un45 Kf V V (by omega) (by omega)) (Lq (Jh (o':=_+1) Un134 V ti3 V V) (Lq (Kk (j:=1) Un3 V V Mm0 V V) (Lq (Jd V) (Je (Jf ?_))))))))))
     refine JG [(10,_),(7,_),(6,_),(0,_),(1,_),(2,_)] (.m6 V V V V V V) (Jc (Ja (Lq (Jb V) (Lq (Jb V) (Lq (Kl V V) (Lq (Jb V) (J1 (t:=41) V (fun g41=> ?_) (fun g41=> ?_))))))))
     ·refine Lg V V V g41 (Jb V) (Lg V V V g41 (Jb V) (Lg V V V g41 (JQ V V (wr64 (by omega))) (Lg V V V g41 (Kl V V) (Lq (JO V g41 V) (Je (Jf (JG [(46,_),(7,_),(6,_),(0,_),(1,_),(2,_)] (.m6 V V V V V V) (Jz V (fun h46=> ?_) (fun h46=> ?_)))))))))
      ·refine Jc (Ja (Lq (Jd V) (Lq (Jd V) (Je (Jf (Jp (Jt ?_)))))))
       refine ⟨_,[],[RdF rgD none 0 []],fun Z w hs=> .tmp V (.tmp V .nil),?_,fun Z w hs=>⟨Z,((hs.subParts (Sr)).subFacts Tt1).addFact (A:=RdF rgD none 0 []) (RdS.nil _ _ _)⟩⟩
       try simp only [Bp,Bq] at *
       have hF:thrF xs at_ n=_:=HY (by omega) (by omega) (by omega) ⟨by omega,by omega⟩
       exact ⟨none,0,by rw [hF];rfl,V,by rw [hF]⟩
      ·refine Jo (Jf (Jc (Ja (Lq (Jd V) (Je (Jf (Jc (Jc (Ja (Lq (Jb V) (Lq (J4 Un45 V) (Lq (Jb V) (Je (Jf (JD ?_)))))))))))))))
       try simp only [Bp,Bq] at *
       have hC:(ckF xs).2=0:=by omega
       have hl2:=(QQ hC).1
       have hOK:thrF xs at_ n=boundF (thrL at_ n [] xs):=by
        first
        | exact X0 (by omega) (by omega) hk0 (by omega)
        | (obtain rfl:xs= [] :=List.length_eq_zero_iff.1 (by omega);exact Xf (by omega))
       refine Kz ?_
       refine Ke (α:=Nat×List Rg×Value×Part) (fun (k,acc,v,p)=>xs.length-k)
        (fun (k,acc,v,p)=> [(1, .int .i64 at_),(2, .int .i64 n),(11,v),(47, .slice (some ⟨b7,q7,none⟩) xs.length c),(48, .int .i64 xs.length),(49, .int .i64 k)])
        (fun (k,acc,v,p)=>p::Ps)
        (fun (k,acc,v,p)=>(RdF rgD (some ⟨b7,q7,none⟩) c xs::As))
        (fun (k,acc,v,p)=>ThI xs at_ n k acc v p)
        (0,[], .slice none 0 0,[]) ?_ (.m6 rfl rfl rfl rfl rfl rfl) (Sk (Sr)) Tt1 ?_
       ·exact ⟨Nat.zero_le _,Row.nil _ _,by simp,V⟩
       ·rintro ⟨k,acc,v,p⟩ hI
        refine Jc (Ja (Lq (Km V V) (Je (Jf (Jc (Jz V (fun h50=> ?_) (fun h50=> ?_)))))))
        ·refine Jo (Jf (Jc (JD (Jc ?_))))
         have hk:k<xs.length:=by simpa using h50
         have hg2:=Eu hC hk
         refine Kd (k:=k) Mm0 (List.getElem?_eq_getElem hk) (rg_open _) fun b13 q13 y13 e13=> ?_
         cases e13
         refine Ja (Lq (J0 Un45 Kf V V (by omega) (by omega)) (Lq (Kg (k:=0) (vs:= [_,_]) Un134 V Kf V Mm0 V V V) (Jg V (Jw (cs:= [_,_]) Kf V (by decide) fun b13=>Jg V (Jq (cs':= [_,_]) (vs:= [_,_]) Kf V V V V V (Nat.le_of_ble_eq_true V) .z (Je (Jf (Jc (Ja (Lq (Jb V) (Lq (Jh (o':=0) Un134 V ti3 V V) (Lq (Jk Un3 V V Jn V) (Lq (Jh (o':=1) Un134 V ti3 V V) ?_)))))))))))))
         refine Lq (Jk Un3 V V Jn V) (Lq (Jb V) (Lq (Xg V V) (Jg V (JU (XS v acc p xs[k].lo (min xs[k].hi at_) hI.row (by have:=hI.len;have:=hI.le;omega)) (.n3 V V V) (by decide) .z1 Jx fun va Lo fs hres=> ?_))))
         obtain ⟨pa,hra,rfl,rfl⟩:=hres
         refine Lq (Jd V) (Je (Jf (Ja (Lq (Jb V) (Lq (Jh (o':=0) Un134 V ti3 V V) (Lq (Jk Un3 V V (Jj (Jn)) V) (Lq (Jb V) (Lq (Vz V V) (Lq (Jb V) (Lq (JQ V V (wr64 (by omega))) (Lq (Jh (o':=1) Un134 V ti3 V V) ?_)))))))))))
         refine Lq (Jk Un3 V V (Jj (Jn)) V) (Lq (Jb V) (Lq (JQ V V (wr64 (by omega))) (Jg V (JU (XS va (addF acc xs[k].lo (min xs[k].hi at_)) pa (max xs[k].lo at_+n) (xs[k].hi+n) hra (by have:=hI.len;have:=hI.le;have:=QT acc xs[k].lo (min xs[k].hi at_);omega)) (.n3 V V V) (by decide) .z Jx fun vb Lo fs hres=> ?_))))
         obtain ⟨pb,hrb,rfl,rfl⟩:=hres
         refine Lq (Jd V) (Je (J7 (Jf (Ja (Lq (JQ V V (wr64 (by omega))) (Lq (Jb V) (Je (Ko ?_))))))))
         refine ⟨(k+1,addF (addF acc xs[k].lo (min xs[k].hi at_)) (max xs[k].lo at_+n) (xs[k].hi+n),vb,pb),?_,(.m6 V V V V V V),(Sk (Sd (Sr))),Tt1⟩
         exact ⟨by show xs.length-(k+1)<xs.length-k;omega,hI.next hk hrb⟩
        ·refine Kh (JH (JH (J6 (Jf (Jc ?_)))))
         have hD:=hI.done (by simpa using h50)
         refine Kc (A:=RepsF rgD acc (acc.map rgC)) (fun Z w _=>rgs_reps acc Z w) (KJ (e:=rgD) (css:=acc.map rgC) hI.row .z V Mm0 fun Af cf ef=> ?_)
         subst ef
         by_cases hb:acc.length>32768
         ·refine Ja (Lq (Jb V) (Jg V (Jm (bounded_1 Af cf acc hb) (.n1 V) (by decide) Jx fun _ _ _ q9=>?_)))
          obtain ⟨rfl,rfl,rfl⟩:=q9
          refine Lq (Ji (vs:= [_,_]) V V) (Lq (Ji (vs:= [_,_]) V V) (Lq (Jd V) (Lq (Jd V) (Je (Jf (Jp ?_))))))
          refine ⟨_,[],[RdF rgD none 0 []],fun Z w hs=> .tmp V (.tmp V .nil),?_,fun Z w hs=>⟨Z,((hs.subParts (Sr)).subFacts Tt2).addFact (A:=RdF rgD none 0 []) (RdS.nil _ _ _)⟩⟩
          have hF:thrF xs at_ n=([],21):=by rw [hOK,hD];unfold boundF;rw [if_pos hb]
          exact ⟨none,0,by rw [hF];rfl,V,by rw [hF]⟩
         ·refine Ja (Lq (Jb V) (Jg V (Jm (bounded_2 Af cf acc hb) (.n1 V) (by decide) Jx fun _ _ _ q9=>?_)))
          obtain ⟨rfl,rfl,rfl⟩:=q9
          refine Lq (Ji (vs:= [_,_]) V V) (Lq (Ji (vs:= [_,_]) V V) (Lq (Jd V) (Lq (Jd V) (Je (Jf (Jp ?_))))))
          refine ⟨_,[],[RdF rgD Af cf acc],fun Z w hs=> .tmp V (.tmp V .nil),?_,fun Z w hs=>hs.out (Sr) (Jl Mm0 Tt2)⟩
          have hF:thrF xs at_ n=(acc,0):=by rw [hOK,hD];unfold boundF;rw [if_neg hb]
          exact ⟨Af,cf,by rw [hF];rfl,V,by rw [hF]⟩
     ·refine Ln V V V g41 (Ln V V V g41 (Ln V V V g41 (Ln V V V g41 (Lq (JL V g41 V) (Je (Jf (JG [(46,_),(7,_),(6,_),(0,_),(1,_),(2,_)] (.m6 V V V V V V) (Ju V V (Jo (Jf (Jc (Ja (Lq (Jd V) (Je (Jf (Jc (Jc (Ja ?_))))))))))))))))))
      refine Lq (Jb V) (Lq (J4 Un45 V) (Lq (Jb V) (Je (Jf (JD ?_)))))
      try simp only [Bp,Bq] at *
      have hC:(ckF xs).2=0:=by omega
      have hl2:=(QQ hC).1
      have hOK:thrF xs at_ n=boundF (thrL at_ n [] xs):=by
       first
       | exact X0 (by omega) (by omega) hk0 (by omega)
       | (obtain rfl:xs= [] :=List.length_eq_zero_iff.1 (by omega);exact Xf (by omega))
      refine Kz ?_
      refine Ke (α:=Nat×List Rg×Value×Part) (fun (k,acc,v,p)=>xs.length-k)
       (fun (k,acc,v,p)=> [(1, .int .i64 at_),(2, .int .i64 n),(11,v),(47, .slice (some ⟨b7,q7,none⟩) xs.length c),(48, .int .i64 xs.length),(49, .int .i64 k)])
       (fun (k,acc,v,p)=>p::Ps)
       (fun (k,acc,v,p)=>(RdF rgD (some ⟨b7,q7,none⟩) c xs::As))
       (fun (k,acc,v,p)=>ThI xs at_ n k acc v p)
       (0,[], .slice none 0 0,[]) ?_ (.m6 rfl rfl rfl rfl rfl rfl) (Sk (Sr)) Tt1 ?_
      ·exact ⟨Nat.zero_le _,Row.nil _ _,by simp,V⟩
      ·rintro ⟨k,acc,v,p⟩ hI
       refine Jc (Ja (Lq (Km V V) (Je (Jf (Jc (Jz V (fun h50=> ?_) (fun h50=> ?_)))))))
       ·refine Jo (Jf (Jc (JD (Jc ?_))))
        have hk:k<xs.length:=by simpa using h50
        have hg2:=Eu hC hk
        refine Kd (k:=k) Mm0 (List.getElem?_eq_getElem hk) (rg_open _) fun b13 q13 y13 e13=> ?_
        cases e13
        refine Ja (Lq (J0 Un45 Kf V V (by omega) (by omega)) (Lq (Kg (k:=0) (vs:= [_,_]) Un134 V Kf V Mm0 V V V) (Jg V (Jw (cs:= [_,_]) Kf V (by decide) fun b13=>Jg V (Jq (cs':= [_,_]) (vs:= [_,_]) Kf V V V V V (Nat.le_of_ble_eq_true V) .z (Je (Jf (Jc (Ja (Lq (Jb V) (Lq (Jh (o':=0) Un134 V ti3 V V) (Lq (Jk Un3 V V Jn V) (Lq (Jh (o':=1) Un134 V ti3 V V) ?_)))))))))))))
        refine Lq (Jk Un3 V V Jn V) (Lq (Jb V) (Lq (Xg V V) (Jg V (JU (XS v acc p xs[k].lo (min xs[k].hi at_) hI.row (by have:=hI.len;have:=hI.le;omega)) (.n3 V V V) (by decide) .z1 Jx fun va Lo fs hres=> ?_))))
        obtain ⟨pa,hra,rfl,rfl⟩:=hres
        refine Lq (Jd V) (Je (Jf (Ja (Lq (Jb V) (Lq (Jh (o':=0) Un134 V ti3 V V) (Lq (Jk Un3 V V (Jj (Jn)) V) (Lq (Jb V) (Lq (Vz V V) (Lq (Jb V) (Lq (JQ V V (wr64 (by omega))) (Lq (Jh (o':=1) Un134 V ti3 V V) ?_)))))))))))
        refine Lq (Jk Un3 V V (Jj (Jn)) V) (Lq (Jb V) (Lq (JQ V V (wr64 (by omega))) (Jg V (JU (XS va (addF acc xs[k].lo (min xs[k].hi at_)) pa (max xs[k].lo at_+n) (xs[k].hi+n) hra (by have:=hI.len;have:=hI.le;have:=QT acc xs[k].lo (min xs[k].hi at_);omega)) (.n3 V V V) (by decide) .z Jx fun vb Lo fs hres=> ?_))))
        obtain ⟨pb,hrb,rfl,rfl⟩:=hres
        refine Lq (Jd V) (Je (J7 (Jf (Ja (Lq (JQ V V (wr64 (by omega))) (Lq (Jb V) (Je (Ko ?_))))))))
        refine ⟨(k+1,addF (addF acc xs[k].lo (min xs[k].hi at_)) (max xs[k].lo at_+n) (xs[k].hi+n),vb,pb),?_,(.m6 V V V V V V),(Sk (Sd (Sr))),Tt1⟩
        exact ⟨by show xs.length-(k+1)<xs.length-k;omega,hI.next hk hrb⟩
       ·refine Kh (JH (JH (J6 (Jf (Jc ?_)))))
        have hD:=hI.done (by simpa using h50)
        refine Kc (A:=RepsF rgD acc (acc.map rgC)) (fun Z w _=>rgs_reps acc Z w) (KJ (e:=rgD) (css:=acc.map rgC) hI.row .z V Mm0 fun Af cf ef=> ?_)
        subst ef
        by_cases hb:acc.length>32768
        ·refine Ja (Lq (Jb V) (Jg V (Jm (bounded_1 Af cf acc hb) (.n1 V) (by decide) Jx fun _ _ _ q9=>?_)))
         obtain ⟨rfl,rfl,rfl⟩:=q9
         refine Lq (Ji (vs:= [_,_]) V V) (Lq (Ji (vs:= [_,_]) V V) (Lq (Jd V) (Lq (Jd V) (Je (Jf (Jp ?_))))))
         refine ⟨_,[],[RdF rgD none 0 []],fun Z w hs=> .tmp V (.tmp V .nil),?_,fun Z w hs=>⟨Z,((hs.subParts (Sr)).subFacts Tt2).addFact (A:=RdF rgD none 0 []) (RdS.nil _ _ _)⟩⟩
         have hF:thrF xs at_ n=([],21):=by rw [hOK,hD];unfold boundF;rw [if_pos hb]
         exact ⟨none,0,by rw [hF];rfl,V,by rw [hF]⟩
        ·refine Ja (Lq (Jb V) (Jg V (Jm (bounded_2 Af cf acc hb) (.n1 V) (by decide) Jx fun _ _ _ q9=>?_)))
         obtain ⟨rfl,rfl,rfl⟩:=q9
         refine Lq (Ji (vs:= [_,_]) V V) (Lq (Ji (vs:= [_,_]) V V) (Lq (Jd V) (Lq (Jd V) (Je (Jf (Jp ?_))))))
         refine ⟨_,[],[RdF rgD Af cf acc],fun Z w hs=> .tmp V (.tmp V .nil),?_,fun Z w hs=>hs.out (Sr) (Jl Mm0 Tt2)⟩
         have hF:thrF xs at_ n=(acc,0):=by rw [hOK,hD];unfold boundF;rw [if_neg hb]
         exact ⟨Af,cf,by rw [hF];rfl,V,by rw [hF]⟩
    ·refine Jo (Jf (Jc (Ja (Lq (Jd V) (Je (Jf (Jc (Jc (Ja (Lq (Jb V) (Lq (J4 Un45 V) (Lq (Jb V) (Je (Jf (JD ?_)))))))))))))))
     try simp only [Bp,Bq] at *
     have hC:(ckF xs).2=0:=by omega
     have hl2:=(QQ hC).1
     have hOK:thrF xs at_ n=boundF (thrL at_ n [] xs):=by
      first
      | exact X0 (by omega) (by omega) hk0 (by omega)
      | (obtain rfl:xs= [] :=List.length_eq_zero_iff.1 (by omega);exact Xf (by omega))
     refine Kz ?_
     refine Ke (α:=Nat×List Rg×Value×Part) (fun (k,acc,v,p)=>xs.length-k)
      (fun (k,acc,v,p)=> [(1, .int .i64 at_),(2, .int .i64 n),(11,v),(47, .slice A xs.length c),(48, .int .i64 xs.length),(49, .int .i64 k)])
      (fun (k,acc,v,p)=>p::Ps)
      (fun (k,acc,v,p)=>(RdF rgD A c xs::As))
      (fun (k,acc,v,p)=>ThI xs at_ n k acc v p)
      (0,[], .slice none 0 0,[]) ?_ (.m6 rfl rfl rfl rfl rfl rfl) (Sk (Sr)) (fun _ h=>h) ?_
     ·exact ⟨Nat.zero_le _,Row.nil _ _,by simp,V⟩
     ·rintro ⟨k,acc,v,p⟩ hI
      refine Jc (Ja (Lq (Km V V) (Je (Jf (Jc (Jz V (fun h50=> ?_) (fun h50=> ?_)))))))
      ·refine Jo (Jf (Jc (JD (Jc ?_))))
       have hk:k<xs.length:=by simpa using h50
       have hg2:=Eu hC hk
       refine Kd (k:=k) Mm0 (List.getElem?_eq_getElem hk) (rg_open _) fun b13 q13 y13 e13=> ?_
       cases e13
       refine Ja (Lq (J0 Un45 Kf V V (by omega) (by omega)) (Lq (Kg (k:=0) (vs:= [_,_]) Un134 V Kf V Mm0 V V V) (Jg V (Jw (cs:= [_,_]) Kf V (by decide) fun b13=>Jg V (Jq (cs':= [_,_]) (vs:= [_,_]) Kf V V V V V (Nat.le_of_ble_eq_true V) .z (Je (Jf (Jc (Ja (Lq (Jb V) (Lq (Jh (o':=0) Un134 V ti3 V V) (Lq (Jk Un3 V V Jn V) (Lq (Jh (o':=1) Un134 V ti3 V V) ?_)))))))))))))
       refine Lq (Jk Un3 V V Jn V) (Lq (Jb V) (Lq (Xg V V) (Jg V (JU (XS v acc p xs[k].lo (min xs[k].hi at_) hI.row (by have:=hI.len;have:=hI.le;omega)) (.n3 V V V) (by decide) .z1 Jx fun va Lo fs hres=> ?_))))
       obtain ⟨pa,hra,rfl,rfl⟩:=hres
       refine Lq (Jd V) (Je (Jf (Ja (Lq (Jb V) (Lq (Jh (o':=0) Un134 V ti3 V V) (Lq (Jk Un3 V V (Jj (Jn)) V) (Lq (Jb V) (Lq (Vz V V) (Lq (Jb V) (Lq (JQ V V (wr64 (by omega))) (Lq (Jh (o':=1) Un134 V ti3 V V) ?_)))))))))))
       refine Lq (Jk Un3 V V (Jj (Jn)) V) (Lq (Jb V) (Lq (JQ V V (wr64 (by omega))) (Jg V (JU (XS va (addF acc xs[k].lo (min xs[k].hi at_)) pa (max xs[k].lo at_+n) (xs[k].hi+n) hra (by have:=hI.len;have:=hI.le;have:=QT acc xs[k].lo (min xs[k].hi at_);omega)) (.n3 V V V) (by decide) .z Jx fun vb Lo fs hres=> ?_))))
       obtain ⟨pb,hrb,rfl,rfl⟩:=hres
       refine Lq (Jd V) (Je (J7 (Jf (Ja (Lq (JQ V V (wr64 (by omega))) (Lq (Jb V) (Je (Ko ?_))))))))
       refine ⟨(k+1,addF (addF acc xs[k].lo (min xs[k].hi at_)) (max xs[k].lo at_+n) (xs[k].hi+n),vb,pb),?_,(.m6 V V V V V V),(Sk (Sd (Sr))),Tt1⟩
       exact ⟨by show xs.length-(k+1)<xs.length-k;omega,hI.next hk hrb⟩
      ·refine Kh (JH (JH (J6 (Jf (Jc ?_)))))
       have hD:=hI.done (by simpa using h50)
       refine Kc (A:=RepsF rgD acc (acc.map rgC)) (fun Z w _=>rgs_reps acc Z w) (KJ (e:=rgD) (css:=acc.map rgC) hI.row .z V Mm0 fun Af cf ef=> ?_)
       subst ef
       by_cases hb:acc.length>32768
       ·refine Ja (Lq (Jb V) (Jg V (Jm (bounded_1 Af cf acc hb) (.n1 V) (by decide) Jx fun _ _ _ q9=>?_)))
        obtain ⟨rfl,rfl,rfl⟩:=q9
        refine Lq (Ji (vs:= [_,_]) V V) (Lq (Ji (vs:= [_,_]) V V) (Lq (Jd V) (Lq (Jd V) (Je (Jf (Jp ?_))))))
        refine ⟨_,[],[RdF rgD none 0 []],fun Z w hs=> .tmp V (.tmp V .nil),?_,fun Z w hs=>⟨Z,((hs.subParts (Sr)).subFacts Tt2).addFact (A:=RdF rgD none 0 []) (RdS.nil _ _ _)⟩⟩
        have hF:thrF xs at_ n=([],21):=by rw [hOK,hD];unfold boundF;rw [if_pos hb]
        exact ⟨none,0,by rw [hF];rfl,V,by rw [hF]⟩
       ·refine Ja (Lq (Jb V) (Jg V (Jm (bounded_2 Af cf acc hb) (.n1 V) (by decide) Jx fun _ _ _ q9=>?_)))
        obtain ⟨rfl,rfl,rfl⟩:=q9
        refine Lq (Ji (vs:= [_,_]) V V) (Lq (Ji (vs:= [_,_]) V V) (Lq (Jd V) (Lq (Jd V) (Je (Jf (Jp ?_))))))
        refine ⟨_,[],[RdF rgD Af cf acc],fun Z w hs=> .tmp V (.tmp V .nil),?_,fun Z w hs=>hs.out (Sr) (Jl Mm0 Tt2)⟩
        have hF:thrF xs at_ n=(acc,0):=by rw [hOK,hD];unfold boundF;rw [if_neg hb]
        exact ⟨Af,cf,by rw [hF];rfl,V,by rw [hF]⟩
theorem ZG (s t:ByteArray):Sp Tryz.prog 152 [.string s, .string t] [] [] (Is (.bool (prefF s t))):=by
 refine Sp.of (n:=18) ⟨_,Tryz.func152,V,V,V,V⟩ (Nat.le_of_ble_eq_true V) fun Ps As=>Jc (Ja (Lq (Jd V) (Je (Jf (Jc (Ja (Lq (Jb V) (Lq (Hc Un9 V) (Lq (Jb V) (Lq (Hc Un9 V) (Lq (Yc V V) (Lq (Jb V) ?_))))))))))))
 refine J1 (t:=10) V (fun g10=> ?_) (fun g10=> ?_)
 ·refine Lg V V V g10 (Jb V) (Lg V V V g10 (Jb V) (Lg V V V g10 (Hc Un9 V) (Lg V V V g10 (Ha Un9 V V (by omega) (by simpa using g10)) (Lg V V V g10 (Jb V) (Lg V V V g10 (Gm V V) (Lq (JO V g10 V) (Lq (Jd V) (Je (Jf (JG [(4,_)] (.m1 V) ?_))))))))))
  refine Jp ?_
  refine ⟨_,[],[],fun Z w hs=> .tmp V .nil,?_,fun Z w hs=>hs.out (Sr) (fun _ h=>h)⟩
  exact ⟨by unfold prefF;simp at g10;simp [tup,g10] <;>omega,V,V⟩
 ·refine Ln V V V g10 (Ln V V V g10 (Ln V V V g10 (Ln V V V g10 (Ln V V V g10 (Ln V V V g10 (Lq (JL V g10 V) (Lq (Jd V) (Je (Jf (JG [(4,_)] (.m1 V) ?_))))))))))
  refine Jp ?_
  refine ⟨_,[],[],fun Z w hs=> .tmp V .nil,?_,fun Z w hs=>hs.out (Sr) (fun _ h=>h)⟩
  exact ⟨by unfold prefF;simp at g10;simp [tup,g10] <;>omega,V,V⟩
theorem H0 (s t:ByteArray):Sp Tryz.prog 126 [.string s, .string t] [] [] (Is (.bool (prefF s t))):=by
 refine Sp.of (n:=8) ⟨_,Tryz.func126,V,V,V,V⟩ (Nat.le_of_ble_eq_true V) fun Ps As=>Jc (Ja (Lq (Jd V) (Je (Jf (Jc (Ja (Lq (Jb V) (Lq (Jb V) (Jg V (Jm (ZG s t) (.n2 V V) (by decide) Jx fun _ _ _ q9=>?_))))))))))
 obtain ⟨rfl,rfl,rfl⟩:=q9
 refine Lq (Jd V) (Je (Jf (Jp ?_)))
 refine ⟨_,[],[],fun Z w hs=> .tmp V .nil,?_,fun Z w hs=>hs.out (Sr) (fun _ h=>h)⟩
 exact ⟨V,V,V⟩
theorem Z6 (s:ByteArray) (p:Nat) (c:Int) (hp:p≤s.size):Sp Tryz.prog 82 [.string s, .int .i64 p, .int .i32 c] [] [] (Is (.bool (begF s p c))):=by
 refine Sp.of (n:=15) ⟨_,Tryz.func82,V,V,V,V⟩ (Nat.le_of_ble_eq_true V) fun Ps As=>Jc (Ja (Lq (Jd V) (Je (Jf (Jc (Ja (Lq (Jb V) (Lq (Kr V V) (Lq (Jb V) (J1 (t:=9) V (fun g9=> ?_) (fun g9=> ?_)))))))))))
 ·refine Ln V V V g9 (Ln V V V g9 (Ln V V V g9 (Ln V V V g9 (Lq (JO V g9 V) (Lq (Jd V) (Je (Jf (Jp ?_))))))))
  refine ⟨_,[],[],fun Z w hs=> .tmp V .nil,?_,fun Z w hs=>hs.out (Sr) (fun _ h=>h)⟩
  exact ⟨by unfold begF;simp at g9;simp [tup,g9],V,V⟩
 ·refine Lg V V V g9 (Jb V) (Lg V V V g9 (Jb V) (Lg V V V g9 (E9 Un9 V V (by omega) (by omega)) (KD V V V g9 (Jm (H0 (s.extract p s.size) fffd) (.n2 V V) (by decide) Jx fun _ _ _ q9=>?_))))
  obtain ⟨rfl,rfl,rfl⟩:=q9
  refine Lq (JL V g9 V) (Lq (Jd V) (Je (Jf (Jp ?_))))
  refine ⟨_,[],[],fun Z w hs=> .tmp V .nil,?_,fun Z w hs=>hs.out (Sr) (fun _ h=>h)⟩
  exact ⟨by unfold begF;simp at g9;simp [tup,g9],V,V⟩
def LetI (c:Int) (k:Nat):Prop:=k≤5∧ ∀(j:Nat) (h:j<barL.length),j<k→ ¬(barL[j].1≤c∧c≤barL[j].2)
theorem LetI.hit {c:Int} {k:Nat} (hk:k<barL.length) (h:barL[k].1≤c∧c≤barL[k].2):letF c=false:=by
 unfold letF
 have:(barL.all fun b=> !(decide (b.1≤c) && decide (c≤b.2)))=false:=by
  rw [List.all_eq_false]
  exact ⟨_,List.getElem_mem hk,by simp [h]⟩
 rw [this];rfl
theorem LetI.next {c:Int} {k:Nat} (h:LetI c k) (hk:k<barL.length) (hn: ¬(barL[k].1≤c∧c≤barL[k].2)):LetI c (k+1):=by
 refine ⟨hk,fun j hj hjk=> ?_⟩
 by_cases e:j=k
 ·subst e;exact hn
 ·exact h.2 j hj (by omega)
theorem LetI.done {c:Int} {k:Nat} (h:LetI c k) (hk: ¬(k:Int)<5):letF c=decide (c % 65536<65534):=by
 unfold letF
 have:(barL.all fun b=> !(decide (b.1≤c) && decide (c≤b.2)))=true:=by
  rw [List.all_eq_true]
  intro b hb
  obtain ⟨j,hj,rfl⟩:=List.mem_iff_getElem.1 hb
  have hj5:j<5:=hj
  have:=h.2 j hj (by omega)
  simpa [-not_and,Decidable.not_and_iff_not_or_not] using this
 rw [this];rfl
theorem Jay (c:Int):Sp Tryz.prog 83 [.int .i32 c] [] [barF] (Is (.bool (letF c))):=by
 refine Sp.of (n:=23) ⟨_,Tryz.func83,V,V,V,V⟩ (Nat.le_of_ble_eq_true V) fun Ps As=>Jc (Ja (Lq (Jd V) (Je (Jf (Jc (Jc (Ja (Lq (Kg (k:=0) (vs:=barC) Un200 V Jb6 V Mm0 V V V) (Lq (Jb V) (Je (Jf (JD ?_))))))))))))
 refine Ke (α:=Nat) (fun k=>5-k)
  (fun k=> [(0, .int .i32 c),(5, .agg barC.toArray),(6, .int .i64 k)])
  (fun k=>Ps)
  (fun k=>(barF::As))
  (fun k=>LetI c k)
  0 ?_ (.m3 rfl rfl rfl) (Sr) (fun _ h=>h) ?_
 ·exact ⟨Nat.zero_le _,fun j hj hjk=>absurd hjk (by omega)⟩
 ·rintro k hI
  refine Jc (Ja (Lq (Km V V) (Je (Jf (Jc (Jz V (fun h7=> ?_) (fun h7=> ?_)))))))
  ·refine Jo (Jf (Jc (JD (Jc ?_))))
   try simp only [Bp,Bq] at *
   have hk:k<barL.length:=by show k<5;omega
   refine Ja (Lq (ZC Un200 Un199 V Zt V V (by omega) (by omega) (Jb1 k hk)) (Jg V (Jw (cs:= [_,_]) Zt V (by decide) fun b4=>Jg V (Jq (cs':= [_,_]) (vs:= [_,_]) Zt V V V V V (Nat.le_of_ble_eq_true V) .z (Je (Jf (Jc (Ja (Lq (Jh (o':=0) Un199 V Xp V V) (Lq (Jk Un21 V V Jn V) (Lq (Jb V) (Lq (YQ V V) (Lq (Jb V) ?_)))))))))))))
   refine J1 (t:=13) V (fun g13=> ?_) (fun g13=> ?_)
   ·refine Lg V V V g13 (Jb V) (Lg V V V g13 (Jh (o':=1) Un199 V Xp V V) (Lg V V V g13 (Jk Un21 V V Jn V) (Lg V V V g13 (YQ V V) (Lq (JO V g13 V) (Je (Jf (Jz V (fun h18=> ?_) (fun h18=> ?_))))))))
    ·refine Jc (Ja (Lq (Jd V) (Je (Jf (Jp (JF (Jt (Jt (JF (Jt ?_))))))))))
     refine ⟨_,[],[],fun Z w hs=> .tmp V .nil,?_,fun Z w hs=>hs.out (Sd (Sr)) (fun _ h=>h)⟩
     try simp only [Bp,Bq] at *
     first
      | exact ⟨by rw [hI.done (by omega)];rfl,rfl,rfl⟩
      | exact ⟨by rw [LetI.hit hk (by omega)];rfl,rfl,rfl⟩
    ·refine Jo (J7 (Jf (Ja (Lq (JQ V V (wr64 (by omega))) (Lq (Jb V) (Je (Ko ?_)))))))
     refine ⟨k+1,?_,(.m3 V V V),(Sd (Sr)),(fun _ h=>h)⟩
     try simp only [Bp,Bq] at *
     exact ⟨by omega,hI.next hk (by omega)⟩
   ·refine Ln V V V g13 (Ln V V V g13 (Ln V V V g13 (Ln V V V g13 (Lq (JL V g13 V) (Je (Jf (Ju V V (Jo (J7 (Jf (Ja (Lq (JQ V V (wr64 (by omega))) (Lq (Jb V) (Je (Ko ?_)))))))))))))))
    refine ⟨k+1,?_,(.m3 V V V),(Sd (Sr)),(fun _ h=>h)⟩
    try simp only [Bp,Bq] at *
    exact ⟨by omega,hI.next hk (by omega)⟩
  ·refine Kh (JH (JH (J6 (Jf (Jc (Ja (Lq (Jb V) (Lq (Vr V V (i32_and65535 _)) (Lq (Km V V) (Lq (Jd V) (Je (Jf (Jp ?_)))))))))))))
   refine ⟨_,[],[],fun Z w hs=> .tmp V .nil,?_,fun Z w hs=>hs.out (Sr) (fun _ h=>h)⟩
   try simp only [Bp,Bq] at *
   first
    | exact ⟨by rw [hI.done (by omega)];rfl,rfl,rfl⟩
    | exact ⟨by rw [LetI.hit hk (by omega)];rfl,rfl,rfl⟩
structure UtI (s:ByteArray) (p k:Nat):Prop where
 le:p≤s.size
 kp:k≤p
 eq:utF s=utAt s p k
theorem VK (s:ByteArray) (hs:s.size≤4611686018427387904):Sp Tryz.prog 46 [.string s] [] [barF] (Is (.tuple #[.int .i64 (utF s).1, .int .i64 (utF s).2.1, .int .i64 (utF s).2.2])):=by
 refine Sp.of (n:=27) ⟨_,Tryz.func46,V,V,V,V⟩ (Nat.le_of_ble_eq_true V) fun Ps As=>Jc (Ja (Lq (Jd V) (Lq (Jd V) (Lq (Jd V) (Je (Jf (Jc (Ja (Lq (Jd V) (Je (Jf (Jc (Jc (Ja (Lq (Jb V) (Jg V (G9 Un9 V (by decide) fun b9=> ?_)))))))))))))))))
 refine Je (Jf (JD ?_))
 refine Ke (α:=Nat×Nat) (fun (p,k)=>s.size-p)
  (fun (p,k)=> [(0, .string s),(9, .pointer (some ⟨b9,0,none⟩)),(5, .int .i64 k)])
  (fun (p,k)=>([(b9, .stringIter s p)] ::Ps))
  (fun (p,k)=>(barF::As))
  (fun (p,k)=>UtI s p k)
  (0,0) ?_ (.m3 rfl rfl rfl) (Sk (Sr)) (fun _ h=>h) ?_
 ·exact ⟨Nat.zero_le _,Nat.le_refl _,V⟩
 ·rintro ⟨p,k⟩ hI
  have hle:=hI.le
  have hkp:=hI.kp
  refine Jc ?_
  by_cases hp:p<s.size
  ·refine Ja (Jg V (Ea V hp .z (by decide) (Lq (Ji (vs:= [_,_,_]) V V) (Je (Jf (Jc (JS V V (Jo (Jf (JD (Jc (Ja (Lq (Ji (vs:= [_,_,_]) V V) (Lq (Ji (vs:= [_,_,_]) V V) (Lq (Jd V) (Lq (Jd V) (Je (Jf (Jc (Jc (Ja ?_)))))))))))))))))))))
   refine Lq (Jb V) (Lq (Jb V) (Lq (Jb V) (Jg V (Jm (Z6 s p (Utf8.decode s p).1 (by omega)) (.n3 V V V) (by decide) Jx fun _ _ _ q9=>?_))))
   obtain ⟨rfl,rfl,rfl⟩:=q9
   refine Lq (KU V) (Je (Jf (Jz V (fun h18=> ?_) (fun h18=> ?_))))
   ·refine Jc (Ja (Lq (Jb V) (Lq (Jd V) (Lq (Jd V) (Lq (Jd V) (Je (Jf (Jp (Jt (JF (Jt (JF (Jt ?_)))))))))))))
    refine ⟨_,[],[],fun Z w hs=> .tmp V (.tmp V (.tmp V .nil)),?_,fun Z w hs=>hs.out (Sd (Sr)) (fun _ h=>h)⟩
    first
     | (have hF:=hI.eq.trans (utAt_end hp);exact ⟨by rw [hF];rfl,rfl,rfl⟩)
     | (have hF:=hI.eq.trans (utAt_utf8 hp (by simp_all));exact ⟨by rw [hF];rfl,rfl,rfl⟩)
     | (have hF:=hI.eq.trans (utAt_rune hp (by simp_all) (by simp_all));exact ⟨by rw [hF];rfl,rfl,rfl⟩)
   ·refine Jo (Jf (Jc (Jc (Ja (Lq (Jb V) (Jg V (Jm (Jay (Utf8.decode s p).1) (.n1 V) (by decide) (Jl Mm0 Jx) fun _ _ _ q9=>?_)))))))
    obtain ⟨rfl,rfl,rfl⟩:=q9
    refine Lq (KU V) (Je (Jf (Jz V (fun h22=> ?_) (fun h22=> ?_))))
    ·refine Jc (Ja (Lq (Jb V) (Lq (Jd V) (Lq (Jd V) (Lq (Jd V) (Je (Jf (Jp (Jt (JF (Jt (JF (Jt ?_)))))))))))))
     refine ⟨_,[],[],fun Z w hs=> .tmp V (.tmp V (.tmp V .nil)),?_,fun Z w hs=>hs.out (Sd (Sr)) (fun _ h=>h)⟩
     first
      | (have hF:=hI.eq.trans (utAt_end hp);exact ⟨by rw [hF];rfl,rfl,rfl⟩)
      | (have hF:=hI.eq.trans (utAt_utf8 hp (by simp_all));exact ⟨by rw [hF];rfl,rfl,rfl⟩)
      | (have hF:=hI.eq.trans (utAt_rune hp (by simp_all) (by simp_all));exact ⟨by rw [hF];rfl,rfl,rfl⟩)
    ·refine Jo (Jf (Ja (Lq (Jb V) (Lq (JQ V V (wr64 (by omega)) (c:=((k+1:Nat):Int))) (Lq (Jd V) (Je (J7 (Ko ?_))))))))
     have hd:=decode_pos s p
     have hd2:=decode_leP hp
     refine ⟨(p+(Utf8.decode s p).2,k+1),?_,(.m3 V V V),(Sk (Sr)),(fun _ h=>h)⟩
     try simp only [Bp,Bq] at *
     exact ⟨by show s.size-(p+(Utf8.decode s p).2)<s.size-p;omega,by show p+(Utf8.decode s p).2≤s.size;exact hd2,by show k+1≤p+(Utf8.decode s p).2;omega,by rw [hI.eq,utAt_next hp (by simp_all) (by simp_all)]⟩
  ·refine Ja (Jg V (Eb V Jn hp (by decide) (Lq (Ji (vs:= [_]) V V) (Je (Jf (Jc (Ju V V (Kh (JH (JH (J6 (Jf (Jc (Ja (Lq (Jb V) (Lq (Jd V) (Lq (Jd V) (Lq (Jd V) (Je (Jf (Jp ?_)))))))))))))))))))))
   refine ⟨_,[],[],fun Z w hs=> .tmp V (.tmp V (.tmp V .nil)),?_,fun Z w hs=>hs.out (Sd (Sr)) (fun _ h=>h)⟩
   first
    | (have hF:=hI.eq.trans (utAt_end hp);exact ⟨by rw [hF];rfl,rfl,rfl⟩)
    | (have hF:=hI.eq.trans (utAt_utf8 hp (by simp_all));exact ⟨by rw [hF];rfl,rfl,rfl⟩)
    | (have hF:=hI.eq.trans (utAt_rune hp (by simp_all) (by simp_all));exact ⟨by rw [hF];rfl,rfl,rfl⟩)
theorem YC (o:GOp) (A:Option Addr) (c:Nat) (hs:o.text.size≤4611686018427387904):Sp Tryz.prog 72 [opV o A c] [] [barF] (Is (.int .i64 (Jr o))):=by
 refine Sp.of (n:=18) ⟨_,Tryz.func72,V,V,V,V⟩ (Nat.le_of_ble_eq_true V) fun Ps As=>Jc (Ja (Jg V (J3 (cs:= [_,_,_,_,_,_,_,_,_]) V V (by decide) fun b1=>Lq (Jd V) (Je (Jf (Jc (Jc (Ja (Lq (Jh (o':=0) Un60 V KM V V) (Lq (Jh (o':=2) Un58 V Yh V V) (Lq (Jk Un44 V V Jn V) (Lq (Kr V V) (Je (Jf ?_))))))))))))))
 refine Jz V (fun h9=> ?_) (fun h9=> ?_)
 ·refine Jc (Ja (Lq (Jd V) (Je (Jf (Jp (Jt ?_))))))
  refine ⟨_,[],[],fun Z w hs=> .tmp V .nil,?_,fun Z w hs=>hs.out (Sd (Sr)) (fun _ h=>h)⟩
  try simp only [Bp,Bq] at *
  exact ⟨congrArg (Value.int .i64) (by unfold Jr;first | (simp_all;done) | (simp_all;repeat' split;all_goals omega) | (repeat' split;all_goals first | rfl | omega)),rfl,rfl⟩
 ·refine Jo (Jf (Jc (Ja (Lq (Jh (o':=4) Un60 V ti9 V V) (Lq (Jk Un9 V V Jn V) (Jg V (Jm (VK o.text hs) (.n1 V) (by decide) (Jl Mm0 Jx) fun _ _ _ q9=>?_)))))))
  obtain ⟨rfl,rfl,rfl⟩:=q9
  refine Lq (Jb V) (Lq (Ji (vs:= [_,_,_]) V V) (Lq (Ji (vs:= [_,_,_]) V V) (Lq (Ji (vs:= [_,_,_]) V V) (Lq (Jd V) (Lq (Jd V) (Lq (Jd V) (Je (Jf (JG [(3,_),(2,_)] (.m2 V V) (Jc (Ja ?_)))))))))))
  refine Lq (Jb V) (Lq (Jd V) (Je (Jf (Jp ?_))))
  refine ⟨_,[],[],fun Z w hs=> .tmp V .nil,?_,fun Z w hs=>hs.out (Sd (Sr)) (fun _ h=>h)⟩
  try simp only [Bp,Bq] at *
  exact ⟨congrArg (Value.int .i64) (by unfold Jr;first | (simp_all;done) | (simp_all;repeat' split;all_goals omega) | (repeat' split;all_goals first | rfl | omega)),rfl,rfl⟩
theorem bd25Xw8 (w:World):(Instr.build 43 #[]).run Tryz.prog w= .ok (.agg #[.int .i64 0, .int .i64 0]) w:=by kernel_rfl
theorem HE (o:GOp) (A:Option Addr) (c:Nat):Sp Tryz.prog 116 [opV o A c] [] [] (Is (.bool (extraF o))):=by
 refine Sp.of (n:=56) ⟨_,Tryz.func116,V,V,V,V⟩ (Nat.le_of_ble_eq_true V) fun Ps As=>Jc (Ja (Jg V (J3 (cs:= [_,_,_,_,_,_,_,_,_]) V V (by decide) fun b1=>Lq (Jd V) (Je (Jf (Jc (Ja (Lq (Jh (o':=0) Un60 V KM V V) (Lq (Jh (o':=2) Un58 V Yh V V) (Lq (Jk Un44 V V Jn V) (Lq (Kb V V) (Lq (Jd V) ?_))))))))))))
 refine Je (Jf (Jc (Ja (Lq (Jh (o':=0) Un60 V KM V V) (Lq (Jh (o':=2) Un58 V Yh V V) (Lq (Jk Un44 V V Jn V) (Lq (Kb V V) (Lq (Jb V) (J1 (t:=14) V (fun g14=> ?_) (fun g14=> ?_))))))))))
 ·refine Ln V V V g14 (Ln V V V g14 (Ln V V V g14 (Ln V V V g14 (Lq (JO V g14 V) (Lq (Jd V) (Je (Jf (JG [(4,_),(3,_),(2,_),(1,_)] (.m4 V V V V) (Jc (Ja (Lq (Jh (o':=0) Un60 V KM V V) ?_)))))))))))
  refine Lq (Jh (o':=2) Un58 V Yh V V) (Lq (Jk Un44 V V Jn V) (Lq (Kb V V) (Lq (Jd V) (Je (Jf (Jc (Jc (Ja (Lq (Jb V) (Lq (KU V) (Lq (Jb V) (J1 (t:=26) V (fun g26=> ?_) (fun g26=> ?_)))))))))))))
  ·refine Lg V V V g26 (Jh (o':=3) Un60 V ti3 V V) (Lg V V V g26 (Jk Un3 V V Jn V) (Lg V V V g26 (Kr V V) (Lg V V V g26 (Jb V) (J1 (t:=30) V (fun g30=> ?_) (fun g30=> ?_)))))
   ·refine Ln V V V g30 (Ln V V V g30 (Ln V V V g30 (Lg V V V g26 (JO V g30 V) (Lq (JO V g26 V) (Je (Jf (JG [(35,_),(5,_),(4,_),(2,_),(1,_)] (.m5 V V V V V) (JS V V (Jc (Ja (Lq (Jd V) (Je (Jf (Jp (Jt ?_)))))))))))))))
    refine ⟨_,[],[],fun Z w hs=> .tmp V .nil,?_,fun Z w hs=>hs.out (Sd (Sr)) (fun _ h=>h)⟩
    try simp only [Bp,Bq] at *
    exact ⟨congrArg (Value.bool) (by unfold extraF;first | (simp_all;done) | (simp_all;repeat' split;all_goals omega) | (repeat' split;all_goals first | rfl | omega)),rfl,rfl⟩
   ·refine Lg V V V g30 (Jh (o':=4) Un60 V ti9 V V) (Lg V V V g30 (Jk Un9 V V Jn V) (Lg V V V g30 (E8 V V) (Lg V V V g26 (JL V g30 V) (Lq (JO V g26 V) (Je (Jf (JG [(35,_),(5,_),(4,_),(2,_),(1,_)] (.m5 V V V V V) (Jz V (fun h35=> ?_) (fun h35=> ?_)))))))))
    ·refine Jc (Ja (Lq (Jd V) (Je (Jf (Jp (Jt ?_))))))
     refine ⟨_,[],[],fun Z w hs=> .tmp V .nil,?_,fun Z w hs=>hs.out (Sd (Sr)) (fun _ h=>h)⟩
     try simp only [Bp,Bq] at *
     exact ⟨congrArg (Value.bool) (by unfold extraF;first | (simp_all;done) | (simp_all;repeat' split;all_goals omega) | (repeat' split;all_goals first | rfl | omega)),rfl,rfl⟩
    ·refine Jo (Jf (Jc (Jc (Ja (Lq (Jb V) (Lq (KU V) (Lq (Jb V) (Ln V V V V (Ln V V V V (Ln V V V V (Ln V V V V (Lq (JL V V V) (Je (Jf (Ju V V (Jo (Jf (Jc (Ja ?_)))))))))))))))))))
     refine Lq (Jb V) (Lq (KU V) (Lq (Jb V) (J1 (t:=46) V (fun g46=> ?_) (fun g46=> ?_))))
     ·refine Lg V V V g46 (Jh (o':=6) Un60 V JW V V) (Lg V V V g46 (Js (vs:= [_,_]) Un43 V JW V Jn V V) (Lg V V V g46 (JY .nil (bd25Xw8)) (Lg V V V g46 (YR V V (eq43 _ _ _ _)) (Lg V V V g46 (Jb V) (J1 (t:=51) V (fun g51=> ?_) (fun g51=> ?_))))))
      ·refine Ln V V V g51 (Ln V V V g51 (Lg V V V g46 (JO V g51 V) (Lq (JO V g46 V) (Lq (Jd V) (Je (Jf (JG [(2,_)] (.m1 V) (Jp ?_))))))))
       refine ⟨_,[],[],fun Z w hs=> .tmp V .nil,?_,fun Z w hs=>hs.out (Sd (Sr)) (fun _ h=>h)⟩
       try simp only [Bp,Bq] at *
       exact ⟨congrArg (Value.bool) (by unfold extraF;first | (simp_all;done) | (simp_all;repeat' split;all_goals omega) | (repeat' split;all_goals first | rfl | omega)),rfl,rfl⟩
      ·refine Lg V V V g51 (Jh (o':=8) Un60 V ti4 V V) (Lg V V V g51 (Jk Un4 V V Jn V) (Lg V V V g46 (JL V g51 V) (Lq (JO V g46 V) (Lq (Jd V) (Je (Jf (JG [(2,_)] (.m1 V) (Jp ?_))))))))
       refine ⟨_,[],[],fun Z w hs=> .tmp V .nil,?_,fun Z w hs=>hs.out (Sd (Sr)) (fun _ h=>h)⟩
       try simp only [Bp,Bq] at *
       exact ⟨congrArg (Value.bool) (by unfold extraF;first | (simp_all;done) | (simp_all;repeat' split;all_goals omega) | (repeat' split;all_goals first | rfl | omega)),rfl,rfl⟩
     ·refine Ln V V V g46 (Ln V V V g46 (Ln V V V g46 (Ln V V V g46 (Ln V V V g46 (Yw V V V (by decide) (Yw V V V (by decide) (Ln V V V g46 (Lq (JL V g46 V) (Lq (Jd V) ?_)))))))))
      refine Je (Jf (JG [(2,_)] (.m1 V) (Jp ?_)))
      refine ⟨_,[],[],fun Z w hs=> .tmp V .nil,?_,fun Z w hs=>hs.out (Sd (Sr)) (fun _ h=>h)⟩
      try simp only [Bp,Bq] at *
      exact ⟨congrArg (Value.bool) (by unfold extraF;first | (simp_all;done) | (simp_all;repeat' split;all_goals omega) | (repeat' split;all_goals first | rfl | omega)),rfl,rfl⟩
  ·refine Ln V V V g26 (Ln V V V g26 (Ln V V V g26 (Ln V V V g26 (Yw V V V (by decide) (Yw V V V (by decide) (Yw V V V (by decide) (Ln V V V g26 (Lq (JL V g26 V) (Je (Jf ?_))))))))))
   refine JG [(35,_),(5,_),(4,_),(2,_),(1,_)] (.m5 V V V V V) (Ju V V (Jo (Jf (Jc (Jc (Ja (Lq (Jb V) (Lq (KU V) (Lq (Jb V) (Ln V V V V (Ln V V V V (Ln V V V V (Ln V V V V (Lq (JL V V V) ?_))))))))))))))
   refine Je (Jf (Ju V V (Jo (Jf (Jc (Ja (Lq (Jb V) (Lq (KU V) (Lq (Jb V) (J1 (t:=46) V (fun g46=> ?_) (fun g46=> ?_)))))))))))
   ·refine Lg V V V g46 (Jh (o':=6) Un60 V JW V V) (Lg V V V g46 (Js (vs:= [_,_]) Un43 V JW V Jn V V) (Lg V V V g46 (JY .nil (bd25Xw8)) (Lg V V V g46 (YR V V (eq43 _ _ _ _)) (Lg V V V g46 (Jb V) (J1 (t:=51) V (fun g51=> ?_) (fun g51=> ?_))))))
    ·refine Ln V V V g51 (Ln V V V g51 (Lg V V V g46 (JO V g51 V) (Lq (JO V g46 V) (Lq (Jd V) (Je (Jf (JG [(2,_)] (.m1 V) (Jp ?_))))))))
     refine ⟨_,[],[],fun Z w hs=> .tmp V .nil,?_,fun Z w hs=>hs.out (Sd (Sr)) (fun _ h=>h)⟩
     try simp only [Bp,Bq] at *
     exact ⟨congrArg (Value.bool) (by unfold extraF;first | (simp_all;done) | (simp_all;repeat' split;all_goals omega) | (repeat' split;all_goals first | rfl | omega)),rfl,rfl⟩
    ·refine Lg V V V g51 (Jh (o':=8) Un60 V ti4 V V) (Lg V V V g51 (Jk Un4 V V Jn V) (Lg V V V g46 (JL V g51 V) (Lq (JO V g46 V) (Lq (Jd V) (Je (Jf (JG [(2,_)] (.m1 V) (Jp ?_))))))))
     refine ⟨_,[],[],fun Z w hs=> .tmp V .nil,?_,fun Z w hs=>hs.out (Sd (Sr)) (fun _ h=>h)⟩
     try simp only [Bp,Bq] at *
     exact ⟨congrArg (Value.bool) (by unfold extraF;first | (simp_all;done) | (simp_all;repeat' split;all_goals omega) | (repeat' split;all_goals first | rfl | omega)),rfl,rfl⟩
   ·refine Ln V V V g46 (Ln V V V g46 (Ln V V V g46 (Ln V V V g46 (Ln V V V g46 (Yw V V V (by decide) (Yw V V V (by decide) (Ln V V V g46 (Lq (JL V g46 V) (Lq (Jd V) ?_)))))))))
    refine Je (Jf (JG [(2,_)] (.m1 V) (Jp ?_)))
    refine ⟨_,[],[],fun Z w hs=> .tmp V .nil,?_,fun Z w hs=>hs.out (Sd (Sr)) (fun _ h=>h)⟩
    try simp only [Bp,Bq] at *
    exact ⟨congrArg (Value.bool) (by unfold extraF;first | (simp_all;done) | (simp_all;repeat' split;all_goals omega) | (repeat' split;all_goals first | rfl | omega)),rfl,rfl⟩
 ·refine Lg V V V g14 (Jh (o':=0) Un60 V KM V V) (Lg V V V g14 (Jh (o':=2) Un58 V Yh V V) (Lg V V V g14 (Jk Un44 V V Jn V) (Lg V V V g14 (Kb V V) (Lq (JL V g14 V) (Lq (Jd V) (Je (Jf (JG [(4,_),(3,_),(2,_),(1,_)] (.m4 V V V V) (Jc (Ja (Lq (Jh (o':=0) Un60 V KM V V) ?_)))))))))))
  refine Lq (Jh (o':=2) Un58 V Yh V V) (Lq (Jk Un44 V V Jn V) (Lq (Kb V V) (Lq (Jd V) (Je (Jf (Jc (Jc (Ja (Lq (Jb V) (Lq (KU V) (Lq (Jb V) (J1 (t:=26) V (fun g26=> ?_) (fun g26=> ?_)))))))))))))
  ·refine Lg V V V g26 (Jh (o':=3) Un60 V ti3 V V) (Lg V V V g26 (Jk Un3 V V Jn V) (Lg V V V g26 (Kr V V) (Lg V V V g26 (Jb V) (J1 (t:=30) V (fun g30=> ?_) (fun g30=> ?_)))))
   ·refine Ln V V V g30 (Ln V V V g30 (Ln V V V g30 (Lg V V V g26 (JO V g30 V) (Lq (JO V g26 V) (Je (Jf (JG [(35,_),(5,_),(4,_),(2,_),(1,_)] (.m5 V V V V V) (JS V V (Jc (Ja (Lq (Jd V) (Je (Jf (Jp (Jt ?_)))))))))))))))
    refine ⟨_,[],[],fun Z w hs=> .tmp V .nil,?_,fun Z w hs=>hs.out (Sd (Sr)) (fun _ h=>h)⟩
    try simp only [Bp,Bq] at *
    exact ⟨congrArg (Value.bool) (by unfold extraF;first | (simp_all;done) | (simp_all;repeat' split;all_goals omega) | (repeat' split;all_goals first | rfl | omega)),rfl,rfl⟩
   ·refine Lg V V V g30 (Jh (o':=4) Un60 V ti9 V V) (Lg V V V g30 (Jk Un9 V V Jn V) (Lg V V V g30 (E8 V V) (Lg V V V g26 (JL V g30 V) (Lq (JO V g26 V) (Je (Jf (JG [(35,_),(5,_),(4,_),(2,_),(1,_)] (.m5 V V V V V) (Jz V (fun h35=> ?_) (fun h35=> ?_)))))))))
    ·refine Jc (Ja (Lq (Jd V) (Je (Jf (Jp (Jt ?_))))))
     refine ⟨_,[],[],fun Z w hs=> .tmp V .nil,?_,fun Z w hs=>hs.out (Sd (Sr)) (fun _ h=>h)⟩
     try simp only [Bp,Bq] at *
     exact ⟨congrArg (Value.bool) (by unfold extraF;first | (simp_all;done) | (simp_all;repeat' split;all_goals omega) | (repeat' split;all_goals first | rfl | omega)),rfl,rfl⟩
    ·refine Jo (Jf (Jc (Jc (Ja (Lq (Jb V) (Lq (KU V) (Lq (Jb V) (J1 (t:=38) V (fun g38=> ?_) (fun g38=> ?_)))))))))
     ·refine Lg V V V g38 (Jh (o':=5) Un60 V K3 V V) (Lg V V V g38 (Jk Un45 V V Jn V) (Lg V V V g38 (J4 Un45 V) (Lg V V V g38 (Kl V V) (Lq (JO V g38 V) (Je (Jf (Jz V (fun h43=> ?_) (fun h43=> ?_))))))))
      ·refine Jc (Ja (Lq (Jd V) (Je (Jf (Jp (Jt ?_))))))
       refine ⟨_,[],[],fun Z w hs=> .tmp V .nil,?_,fun Z w hs=>hs.out (Sd (Sr)) (fun _ h=>h)⟩
       try simp only [Bp,Bq] at *
       exact ⟨congrArg (Value.bool) (by unfold extraF;first | (simp_all;done) | (simp_all;repeat' split;all_goals omega) | (repeat' split;all_goals first | rfl | omega)),rfl,rfl⟩
      ·refine Jo (Jf (Jc (Ja (Lq (Jb V) (Lq (KU V) (Lq (Jb V) (J1 (t:=46) V (fun g46=> ?_) (fun g46=> ?_))))))))
       ·refine Lg V V V g46 (Jh (o':=6) Un60 V JW V V) (Lg V V V g46 (Js (vs:= [_,_]) Un43 V JW V Jn V V) (Lg V V V g46 (JY .nil (bd25Xw8)) (Lg V V V g46 (YR V V (eq43 _ _ _ _)) (Lg V V V g46 (Jb V) (J1 (t:=51) V (fun g51=> ?_) (fun g51=> ?_))))))
        ·refine Ln V V V g51 (Ln V V V g51 (Lg V V V g46 (JO V g51 V) (Lq (JO V g46 V) (Lq (Jd V) (Je (Jf (JG [(2,_)] (.m1 V) (Jp ?_))))))))
         refine ⟨_,[],[],fun Z w hs=> .tmp V .nil,?_,fun Z w hs=>hs.out (Sd (Sr)) (fun _ h=>h)⟩
         try simp only [Bp,Bq] at *
         exact ⟨congrArg (Value.bool) (by unfold extraF;first | (simp_all;done) | (simp_all;repeat' split;all_goals omega) | (repeat' split;all_goals first | rfl | omega)),rfl,rfl⟩
        ·refine Lg V V V g51 (Jh (o':=8) Un60 V ti4 V V) (Lg V V V g51 (Jk Un4 V V Jn V) (Lg V V V g46 (JL V g51 V) (Lq (JO V g46 V) (Lq (Jd V) (Je (Jf (JG [(2,_)] (.m1 V) (Jp ?_))))))))
         refine ⟨_,[],[],fun Z w hs=> .tmp V .nil,?_,fun Z w hs=>hs.out (Sd (Sr)) (fun _ h=>h)⟩
         try simp only [Bp,Bq] at *
         exact ⟨congrArg (Value.bool) (by unfold extraF;first | (simp_all;done) | (simp_all;repeat' split;all_goals omega) | (repeat' split;all_goals first | rfl | omega)),rfl,rfl⟩
       ·refine Ln V V V g46 (Ln V V V g46 (Ln V V V g46 (Ln V V V g46 (Ln V V V g46 (Yw V V V (by decide) (Yw V V V (by decide) (Ln V V V g46 (Lq (JL V g46 V) (Lq (Jd V) ?_)))))))))
        refine Je (Jf (JG [(2,_)] (.m1 V) (Jp ?_)))
        refine ⟨_,[],[],fun Z w hs=> .tmp V .nil,?_,fun Z w hs=>hs.out (Sd (Sr)) (fun _ h=>h)⟩
        try simp only [Bp,Bq] at *
        exact ⟨congrArg (Value.bool) (by unfold extraF;first | (simp_all;done) | (simp_all;repeat' split;all_goals omega) | (repeat' split;all_goals first | rfl | omega)),rfl,rfl⟩
     ·refine Ln V V V g38 (Ln V V V g38 (Ln V V V g38 (Ln V V V g38 (Lq (JL V g38 V) (Je (Jf (Ju V V (Jo (Jf (Jc (Ja (Lq (Jb V) (Lq (KU V) (Lq (Jb V) (J1 (t:=46) V (fun g46=> ?_) (fun g46=> ?_))))))))))))))))
      ·refine Lg V V V g46 (Jh (o':=6) Un60 V JW V V) (Lg V V V g46 (Js (vs:= [_,_]) Un43 V JW V Jn V V) (Lg V V V g46 (JY .nil (bd25Xw8)) (Lg V V V g46 (YR V V (eq43 _ _ _ _)) (Lg V V V g46 (Jb V) (J1 (t:=51) V (fun g51=> ?_) (fun g51=> ?_))))))
       ·refine Ln V V V g51 (Ln V V V g51 (Lg V V V g46 (JO V g51 V) (Lq (JO V g46 V) (Lq (Jd V) (Je (Jf (JG [(2,_)] (.m1 V) (Jp ?_))))))))
        refine ⟨_,[],[],fun Z w hs=> .tmp V .nil,?_,fun Z w hs=>hs.out (Sd (Sr)) (fun _ h=>h)⟩
        try simp only [Bp,Bq] at *
        exact ⟨congrArg (Value.bool) (by unfold extraF;first | (simp_all;done) | (simp_all;repeat' split;all_goals omega) | (repeat' split;all_goals first | rfl | omega)),rfl,rfl⟩
       ·refine Lg V V V g51 (Jh (o':=8) Un60 V ti4 V V) (Lg V V V g51 (Jk Un4 V V Jn V) (Lg V V V g46 (JL V g51 V) (Lq (JO V g46 V) (Lq (Jd V) (Je (Jf (JG [(2,_)] (.m1 V) (Jp ?_))))))))
        refine ⟨_,[],[],fun Z w hs=> .tmp V .nil,?_,fun Z w hs=>hs.out (Sd (Sr)) (fun _ h=>h)⟩
        try simp only [Bp,Bq] at *
        exact ⟨congrArg (Value.bool) (by unfold extraF;first | (simp_all;done) | (simp_all;repeat' split;all_goals omega) | (repeat' split;all_goals first | rfl | omega)),rfl,rfl⟩
      ·refine Ln V V V g46 (Ln V V V g46 (Ln V V V g46 (Ln V V V g46 (Ln V V V g46 (Yw V V V (by decide) (Yw V V V (by decide) (Ln V V V g46 (Lq (JL V g46 V) (Lq (Jd V) ?_)))))))))
       refine Je (Jf (JG [(2,_)] (.m1 V) (Jp ?_)))
       refine ⟨_,[],[],fun Z w hs=> .tmp V .nil,?_,fun Z w hs=>hs.out (Sd (Sr)) (fun _ h=>h)⟩
       try simp only [Bp,Bq] at *
       exact ⟨congrArg (Value.bool) (by unfold extraF;first | (simp_all;done) | (simp_all;repeat' split;all_goals omega) | (repeat' split;all_goals first | rfl | omega)),rfl,rfl⟩
  ·refine Ln V V V g26 (Ln V V V g26 (Ln V V V g26 (Ln V V V g26 (Yw V V V (by decide) (Yw V V V (by decide) (Yw V V V (by decide) (Ln V V V g26 (Lq (JL V g26 V) (Je (Jf ?_))))))))))
   refine JG [(35,_),(5,_),(4,_),(2,_),(1,_)] (.m5 V V V V V) (Ju V V (Jo (Jf (Jc (Jc (Ja (Lq (Jb V) (Lq (KU V) (Lq (Jb V) (J1 (t:=38) V (fun g38=> ?_) (fun g38=> ?_)))))))))))
   ·refine Lg V V V g38 (Jh (o':=5) Un60 V K3 V V) (Lg V V V g38 (Jk Un45 V V Jn V) (Lg V V V g38 (J4 Un45 V) (Lg V V V g38 (Kl V V) (Lq (JO V g38 V) (Je (Jf (Jz V (fun h43=> ?_) (fun h43=> ?_))))))))
    ·refine Jc (Ja (Lq (Jd V) (Je (Jf (Jp (Jt ?_))))))
     refine ⟨_,[],[],fun Z w hs=> .tmp V .nil,?_,fun Z w hs=>hs.out (Sd (Sr)) (fun _ h=>h)⟩
     try simp only [Bp,Bq] at *
     exact ⟨congrArg (Value.bool) (by unfold extraF;first | (simp_all;done) | (simp_all;repeat' split;all_goals omega) | (repeat' split;all_goals first | rfl | omega)),rfl,rfl⟩
    ·refine Jo (Jf (Jc (Ja (Lq (Jb V) (Lq (KU V) (Lq (Jb V) (J1 (t:=46) V (fun g46=> ?_) (fun g46=> ?_))))))))
     ·refine Lg V V V g46 (Jh (o':=6) Un60 V JW V V) (Lg V V V g46 (Js (vs:= [_,_]) Un43 V JW V Jn V V) (Lg V V V g46 (JY .nil (bd25Xw8)) (Lg V V V g46 (YR V V (eq43 _ _ _ _)) (Lg V V V g46 (Jb V) (J1 (t:=51) V (fun g51=> ?_) (fun g51=> ?_))))))
      ·refine Ln V V V g51 (Ln V V V g51 (Lg V V V g46 (JO V g51 V) (Lq (JO V g46 V) (Lq (Jd V) (Je (Jf (JG [(2,_)] (.m1 V) (Jp ?_))))))))
       refine ⟨_,[],[],fun Z w hs=> .tmp V .nil,?_,fun Z w hs=>hs.out (Sd (Sr)) (fun _ h=>h)⟩
       try simp only [Bp,Bq] at *
       exact ⟨congrArg (Value.bool) (by unfold extraF;first | (simp_all;done) | (simp_all;repeat' split;all_goals omega) | (repeat' split;all_goals first | rfl | omega)),rfl,rfl⟩
      ·refine Lg V V V g51 (Jh (o':=8) Un60 V ti4 V V) (Lg V V V g51 (Jk Un4 V V Jn V) (Lg V V V g46 (JL V g51 V) (Lq (JO V g46 V) (Lq (Jd V) (Je (Jf (JG [(2,_)] (.m1 V) (Jp ?_))))))))
       refine ⟨_,[],[],fun Z w hs=> .tmp V .nil,?_,fun Z w hs=>hs.out (Sd (Sr)) (fun _ h=>h)⟩
       try simp only [Bp,Bq] at *
       exact ⟨congrArg (Value.bool) (by unfold extraF;first | (simp_all;done) | (simp_all;repeat' split;all_goals omega) | (repeat' split;all_goals first | rfl | omega)),rfl,rfl⟩
     ·refine Ln V V V g46 (Ln V V V g46 (Ln V V V g46 (Ln V V V g46 (Ln V V V g46 (Yw V V V (by decide) (Yw V V V (by decide) (Ln V V V g46 (Lq (JL V g46 V) (Lq (Jd V) ?_)))))))))
      refine Je (Jf (JG [(2,_)] (.m1 V) (Jp ?_)))
      refine ⟨_,[],[],fun Z w hs=> .tmp V .nil,?_,fun Z w hs=>hs.out (Sd (Sr)) (fun _ h=>h)⟩
      try simp only [Bp,Bq] at *
      exact ⟨congrArg (Value.bool) (by unfold extraF;first | (simp_all;done) | (simp_all;repeat' split;all_goals omega) | (repeat' split;all_goals first | rfl | omega)),rfl,rfl⟩
   ·refine Ln V V V g38 (Ln V V V g38 (Ln V V V g38 (Ln V V V g38 (Lq (JL V g38 V) (Je (Jf (Ju V V (Jo (Jf (Jc (Ja (Lq (Jb V) (Lq (KU V) (Lq (Jb V) (J1 (t:=46) V (fun g46=> ?_) (fun g46=> ?_))))))))))))))))
    ·refine Lg V V V g46 (Jh (o':=6) Un60 V JW V V) (Lg V V V g46 (Js (vs:= [_,_]) Un43 V JW V Jn V V) (Lg V V V g46 (JY .nil (bd25Xw8)) (Lg V V V g46 (YR V V (eq43 _ _ _ _)) (Lg V V V g46 (Jb V) (J1 (t:=51) V (fun g51=> ?_) (fun g51=> ?_))))))
     ·refine Ln V V V g51 (Ln V V V g51 (Lg V V V g46 (JO V g51 V) (Lq (JO V g46 V) (Lq (Jd V) (Je (Jf (JG [(2,_)] (.m1 V) (Jp ?_))))))))
      refine ⟨_,[],[],fun Z w hs=> .tmp V .nil,?_,fun Z w hs=>hs.out (Sd (Sr)) (fun _ h=>h)⟩
      try simp only [Bp,Bq] at *
      exact ⟨congrArg (Value.bool) (by unfold extraF;first | (simp_all;done) | (simp_all;repeat' split;all_goals omega) | (repeat' split;all_goals first | rfl | omega)),rfl,rfl⟩
     ·refine Lg V V V g51 (Jh (o':=8) Un60 V ti4 V V) (Lg V V V g51 (Jk Un4 V V Jn V) (Lg V V V g46 (JL V g51 V) (Lq (JO V g46 V) (Lq (Jd V) (Je (Jf (JG [(2,_)] (.m1 V) (Jp ?_))))))))
      refine ⟨_,[],[],fun Z w hs=> .tmp V .nil,?_,fun Z w hs=>hs.out (Sd (Sr)) (fun _ h=>h)⟩
      try simp only [Bp,Bq] at *
      exact ⟨congrArg (Value.bool) (by unfold extraF;first | (simp_all;done) | (simp_all;repeat' split;all_goals omega) | (repeat' split;all_goals first | rfl | omega)),rfl,rfl⟩
    ·refine Ln V V V g46 (Ln V V V g46 (Ln V V V g46 (Ln V V V g46 (Ln V V V g46 (Yw V V V (by decide) (Yw V V V (by decide) (Ln V V V g46 (Lq (JL V g46 V) (Lq (Jd V) ?_)))))))))
     refine Je (Jf (JG [(2,_)] (.m1 V) (Jp ?_)))
     refine ⟨_,[],[],fun Z w hs=> .tmp V .nil,?_,fun Z w hs=>hs.out (Sd (Sr)) (fun _ h=>h)⟩
     try simp only [Bp,Bq] at *
     exact ⟨congrArg (Value.bool) (by unfold extraF;first | (simp_all;done) | (simp_all;repeat' split;all_goals omega) | (repeat' split;all_goals first | rfl | omega)),rfl,rfl⟩
theorem GE (o:GOp) (A:Option Addr) (c:Nat) (total:Int) (hs:o.text.size≤4611686018427387904) (ht:0≤total∧total≤1048576):Sp Tryz.prog 117 [opV o A c, .int .i64 total] [] [barF] (Is (.int .i64 (insF o total))):=by
 refine Sp.of (n:=40) ⟨_,Tryz.func117,V,V,V,V⟩ (Nat.le_of_ble_eq_true V) fun Ps As=>Jc (Ja (Jg V (J3 (cs:= [_,_,_,_,_,_,_,_,_]) V V (by decide) fun b2=>Lq (Jd V) (Je (Jf (Jc (Ja (Lq (Jh (o':=4) Un60 V ti9 V V) (Lq (Jk Un9 V V Jn V) (Jg V (Jm (VK o.text hs) (.n1 V) (by decide) (Jl Mm0 Jx) fun _ _ _ q9=>?_)))))))))))
 obtain ⟨rfl,rfl,rfl⟩:=q9
 refine Lq (Jb V) (Lq (Ji (vs:= [_,_,_]) V V) (Lq (Ji (vs:= [_,_,_]) V V) (Lq (Ji (vs:= [_,_,_]) V V) (Lq (Jd V) (Lq (Jd V) (Lq (Jd V) (Je (Jf (JG [(7,_),(5,_),(4,_),(2,_),(1,_)] (.m5 V V V V V) (Jc (JD (Jc (Ja ?_)))))))))))))
 refine Lq (Jb V) (Lq (Kr V V) (Lq (Jd V) (Je (Jf (Jz V (fun h15=> ?_) (fun h15=> ?_))))))
 ·refine Jc (Ja (Lq (Jb V) (Lq (Jd V) (Je (Jf (Jp (JF (Jt ?_))))))))
  refine ⟨_,[],[],fun Z w hs=> .tmp V .nil,?_,fun Z w hs=>hs.out (Sd (Sr)) (fun _ h=>h)⟩
  try simp only [Bp,Bq] at *
  exact ⟨congrArg (Value.int .i64) (by unfold insF;first | (simp_all;done) | (simp_all;repeat' split;all_goals omega) | (repeat' split;all_goals first | rfl | omega)),rfl,rfl⟩
 ·refine Jc (Ja (Lq (Jb V) (Lq (Kb V V) (Lq (Jd V) (Je (Jf (Jz V (fun h19=> ?_) (fun h19=> ?_))))))))
  ·refine Jc (Ja (Lq (Jd V) (Je (Jf (Jp (JF (Jt ?_)))))))
   refine ⟨_,[],[],fun Z w hs=> .tmp V .nil,?_,fun Z w hs=>hs.out (Sd (Sr)) (fun _ h=>h)⟩
   try simp only [Bp,Bq] at *
   exact ⟨congrArg (Value.int .i64) (by unfold insF;first | (simp_all;done) | (simp_all;repeat' split;all_goals omega) | (repeat' split;all_goals first | rfl | omega)),rfl,rfl⟩
  ·refine Jc (Ja (Lq (Jb V) (Lq (Kl V V) (Lq (Jd V) (Je (Jf (JG [(22,_),(5,_),(4,_),(2,_),(1,_)] (.m5 V V V V V) (Jz V (fun h22=> ?_) (fun h22=> ?_)))))))))
   ·refine Jc (Ja (Lq (Jd V) (Je (Jf (Jp (JF (Jt ?_)))))))
    refine ⟨_,[],[],fun Z w hs=> .tmp V .nil,?_,fun Z w hs=>hs.out (Sd (Sr)) (fun _ h=>h)⟩
    try simp only [Bp,Bq] at *
    exact ⟨congrArg (Value.int .i64) (by unfold insF;first | (simp_all;done) | (simp_all;repeat' split;all_goals omega) | (repeat' split;all_goals first | rfl | omega)),rfl,rfl⟩
   ·refine Jc (Ja (Lq (Jh (o':=3) Un60 V ti3 V V) (Lq (Jk Un3 V V Jn V) (Lq (Km V V) (Lq (Jb V) (J1 (t:=29) V (fun g29=> ?_) (fun g29=> ?_)))))))
    ·refine Ln V V V g29 (Ln V V V g29 (Ln V V V g29 (Ln V V V g29 (Lq (JO V g29 V) (Lq (Jd V) (Je (Jf (JG [(25,_),(5,_),(4,_),(1,_)] (.m4 V V V V) (JS V V (Jc (Ja (Lq (Jd V) ?_))))))))))))
     refine Je (Jf (Jp (JF (Jt ?_))))
     refine ⟨_,[],[],fun Z w hs=> .tmp V .nil,?_,fun Z w hs=>hs.out (Sd (Sr)) (fun _ h=>h)⟩
     try simp only [Bp,Bq] at *
     exact ⟨congrArg (Value.int .i64) (by unfold insF;first | (simp_all;done) | (simp_all;repeat' split;all_goals omega) | (repeat' split;all_goals first | rfl | omega)),rfl,rfl⟩
    ·refine Lg V V V g29 (Jh (o':=3) Un60 V ti3 V V) (Lg V V V g29 (Jk Un3 V V Jn V) (Lg V V V g29 (Jb V) (Lg V V V g29 (Kl V V) (Lq (JL V g29 V) (Lq (Jd V) (Je (Jf (JG [(25,_),(5,_),(4,_),(1,_)] (.m4 V V V V) (Jz V (fun h25=> ?_) (fun h25=> ?_))))))))))
     ·refine Jc (Ja (Lq (Jd V) (Je (Jf (Jp (JF (Jt ?_)))))))
      refine ⟨_,[],[],fun Z w hs=> .tmp V .nil,?_,fun Z w hs=>hs.out (Sd (Sr)) (fun _ h=>h)⟩
      try simp only [Bp,Bq] at *
      exact ⟨congrArg (Value.int .i64) (by unfold insF;first | (simp_all;done) | (simp_all;repeat' split;all_goals omega) | (repeat' split;all_goals first | rfl | omega)),rfl,rfl⟩
     ·refine Jc ?_
      have hu:=Zm o.text
      try simp only [Bp,Bq] at *
      refine Ja (Lq (Jb V) (Lq (Jb V) (Lq (JQ V V (wr64 (by omega))) (Lq (Kl V V) (Lq (Jd V) (Je (Jf (Jz V (fun h35=> ?_) (fun h35=> ?_)))))))))
      ·refine Jc (Ja (Lq (Jd V) (Je (Jf (Jp (JF (Jt ?_)))))))
       refine ⟨_,[],[],fun Z w hs=> .tmp V .nil,?_,fun Z w hs=>hs.out (Sd (Sr)) (fun _ h=>h)⟩
       try simp only [Bp,Bq] at *
       exact ⟨congrArg (Value.int .i64) (by unfold insF;first | (simp_all;done) | (simp_all;repeat' split;all_goals omega) | (repeat' split;all_goals first | rfl | omega)),rfl,rfl⟩
      ·refine Jo (J7 (Jf (Jc (Ja (Lq (Jd V) (Je (Jf (Jp ?_))))))))
       refine ⟨_,[],[],fun Z w hs=> .tmp V .nil,?_,fun Z w hs=>hs.out (Sd (Sr)) (fun _ h=>h)⟩
       try simp only [Bp,Bq] at *
       exact ⟨congrArg (Value.int .i64) (by unfold insF;first | (simp_all;done) | (simp_all;repeat' split;all_goals omega) | (repeat' split;all_goals first | rfl | omega)),rfl,rfl⟩
theorem V3 (A:Option Addr) (c:Nat) (xs:List Rg) (total:Int) (hl:xs.length≤4398046511104):Sp Tryz.prog 118 [.slice A xs.length c, .int .i64 total] [] [RdF rgD A c xs] (Is (.int .i64 (Y3 xs total))):=by
 refine Sp.of (n:=27) ⟨_,Tryz.func118,V,V,V,V⟩ (Nat.le_of_ble_eq_true V) fun Ps As=>Jc (Ja (Lq (Jd V) (Je (Jf (Jc (Jc (Ja (Lq (Jb V) (Lq (J4 Un45 V) (Lq (Kb V V) (Je (Jf (Jz V (fun h9=> ?_) (fun h9=> ?_))))))))))))))
 ·refine Jc (Ja (Lq (Jd V) (Je (Jf (Jp (Jt ?_))))))
  refine ⟨_,[],[],fun Z w hs=> .tmp V .nil,?_,fun Z w hs=>hs.out (Sr) (fun _ h=>h)⟩
  try simp only [Bp,Bq] at *
  first
   | exact ⟨by rw [QE (by omega)];rfl,rfl,rfl⟩
   | exact ⟨by rw [YH hk0 (by omega),if_pos (by omega)];rfl,rfl,rfl⟩
   | exact ⟨by rw [YH hk0 (by omega),if_neg (by omega)];rfl,rfl,rfl⟩
   | exact ⟨by rw [Ve (by omega) (by omega)];rfl,rfl,rfl⟩
 ·refine Jo (Jf (Jc (Jc (Ja (Lq (Jb V) (Jg V (Jm (Xl A c xs hl) (.n1 V) (by decide) (Jl Mm0 Jx) fun _ _ _ q9=>?_)))))))
  obtain ⟨rfl,rfl,rfl⟩:=q9
  refine Lq (Jb V) (Lq (Ji (vs:= [_,_]) V V) (Lq (Ji (vs:= [_,_]) V V) (Lq (Jd V) (Lq (Jd V) (Je (Jf (Jc (Ja (Lq (Jb V) (Lq (Kr V V) (Je (Jf (JG [(16,_),(6,_),(4,_),(0,_),(1,_)] (.m5 V V V V V) ?_)))))))))))))
  refine Jz V (fun h16=> ?_) (fun h16=> ?_)
  ·refine Jc (Ja (Lq (Jb V) (Lq (Jd V) (Je (Jf (Jp (Jt ?_)))))))
   refine ⟨_,[],[],fun Z w hs=> .tmp V .nil,?_,fun Z w hs=>hs.out (Sr) (fun _ h=>h)⟩
   try simp only [Bp,Bq] at *
   first
    | exact ⟨by rw [QE (by omega)];rfl,rfl,rfl⟩
    | exact ⟨by rw [YH hk0 (by omega),if_pos (by omega)];rfl,rfl,rfl⟩
    | exact ⟨by rw [YH hk0 (by omega),if_neg (by omega)];rfl,rfl,rfl⟩
    | exact ⟨by rw [Ve (by omega) (by omega)];rfl,rfl,rfl⟩
  ·refine Jo (Jf (Jc (Jc ?_)))
   try simp only [Bp,Bq] at *
   have hk0:xs.length-1<xs.length:=by omega
   refine Kd (k:=(xs.length-1)) Mm0 (List.getElem?_eq_getElem hk0) (rg_open _) fun b6 q6 y6 e6=> ?_
   cases e6
   refine Ja (Lq (Jb V) (Lq (Jb V) (Lq (J4 Un45 V) (Lq (KG V V (by rw [wr64 (by omega)];omega) (c:=((xs.length-1:Nat):Int))) (Lq (J0 Un45 Kf V V (by omega) (by omega)) (Lq (Jh (o':=_+1) Un134 V ti3 V V) (Lq (Kk (j:=1) Un3 V V Mm0 V V) (Lq (Jb V) (Lq (Kl V V) ?_)))))))))
   refine Je (Jf (JG [(26,_),(4,_)] (.m2 V V) (Jz V (fun h26=> ?_) (fun h26=> ?_))))
   ·refine Jc (Ja (Lq (Jd V) (Je (Jf (Jp (Jt ?_))))))
    refine ⟨_,[],[],fun Z w hs=> .tmp V .nil,?_,fun Z w hs=>hs.out (Sr) Tt1⟩
    try simp only [Bp,Bq] at *
    first
     | exact ⟨by rw [QE (by omega)];rfl,rfl,rfl⟩
     | exact ⟨by rw [YH hk0 (by omega),if_pos (by omega)];rfl,rfl,rfl⟩
     | exact ⟨by rw [YH hk0 (by omega),if_neg (by omega)];rfl,rfl,rfl⟩
     | exact ⟨by rw [Ve (by omega) (by omega)];rfl,rfl,rfl⟩
   ·refine Jo (Jf (Jc (Ja (Lq (Jd V) (Je (Jf (Jp ?_)))))))
    refine ⟨_,[],[],fun Z w hs=> .tmp V .nil,?_,fun Z w hs=>hs.out (Sr) Tt1⟩
    try simp only [Bp,Bq] at *
    first
     | exact ⟨by rw [QE (by omega)];rfl,rfl,rfl⟩
     | exact ⟨by rw [YH hk0 (by omega),if_pos (by omega)];rfl,rfl,rfl⟩
     | exact ⟨by rw [YH hk0 (by omega),if_neg (by omega)];rfl,rfl,rfl⟩
     | exact ⟨by rw [Ve (by omega) (by omega)];rfl,rfl,rfl⟩
theorem Yy (o:GOp) (A:Option Addr) (c:Nat) (total:Int) (hs:o.text.size≤4611686018427387904) (hl:o.rs.length≤4398046511104):Sp Tryz.prog 79 [opV o A c, .int .i64 total] [] [barF,RdF rgD A c o.rs] (Is (.int .i64 (checkF o total))):=by
 refine Sp.of (n:=65) ⟨_,Tryz.func79,V,V,V,V⟩ (Nat.le_of_ble_eq_true V) fun Ps As=>Jc (Ja (Jg V (J3 (cs:= [_,_,_,_,_,_,_,_,_]) V V (by decide) fun b2=>Lq (Jd V) (Je (Jf (Jc (JD (Jc (Ja (Lq (Jb V) (Lq (Km V V) (Lq (Jb V) (J1 (t:=8) V (fun g8=> ?_) (fun g8=> ?_))))))))))))))
 ·refine Ln V V V g8 (Ln V V V g8 (Lq (JO V g8 V) (Lq (Jd V) (Je (Jf (JS V V (Jc (Ja (Lq (Jd V) (Je (Jf (Jp (JF (Jt ?_))))))))))))))
  refine ⟨_,[],[],fun Z w hs=> .tmp V .nil,?_,fun Z w hs=>hs.out (Sd (Sr)) (fun _ h=>h)⟩
  try simp only [Bp,Bq] at *
  exact ⟨congrArg (Value.int .i64) (by unfold checkF rightF;simp_all<;>omega),V,V⟩
 ·refine Lg V V V g8 (Jb V) (Lg V V V g8 (Kl V V) (Lq (JL V g8 V) (Lq (Jd V) (Je (Jf (Jz V (fun h5=> ?_) (fun h5=> ?_)))))))
  ·refine Jc (Ja (Lq (Jd V) (Je (Jf (Jp (JF (Jt ?_)))))))
   refine ⟨_,[],[],fun Z w hs=> .tmp V .nil,?_,fun Z w hs=>hs.out (Sd (Sr)) (fun _ h=>h)⟩
   try simp only [Bp,Bq] at *
   exact ⟨congrArg (Value.int .i64) (by unfold checkF rightF;simp_all<;>omega),V,V⟩
  ·refine Jc (Ja (Lq (Jh (o':=0) Un60 V KM V V) (Lq (Jh (o':=2) Un58 V Yh V V) (Lq (Jk Un44 V V Jn V) (Lq (Km V V) (Lq (Jb V) (J1 (t:=17) V (fun g17=> ?_) (fun g17=> ?_))))))))
   ·refine Ln V V V g17 (Ln V V V g17 (Ln V V V g17 (Ln V V V g17 (Lq (JO V g17 V) (Lq (Jd V) (Je (Jf (JG [(12,_),(4,_),(2,_),(1,_)] (.m4 V V V V) (JS V V (Jc (Ja (Lq (Jd V) ?_))))))))))))
    refine Je (Jf (Jp (JF (Jt ?_))))
    refine ⟨_,[],[],fun Z w hs=> .tmp V .nil,?_,fun Z w hs=>hs.out (Sd (Sr)) (fun _ h=>h)⟩
    try simp only [Bp,Bq] at *
    exact ⟨congrArg (Value.int .i64) (by unfold checkF rightF;simp_all<;>omega),V,V⟩
   ·refine Lg V V V g17 (Jh (o':=0) Un60 V KM V V) (Lg V V V g17 (Jh (o':=2) Un58 V Yh V V) (Lg V V V g17 (Jk Un44 V V Jn V) (Lg V V V g17 (Kl V V) (Lq (JL V g17 V) (Lq (Jd V) (Je (Jf (JG [(12,_),(4,_),(2,_),(1,_)] (.m4 V V V V) (Jz V (fun h12=> ?_) (fun h12=> ?_))))))))))
    ·refine Jc (Ja (Lq (Jd V) (Je (Jf (Jp (JF (Jt ?_)))))))
     refine ⟨_,[],[],fun Z w hs=> .tmp V .nil,?_,fun Z w hs=>hs.out (Sd (Sr)) (fun _ h=>h)⟩
     try simp only [Bp,Bq] at *
     exact ⟨congrArg (Value.int .i64) (by unfold checkF rightF;simp_all<;>omega),V,V⟩
    ·refine Jc (Ja (Lq (Jh (o':=0) Un60 V KM V V) (Lq (Jh (o':=0) Un58 V JW V V) (Lq (Js (vs:= [_,_]) Un43 V JW V Jn V V) (Lq (JY .nil (bd25Xw8)) (Lq (YR V V (eq43 _ _ _ _)) (Lq (Jb V) (J1 (t:=29) V (fun g29=> ?_) (fun g29=> ?_)))))))))
     ·refine Lg V V V g29 (Jh (o':=0) Un60 V KM V V) (Lg V V V g29 (Jh (o':=0) Un58 V JW V V) (Lg V V V g29 (Js (vs:= [_,_]) Un43 V JW V Jn V V) (KD V V V g29 (Jm (Eh o.c o.n) (.n1 V) (by decide) Jx fun _ _ _ q9=>?_))))
      obtain ⟨rfl,rfl,rfl⟩:=q9
      refine Lg V V V g29 (KU V) (Lq (JO V g29 V) (Lq (Jd V) (Je (Jf (JG [(23,_),(4,_),(2,_),(1,_)] (.m4 V V V V) (Jz V (fun h23=> ?_) (fun h23=> ?_)))))))
      ·refine Jc (Ja (Lq (Jd V) (Je (Jf (Jp (JF (Jt ?_)))))))
       refine ⟨_,[],[],fun Z w hs=> .tmp V .nil,?_,fun Z w hs=>hs.out (Sd (Sr)) (fun _ h=>h)⟩
       try simp only [Bp,Bq] at *
       exact ⟨congrArg (Value.int .i64) (by unfold checkF rightF;simp_all<;>omega),V,V⟩
      ·refine Jc (Ja (Lq (Js (vs:= [_,_,_,_,_,_,_,_,_]) Un60 V JA V Jn V V) (Jg V (Jm (HE o A c) (.n1 V) (by decide) Jx fun _ _ _ q9=>?_))))
       obtain ⟨rfl,rfl,rfl⟩:=q9
       refine Lq (Jd V) (Je (Jf (Jz V (fun h36=> ?_) (fun h36=> ?_))))
       ·refine Jc (Ja (Lq (Jd V) (Je (Jf (Jp (JF (Jt ?_)))))))
        refine ⟨_,[],[],fun Z w hs=> .tmp V .nil,?_,fun Z w hs=>hs.out (Sd (Sr)) (fun _ h=>h)⟩
        try simp only [Bp,Bq] at *
        exact ⟨congrArg (Value.int .i64) (by unfold checkF rightF;simp_all<;>omega),V,V⟩
       ·refine Jo (J7 (Jf (Jc (Jc (Ja (Lq (Jh (o':=0) Un60 V KM V V) (Lq (Jh (o':=2) Un58 V Yh V V) (Lq (Jk Un44 V V Jn V) (Je (Jf (JD (Jc (Ja (Lq (Kb V V) (Lq (Jd V) (Je (Jf (Jz V (fun h42=> ?_) (fun h42=> ?_)))))))))))))))))))
        ·refine Jc (Ja (Lq (Js (vs:= [_,_,_,_,_,_,_,_,_]) Un60 V JA V Jn V V) (Lq (Jb V) ?_)))
         try simp only [Bp,Bq] at *
         refine Jg V (Jm (GE o A c total hs ⟨by omega,by omega⟩) (.n2 V V) (by decide) (Jl Mm0 Jx) fun _ _ _ q9=>?_)
         obtain ⟨rfl,rfl,rfl⟩:=q9
         refine Lq (Jd V) (Je (Jf (JG [(4,_),(2,_),(1,_)] (.m3 V V V) (Jp (JF (Jt ?_))))))
         refine ⟨_,[],[],fun Z w hs=> .tmp V .nil,?_,fun Z w hs=>hs.out (Sd (Sr)) (fun _ h=>h)⟩
         try simp only [Bp,Bq] at *
         exact ⟨congrArg (Value.int .i64) (by unfold checkF rightF;simp_all<;>omega),V,V⟩
        ·refine Jc (Ja (Lq (Kb V V) (Lq (Jd V) (Je (Jf (JG [(47,_),(4,_),(2,_),(1,_)] (.m4 V V V V) (Jz V (fun h47=> ?_) (fun h47=> ?_))))))))
         ·refine Jc (Jc (Ja (Lq (Jh (o':=6) Un60 V JW V V) (Lq (Js (vs:= [_,_]) Un43 V JW V Jn V V) (Jg V (Jm (Eh o.tc o.tn) (.n1 V) (by decide) Jx fun _ _ _ q9=>?_))))))
          obtain ⟨rfl,rfl,rfl⟩:=q9
          refine Lq (KU V) (Lq (Jb V) (J1 (t:=53) V (fun g53=> ?_) (fun g53=> ?_)))
          ·refine Ln V V V g53 (Ln V V V g53 (Ln V V V g53 (Ln V V V g53 (Ln V V V g53 (Ln V V V g53 (Lq (JO V g53 V) (Je (Jf (JG [(60,_),(4,_),(2,_),(1,_)] (.m4 V V V V) (JS V V (Jc (Ja ?_))))))))))))
           refine Lq (Jd V) (Je (Jf (Jp (Jt (JF (Jt ?_))))))
           refine ⟨_,[],[],fun Z w hs=> .tmp V .nil,?_,fun Z w hs=>hs.out (Sd (Sr)) (fun _ h=>h)⟩
           try simp only [Bp,Bq] at *
           exact ⟨congrArg (Value.int .i64) (by unfold checkF rightF;simp_all<;>omega),V,V⟩
          ·refine Lg V V V g53 (Jh (o':=6) Un60 V JW V V) (Lg V V V g53 (Js (vs:= [_,_]) Un43 V JW V Jn V V) (Lg V V V g53 (Jh (o':=0) Un60 V KM V V) (Lg V V V g53 (Jh (o':=0) Un58 V JW V V) (Lg V V V g53 (Js (vs:= [_,_]) Un43 V JW V Jn V V) (Lg V V V g53 (YS V V (eq43 _ _ _ _)) (Lq (JL V g53 V) (Je (Jf (JG [(60,_),(4,_),(2,_),(1,_)] (.m4 V V V V) (Jz V (fun h60=> ?_) (fun h60=> ?_)))))))))))
           ·refine Jc (Ja (Lq (Jd V) (Je (Jf (Jp (Jt (JF (Jt ?_))))))))
            refine ⟨_,[],[],fun Z w hs=> .tmp V .nil,?_,fun Z w hs=>hs.out (Sd (Sr)) (fun _ h=>h)⟩
            try simp only [Bp,Bq] at *
            exact ⟨congrArg (Value.int .i64) (by unfold checkF rightF;simp_all<;>omega),V,V⟩
           ·refine Jo (Jf (Jc (Ja (Lq (Jd V) (Je (Jf (Jp (JF (Jt ?_)))))))))
            refine ⟨_,[],[],fun Z w hs=> .tmp V .nil,?_,fun Z w hs=>hs.out (Sd (Sr)) (fun _ h=>h)⟩
            try simp only [Bp,Bq] at *
            exact ⟨congrArg (Value.int .i64) (by unfold checkF rightF;simp_all<;>omega),V,V⟩
         ·refine Jo (J7 (Jf (Jc (Ja (Lq (Jh (o':=5) Un60 V K3 V V) (Lq (Jk Un45 V V Jn V) (Lq (Jb V) (Jg V (Jm (V3 A c o.rs total hl) (.n2 V V) (by decide) (Jl Mm1 Jx) fun _ _ _ q9=>?_)))))))))
          obtain ⟨rfl,rfl,rfl⟩:=q9
          refine Lq (Jd V) (Je (Jf (Jp ?_)))
          refine ⟨_,[],[],fun Z w hs=> .tmp V .nil,?_,fun Z w hs=>hs.out (Sd (Sr)) (fun _ h=>h)⟩
          try simp only [Bp,Bq] at *
          exact ⟨congrArg (Value.int .i64) (by unfold checkF rightF;simp_all<;>omega),V,V⟩
     ·refine Ln V V V g29 (Ln V V V g29 (Ln V V V g29 (Ln V V V g29 (Ln V V V g29 (Lq (JL V g29 V) (Lq (Jd V) (Je (Jf (JG [(23,_),(4,_),(2,_),(1,_)] (.m4 V V V V) (Ju V V (Jc (Ja ?_))))))))))))
      refine Lq (Js (vs:= [_,_,_,_,_,_,_,_,_]) Un60 V JA V Jn V V) (Jg V (Jm (HE o A c) (.n1 V) (by decide) Jx fun _ _ _ q9=>?_))
      obtain ⟨rfl,rfl,rfl⟩:=q9
      refine Lq (Jd V) (Je (Jf (Jz V (fun h36=> ?_) (fun h36=> ?_))))
      ·refine Jc (Ja (Lq (Jd V) (Je (Jf (Jp (JF (Jt ?_)))))))
       refine ⟨_,[],[],fun Z w hs=> .tmp V .nil,?_,fun Z w hs=>hs.out (Sd (Sr)) (fun _ h=>h)⟩
       try simp only [Bp,Bq] at *
       exact ⟨congrArg (Value.int .i64) (by unfold checkF rightF;simp_all<;>omega),V,V⟩
      ·refine Jo (J7 (Jf (Jc (Jc (Ja (Lq (Jh (o':=0) Un60 V KM V V) (Lq (Jh (o':=2) Un58 V Yh V V) (Lq (Jk Un44 V V Jn V) (Je (Jf (JD (Jc (Ja (Lq (Kb V V) (Lq (Jd V) (Je (Jf (Jz V (fun h42=> ?_) (fun h42=> ?_)))))))))))))))))))
       ·refine Jc (Ja (Lq (Js (vs:= [_,_,_,_,_,_,_,_,_]) Un60 V JA V Jn V V) (Lq (Jb V) ?_)))
        try simp only [Bp,Bq] at *
        refine Jg V (Jm (GE o A c total hs ⟨by omega,by omega⟩) (.n2 V V) (by decide) (Jl Mm0 Jx) fun _ _ _ q9=>?_)
        obtain ⟨rfl,rfl,rfl⟩:=q9
        refine Lq (Jd V) (Je (Jf (JG [(4,_),(2,_),(1,_)] (.m3 V V V) (Jp (JF (Jt ?_))))))
        refine ⟨_,[],[],fun Z w hs=> .tmp V .nil,?_,fun Z w hs=>hs.out (Sd (Sr)) (fun _ h=>h)⟩
        try simp only [Bp,Bq] at *
        exact ⟨congrArg (Value.int .i64) (by unfold checkF rightF;simp_all<;>omega),V,V⟩
       ·refine Jc (Ja (Lq (Kb V V) (Lq (Jd V) (Je (Jf (JG [(47,_),(4,_),(2,_),(1,_)] (.m4 V V V V) (Jz V (fun h47=> ?_) (fun h47=> ?_))))))))
        ·refine Jc (Jc (Ja (Lq (Jh (o':=6) Un60 V JW V V) (Lq (Js (vs:= [_,_]) Un43 V JW V Jn V V) (Jg V (Jm (Eh o.tc o.tn) (.n1 V) (by decide) Jx fun _ _ _ q9=>?_))))))
         obtain ⟨rfl,rfl,rfl⟩:=q9
         refine Lq (KU V) (Lq (Jb V) (J1 (t:=53) V (fun g53=> ?_) (fun g53=> ?_)))
         ·refine Ln V V V g53 (Ln V V V g53 (Ln V V V g53 (Ln V V V g53 (Ln V V V g53 (Ln V V V g53 (Lq (JO V g53 V) (Je (Jf (JG [(60,_),(4,_),(2,_),(1,_)] (.m4 V V V V) (JS V V (Jc (Ja ?_))))))))))))
          refine Lq (Jd V) (Je (Jf (Jp (Jt (JF (Jt ?_))))))
          refine ⟨_,[],[],fun Z w hs=> .tmp V .nil,?_,fun Z w hs=>hs.out (Sd (Sr)) (fun _ h=>h)⟩
          try simp only [Bp,Bq] at *
          exact ⟨congrArg (Value.int .i64) (by unfold checkF rightF;simp_all<;>omega),V,V⟩
         ·refine Lg V V V g53 (Jh (o':=6) Un60 V JW V V) (Lg V V V g53 (Js (vs:= [_,_]) Un43 V JW V Jn V V) (Lg V V V g53 (Jh (o':=0) Un60 V KM V V) (Lg V V V g53 (Jh (o':=0) Un58 V JW V V) (Lg V V V g53 (Js (vs:= [_,_]) Un43 V JW V Jn V V) (Lg V V V g53 (YS V V (eq43 _ _ _ _)) (Lq (JL V g53 V) (Je (Jf (JG [(60,_),(4,_),(2,_),(1,_)] (.m4 V V V V) (Jz V (fun h60=> ?_) (fun h60=> ?_)))))))))))
          ·refine Jc (Ja (Lq (Jd V) (Je (Jf (Jp (Jt (JF (Jt ?_))))))))
           refine ⟨_,[],[],fun Z w hs=> .tmp V .nil,?_,fun Z w hs=>hs.out (Sd (Sr)) (fun _ h=>h)⟩
           try simp only [Bp,Bq] at *
           exact ⟨congrArg (Value.int .i64) (by unfold checkF rightF;simp_all<;>omega),V,V⟩
          ·refine Jo (Jf (Jc (Ja (Lq (Jd V) (Je (Jf (Jp (JF (Jt ?_)))))))))
           refine ⟨_,[],[],fun Z w hs=> .tmp V .nil,?_,fun Z w hs=>hs.out (Sd (Sr)) (fun _ h=>h)⟩
           try simp only [Bp,Bq] at *
           exact ⟨congrArg (Value.int .i64) (by unfold checkF rightF;simp_all<;>omega),V,V⟩
        ·refine Jo (J7 (Jf (Jc (Ja (Lq (Jh (o':=5) Un60 V K3 V V) (Lq (Jk Un45 V V Jn V) (Lq (Jb V) (Jg V (Jm (V3 A c o.rs total hl) (.n2 V V) (by decide) (Jl Mm1 Jx) fun _ _ _ q9=>?_)))))))))
         obtain ⟨rfl,rfl,rfl⟩:=q9
         refine Lq (Jd V) (Je (Jf (Jp ?_)))
         refine ⟨_,[],[],fun Z w hs=> .tmp V .nil,?_,fun Z w hs=>hs.out (Sd (Sr)) (fun _ h=>h)⟩
         try simp only [Bp,Bq] at *
         exact ⟨congrArg (Value.int .i64) (by unfold checkF rightF;simp_all<;>omega),V,V⟩
theorem Jbh (o:GOp) (A:Option Addr) (c:Nat) (hf:Fit o):Sp Tryz.prog 137 [opV o A c] [] [barF,RdF rgD A c o.rs] (Is (.int .i64 (ownF o))):=by
 refine Sp.of (n:=23) ⟨_,Tryz.func137,V,V,V,V⟩ (Nat.le_of_ble_eq_true V) fun Ps As=>Jc (Ja (Jg V (J3 (cs:= [_,_,_,_,_,_,_,_,_]) V V (by decide) fun b1=>Lq (Jd V) (Je (Jf (Jc (Jc (Ja (Lq (Jh (o':=0) Un60 V KM V V) (Lq (Jh (o':=2) Un58 V Yh V V) (Lq (Jk Un44 V V Jn V) (Lq (Kb V V) (Lq (Jb V) ?_)))))))))))))
 refine J1 (t:=7) V (fun g7=> ?_) (fun g7=> ?_)
 ·refine Lg V V V g7 (Jh (o':=3) Un60 V ti3 V V) (Lg V V V g7 (Jk Un3 V V Jn V) (Lg V V V g7 (Yc V V) (Lq (JO V g7 V) (Lq (Jb V) (J1 (t:=12) V (fun g12=> ?_) (fun g12=> ?_))))))
  ·refine Lg V V V g12 (Jh (o':=3) Un60 V ti3 V V) (Lg V V V g12 (Jk Un3 V V Jn V) (Lg V V V g12 (YQ V V) (Lq (JO V g12 V) (Je (Jf (JG [(16,_),(2,_),(1,_)] (.m3 V V V) (Jz V (fun h16=> ?_) (fun h16=> ?_))))))))
   ·refine Jc (Ja (Lq (Js (vs:= [_,_,_,_,_,_,_,_,_]) Un60 V JA V Jn V V) (Lq (Jh (o':=3) Un60 V ti3 V V) (Lq (Jk Un3 V V Jn V) (Jg V (Jm (Yy o A c o.at_ (by have:=hf.text;omega) hf.rs) (.n2 V V) (by decide) (Jl Mm0 (Jl Mm1 Jx)) fun _ _ _ q9=>?_))))))
    obtain ⟨rfl,rfl,rfl⟩:=q9
    refine Lq (Jd V) (Je (Jf (Jp (Jt ?_))))
    refine ⟨_,[],[],fun Z w hs=> .tmp V .nil,?_,fun Z w hs=>hs.out (Sd (Sr)) (fun _ h=>h)⟩
    try simp only [Bp,Bq] at *
    exact ⟨congrArg (Value.int .i64) (by unfold ownF;first | (simp_all;done) | (simp_all;intros;omega) | (simp_all;repeat' split;all_goals omega) | (repeat' split;all_goals first | rfl | omega)),rfl,rfl⟩
   ·refine Jo (Jf (Jc (Ja (Lq (Js (vs:= [_,_,_,_,_,_,_,_,_]) Un60 V JA V Jn V V) (Jg V (Jm (Yy o A c 1048576 (by have:=hf.text;omega) hf.rs) (.n2 V V) (by decide) (Jl Mm0 (Jl Mm1 Jx)) fun _ _ _ q9=>?_))))))
    obtain ⟨rfl,rfl,rfl⟩:=q9
    refine Lq (Jd V) (Je (Jf (Jp ?_)))
    refine ⟨_,[],[],fun Z w hs=> .tmp V .nil,?_,fun Z w hs=>hs.out (Sd (Sr)) (fun _ h=>h)⟩
    try simp only [Bp,Bq] at *
    exact ⟨congrArg (Value.int .i64) (by unfold ownF;first | (simp_all;done) | (simp_all;intros;omega) | (simp_all;repeat' split;all_goals omega) | (repeat' split;all_goals first | rfl | omega)),rfl,rfl⟩
  ·refine Ln V V V g12 (Ln V V V g12 (Ln V V V g12 (Lq (JL V g12 V) (Je (Jf (JG [(16,_),(2,_),(1,_)] (.m3 V V V) (Ju V V (Jo (Jf (Jc (Ja (Lq (Js (vs:= [_,_,_,_,_,_,_,_,_]) Un60 V JA V Jn V V) (Jg V (Jm (Yy o A c 1048576 (by have:=hf.text;omega) hf.rs) (.n2 V V) (by decide) (Jl Mm0 (Jl Mm1 Jx)) fun _ _ _ q9=>?_))))))))))))))
   obtain ⟨rfl,rfl,rfl⟩:=q9
   refine Lq (Jd V) (Je (Jf (Jp ?_)))
   refine ⟨_,[],[],fun Z w hs=> .tmp V .nil,?_,fun Z w hs=>hs.out (Sd (Sr)) (fun _ h=>h)⟩
   try simp only [Bp,Bq] at *
   exact ⟨congrArg (Value.int .i64) (by unfold ownF;first | (simp_all;done) | (simp_all;intros;omega) | (simp_all;repeat' split;all_goals omega) | (repeat' split;all_goals first | rfl | omega)),rfl,rfl⟩
 ·refine Ln V V V g7 (Ln V V V g7 (Ln V V V g7 (Lq (JL V g7 V) (Lq (Jb V) (Ln V V V V (Ln V V V V (Ln V V V V (Lq (JL V V V) (Je (Jf ?_))))))))))
  refine JG [(16,_),(2,_),(1,_)] (.m3 V V V) (Ju V V (Jo (Jf (Jc (Ja (Lq (Js (vs:= [_,_,_,_,_,_,_,_,_]) Un60 V JA V Jn V V) (Jg V (Jm (Yy o A c 1048576 (by have:=hf.text;omega) hf.rs) (.n2 V V) (by decide) (Jl Mm0 (Jl Mm1 Jx)) fun _ _ _ q9=>?_))))))))
  obtain ⟨rfl,rfl,rfl⟩:=q9
  refine Lq (Jd V) (Je (Jf (Jp ?_)))
  refine ⟨_,[],[],fun Z w hs=> .tmp V .nil,?_,fun Z w hs=>hs.out (Sd (Sr)) (fun _ h=>h)⟩
  try simp only [Bp,Bq] at *
  exact ⟨congrArg (Value.int .i64) (by unfold ownF;first | (simp_all;done) | (simp_all;intros;omega) | (simp_all;repeat' split;all_goals omega) | (repeat' split;all_goals first | rfl | omega)),rfl,rfl⟩
structure OwI (xs:List GOp) (k:Nat):Prop where
 le:k≤xs.length
 eq:ownsF xs=ownsF (xs.drop k)
theorem OwI.next {xs:List GOp} {k:Nat} (h:OwI xs k) (hk:k<xs.length) (h0:ownF xs[k] =0):OwI xs (k+1):=by
 refine ⟨hk,?_⟩
 rw [h.eq,List.drop_eq_getElem_cons hk,ownsF,if_neg (by simpa using h0)]
theorem OwI.bad {xs:List GOp} {k:Nat} (h:OwI xs k) (hk:k<xs.length) (h0:ownF xs[k] ≠0):ownsF xs=ownF xs[k] :=by
 rw [h.eq,List.drop_eq_getElem_cons hk,ownsF,if_pos h0]
theorem OwI.done {xs:List GOp} {k:Nat} (h:OwI xs k) (hk: ¬k<xs.length):ownsF xs=0:=by
 rw [h.eq,List.drop_eq_nil_of_le (by omega)];rfl
theorem ZH (A:Option Addr) (c:Nat) (xs:List GOp) (hf: ∀o∈xs,Fit o) (hl:xs.length≤4398046511104):Sp Tryz.prog 112 [.slice A xs.length c] [] [barF,RdF opD A c xs] (Is (.int .i64 (ownsF xs))):=by
 refine Sp.of (n:=18) ⟨_,Tryz.func112,V,V,V,V⟩ (Nat.le_of_ble_eq_true V) fun Ps As=>Jc (Ja (Lq (Jd V) (Je (Jf (Jc (Jc (Ja (Lq (Jb V) (Lq (J4 Un53 V) (Lq (Jb V) (Je (Jf (JD ?_)))))))))))))
 refine Ke (α:=Nat) (fun k=>xs.length-k)
  (fun k=> [(6, .slice A xs.length c),(7, .int .i64 xs.length),(8, .int .i64 k)])
  (fun k=>Ps)
  (fun k=>(barF::RdF opD A c xs::As))
  (fun k=>OwI xs k)
  0 ?_ (.m3 rfl rfl rfl) (Sr) (fun _ h=>h) ?_
 ·exact ⟨Nat.zero_le _,V⟩
 ·rintro k hI
  refine Jc (Ja (Lq (Km V V) (Je (Jf (Jc (Jz V (fun h9=> ?_) (fun h9=> ?_)))))))
  ·refine Jo (Jf (Jc (JD (Jc ?_))))
   have hk:k<xs.length:=by simpa using h9
   refine Kd (k:=k) Mm1 (List.getElem?_eq_getElem hk) (op_open _) fun b3 q3 y3 e3=> ?_
   cases e3
   refine Ja (Lq (J0 Un53 JA V V (by omega) (by omega)) (Lq (Kg (k:=0) (vs:= [_,_,_,_,_,_,_,_,_]) Un60 V JA V Mm0 V V V) (Jg V (Jw (cs:= [_,_,_,_,_,_,_,_,_]) JA V (by decide) fun b4=>Jg V (Jq (cs':= [_,_,_,_,_,_,_,_,_]) (vs:= [_,_,_,_,_,_,_,_,_]) JA V V V V V (Nat.le_of_ble_eq_true V) .z (Je (Jf (Jc (Ja (Lq (Js (vs:= [_,_,_,_,_,_,_,_,_]) Un60 V JA V Jn V V) (Jg V (Jm (Jbh xs[k] y3.1 y3.2 (hf _ (List.getElem_mem hk))) (.n1 V) (by decide) (Jl Mm2 (Jl Mm1 Jx)) fun _ _ _ q9=>?_))))))))))))
   obtain ⟨rfl,rfl,rfl⟩:=q9
   refine Lq (Jd V) (Je (Jf (Jc (Ja (Lq (Jb V) (Lq (Kr V V) (Je (Jf (Jz V (fun h15=> ?_) (fun h15=> ?_))))))))))
   ·refine Jc (Ja (Lq (Jb V) (Lq (Jd V) (Je (Jf (Jp (JF (Jt (Jt (JF (Jt ?_)))))))))))
    refine ⟨_,[],[],fun Z w hs=> .tmp V .nil,?_,fun Z w hs=>hs.out (Sd (Sr)) Tt2⟩
    try simp only [Bp,Bq] at *
    first
     | exact ⟨by rw [hI.done (by omega)];rfl,rfl,rfl⟩
     | exact ⟨by rw [hI.bad hk (by omega)];rfl,rfl,rfl⟩
   ·refine Jo (J7 (Jf (Ja (Lq (JQ V V (wr64 (by omega))) (Lq (Jb V) (Je (Ko ?_)))))))
    refine ⟨k+1,?_,(.m3 V V V),(Sd (Sr)),Tt2⟩
    try simp only [Bp,Bq] at *
    exact ⟨by omega,hI.next hk (by omega)⟩
  ·refine Kh (JH (JH (J6 (Jf (Jc (Ja (Lq (Jd V) (Je (Jf (Jp ?_))))))))))
   refine ⟨_,[],[],fun Z w hs=> .tmp V .nil,?_,fun Z w hs=>hs.out (Sr) (fun _ h=>h)⟩
   try simp only [Bp,Bq] at *
   first
    | exact ⟨by rw [hI.done (by omega)];rfl,rfl,rfl⟩
    | exact ⟨by rw [hI.bad hk (by omega)];rfl,rfl,rfl⟩
theorem bd31Xw9 (w:World):(Instr.build 60 #[]).run Tryz.prog w= .ok (.agg #[.int .i64 0, .int .i64 0, .int .i64 0, .int .i64 0, .string ⟨#[]⟩, .slice none 0 0, .int .i64 0, .int .i64 0, .bool false]) w:=by kernel_rfl
theorem HC (a:GOp) (A:Option Addr) (c:Nat) (at_:Int) (hs:a.text.size≤2305843009213693952) (ha: -4611686018427387904≤at_∧at_≤4611686018427387904):Sp Tryz.prog 144 [opV a A c, .int .i64 at_] [] [barF] (OpP (movedF a at_)):=by
 refine Sp.of (n:=16) ⟨_,Tryz.func144,V,V,V,V⟩ (Nat.le_of_ble_eq_true V) fun Ps As=>Jc (Ja (Jg V (J3 (cs:= [_,_,_,_,_,_,_,_,_]) V V (by decide) fun b2=>Jg V (Jw (cs:= [_,_,_,_,_,_,_,_,_]) JA V (by decide) fun b4=>Lq (Jd V) (Je (Jf (Jc (Jc (Kc (A:=RdF rgD none 0 []) (fun Z w hs=>RdS.nil _ _ _) ?_)))))))))
 have hw:=KP a
 refine Ja (Lq (Jb V) (Lq (Js (vs:= [_,_,_,_,_,_,_,_,_]) Un60 V JA V (Jj (Jn)) V V) (Jg V (Jm (YC a A c (by omega)) (.n1 V) (by decide) (Jl Mm1 Jx) fun _ _ _ q9=>?_))))
 obtain ⟨rfl,rfl,rfl⟩:=q9
 refine Lq (JQ V V (wr64 (by omega))) (Lq (Kl V V) (Je (Jf (Jz V (fun h10=> ?_) (fun h10=> ?_)))))
 ·refine Jc (Ja (Lq (JY .nil (bd31Xw9)) (Jg V (Jq (cs':= [_,_,_,_,_,_,_,_,_]) (vs:= [_,_,_,_,_,_,_,_,_]) JA V V V V V (Nat.le_of_ble_eq_true V) .z (Lq (Jd V) (Je (Jf (Jp (Jt ?_)))))))))
  refine ⟨_,[],[RdF rgD none 0 []],fun Z w hs=>JT hs Un60 V JA V Jn V (.tmp V .nil),?_,fun Z w hs=>hs.out (Sd2 (Sr)) (fun _ h=>h)⟩
  try simp only [Bp,Bq] at *
  exact ⟨none,0,by unfold movedF;first | (rw [if_pos (by omega)];rfl) | (rw [if_neg (by omega)];rfl),V,by unfold movedF;first | (rw [if_pos (by omega)];rfl) | (rw [if_neg (by omega)])⟩
 ·refine Jo (Jf (Jc (Ja (Lq (Jb V) (Lq (Jh (o':=3) Un60 V ti3 V V) (Jg V (JN ti3 V V V .z3 .z1 (Je (Jf (Jc (Ja (Lq (Jh (o':=5) Un60 V K3 V V) (Jg V (JN K3 V V V .z5 .z1 (Je (Jf (Jc (Ja (Lq (Js (vs:= [_,_,_,_,_,_,_,_,_]) Un60 V JA V (Jj (Jn)) V V) (Jg V (Jq (cs':= [_,_,_,_,_,_,_,_,_]) (vs:= [_,_,_,_,_,_,_,_,_]) JA V V V V V (Nat.le_of_ble_eq_true V) .z ?_)))))))))))))))))))))
  refine Lq (Jd V) (Je (Jf (JG [(5,_),(4,_)] (.m2 V V) (Jp ?_))))
  refine ⟨_,[],[RdF rgD none 0 []],fun Z w hs=>JT hs Un60 V JA V Jn V (.tmp V .nil),?_,fun Z w hs=>hs.out (Sd2 (Sr)) (fun _ h=>h)⟩
  try simp only [Bp,Bq] at *
  exact ⟨none,0,by unfold movedF;first | (rw [if_pos (by omega)];rfl) | (rw [if_neg (by omega)];rfl),V,by unfold movedF;first | (rw [if_pos (by omega)];rfl) | (rw [if_neg (by omega)])⟩
theorem EK (a:GOp) (A A2:Option Addr) (c c2:Nat) (l:List Rg) (e:Int):Sp Tryz.prog 145 [opV a A c, .slice A2 l.length c2, .int .i64 e] [] [RdF rgD A2 c2 l] (OpP (rangedF a l e)):=by
 refine Sp.of (n:=15) ⟨_,Tryz.func145,V,V,V,V⟩ (Nat.le_of_ble_eq_true V) fun Ps As=>Jc (Ja (Jg V (J3 (cs:= [_,_,_,_,_,_,_,_,_]) V V (by decide) fun b3=>Jg V (Jw (cs:= [_,_,_,_,_,_,_,_,_]) JA V (by decide) fun b6=>Lq (Jd V) (Je (Jf (Jc (Jc (Kc (A:=RdF rgD none 0 []) (fun Z w hs=>RdS.nil _ _ _) (Ja (Lq (Jb V) (Lq (Kr V V) ?_))))))))))))
 refine Je (Jf (Jz V (fun h9=> ?_) (fun h9=> ?_)))
 ·refine Jc (Ja (Lq (JY .nil (bd31Xw9)) (Lq (Jb V) (Jg V (Jq (cs':= [_,_,_,_,_,_,_,_,_]) (vs:= [_,_,_,_,_,_,_,_,_]) JA V V V V V (Nat.le_of_ble_eq_true V) .z (Lq (Jd V) (Je (Jf (Jp (Jt ?_))))))))))
  refine ⟨_,[],[RdF rgD none 0 []],fun Z w hs=>JT hs Un60 V JA V Jn V (.tmp V .nil),?_,fun Z w hs=>hs.out (Sd2 (Sr)) (fun _ h=>h)⟩
  try simp only [Bp,Bq] at *
  exact ⟨none,0,by unfold rangedF;rw [if_pos (by omega)];rfl,V,by unfold rangedF;rw [if_pos (by omega)];rfl⟩
 ·refine Jo (Jf (Jc (Ja (Lq (Jb V) (Lq (Jh (o':=5) Un60 V K3 V V) (Jg V (JN K3 V V V .z5 .z1 (Je (Jf (Jc (Ja (Lq (Js (vs:= [_,_,_,_,_,_,_,_,_]) Un60 V JA V (Jj (Jn)) V V) (Jg V (Jq (cs':= [_,_,_,_,_,_,_,_,_]) (vs:= [_,_,_,_,_,_,_,_,_]) JA V V V V V (Nat.le_of_ble_eq_true V) .z (Lq (Jd V) (Je (Jf (Jp ?_))))))))))))))))))
  refine ⟨_,[],[RdF rgD A2 c2 l],fun Z w hs=>JT hs Un60 V JA V Jn V (.tmp V .nil),?_,fun Z w hs=>hs.out (Sd2 (Sr)) (Jl Mm1 Tt1)⟩
  try simp only [Bp,Bq] at *
  exact ⟨A2,c2,by unfold rangedF;rw [if_neg (by omega)];rfl,V,by unfold rangedF;rw [if_neg (by omega)]⟩
theorem GZ (a b:GOp) (Aa Ab:Option Addr) (ca cb:Nat) (earlier:Bool) (ha:Fit a) (hb:Fit b):Sp Tryz.prog 114 [opV a Aa ca,opV b Ab cb, .bool earlier] [] [barF,RdF rgD Aa ca a.rs] (OpP (JM a b earlier)):=by
 refine Sp.of (n:=71) ⟨_,Tryz.func114,V,V,V,V⟩ (Nat.le_of_ble_eq_true V) fun Ps As=>Jc (Ja (Jg V (J3 (cs:= [_,_,_,_,_,_,_,_,_]) V V (by decide) fun b3=>Jg V (J3 (cs:= [_,_,_,_,_,_,_,_,_]) V V (by decide) fun b4=>Jg V (Jw (cs:= [_,_,_,_,_,_,_,_,_]) JA V (by decide) fun b6=>Lq (Jd V) (Je (Jf (Jc (Jc (Kc (A:=RdF rgD none 0 []) (fun Z w hs=>RdS.nil _ _ _) (Ja (Lq (Js (vs:= [_,_,_,_,_,_,_,_,_]) Un60 V JA V (Jj (Jj (Jn))) V V) ?_))))))))))))
 refine Lq (Js (vs:= [_,_,_,_,_,_,_,_,_]) Un60 V JA V (Jj (Jn)) V V) (Jg V (Jm (Ja4 a b Aa Ab ca cb) (.n2 V V) (by decide) Jx fun _ _ _ q9=>?_))
 obtain ⟨rfl,rfl,rfl⟩:=q9
 refine Je (Jf (Jz V (fun h13=> ?_) (fun h13=> ?_)))
 ·refine Jc (Ja (Lq (JY .nil (bd31Xw9)) (Jg V (Jq (cs':= [_,_,_,_,_,_,_,_,_]) (vs:= [_,_,_,_,_,_,_,_,_]) JA V V V V V (Nat.le_of_ble_eq_true V) .z (Lq (Jd V) (Je (Jf (Jp (Jt ?_)))))))))
  refine ⟨_,[],[RdF rgD none 0 []],fun Z w hs=>JT hs Un60 V JA V Jn V (.tmp V .nil),?_,fun Z w hs=>hs.out (Sd3 (Sr)) (fun _ h=>h)⟩
  try simp only [Bp,Bq] at *
  have hF:JM a b earlier=(zeroOp,50):=by
   unfold JM clashF
   first | exact if_pos ‹_› | (simp_all;done) | (simp_all;omega) | (repeat' split;all_goals first | rfl | omega | (simp_all;done) | (simp_all;omega))
  exact ⟨none,0,by rw [hF];rfl,V,by first | (rw [hF];done) | (rw [hF];rfl)⟩
 ·refine Jo (Jf (Jc (Jc (Ja (Lq (Jh (o':=0) Un60 V KM V V) (Lq (Jh (o':=2) Un58 V Yh V V) (Lq (Jk Un44 V V (Jj (Jn)) V) (Lq (Kr V V) (Je (Jf (JG [(18,_),(7,_),(6,_),(4,_),(3,_),(2,_)] (.m6 V V V V V V) (Jz V (fun h18=> ?_) (fun h18=> ?_)))))))))))))
  ·refine Jc (Ja (Lq (Js (vs:= [_,_,_,_,_,_,_,_,_]) Un60 V JA V (Jj (Jj (Jn))) V V) (Jg V (Jm (YU a Aa ca ha.rs) (.n1 V) (by decide) (Jl Mm2 Jx) fun _ _ _ q9=>?_))))
   obtain ⟨A1,c1,rfl,rfl,rfl⟩:=q9
   refine Jg V (Jq (cs':= [_,_,_,_,_,_,_,_,_]) (vs:= [_,_,_,_,_,_,_,_,_]) JA V V V V V (Nat.le_of_ble_eq_true V) .z (Lq (Jd V) (Je (Jf (Jp (Jt ?_))))))
   refine ⟨_,[],[RdF rgD A1 c1 a.rs],fun Z w hs=>JT hs Un60 V JA V Jn V (.tmp V .nil),?_,fun Z w hs=>hs.out (Sd3 (Sr)) (Jl Mm0 Tt2)⟩
   try simp only [Bp,Bq] at *
   have hF:JM a b earlier=(a,0):=by
    unfold JM clashF
    first | exact if_pos ‹_› | (simp_all;done) | (simp_all;omega) | (repeat' split;all_goals first | rfl | omega | (simp_all;done) | (simp_all;omega))
   exact ⟨A1,c1,by rw [hF];rfl,V,by first | (rw [hF];done) | (rw [hF];rfl)⟩
  ·refine Jo (Jf (Jc (Ja (Lq (Js (vs:= [_,_,_,_,_,_,_,_,_]) Un60 V JA V (Jj (Jn)) V V) (Jg V (Jm (YC b Ab cb (by have:=hb.text;omega)) (.n1 V) (by decide) (Jl Mm1 Jx) fun _ _ _ q9=>?_))))))
   obtain ⟨rfl,rfl,rfl⟩:=q9
   refine Lq (Jd V) (Je (Jf (Jc (Jc (Ja (Lq (Jh (o':=0) Un60 V KM V V) (Lq (Jh (o':=2) Un58 V Yh V V) (Lq (Jk Un44 V V (Jj (Jj (Jn))) V) (Je (Jf (JD (Jc (Ja (Lq (Kb V V) (Lq (Jd V) (Je (Jf (JG [(26,_),(25,_),(8,_),(7,_),(6,_),(4,_),(3,_),(2,_)] (.m8 V V V V V V V V) ?_))))))))))))))))))
   refine Jz V (fun h26=> ?_) (fun h26=> ?_)
   ·refine Jc (Ja (Lq (Jh (o':=3) Un60 V ti3 V V) (Lq (Jk Un3 V V (Jj (Jn)) V) (Lq (Jh (o':=3) Un60 V ti3 V V) (Lq (Jk Un3 V V (Jj (Jj (Jn))) V) (Lq (Km V V) (Lq (Jb V) (J1 (t:=33) V (fun g33=> ?_) (fun g33=> ?_)))))))))
    ·refine Ln V V V g33 (Ln V V V g33 (Ln V V V g33 (Ln V V V g33 (Ln V V V g33 (Ln V V V g33 (Yw V V V (by decide) (Ln V V V g33 (Lq (JO V g33 V) (Je (Jf ?_))))))))))
     refine JG [(42,_),(8,_),(7,_),(6,_),(3,_)] (.m5 V V V V V) (JS V V (Jc (Ja (Lq (Js (vs:= [_,_,_,_,_,_,_,_,_]) Un60 V JA V (Jj (Jj (Jn))) V V) (Lq (Jh (o':=3) Un60 V ti3 V V) (Lq (Jk Un3 V V (Jj (Jj (Jn))) V) (Lq (Jb V) (Lq (JQ V V (wr64 (by have:=ha.lo;have:=ha.hi;have:=hb.text;have:=KP b;omega))) (Jg V (Jm (HC a Aa ca (a.at_+Jr b) ha.text (by have:=ha.lo;have:=ha.hi;have:=hb.text;have:=KP b;omega)) (.n2 V V) (by decide) (Jl Mm1 Jx) fun _ _ _ q9=>?_))))))))))
     obtain ⟨A2,c2,rfl,rfl,rfl⟩:=q9
     refine Lq (Ji (vs:= [_,_]) V V) (Lq (Ji (vs:= [_,_]) V V) (Jg V (Jq (cs':= [_,_,_,_,_,_,_,_,_]) (vs:= [_,_,_,_,_,_,_,_,_]) JA V V V V V (Nat.le_of_ble_eq_true V) .z (Lq (Jd V) (Je (Jf (Jp (JF (Jt ?_)))))))))
     refine ⟨_,[],[RdF rgD A2 c2 (movedF a (a.at_+Jr b)).1.rs],fun Z w hs=>JT hs Un60 V JA V Jn V (.tmp V .nil),?_,fun Z w hs=>hs.out (Sd3 (Sr)) (Jl Mm0 Tt2)⟩
     try simp only [Bp,Bq] at *
     have hF:JM a b earlier=movedF a (a.at_+Jr b):=by
      unfold JM clashF
      first | exact if_pos ‹_› | (simp_all;done) | (simp_all;omega) | (repeat' split;all_goals first | rfl | omega | (simp_all;done) | (simp_all;omega))
     exact ⟨A2,c2,by rw [hF];rfl,V,by first | (rw [hF];done) | (rw [hF];rfl)⟩
    ·refine Lg V V V g33 (Jh (o':=3) Un60 V ti3 V V) (Lg V V V g33 (Jk Un3 V V (Jj (Jn)) V) (Lg V V V g33 (Jh (o':=3) Un60 V ti3 V V) (Lg V V V g33 (Jk Un3 V V (Jj (Jj (Jn))) V) (Lg V V V g33 (Kb V V) (Lg V V V g33 (Jb V) (J1 (t:=39) V (fun g39=> ?_) (fun g39=> ?_)))))))
     ·refine Lg V V V g39 (Jb V) (Lg V V V g33 (JO V g39 V) (Lq (JL V g33 V) (Je (Jf (JG [(42,_),(8,_),(7,_),(6,_),(3,_)] (.m5 V V V V V) (Jz V (fun h42=> ?_) (fun h42=> ?_)))))))
      ·refine Jc (Ja (Lq (Js (vs:= [_,_,_,_,_,_,_,_,_]) Un60 V JA V (Jj (Jj (Jn))) V V) (Lq (Jh (o':=3) Un60 V ti3 V V) (Lq (Jk Un3 V V (Jj (Jj (Jn))) V) (Lq (Jb V) (Lq (JQ V V (wr64 (by have:=ha.lo;have:=ha.hi;have:=hb.text;have:=KP b;omega))) (Jg V (Jm (HC a Aa ca (a.at_+Jr b) ha.text (by have:=ha.lo;have:=ha.hi;have:=hb.text;have:=KP b;omega)) (.n2 V V) (by decide) (Jl Mm1 Jx) fun _ _ _ q9=>?_))))))))
       obtain ⟨A2,c2,rfl,rfl,rfl⟩:=q9
       refine Lq (Ji (vs:= [_,_]) V V) (Lq (Ji (vs:= [_,_]) V V) (Jg V (Jq (cs':= [_,_,_,_,_,_,_,_,_]) (vs:= [_,_,_,_,_,_,_,_,_]) JA V V V V V (Nat.le_of_ble_eq_true V) .z (Lq (Jd V) (Je (Jf (Jp (JF (Jt ?_)))))))))
       refine ⟨_,[],[RdF rgD A2 c2 (movedF a (a.at_+Jr b)).1.rs],fun Z w hs=>JT hs Un60 V JA V Jn V (.tmp V .nil),?_,fun Z w hs=>hs.out (Sd3 (Sr)) (Jl Mm0 Tt2)⟩
       try simp only [Bp,Bq] at *
       have hF:JM a b earlier=movedF a (a.at_+Jr b):=by
        unfold JM clashF
        first | exact if_pos ‹_› | (simp_all;done) | (simp_all;omega) | (repeat' split;all_goals first | rfl | omega | (simp_all;done) | (simp_all;omega))
       exact ⟨A2,c2,by rw [hF];rfl,V,by first | (rw [hF];done) | (rw [hF];rfl)⟩
      ·refine Jo (J7 (Jf (Jc (Ja (Lq (Js (vs:= [_,_,_,_,_,_,_,_,_]) Un60 V JA V (Jj (Jj (Jn))) V V) (Jg V (Jm (YU a Aa ca ha.rs) (.n1 V) (by decide) (Jl Mm2 Jx) fun _ _ _ q9=>?_)))))))
       obtain ⟨A1,c1,rfl,rfl,rfl⟩:=q9
       refine Jg V (Jq (cs':= [_,_,_,_,_,_,_,_,_]) (vs:= [_,_,_,_,_,_,_,_,_]) JA V V V V V (Nat.le_of_ble_eq_true V) .z (Lq (Jd V) (Je (Jf (Jp ?_)))))
       refine ⟨_,[],[RdF rgD A1 c1 a.rs],fun Z w hs=>JT hs Un60 V JA V Jn V (.tmp V .nil),?_,fun Z w hs=>hs.out (Sd3 (Sr)) (Jl Mm0 Tt2)⟩
       try simp only [Bp,Bq] at *
       have hF:JM a b earlier=(a,0):=by
        unfold JM clashF
        first | exact if_pos ‹_› | (simp_all;done) | (simp_all;omega) | (repeat' split;all_goals first | rfl | omega | (simp_all;done) | (simp_all;omega))
       exact ⟨A1,c1,by rw [hF];rfl,V,by first | (rw [hF];done) | (rw [hF];rfl)⟩
     ·refine Ln V V V g39 (Lg V V V g33 (JL V g39 V) (Lq (JL V g33 V) (Je (Jf (JG [(42,_),(8,_),(7,_),(6,_),(3,_)] (.m5 V V V V V) (Ju V V (Jo (J7 (Jf (Jc (Ja (Lq (Js (vs:= [_,_,_,_,_,_,_,_,_]) Un60 V JA V (Jj (Jj (Jn))) V V) (Jg V (Jm (YU a Aa ca ha.rs) (.n1 V) (by decide) (Jl Mm2 Jx) fun _ _ _ q9=>?_))))))))))))))
      obtain ⟨A1,c1,rfl,rfl,rfl⟩:=q9
      refine Jg V (Jq (cs':= [_,_,_,_,_,_,_,_,_]) (vs:= [_,_,_,_,_,_,_,_,_]) JA V V V V V (Nat.le_of_ble_eq_true V) .z (Lq (Jd V) (Je (Jf (Jp ?_)))))
      refine ⟨_,[],[RdF rgD A1 c1 a.rs],fun Z w hs=>JT hs Un60 V JA V Jn V (.tmp V .nil),?_,fun Z w hs=>hs.out (Sd3 (Sr)) (Jl Mm0 Tt2)⟩
      try simp only [Bp,Bq] at *
      have hF:JM a b earlier=(a,0):=by
       unfold JM clashF
       first | exact if_pos ‹_› | (simp_all;done) | (simp_all;omega) | (repeat' split;all_goals first | rfl | omega | (simp_all;done) | (simp_all;omega))
      exact ⟨A1,c1,by rw [hF];rfl,V,by first | (rw [hF];done) | (rw [hF];rfl)⟩
   ·refine Jc (Jc (Ja (Lq (Kb V V) (Lq (Jd V) (Je (Jf (Jz V (fun h51=> ?_) (fun h51=> ?_))))))))
    ·refine Jo (Jf (JS V h51 (Jc (Ja (Lq (Jh (o':=5) Un60 V K3 V V) (Lq (Jk Un45 V V (Jj (Jj (Jn))) V) (Lq (Jh (o':=3) Un60 V ti3 V V) (Lq (Jk Un3 V V (Jj (Jn)) V) (Lq (Jb V) (Jg V (Jm (VN Aa ca a.rs b.at_ (Jr b) ha.rs) (.n3 V V V) (by decide) (Jl Mm2 Jx) fun _ _ _ q9=>?_)))))))))))
     obtain ⟨A3,c3,rfl,rfl,rfl⟩:=q9
     refine Lq (Jb V) (Lq (Ji (vs:= [_,_]) V V) (Lq (Ji (vs:= [_,_]) V V) (Lq (Jd V) (Lq (Jd V) (Je (Jf (JG [(10,_),(9,_),(7,_),(6,_),(3,_)] (.m5 V V V V V) (Jc (Ja (Lq (Js (vs:= [_,_,_,_,_,_,_,_,_]) Un60 V JA V (Jj (Jj (Jn))) V V) (Lq (Jb V) ?_)))))))))))
     refine Lq (Jb V) (Jg V (Jm (EK a Aa A3 ca c3 (thrF a.rs b.at_ (Jr b)).1 (thrF a.rs b.at_ (Jr b)).2) (.n3 V V V) (by decide) (Jl Mm0 Jx) fun _ _ _ q9=>?_))
     obtain ⟨A4,c4,rfl,rfl,rfl⟩:=q9
     refine Lq (Ji (vs:= [_,_]) V V) (Lq (Ji (vs:= [_,_]) V V) (Jg V (Jq (cs':= [_,_,_,_,_,_,_,_,_]) (vs:= [_,_,_,_,_,_,_,_,_]) JA V V V V V (Nat.le_of_ble_eq_true V) .z (Lq (Jd V) (Je (Jf (Jp (JF (Jt ?_)))))))))
     refine ⟨_,[],[RdF rgD A4 c4 (rangedF a (thrF a.rs b.at_ (Jr b)).1 (thrF a.rs b.at_ (Jr b)).2).1.rs],fun Z w hs=>JT hs Un60 V JA V Jn V (.tmp V .nil),?_,fun Z w hs=>hs.out (Sd3 (Sr)) (Jl Mm0 Tt3)⟩
     try simp only [Bp,Bq] at *
     have hF:JM a b earlier=rangedF a (thrF a.rs b.at_ (Jr b)).1 (thrF a.rs b.at_ (Jr b)).2:=by
      unfold JM clashF
      first | exact if_pos ‹_› | (simp_all;done) | (simp_all;omega) | (repeat' split;all_goals first | rfl | omega | (simp_all;done) | (simp_all;omega))
     exact ⟨A4,c4,by rw [hF];rfl,V,by first | (rw [hF];done) | (rw [hF];rfl)⟩
    ·refine Ja (Lq (Kb V V) (Lq (Jd V) (Je (Jf (Jz V (fun h51=> ?_) (fun h51=> ?_))))))
     ·refine Jc (Ja (Lq (Jh (o':=5) Un60 V K3 V V) (Lq (Jk Un45 V V (Jj (Jj (Jn))) V) (Lq (Jh (o':=3) Un60 V ti3 V V) (Lq (Jk Un3 V V (Jj (Jn)) V) (Lq (Jb V) (Jg V (Jm (VN Aa ca a.rs b.at_ (Jr b) ha.rs) (.n3 V V V) (by decide) (Jl Mm2 Jx) fun _ _ _ q9=>?_))))))))
      obtain ⟨A3,c3,rfl,rfl,rfl⟩:=q9
      refine Lq (Jb V) (Lq (Ji (vs:= [_,_]) V V) (Lq (Ji (vs:= [_,_]) V V) (Lq (Jd V) (Lq (Jd V) (Je (Jf (JG [(10,_),(9,_),(7,_),(6,_),(3,_)] (.m5 V V V V V) (Jc (Ja (Lq (Js (vs:= [_,_,_,_,_,_,_,_,_]) Un60 V JA V (Jj (Jj (Jn))) V V) (Lq (Jb V) ?_)))))))))))
      refine Lq (Jb V) (Jg V (Jm (EK a Aa A3 ca c3 (thrF a.rs b.at_ (Jr b)).1 (thrF a.rs b.at_ (Jr b)).2) (.n3 V V V) (by decide) (Jl Mm0 Jx) fun _ _ _ q9=>?_))
      obtain ⟨A4,c4,rfl,rfl,rfl⟩:=q9
      refine Lq (Ji (vs:= [_,_]) V V) (Lq (Ji (vs:= [_,_]) V V) (Jg V (Jq (cs':= [_,_,_,_,_,_,_,_,_]) (vs:= [_,_,_,_,_,_,_,_,_]) JA V V V V V (Nat.le_of_ble_eq_true V) .z (Lq (Jd V) (Je (Jf (Jp (JF (Jt ?_)))))))))
      refine ⟨_,[],[RdF rgD A4 c4 (rangedF a (thrF a.rs b.at_ (Jr b)).1 (thrF a.rs b.at_ (Jr b)).2).1.rs],fun Z w hs=>JT hs Un60 V JA V Jn V (.tmp V .nil),?_,fun Z w hs=>hs.out (Sd3 (Sr)) (Jl Mm0 Tt3)⟩
      try simp only [Bp,Bq] at *
      have hF:JM a b earlier=rangedF a (thrF a.rs b.at_ (Jr b)).1 (thrF a.rs b.at_ (Jr b)).2:=by
       unfold JM clashF
       first | exact if_pos ‹_› | (simp_all;done) | (simp_all;omega) | (repeat' split;all_goals first | rfl | omega | (simp_all;done) | (simp_all;omega))
      exact ⟨A4,c4,by rw [hF];rfl,V,by first | (rw [hF];done) | (rw [hF];rfl)⟩
     ·refine Jo (J7 (Jf (Jc (Ja (Lq (Js (vs:= [_,_,_,_,_,_,_,_,_]) Un60 V JA V (Jj (Jj (Jn))) V V) (Jg V (Jm (YU a Aa ca ha.rs) (.n1 V) (by decide) (Jl Mm2 Jx) fun _ _ _ q9=>?_)))))))
      obtain ⟨A1,c1,rfl,rfl,rfl⟩:=q9
      refine Jg V (Jq (cs':= [_,_,_,_,_,_,_,_,_]) (vs:= [_,_,_,_,_,_,_,_,_]) JA V V V V V (Nat.le_of_ble_eq_true V) .z (Lq (Jd V) (Je (Jf (Jp ?_)))))
      refine ⟨_,[],[RdF rgD A1 c1 a.rs],fun Z w hs=>JT hs Un60 V JA V Jn V (.tmp V .nil),?_,fun Z w hs=>hs.out (Sd3 (Sr)) (Jl Mm0 Tt2)⟩
      try simp only [Bp,Bq] at *
      have hF:JM a b earlier=(a,0):=by
       unfold JM clashF
       first | exact if_pos ‹_› | (simp_all;done) | (simp_all;omega) | (repeat' split;all_goals first | rfl | omega | (simp_all;done) | (simp_all;omega))
      exact ⟨A1,c1,by rw [hF];rfl,V,by first | (rw [hF];done) | (rw [hF];rfl)⟩
theorem EY (A:Option Addr) (c:Nat) (xs:List GOp) (hf: ∀o∈xs,Fit o) (hl:xs.length≤1000000000):Sp Tryz.prog 113 [.slice A xs.length c] [] [RdF opD A c xs] (fun v Lo fs=> ∃p css,RowS 60 9 v xs.length css.flatten p∧Lo= [p] ∧fs= [RepsF opD xs css]):=by
 refine Sp.of (n:=22) ⟨_,Tryz.func113,V,V,V,V⟩ (Nat.le_of_ble_eq_true V) fun Ps As=>Jc (Ja (Lq (Jd V) (Je (Jf (Jc (Ja (Lq (Jb V) (Lq (J4 Un53 V) (Jg V (Jag Un53 JA V V (by omega) (by unfold maxLen;omega) (by decide) fun v0 p0 hr0=>Lq (Jd V) (Je (Jf (Jc (Jc (Ja (Lq (Jb V) ?_))))))))))))))))
 refine Lq (J4 Un53 V) (Lq (Jb V) (Je (Jf (JD (Kc (A:=RepsF opD (xs.take 0) []) (fun Z w hs=>Reps.nil) ?_)))))
 refine Ke (α:=Nat×Value×Part×List (List Value)) (fun (k,v,p,css)=>xs.length-k)
  (fun (k,v,p,css)=> [(9, .slice A xs.length c),(10, .int .i64 xs.length),(11, .int .i64 k),(3,v)])
  (fun (k,v,p,css)=>(p::Ps))
  (fun (k,v,p,css)=>(RepsF opD (xs.take k) css::RdF opD A c xs::As))
  (fun (k,v,p,css)=>k≤xs.length∧RowS 60 9 v k css.flatten p)
  (0,v0,p0,[]) ?_ (.m4 rfl rfl rfl rfl) (Sr) (fun _ h=>h) ?_
 ·exact ⟨Nat.zero_le _,hr0⟩
 ·rintro ⟨k,v,p,css⟩ hI
  have hle:k≤xs.length:=hI.1
  refine Jc (Ja (Lq (Km V V) (Je (Jf (Jc (Jz V (fun h12=> ?_) (fun h12=> ?_)))))))
  ·refine Jo (Jf (Jc (JD (Jc ?_))))
   have hk:k<xs.length:=by simpa using h12
   refine Kd (k:=k) Mm1 (List.getElem?_eq_getElem hk) (op_open _) fun b4 q4 y4 e4=> ?_
   cases e4
   refine Ja (Lq (J0 Un53 JA V V (by omega) (by omega)) (Lq (Kg (k:=0) (vs:= [_,_,_,_,_,_,_,_,_]) Un60 V JA V Mm0 V V V) (Jg V (Jw (cs:= [_,_,_,_,_,_,_,_,_]) JA V (by decide) fun b5=>Jg V (Jq (cs':= [_,_,_,_,_,_,_,_,_]) (vs:= [_,_,_,_,_,_,_,_,_]) JA V V V V V (Nat.le_of_ble_eq_true V) .z (Je (Jf (Ja (Lq (Jb V) (Lq (Js (vs:= [_,_,_,_,_,_,_,_,_]) Un60 V JA V Jn V V) (Jg V (Jm (YU xs[k] y4.1 y4.2 (hf _ (List.getElem_mem hk)).rs) (.n1 V) (by decide) (Jl Mm1 Jx) fun _ _ _ q9=>?_))))))))))))
   obtain ⟨A1,c1,rfl,rfl,rfl⟩:=q9
   refine Jg V (KF (cs:= [_,_,_,_,_,_,_,_,_]) Un53 JA (by decide) (by decide) V V V V (by decide) fun b18=>Jg V (KK (news:= [_,_,_,_,_,_,_,_,_]) Un53 JA V (by decide) V V hI.2.row Jn V V (by omega) (by unfold maxLen;omega) (by decide) (DelAt.perm .z2) fun v19 p19 hr19=>Lq (Jd V) (Je (J7 (Jf (Qa (u:=xs[k]) (cs:=opC xs[k] A1 c1) Mm3 (fun Z w hs=>⟨A1,c1,V,hs.facts _ Mm0⟩) (List.take_succ_eq_append_getElem hk) (Ja (Lq (JQ V V (wr64 (by omega))) (Lq (Jb V) (Je (Ko ?_)))))))))))
   refine ⟨(k+1,v19,p19,css++ [opC xs[k] A1 c1]),?_,(.m4 V V V V),(Sk (Sd2 (Sr))),(Jl Mm0 Tt5)⟩
   refine ⟨by show xs.length-(k+1)<xs.length-k;omega,by show k+1≤xs.length;omega,?_⟩
   have:=hr19.toS (by omega)
   rw [List.flatten_append,show [opC xs[k] A1 c1].flatten=opC xs[k] A1 c1 from by simp]
   exact this
  ·refine Kh (JH (JH (J6 (Jf (Jc (Ja (Lq (Jb V) (Lq (Jd V) (Je (Jf (Jp ?_)))))))))))
   refine ⟨_,[p],[RepsF opD (xs.take k) css],fun Z w hs=> .tmp V .nil,?_,fun Z w hs=>hs.out (Sk (Sr)) (fun _ h=>h)⟩
   try simp only [Bp,Bq] at *
   obtain rfl:k=xs.length:=by omega
   exact ⟨p,css,hI.2,V,by rw [List.take_length]⟩
theorem Ja3 (A B:Option Addr) (c d:Nat) (xs ys:List GOp) (hx: ∀o∈xs,Fit o) (hy: ∀o∈ys,Fit o) (hlx:xs.length≤1000000000) (hly:ys.length≤1000000000):Sp Tryz.prog 76 [.slice A xs.length c, .slice B ys.length d] [] [barF,RdF opD A c xs,RdF opD B d ys] (CrP (crossF xs ys)):=by
 refine Sp.of (n:=71) ⟨_,Tryz.func76,V,V,V,V⟩ (Nat.le_of_ble_eq_true V) fun Ps As=>Jc (Ja (Lq (Jd V) (Lq (Jd V) (Lq (Jd V) (Je (Jf (Jc (Jc (Kc (A:=RdF opD none 0 []) (fun Z w hs=>RdS.nil _ _ _) (Ja (Lq (Jb V) (Jg V (Jm (ZH A c xs hx (by omega)) (.n1 V) (by decide) (Jl Mm1 (Jl Mm2 Jx)) fun _ _ _ q9=>?_)))))))))))))
 obtain ⟨rfl,rfl,rfl⟩:=q9
 refine Lq (Jd V) (Je (Jf (Jc (Ja (Lq (Jb V) (Lq (Kr V V) (Je (Jf (Jz V (fun h14=> ?_) (fun h14=> ?_))))))))))
 ·refine Jc (Ja (Lq (Jb V) (Lq (Jd V) (Lq (Jd V) (Lq (Jd V) (Je (Jf (Jp (Jt ?_)))))))))
  refine ⟨_,[],[RdF opD none 0 [],RdF opD none 0 []],fun Z w hs=> .tmp V (.tmp V (.tmp V .nil)),?_,fun Z w hs=>hs.out (Sr) (Jl Mm0 (Jl Mm0 Tt1))⟩
  try simp only [Bp,Bq] at *
  have hF:crossF xs ys=_:=EX (by omega)
  exact ⟨none,0,none,0,by rw [hF];rfl,V,by rw [hF]⟩
 ·refine Jo (Jf (Jc (Jc (Ja (Lq (Jb V) (Jg V (Jm (ZH B d ys hy (by omega)) (.n1 V) (by decide) (Jl Mm1 (Jl Mm3 Jx)) fun _ _ _ q9=>?_)))))))
  obtain ⟨rfl,rfl,rfl⟩:=q9
  refine Lq (Jd V) (Je (Jf (Jc (Ja (Lq (Jb V) (Lq (Kr V V) (Je (Jf (Jz V (fun h19=> ?_) (fun h19=> ?_))))))))))
  ·refine Jc (Ja (Lq (Jb V) (Lq (Jd V) (Lq (Jd V) (Lq (Jd V) (Je (Jf (JG [(6,_),(5,_),(4,_),(0,_),(1,_)] (.m5 V V V V V) (Jp (Jt ?_))))))))))
   refine ⟨_,[],[RdF opD none 0 [],RdF opD none 0 []],fun Z w hs=> .tmp V (.tmp V (.tmp V .nil)),?_,fun Z w hs=>hs.out (Sr) (Jl Mm0 (Jl Mm0 Tt1))⟩
   try simp only [Bp,Bq] at *
   have hF:crossF xs ys=_:=EW (by omega) (by omega)
   exact ⟨none,0,none,0,by rw [hF];rfl,V,by rw [hF]⟩
  ·refine Jo (Jf (Jc (Ja (Lq (Jb V) (Jg V (Jm (EY A c xs hx hlx) (.n1 V) (by decide) (Jl Mm2 Jx) fun _ _ _ q9=>?_))))))
   obtain ⟨pF0,cssF0,hF0,rfl,rfl⟩:=q9
   refine Lq (Jd V) (Je (Jf (JG [(4,_),(6,_),(5,_),(1,_)] (.m4 V V V V) (Jc (Ja (Lq (Jb V) (Jg V (Jm (EY B d ys hy hly) (.n1 V) (by decide) (Jl Mm4 Jx) fun _ _ _ q9=>?_))))))))
   obtain ⟨pL0,cssL0,hL0,rfl,rfl⟩:=q9
   refine Lq (Jd V) (Je (Jf (Jc (Jc ?_))))
   try simp only [Bp,Bq] at *
   obtain ⟨hF1,bF,cF,jF,rfl,rfl,hF2,hF3,hF4⟩:=hF0
   obtain ⟨hL1,bL,cL,jL,rfl,rfl,hL2,hL3,hL4⟩:=hL0
   refine Ja (Lq (Jb V) (Lq (J4 Un53 V) (Lq (Jb V) (Je (Jf (JD ?_))))))
   refine Ke (α:=Nat×List GOp×List GOp×List (List Value)×List (List Value)) (fun (i,F,L,cssF,cssL)=>ys.length-i)
    (fun (i,F,L,cssF,cssL)=> [(4, .slice (some ⟨bF,0,none⟩) xs.length cF),(5, .slice (some ⟨bL,0,none⟩) ys.length cL),(26, .int .i64 ys.length),(27, .int .i64 i)])
    (fun (i,F,L,cssF,cssL)=>([(bL,JB (cssL.flatten++jL) 60)] :: [(bF,JB (cssF.flatten++jF) 60)] ::Ps))
    (fun (i,F,L,cssF,cssL)=>(RepsF opD L cssL::RepsF opD F cssF::RdF opD none 0 [] ::barF::RdF opD A c xs::RdF opD B d ys::As))
    (fun (i,F,L,cssF,cssL)=>CoI xs ys F L i)
    (0,xs,ys,cssF0,cssL0) ?_ (.m4 rfl rfl rfl rfl) (Sk2 (Sr)) (fun _ h=>h) ?_
   ·exact CoI.zero hx hy
   ·rintro ⟨i,F,L,cssF,cssL⟩ hI
    refine Jc (Ja (Lq (Km V V) (Je (Jf (Jc (Jz V (fun h28=> ?_) (fun h28=> ?_)))))))
    ·refine Jo (Jf (Jc (JD (Jc (Ja (Lq (Jb V) (Lq (Jd V) (Je (Jf (Jc (Ja (Lq (Jb V) (Lq (J4 Un53 V) (Lq (Jb V) (Je (Jf (JD ?_)))))))))))))))))
     have hi:i<L.length:=by simp only [decide_eq_true_eq] at h28;have:=hI.lenL;omega
     refine Kc (A:=RepsF opD (L.set i L[i]) cssL) (fun Z w hs=>by rw [List.set_getElem_self];exact hs.facts _ Mm0) ?_
     refine Ke (α:=Nat×List GOp×GOp×List (List Value)×List (List Value)) (fun (k,G,l,cssG,cssM)=>xs.length-k)
      (fun (k,G,l,cssG,cssM)=> [(4, .slice (some ⟨bF,0,none⟩) xs.length cF),(5, .slice (some ⟨bL,0,none⟩) ys.length cL),(26, .int .i64 ys.length),(27, .int .i64 i),(7, .int .i64 i),(31, .int .i64 xs.length),(32, .int .i64 k)])
      (fun (k,G,l,cssG,cssM)=>([(bL,JB (cssM.flatten++jL) 60)] :: [(bF,JB (cssG.flatten++jF) 60)] ::Ps))
      (fun (k,G,l,cssG,cssM)=>(RepsF opD (L.set i l) cssM::RepsF opD G cssG::RdF opD none 0 [] ::barF::RdF opD A c xs::RdF opD B d ys::As))
      (fun (k,G,l,cssG,cssM)=>CiI L[i] F G l k)
      (0,F,L[i],cssF,cssL) ?_ (.m7 rfl rfl rfl rfl rfl rfl rfl) (Sk2 (Sr)) (Jl Mm0 Tt2) ?_
     ·exact CiI.zero hI.fitF (hI.fitL _ (List.getElem_mem hi))
     ·rintro ⟨k,G,l,cssG,cssM⟩ hI2
      refine Jc (Ja (Lq (Km V V) (Je (Jf (Jc (Jz V (fun h33=> ?_) (fun h33=> ?_)))))))
      ·refine Jo (Jf (Jc (JD (Jc (Ja (Lq (Jb V) (Lq (Jd V) (Je (Jf (Jc ?_))))))))))
       have hk:k<G.length:=by simp only [decide_eq_true_eq] at h33;have:=hI.lenF;have:=hI2.len;omega
       have hi2:i<ys.length:=by have:=hI.lenL;omega
       have hk2:k<xs.length:=by have:=hI.lenF;have:=hI2.len;omega
       refine HK (k:=i) (u:=l) Mm0 (by simp [hi]) (op_open _) fun yl hyl=>HK (k:=k) Mm2 (List.getElem?_eq_getElem hk) (op_open _) fun yf hyf=> ?_
       refine Vo Mm2 fun hlM hlsM=>Vo Mm3 fun hlG hlsG=> ?_
       rw [List.length_set] at hlM
       refine JI _ _ [11] (.c 0 0 (.c 1 0 (.c 2 0 (.c 3 0 (.c 4 0 (.c 5 0 (.c 6 0 (.c 7 0 (.c 8 4 (.c 9 4 (.c 10 2 (.c 11 3 .nil)))))))))))) mixed (fun _ _ _ _ h=>h) (Sk2 (Sr)) (fun _ h=>h) (by kernel_rfl) (by decide) fun ws Z0=>Qe V (Jb V) (Qe V (Jb V) (Qe V (Yl Un53 JA V V (by omega) (by omega)) (Qe V (Ej (i:=i) Un60 V JA V (by simp) Jn hlsM hyl) (Qe V (Jb V) (Qe V (Jb V) (Qe V (Yl Un53 JA V V (by omega) (by omega)) (Qe V (Ej (i:=k) Un60 V JA V (by simp) (Jj (Jn)) hlsG hyf) ?_)))))))
       refine G7 V V (cs1:= [_,_,_,_,_,_,_,_,_]) (cs2:= [_,_,_,_,_,_,_,_,_]) JA V JA V (by decide) (by decide) (by decide) (Sk2 (Sr)) Mm0 fun b9 b10=>Jy V V (Jq (cs':= [_,_,_,_,_,_,_,_,_]) (vs:= [_,_,_,_,_,_,_,_,_]) JA V V V V V (Nat.le_of_ble_eq_true V) .z1 ?_)
       refine ⟨⟨(Sd2 (Sk2 (Sr))),Mm0⟩,?_⟩
       refine JK (Ka V V (Jq (cs':= [_,_,_,_,_,_,_,_,_]) (vs:= [_,_,_,_,_,_,_,_,_]) JA V V V V V (Nat.le_of_ble_eq_true V) .z (JJ (Jf (Jc (Jc (Ja (Lq (Jb V) (Lq (Jb V) (Lq (Js (vs:= [_,_,_,_,_,_,_,_,_]) Un60 V JA V (Jj (Jn)) V V) (Lq (Js (vs:= [_,_,_,_,_,_,_,_,_]) Un60 V JA V Jn V V) (Jg V (Jm (GZ l G[k] yl.1 yf.1 yl.2 yf.2 true hI2.fitl (hI2.fit _ (List.getElem_mem hk))) (.n3 V V V) (by decide) (Jl Mm6 (Jl Mm2 Jx)) fun _ _ _ q9=>?_)))))))))))))
       obtain ⟨A1,c1,rfl,rfl,rfl⟩:=q9
       refine Lq (Jb V) (Lq (Ji (vs:= [_,_]) V V) (Lq (Ji (vs:= [_,_]) V V) (Lq (Yl Un53 JA V V (by omega) (by omega)) (Jg V (XB (i:=i) (c:=opC (JM l G[k] true).1 A1 c1) JA V (by simp) V V V hlsM (by omega) .z2 (GI (xs':=L.set i (JM l G[k] true).1) i Mm4 (fun Z w hs=>⟨A1,c1,V,hs.facts _ Mm0⟩) (by rw [List.set_set]) (Lq (Jd V) (Je (Jf (Jc (Ja (Lq (Jb V) (Lq (Kr V V) ?_)))))))))))))
       refine Je (Jf (Jz V (fun h53=> ?_) (fun h53=> ?_)))
       ·refine Jc (Ja (Lq (Jb V) (Lq (Jd V) (Lq (Jd V) (Lq (Jd V) (Je (Jf (Jp (Jt (JF (Jt (Jt (JF (JF (Jt (Jt (JF (Jt ?_))))))))))))))))))
        refine ⟨_,[],[RdF opD none 0 [],RdF opD none 0 []],fun Z w hs=> .tmp V (.tmp V (.tmp V .nil)),?_,fun Z w hs=>hs.out (Sd4 (Sr)) (Jl Mm7 (Jl Mm7 Tt8))⟩
        try simp only [Bp,Bq] at *
        have hF:crossF xs ys=_:=GB (by omega) (by omega) (hI.err hi (hI2.err1 hk (by omega)))
        exact ⟨none,0,none,0,by rw [hF];rfl,V,by rw [hF]⟩
       ·refine Jo (Jf (Jc (Ja (Lq (Jb V) (Lq (Jb V) (Lq (Js (vs:= [_,_,_,_,_,_,_,_,_]) Un60 V JA V Jn V V) (Lq (Js (vs:= [_,_,_,_,_,_,_,_,_]) Un60 V JA V (Jj (Jn)) V V) (Jg V (Jm (GZ G[k] l yf.1 yl.1 yf.2 yl.2 false (hI2.fit _ (List.getElem_mem hk)) hI2.fitl) (.n3 V V V) (by decide) (Jl Mm8 (Jl Mm3 Jx)) fun _ _ _ q9=>?_)))))))))
        obtain ⟨A2,c2,rfl,rfl,rfl⟩:=q9
        refine Lq (Jb V) (Lq (Ji (vs:= [_,_]) V V) (Lq (Ji (vs:= [_,_]) V V) (Lq (Yl Un53 JA V V (by omega) (by omega)) (Jg V (XB (i:=k) (c:=opC (JM G[k] l false).1 A2 c2) JA V (by simp) V V V hlsG (by omega) .z3 (GI k Mm7 (fun Z w hs=>⟨A2,c2,V,hs.facts _ Mm0⟩) V (Lq (Jd V) (Je (Jf (Jc (Ja (Lq (Jb V) (Lq (Kr V V) ?_)))))))))))))
        refine Je (Jf (Jz V (fun h65=> ?_) (fun h65=> ?_)))
        ·refine Jc (Ja (Lq (Jb V) (Lq (Jd V) (Lq (Jd V) (Lq (Jd V) (Je (Jf (Jp (JF (Jt (Jt (JF (JF (Jt (Jt (JF (Jt ?_)))))))))))))))))
         refine ⟨_,[],[RdF opD none 0 [],RdF opD none 0 []],fun Z w hs=> .tmp V (.tmp V (.tmp V .nil)),?_,fun Z w hs=>hs.out (Sd4 (Sr)) (Jl Mm9 (Jl Mm9 Tt10))⟩
         try simp only [Bp,Bq] at *
         have hF:crossF xs ys=_:=GB (by omega) (by omega) (hI.err hi (hI2.err2 hk (by omega) (by omega)))
         exact ⟨none,0,none,0,by rw [hF];rfl,V,by rw [hF]⟩
        ·refine Jo (J7 (Jf (Ja (Lq (JQ V V (wr64 (by omega))) (Lq (Jb V) (Je (Ko ?_)))))))
         refine ⟨(k+1,G.set k (JM G[k] l false).1,(JM l G[k] true).1,cssG.set k (opC (JM G[k] l false).1 A2 c2),cssM.set i (opC (JM l G[k] true).1 A1 c1)),?_,(.m7 V V V V V V V),(Sd2 (Sk2 (Sr))),(Jl Mm2 (Jl Mm0 Tt9))⟩
         try simp only [Bp,Bq] at *
         exact ⟨by show xs.length-(k+1)<xs.length-k;omega,hI2.next hk (by omega) (by omega)⟩
      ·refine Kh (JH (JH (J6 (J7 (Jf (Ja (Lq (JQ V V (wr64 (by have:=hI.lenL;omega))) (Lq (Jb V) (Je (Ko ?_))))))))))
       refine ⟨(i+1,G,L.set i l,cssG,cssM),?_,(.m4 V V V V),(Sk2 (Sr)),(fun _ h=>h)⟩
       try simp only [Bp,Bq] at *
       exact ⟨by show ys.length-(i+1)<ys.length-i;omega,hI.next hi (hI2.done (by have:=hI.lenF;have:=hI2.len;omega)) hI2.len hI2.fit hI2.fitl⟩
    ·refine Kh (JH (JH (J6 (Jf (Jc ?_)))))
     try simp only [Bp,Bq] at *
     have hcr:=hI.done (by have:=hI.lenL;omega)
     refine Vo Mm0 fun hlL hlsL=>Vo Mm1 fun hlF hlsF=>KJ (e:=opD) (css:=cssL) (xs:=L) (Row.again hL1 hL2 hL3 hL4 (by have:=hI.lenL;omega) hlsL) .z (by have:=hI.lenL;omega) Mm0 fun AL cL' eL=> ?_
     obtain ⟨rfl,_,rfl⟩:=Value.slice.inj eL
     refine KJ (e:=opD) (css:=cssF) (xs:=F) (Row.again hF1 hF2 hF3 hF4 (by have:=hI.lenF;omega) hlsF) .z (by have:=hI.lenF;omega) Mm2 fun AF cF' eF=> ?_
     obtain ⟨rfl,_,rfl⟩:=Value.slice.inj eF
     refine Ja (Lq (Jb V) (Lq (Jb V) (Lq (Jd V) (Lq (Jd V) (Lq (Jd V) (Je (Jf (Jp ?_))))))))
     refine ⟨_,[],[RdF opD (some ⟨bF,0,none⟩) cF F,RdF opD (some ⟨bL,0,none⟩) cL L],fun Z w hs=> .tmp V (.tmp V (.tmp V .nil)),?_,fun Z w hs=>hs.out (Sr) (Jl Mm0 (Jl Mm1 Tt5))⟩
     have hF:=GA (by omega) (by omega) hcr
     exact ⟨some ⟨bF,0,none⟩,cF,some ⟨bL,0,none⟩,cL,by rw [hF,hI.lenF,hI.lenL];rfl,V,by rw [hF]⟩
theorem K0 (H:Hist):H.ops.length=H.ents.length:=by simp [Hist.ops]
theorem QJ {H:Hist} {k:Nat} (h:k<H.ents.length):H.ops[k]'(by rw [K0];exact h)=H.ents[k].op:=by simp [Hist.ops]
theorem bd97_1Xw12 (x1_:Option Nat) (w:World):(Instr.build 117 #[(1, .map x1_)]).run Tryz.prog w= .ok (.agg #[.slice none 0 0, .map x1_, .int .i64 0]) w:=by kernel_rfl
theorem Jca:Sp Tryz.prog 38 [] [] [] (fun v Lo fs=> ∃h m,v= .pointer (some ⟨h,0,none⟩)∧Lo= [hdP h none 0 0 m 0,mpP m [],mkP []] ∧fs= [RdF opD none 0 [],AllF ([] :List MR) nowF]):=by
 refine Sp.of (n:=4) ⟨_,Tryz.func38,rfl,rfl,rfl,rfl⟩ (Nat.le_of_ble_eq_true rfl) fun Ps As=>Jc (Ja (Lq (Jd rfl) (Je (Jf (Jc (Kz (Kc (A:=AllF ([] :List MR) nowF) (fun Z w hs x hx=>by cases hx) (Kc (A:=RdF opD none 0 []) (fun Z w hs=>RdS.nil _ _ _) (Ja (Jg rfl (Hq (by decide) fun b1=>Lq (JY (.n1 rfl) (bd97_1Xw12 _)) ?_)))))))))))
 refine Jg V (J3 (cs:= [_,_,_]) V V (by decide) fun b3=>Lq (Jd V) (Je (Jf (Jp ?_))))
 refine ⟨_,[_,_,_],[_,_],fun Z w hs=> .tmp V .nil,?_,fun Z w hs=>hs.out (Sk3 (Sr)) (fun _ h=>h)⟩
 exact ⟨b3,b1,V,V,V⟩
theorem Hg (h m len cap:Nat) (A:Option Addr) (total:Int):Sp Tryz.prog 26 [.pointer (some ⟨h,0,none⟩)] [hdP h A len cap m total] [] (fun v Lo fs=>v= .int .i64 len∧Lo= [hdP h A len cap m total] ∧fs= []):=by
 refine Sp.of (n:=8) ⟨_,Tryz.func26,V,V,V,V⟩ (Nat.le_of_ble_eq_true V) fun Ps As=>Jc (Ja (Lq (Jd V) (Je (Jf (Jc (Ja (Lq (Jb V) (Lq (JE V) (Lq (Jh (o':=0) Un117 V Qi V V) (Lq (Jk Un53 V V Jn V) (Lq (J4 Un53 V) (Lq (Jd V) ?_))))))))))))
 refine Je (Jf (Jp ?_))
 refine ⟨_,[_],[],fun Z w hs=> .tmp V .nil,?_,fun Z w hs=>hs.out (Sk (Sr)) (fun _ h=>h)⟩
 exact ⟨V,V,V⟩
theorem Z7 (h m cap:Nat) (A:Option Addr) (H:Hist) (L:List MR) (hr:HR H L) (i:Nat) (hi:i≤H.ents.length):Sp Tryz.prog 111 [.pointer (some ⟨h,0,none⟩), .int .i64 i] [hdP h A H.ops.length cap m H.total] [barF,RdF opD A cap H.ops] (fun v Lo fs=>v= .int .i64 (K6 H i)∧Lo= [hdP h A H.ops.length cap m H.total] ∧fs= []):=by
 have hol:=K0 H
 have hlen:=hr.len
 refine Sp.of (n:=25) ⟨_,Tryz.func111,V,V,V,V⟩ (Nat.le_of_ble_eq_true V) fun Ps As=>Jc (Ja (Lq (Jd V) (Je (Jf (Jc (Ja (Lq (Jd V) (Je (Jf (Jc (Jc (QX Mm1 fun hcap hcap2=> ?_))))))))))))
 obtain ⟨B,hB⟩: ∃B,B=cutA A 0 cap 9:=⟨_,rfl⟩
 refine Kc (A:=RdF opD B cap (H.ops.take i)) (fun Z w hs=>by rw [hB];exact RdS.cut (lo:=0) (hi:=i) (m:=cap) (hs.facts _ Mm1) (Nat.zero_le _) (by omega) (by omega) (Nat.le_refl _)) (Ja (Lq (Jb V) (Lq (JE V) (Lq (Jh (o':=0) Un117 V Qi V V) (Lq (Jk Un53 V V Jn V) (Lq (Jb V) (Lq (HA Un53 JA V V (by omega) (by omega)) (Lq (J4 Un53 V) (Lq (Jb V) ?_)))))))))
 refine Je (Jf (JD ?_))
 refine Ke (α:=Nat) (fun k=>i-k)
  (fun k=> [(5, .int .i64 (sumW (H.ents.take k))),(13, .slice B i cap),(14, .int .i64 i),(15, .int .i64 k)])
  (fun k=>(hdP h A H.ops.length cap m H.total::Ps))
  (fun k=>(RdF opD B cap (H.ops.take i)::barF::RdF opD A cap H.ops::As))
  (fun k=>k≤i)
  0 ?_ (.m4 rfl (by rw [hB];rfl) rfl rfl) (Sk (Sr)) (fun _ h=>h) ?_
 ·exact Nat.zero_le _
 ·rintro k hI
  refine Jc (Ja (Lq (Km V V) (Je (Jf (Jc (Jz V (fun h16=> ?_) (fun h16=> ?_)))))))
  ·refine Jo (Jf (Jc (JD (Jc ?_))))
   try simp only [Bp,Bq] at *
   have hk:k<(H.ops.take i).length:=by rw [List.length_take];omega
   have hke:k<H.ents.length:=by rw [List.length_take] at hk;omega
   have hop:(H.ops.take i)[k] =H.ents[k].op:=by rw [List.getElem_take,QJ]
   refine Kd (k:=k) Mm0 (List.getElem?_eq_getElem hk) (op_open _) fun b4 q4 y4 e4=> ?_
   cases e4
   refine Ja (Lq (J0 Un53 JA V V (by omega) (by omega)) (Lq (Kg (k:=0) (vs:= [_,_,_,_,_,_,_,_,_]) Un60 V JA V Mm0 V V V) (Jg V (Jw (cs:= [_,_,_,_,_,_,_,_,_]) JA V (by decide) fun b7=>Jg V (Jq (cs':= [_,_,_,_,_,_,_,_,_]) (vs:= [_,_,_,_,_,_,_,_,_]) JA V V V V V (Nat.le_of_ble_eq_true V) .z (Je (Jf (Ja (Lq (Jb V) (Lq (Js (vs:= [_,_,_,_,_,_,_,_,_]) Un60 V JA V Jn V V) (Jg V (Jm (YC (H.ops.take i)[k] y4.1 y4.2 (by have:=(hr.fit _ (List.getElem_mem hke)).text;rw [hop];omega)) (.n1 V) (by decide) (Jl Mm3 Jx) fun _ _ _ q9=>?_))))))))))))
   obtain ⟨rfl,rfl,rfl⟩:=q9
   refine Lq (JQ V V (wr64 (by have h1:=Hv (H.ents.take k) (fun e he=>hr.wid e (List.mem_of_mem_take he));have h2:=hr.wid _ (List.getElem_mem hke);have h3:=KP (H.ops.take i)[k];rw [hop] at h3;rw [hop];rw [List.length_take] at h1;omega))) (Lq (Jd V) (Je (J7 (Jf (Ja (Lq (JQ V V (wr64 (by omega))) (Lq (Jb V) (Je (Ko ?_)))))))))
   have hsum:sumW (H.ents.take k)+Jr (H.ops.take i)[k] =sumW (H.ents.take (k+1)):=by
    rw [List.take_succ_eq_append_getElem hke,XE,hop];simp [sumW]
   refine ⟨k+1,?_,(.m4 (congrArg (fun z=>some (Value.int .i64 z)) hsum) V V V),(Sd (Sk (Sr))),Tt2⟩
   exact ⟨by omega,by omega⟩
  ·refine Kh (JH (JH (J6 (Jf (Jc (Ja (Lq (Jb V) (Lq (Jd V) (Je (Jf (Jp ?_)))))))))))
   try simp only [Bp,Bq] at *
   obtain rfl:k=i:=by omega
   refine ⟨_,[_],[],fun Z w hs=> .tmp V .nil,?_,fun Z w hs=>hs.out (Sk (Sr)) Tt1⟩
   exact ⟨V,V,V⟩
theorem keyT:KeyT Tryz.prog 43:=⟨⟨3,_,_,Un43,Un3,ti3⟩,eq43⟩
theorem bd25Xw13 (w:World):(Instr.build 43 #[]).run Tryz.prog w= .ok (.agg #[.int .i64 0, .int .i64 0]) w:=by kernel_rfl
theorem Jbw (h m cap:Nat) (A:Option Addr) (H:Hist) (L:List MR) (hr:HR H L) (i:Int) (o:GOp) (Ao:Option Addr) (co:Nat) (ho:Fit o):Sp Tryz.prog 75 [.pointer (some ⟨h,0,none⟩), .int .i64 i,opV o Ao co] [hdP h A H.ops.length cap m H.total,mpP m L,mkP L] [barF,RdF opD A cap H.ops,RdF rgD Ao co o.rs] (HIs (.int .i64 (fitsF H i o)) [hdP h A H.ops.length cap m H.total,mpP m L,mkP L]):=by
 have hol:=K0 H
 have hlen:=hr.len
 refine Sp.of (n:=91) ⟨_,Tryz.func75,V,V,V,V⟩ (Nat.le_of_ble_eq_true V) fun Ps As=>Jc (Ja (Jg V (J3 (cs:= [_,_,_,_,_,_,_,_,_]) V V (by decide) fun b5=>Lq (Jd V) (Je (Jf (Jc (Jc (Ja (Lq (Jb V) (Lq (Km V V) (Lq (Jb V) (J1 (t:=11) V (fun g11=> ?_) (fun g11=> ?_)))))))))))))
 ·refine Ln V V V g11 (Ln V V V g11 (Ln V V V g11 (Ln V V V g11 (Ln V V V g11 (Ln V V V g11 (Ln V V V g11 (Lq (JO V g11 V) (Je (Jf (JG [(19,_),(6,_),(5,_),(0,_),(1,_)] (.m5 V V V V V) ?_))))))))))
  refine JS V V (Jc (Ja (Lq (Jd V) (Je (Jf (Jp (Jt ?_)))))))
  refine ⟨_,[_,_,_],[],fun Z w hs=> .tmp V .nil,?_,fun Z w hs=>hs.out (Sd (Sk3 (Sr))) (fun _ h=>h)⟩
  try simp only [Bp,Bq] at *
  refine ⟨congrArg (Value.int .i64) ?_,V,V⟩
  unfold fitsF fitsT fitsRest
  first | (simp_all;done) | (simp_all;omega) | (repeat' split;all_goals first | rfl | omega | (simp_all;done) | (simp_all;omega))
 ·refine Lg V V V g11 (Jb V) (Lg V V V g11 (Jb V) (Lg V V V g11 (JE V) (Lg V V V g11 (Jh (o':=0) Un117 V Qi V V) (Lg V V V g11 (Jk Un53 V V (Jj (Jn)) V) (Lg V V V g11 (J4 Un53 V) (Lg V V V g11 (Kl V V) (Lq (JL V g11 V) (Je (Jf (JG [(19,_),(6,_),(5,_),(0,_),(1,_)] (.m5 V V V V V) ?_))))))))))
  refine Jz V (fun h19=> ?_) (fun h19=> ?_)
  ·refine Jc (Ja (Lq (Jd V) (Je (Jf (Jp (Jt ?_))))))
   refine ⟨_,[_,_,_],[],fun Z w hs=> .tmp V .nil,?_,fun Z w hs=>hs.out (Sd (Sk3 (Sr))) (fun _ h=>h)⟩
   try simp only [Bp,Bq] at *
   refine ⟨congrArg (Value.int .i64) ?_,V,V⟩
   unfold fitsF fitsT fitsRest
   first | (simp_all;done) | (simp_all;omega) | (repeat' split;all_goals first | rfl | omega | (simp_all;done) | (simp_all;omega))
  ·refine Jo (Jf (Jc (Jc ?_)))
   try simp only [Bp,Bq] at *
   obtain ⟨i,rfl⟩: ∃k:Nat,i=(k:Int):=⟨i.toNat,by omega⟩
   refine JI _ _ [] (.c 0 0 (.c 1 0 (.c 2 0 (.c 3 2 (.c 4 2 (.c 5 0 .nil)))))) mixed (fun _ _ _ _ h=>h) (Sk (Sd (Sk2 (Sr)))) (fun _ h=>h) (by kernel_rfl) (by decide) fun ws Z0=>Qe V (Js (vs:= [_,_,_,_,_,_,_,_,_]) Un60 V JA V Jn V V) (Qe V (Jb V) (Qe V (Jb V) (Jy V V (JU (Z7 h m cap A H L hr i (by omega)) (.n2 V V) (by decide) .z1 (Jl Mm1 (Jl Mm2 Jx)) fun _ _ _ q9=>?_))))
   obtain ⟨rfl,rfl,rfl⟩:=q9
   refine ⟨⟨(Sd (Sk3 (Sr))),Mm0⟩,?_⟩
   refine Jy V V (Jm (Yy o Ao co (K6 H i) (by have:=ho.text;omega) ho.rs) (.n2 V V) (by decide) (Jl Mm1 (Jl Mm3 Jx)) fun _ _ _ q9=>?_)
   obtain ⟨rfl,rfl,rfl⟩:=q9
   refine ⟨⟨(Sd (Sk3 (Sr))),Mm0⟩,?_⟩
   refine Qe V (Jd V) (JK (JJ (Jf (Jc (Ja (Lq (Jb V) (Lq (Kr V V) (Je (Jf (Jz V (fun h26=> ?_) (fun h26=> ?_)))))))))))
   ·refine Jc (Ja (Lq (Jb V) (Lq (Jd V) (Je (Jf (JG [(6,_),(5,_),(0,_),(1,_)] (.m4 V V V V) (Jp (Jt ?_))))))))
    refine ⟨_,[_,_,_],[],fun Z w hs=> .tmp V .nil,?_,fun Z w hs=>hs.out (Sk (Sd (Sk2 (Sr)))) Tt1⟩
    try simp only [Bp,Bq] at *
    refine ⟨congrArg (Value.int .i64) ?_,V,V⟩
    unfold fitsF fitsT fitsRest
    first | (simp_all;done) | (simp_all;omega) | (repeat' split;all_goals first | rfl | omega | (simp_all;done) | (simp_all;omega))
   ·refine Jo (Jf (Jc (JD (Jc (Ja (Lq (Jh (o':=0) Un60 V KM V V) (Lq (Jh (o':=2) Un58 V Yh V V) (Lq (Jk Un44 V V (Jj (Jn)) V) (Lq (Kb V V) (Lq (Jd V) (Je (Jf (JG [(28,_),(6,_),(5,_),(0,_),(1,_)] (.m5 V V V V V) (Jz V (fun h28=> ?_) (fun h28=> ?_)))))))))))))))
    ·refine Jc (Ja (Lq (Jd V) (Je (Jf (Jp (JF (Jt ?_)))))))
     refine ⟨_,[_,_,_],[],fun Z w hs=> .tmp V .nil,?_,fun Z w hs=>hs.out (Sk (Sd (Sk2 (Sr)))) Tt1⟩
     try simp only [Bp,Bq] at *
     refine ⟨congrArg (Value.int .i64) ?_,V,V⟩
     unfold fitsF fitsT fitsRest
     first | (simp_all;done) | (simp_all;omega) | (repeat' split;all_goals first | rfl | omega | (simp_all;done) | (simp_all;omega))
    ·refine Jc (Ja (Lq (Jh (o':=0) Un60 V KM V V) (Lq (Jh (o':=0) Un58 V JW V V) (Lq (Js (vs:= [_,_]) Un43 V JW V (Jj (Jn)) V V) (Lq (JY .nil (bd25Xw13)) (Lq (YS V V (eq43 _ _ _ _)) (Lq (Jd V) (Je (Jf (Jz V (fun h33=> ?_) (fun h33=> ?_)))))))))))
     ·refine Jc (Ja (Lq (Jd V) (Je (Jf (Jp (JF (Jt ?_)))))))
      refine ⟨_,[_,_,_],[],fun Z w hs=> .tmp V .nil,?_,fun Z w hs=>hs.out (Sk (Sd (Sk2 (Sr)))) Tt1⟩
      try simp only [Bp,Bq] at *
      refine ⟨congrArg (Value.int .i64) ?_,V,V⟩
      unfold fitsF fitsT fitsRest
      first | (simp_all;done) | (simp_all;omega) | (repeat' split;all_goals first | rfl | omega | (simp_all;done) | (simp_all;omega))
     ·refine Jc ?_
      cases hwd:J5 H.ents o.c o.n with
      | none=>
       have hgd:=hr.look0 hwd
       refine JI _ _ [] (.c 0 0 (.c 1 0 (.c 2 0 (.c 3 0 (.c 4 0 (.c 5 0 (.c 6 0 (.c 7 0 (.c 8 0 (.c 9 0 .nil)))))))))) mixed (fun _ _ _ _ h=>h) (Sk4 (Sr)) (fun _ h=>h) (by kernel_rfl) (by decide) fun ws Z0=>Qe V (Jb V) (Qe V (JE V) (Qe V (Jh (o':=1) Un117 V Qr V V) (Qe V (Jk Un115 V V Jn V) (Qe V (Jh (o':=0) Un60 V KM V V) (Qe V (Jh (o':=0) Un58 V JW V V) (Qe V (Js (vs:= [_,_]) Un43 V JW V (Jj (Jn)) V V) (Qe V (X7 keyT hgd Un115 QD V V (Jj (Jj (Jn)))) (Qe V (Vf Un120 V V (by simp)) ?_))))))))
       refine Qe V (Jd V) (JK (JJ (Jf (JG [(39,_),(6,_),(5,_),(0,_),(1,_)] (.m5 V V V V V) (Ju V V (Jo (J7 (Jf (Jc (Jc (Ja (Lq (Jh (o':=0) Un60 V KM V V) (Lq (Jh (o':=2) Un58 V Yh V V) (Lq (Jk Un44 V V (Jj (Jn)) V) (Lq (Kb V V) (Je (Jf ?_)))))))))))))))))
       refine Jz V (fun h52=> ?_) (fun h52=> ?_)
       ·refine Jc ?_
        cases hwt:J5 H.ents o.tc o.tn with
        | none=>
         have hgt:=hr.look0 hwt
         refine JI _ _ [] (.c 0 0 (.c 1 0 (.c 2 0 (.c 3 0 (.c 4 0 (.c 5 0 (.c 6 0 (.c 7 0 .nil)))))))) mixed (fun _ _ _ _ h=>h) (Sk4 (Sr)) (fun _ h=>h) (by kernel_rfl) (by decide) fun ws Z0=>Qe V (Jb V) (Qe V (JE V) (Qe V (Jh (o':=1) Un117 V Qr V V) (Qe V (Jk Un115 V V Jn V) (Qe V (Jh (o':=6) Un60 V JW V V) (Qe V (Js (vs:= [_,_]) Un43 V JW V (Jj (Jn)) V V) (Qe V (X7 keyT hgt Un115 QD V V (Jj (Jj (Jn)))) (Qe V (Jd V) (JK (JJ ?_)))))))))
         refine Jf (JG [(8,_),(6,_),(5,_),(0,_),(1,_)] (.m5 V V V V V) (Jc (Jc (Ja (Lq (Jb V) (Lq (KR Un120 V V (by simp)) (Lq (Jb V) (Ln V V V V (Ln V V V V (Ln V V V V (Ln V V V V ?_)))))))))))
         refine Ln V V V V (Ln V V V V (Lq (JO V V V) (Je (Jf (JG [(69,_),(8,_),(6,_),(5,_),(0,_)] (.m5 V V V V V) (JS V V (Jc (Ja (Lq (Jd V) (Je (Jf (Jp (Jt (Jt ?_))))))))))))))
         refine ⟨_,[_,_,_],[],fun Z w hs=> .tmp V .nil,?_,fun Z w hs=>hs.out (Sk (Sd (Sk2 (Sr)))) Tt3⟩
         try simp only [Bp,Bq] at *
         refine ⟨congrArg (Value.int .i64) ?_,V,V⟩
         unfold fitsF fitsT fitsRest
         first | (simp_all;done) | (simp_all;omega) | (repeat' split;all_goals first | rfl | omega | (simp_all;done) | (simp_all;omega))
        | some kt=>
         obtain ⟨hkt,jt,xt,hct,hnt,hjt,hmt,hgt⟩:=hr.look1 hwt
         obtain ⟨xmt,xbt,xAt,xct⟩:=xt
         obtain rfl:xmt=markAt kt H.ents[kt] :=hmt
         refine JI _ _ [] (.c 0 0 (.c 1 0 (.c 2 0 (.c 3 0 (.c 4 0 (.c 5 0 (.c 6 0 (.c 7 0 .nil)))))))) mixed (fun _ _ _ _ h=>h) (Sk4 (Sr)) (fun _ h=>h) (by kernel_rfl) (by decide) fun ws Z0=>Qe V (Jb V) (Qe V (JE V) (Qe V (Jh (o':=1) Un117 V Qr V V) (Qe V (Jk Un115 V V Jn V) (Qe V (Jh (o':=6) Un60 V JW V V) (Qe V (Js (vs:= [_,_]) Un43 V JW V (Jj (Jn)) V V) (Qe V (Qc keyT hgt Un115 QD V V (Jj (Jj (Jn)))) (Qe V (Jd V) (JK (JJ ?_)))))))))
         refine Jf (JG [(8,_),(6,_),(5,_),(0,_),(1,_)] (.m5 V V V V V) (Jc (Jc (Ja (Lq (Jb V) (Lq (KR Un120 V V (by simp)) (Lq (Jb V) (Lg V V V V (Jb V) (Lg V V V V (JE V) (Lg V V V V (Jh (o':=0) Un122 V ti3 V V) (Lg V V V V (Jk (v:= .int .i64 (kt:Int)) Un3 V V (Jj (Jj (Jj (ownI (Yo hjt))))) V) ?_)))))))))))
         refine Lg V V V V (Jb V) (Lg V V V V (Yc V V) (Lq (JL V V V) (Je (Jf (JG [(69,_),(8,_),(6,_),(5,_),(0,_)] (.m5 V V V V V) (Jz V (fun h69=> ?_) (fun h69=> ?_)))))))
         ·refine Jc (Ja (Lq (Jd V) (Je (Jf (Jp (Jt (Jt ?_)))))))
          refine ⟨_,[_,_,_],[],fun Z w hs=> .tmp V .nil,?_,fun Z w hs=>hs.out (Sk (Sd (Sk2 (Sr)))) Tt3⟩
          try simp only [Bp,Bq] at *
          refine ⟨congrArg (Value.int .i64) ?_,V,V⟩
          unfold fitsF fitsT fitsRest
          first | (simp_all;done) | (simp_all;omega) | (repeat' split;all_goals first | rfl | omega | (simp_all;done) | (simp_all;omega))
         ·refine Jo (Jf (Jc ?_))
          have hko:kt<H.ops.length:=by omega
          refine Kd (k:=kt) Mm4 (List.getElem?_eq_getElem hko) (op_open _) fun bo qo yo eo=> ?_
          cases eo
          have hop:=QJ hkt
          refine JI _ _ [] (.c 0 0 (.c 1 0 (.c 2 0 (.c 3 0 (.c 4 0 (.c 5 0 (.c 6 0 (.c 7 0 (.c 8 0 (.c 9 0 (.c 10 0 (.c 11 0 (.c 12 0 .nil))))))))))))) mixed (fun _ _ _ _ h=>h) (Sk4 (Sr)) (fun _ h=>h) (by kernel_rfl) (by decide) fun ws Z0=>Qe V (Jb V) (Qe V (JE V) (Qe V (Jh (o':=0) Un117 V Qi V V) (Qe V (Jk Un53 V V Jn V) (Qe V (Jb V) (Qe V (JE V) (Qe V (Jh (o':=0) Un122 V ti3 V V) (Qe V (Jk (v:= .int .i64 (kt:Int)) Un3 V V (Jj (Jj (Jj (ownI (Yo hjt))))) V) (Qe V (J0 Un53 JA V V (by omega) (by omega)) ?_))))))))
          refine Qe V (Jh (o':=_+0) Un60 V KM V V) (Qe V (Jh (o':=_+2) Un58 V Yh V V) (Qe V (Kk (j:=2) Un44 V V Mm0 V V) (Qe V (Kb V V) (JK (JJ (Jf (JG [(82,_),(6,_),(5,_),(0,_)] (.m4 V V V V) (Jz V (fun h82=> ?_) (fun h82=> ?_)))))))))
          ·refine Jc (Ja (Lq (Jd V) (Je (Jf (Jp (Jt ?_))))))
           refine ⟨_,[_,_,_],[],fun Z w hs=> .tmp V .nil,?_,fun Z w hs=>hs.out (Sk (Sd (Sk2 (Sr)))) Tt6⟩
           try simp only [Bp,Bq] at *
           refine ⟨congrArg (Value.int .i64) ?_,V,V⟩
           unfold fitsF fitsT fitsRest
           first | (simp_all;done) | (simp_all;omega) | (repeat' split;all_goals first | rfl | omega | (simp_all;done) | (simp_all;omega))
          ·refine Jo (Jf (Jc (Jc (JI _ _ [] (.c 0 0 (.c 1 0 (.c 2 0 (.c 3 0 (.c 4 0 (.c 5 2 (.c 6 0 (.c 7 0 .nil)))))))) mixed (fun _ _ _ _ h=>h) (Sk4 (Sr)) (fun _ h=>h) (by kernel_rfl) (by decide) fun ws Z0=>Qe V (Jb V) (Qe V (JE V) (Qe V (Jh (o':=2) Un117 V ti3 V V) (Qe V (Jk Un3 V V Jn V) (Qe V (Js (vs:= [_,_,_,_,_,_,_,_,_]) Un60 V JA V (Jj (Jn)) V V) (Jy V V (Jm (YC o Ao co (by have:=ho.text;omega)) (.n1 V) (by decide) (Jl Mm7 Jx) fun _ _ _ q9=>?_))))))))))
           obtain ⟨rfl,rfl,rfl⟩:=q9
           refine ⟨⟨(Sk4 (Sr)),Mm0⟩,?_⟩
           refine Qe V (JQ V V (wr64 (by have:=hr.tot;have:=KP o;have:=ho.text;omega))) (Qe V (Kl V V) (JK (JJ (Jf (Jz V (fun h90=> ?_) (fun h90=> ?_))))))
           ·refine Jc (Ja (Lq (Jd V) (Je (Jf (Jp (Jt ?_))))))
            refine ⟨_,[_,_,_],[],fun Z w hs=> .tmp V .nil,?_,fun Z w hs=>hs.out (Sk (Sd (Sk2 (Sr)))) Tt7⟩
            try simp only [Bp,Bq] at *
            refine ⟨congrArg (Value.int .i64) ?_,V,V⟩
            unfold fitsF fitsT fitsRest
            first | (simp_all;done) | (simp_all;omega) | (repeat' split;all_goals first | rfl | omega | (simp_all;done) | (simp_all;omega))
           ·refine Jo (Jf (Jc (Ja (Lq (Jd V) (Je (Jf (Jp ?_)))))))
            refine ⟨_,[_,_,_],[],fun Z w hs=> .tmp V .nil,?_,fun Z w hs=>hs.out (Sk (Sd (Sk2 (Sr)))) Tt7⟩
            try simp only [Bp,Bq] at *
            refine ⟨congrArg (Value.int .i64) ?_,V,V⟩
            unfold fitsF fitsT fitsRest
            first | (simp_all;done) | (simp_all;omega) | (repeat' split;all_goals first | rfl | omega | (simp_all;done) | (simp_all;omega))
       ·refine Jo (Jf (Jc (Jc (JI _ _ [] (.c 0 0 (.c 1 0 (.c 2 0 (.c 3 0 (.c 4 0 (.c 5 2 (.c 6 0 (.c 7 0 .nil)))))))) mixed (fun _ _ _ _ h=>h) (Sk4 (Sr)) (fun _ h=>h) (by kernel_rfl) (by decide) fun ws Z0=>Qe V (Jb V) (Qe V (JE V) (Qe V (Jh (o':=2) Un117 V ti3 V V) (Qe V (Jk Un3 V V Jn V) (Qe V (Js (vs:= [_,_,_,_,_,_,_,_,_]) Un60 V JA V (Jj (Jn)) V V) (Jy V V (Jm (YC o Ao co (by have:=ho.text;omega)) (.n1 V) (by decide) (Jl Mm3 Jx) fun _ _ _ q9=>?_))))))))))
        obtain ⟨rfl,rfl,rfl⟩:=q9
        refine ⟨⟨(Sk4 (Sr)),Mm0⟩,?_⟩
        refine Qe V (JQ V V (wr64 (by have:=hr.tot;have:=KP o;have:=ho.text;omega))) (Qe V (Kl V V) (JK (JJ (Jf (JG [(90,_),(6,_)] (.m2 V V) (Jz V (fun h90=> ?_) (fun h90=> ?_)))))))
        ·refine Jc (Ja (Lq (Jd V) (Je (Jf (Jp (Jt ?_))))))
         refine ⟨_,[_,_,_],[],fun Z w hs=> .tmp V .nil,?_,fun Z w hs=>hs.out (Sk (Sd (Sk2 (Sr)))) Tt3⟩
         try simp only [Bp,Bq] at *
         refine ⟨congrArg (Value.int .i64) ?_,V,V⟩
         unfold fitsF fitsT fitsRest
         first | (simp_all;done) | (simp_all;omega) | (repeat' split;all_goals first | rfl | omega | (simp_all;done) | (simp_all;omega))
        ·refine Jo (Jf (Jc (Ja (Lq (Jd V) (Je (Jf (Jp ?_)))))))
         refine ⟨_,[_,_,_],[],fun Z w hs=> .tmp V .nil,?_,fun Z w hs=>hs.out (Sk (Sd (Sk2 (Sr)))) Tt3⟩
         try simp only [Bp,Bq] at *
         refine ⟨congrArg (Value.int .i64) ?_,V,V⟩
         unfold fitsF fitsT fitsRest
         first | (simp_all;done) | (simp_all;omega) | (repeat' split;all_goals first | rfl | omega | (simp_all;done) | (simp_all;omega))
      | some kd=>
       obtain ⟨hkd,jd,xd,hcd,hnd,hjd,hmd,hgd⟩:=hr.look1 hwd
       obtain ⟨xmd,xbd,xAd,xcd⟩:=xd
       obtain rfl:xmd=markAt kd H.ents[kd] :=hmd
       refine JI _ _ [] (.c 0 0 (.c 1 0 (.c 2 0 (.c 3 0 (.c 4 0 (.c 5 0 (.c 6 0 (.c 7 0 (.c 8 0 (.c 9 0 .nil)))))))))) mixed (fun _ _ _ _ h=>h) (Sk4 (Sr)) (fun _ h=>h) (by kernel_rfl) (by decide) fun ws Z0=>Qe V (Jb V) (Qe V (JE V) (Qe V (Jh (o':=1) Un117 V Qr V V) (Qe V (Jk Un115 V V Jn V) (Qe V (Jh (o':=0) Un60 V KM V V) (Qe V (Jh (o':=0) Un58 V JW V V) (Qe V (Js (vs:= [_,_]) Un43 V JW V (Jj (Jn)) V V) (Qe V (Qc keyT hgd Un115 QD V V (Jj (Jj (Jn)))) (Qe V (Vf Un120 V V (by simp)) ?_))))))))
       refine Qe V (Jd V) (JK (JJ (Jf (JG [(39,_),(6,_),(5,_),(0,_),(1,_)] (.m5 V V V V V) (JS V V (Jc (Ja (Lq (Jd V) (Je (Jf (Jp (JF (Jt ?_)))))))))))))
       refine ⟨_,[_,_,_],[],fun Z w hs=> .tmp V .nil,?_,fun Z w hs=>hs.out (Sk (Sd (Sk2 (Sr)))) Tt2⟩
       try simp only [Bp,Bq] at *
       refine ⟨congrArg (Value.int .i64) ?_,V,V⟩
       unfold fitsF fitsT fitsRest
       first | (simp_all;done) | (simp_all;omega) | (repeat' split;all_goals first | rfl | omega | (simp_all;done) | (simp_all;omega))
def slC (x:List Rg×Option Addr×Nat):Value:= .slice x.2.1 x.1.length x.2.2
def slsF (ys:List (List Rg×Option Addr×Nat)):Fact:=AllF ys fun x=>RdF rgD x.2.1 x.2.2 x.1
structure MvI (ents:List Ent) (at_ n:Int) (k:Nat) (ys:List (List Rg×Option Addr×Nat)):Prop where
 le:k≤ents.length
 len:ys.length=k
 eq:movedAll ents at_ n=(match movedAll (ents.drop k) at_ n with | .error e=> .error e | .ok ls=> .ok (ys.map Prod.fst++ls))
theorem MvI.err {ents:List Ent} {at_ n:Int} {k:Nat} {ys:List (List Rg×Option Addr×Nat)} (h:MvI ents at_ n k ys) (hk:k<ents.length) (h1:(thrF ents[k].now at_ n).2≠0):movedAll ents at_ n= .error (thrF ents[k].now at_ n).2:=by
 rw [h.eq,List.drop_eq_getElem_cons hk,movedAll,if_pos h1]
theorem MvI.next {ents:List Ent} {at_ n:Int} {k:Nat} {ys:List (List Rg×Option Addr×Nat)} (h:MvI ents at_ n k ys) (hk:k<ents.length) (h1: ¬(thrF ents[k].now at_ n).2≠0) (A:Option Addr) (c:Nat):MvI ents at_ n (k+1) (ys++ [((thrF ents[k].now at_ n).1,A,c)]):=by
 refine ⟨hk,by simp [h.len],?_⟩
 rw [h.eq,List.drop_eq_getElem_cons hk,movedAll,if_neg h1]
 cases movedAll (ents.drop (k+1)) at_ n with
 | error e=>rfl
 | ok ls=>simp
theorem MvI.done {ents:List Ent} {at_ n:Int} {k:Nat} {ys:List (List Rg×Option Addr×Nat)} (h:MvI ents at_ n k ys) (hk: ¬k<ents.length):movedAll ents at_ n= .ok (ys.map Prod.fst):=by
 rw [h.eq,List.drop_eq_nil_of_le (by have:=h.le;omega)]
 simp [movedAll]
theorem sls_reps {ys:List (List Rg×Option Addr×Nat)} {Z:Nat→Prop} {w:World} (h:(slsF ys).holds Z w):Reps (rsl.rep Z w) (ys.map Prod.fst) (ys.map fun x=> [slC x]):=by
 induction ys with
 | nil=>exact .nil
 | cons y ys ih=>exact .cons ⟨y.2.1,y.2.2,rfl,h y List.mem_cons_self⟩ (ih fun x hx=>h x (List.mem_cons_of_mem _ hx))
theorem sls_flat (ys:List (List Rg×Option Addr×Nat)):(ys.map fun x=> [slC x]).flatten=ys.map slC:=by
 induction ys with
 | nil=>rfl
 | cons y ys ih=>simp [ih]
def MvP (r:Except Int (List (List Rg))) (ps:List Part):Value→List Part→List Fact→Prop:=fun v Lo fs=>Lo=ps∧
 match r with
 | .error e=>v= .tuple #[.slice none 0 0, .int .i64 e] ∧fs= []
 | .ok ls=> ∃A c,v= .tuple #[.slice A ls.length c, .int .i64 0] ∧fs= [RdF rsl A c ls]
theorem ER (h m cap:Nat) (A:Option Addr) (H:Hist) (L:List MR) (hr:HR H L) (at_ n:Int):Sp Tryz.prog 77 [.pointer (some ⟨h,0,none⟩), .int .i64 at_, .int .i64 n] [hdP h A H.ops.length cap m H.total,mpP m L,mkP L] [RdF opD A cap H.ops,AllF L nowF] (MvP (movedAll H.ents at_ n) [hdP h A H.ops.length cap m H.total,mpP m L,mkP L]):=by
 have hol:=K0 H
 have hlen:=hr.len
 refine Sp.of (n:=55) ⟨_,Tryz.func77,V,V,V,V⟩ (Nat.le_of_ble_eq_true V) fun Ps As=>Jc (Ja (Lq (Jd V) (Lq (Jd V) (Je (Jf (Jc (Ja (Lq (Jb V) (Lq (JE V) (Lq (Jh (o':=0) Un117 V Qi V V) (Lq (Jk Un53 V V Jn V) (Lq (J4 Un53 V) ?_))))))))))))
 refine Jg V (Jaf Un141 K3 V V V (by omega) (by unfold maxLen;omega) (by decide) fun bo=>Lq (Jd V) (Je (Jf (Jc (Jc (Ja (Lq (Jb V) (Lq (JE V) (Lq (Jh (o':=0) Un117 V Qi V V) (Lq (Jk Un53 V V (Jj (Jn)) V) (Lq (J4 Un53 V) (Lq (Jb V) (Je (Jf ?_))))))))))))))
 refine JG [(24,_),(23,_),(22,_),(8,_),(7,_),(6,_),(0,_),(1,_),(2,_)] (.m9 rfl rfl rfl rfl rfl rfl rfl rfl rfl) (JD (Kc (A:=slsF []) (fun Z w hs x hx=>by cases hx) ?_))
 refine Ke (α:=Nat×List (List Rg×Option Addr×Nat)) (fun (k,ys)=>H.ops.length-k)
  (fun (k,ys)=> [(0, .pointer (some ⟨h,0,none⟩)),(1, .int .i64 at_),(2, .int .i64 n),(8, .slice (some ⟨bo,0,none⟩) H.ops.length H.ops.length),(22, .slice A H.ops.length cap),(23, .int .i64 H.ops.length),(24, .int .i64 k)])
  (fun (k,ys)=>([(bo,JB (ys.map slC++List.replicate (H.ops.length-k) (Value.slice none 0 0)) 45)] ::hdP h A H.ops.length cap m H.total::mpP m L::mkP L::Ps))
  (fun (k,ys)=>(slsF ys::RdF opD A cap H.ops::AllF L nowF::As))
  (fun (k,ys)=>MvI H.ents at_ n k ys)
  (0,[]) ?_ (.m7 rfl rfl rfl rfl rfl rfl rfl) (Sk4 (Sr)) (fun _ h=>h) ?_
 ·exact ⟨Nat.zero_le _,rfl,by cases hq:movedAll H.ents at_ n<;>simp [hq]⟩
 ·rintro ⟨k,ys⟩ hI
  refine Jc (Ja (Lq (Km V V) (Je (Jf (Jc (Jz V (fun h25=> ?_) (fun h25=> ?_)))))))
  ·refine Jo (Jf (Jc (JD (Jc ?_))))
   try simp only [Bp,Bq] at *
   have hke:k<H.ents.length:=by omega
   have hk:k<H.ops.length:=by omega
   have hop:=QJ hke
   refine Kd (k:=k) Mm1 (List.getElem?_eq_getElem hk) (op_open _) fun b4 q4 y4 e4=> ?_
   cases e4
   refine Ja (Lq (Jb V) (Lq (J0 Un53 JA V V (by omega) (by omega)) (Lq (Kg (k:=0) (vs:= [_,_,_,_,_,_,_,_,_]) Un60 V JA V Mm0 V V V) (Jg V (Jw (cs:= [_,_,_,_,_,_,_,_,_]) JA V (by decide) fun b10=>Lq (Jd V) (Jg V (Jq (cs':= [_,_,_,_,_,_,_,_,_]) (vs:= [_,_,_,_,_,_,_,_,_]) JA V V V V V (Nat.le_of_ble_eq_true V) .z (Je (Jf (Jc ?_))))))))))
   obtain ⟨jm,xm,hjm,hxm,hgm⟩:=hr.look hke
   obtain ⟨xk,xb,xA,xc⟩:=xm
   obtain rfl:xk=markAt k H.ents[k] :=hxm
   rw [←hop] at hgm
   refine Hp _ Mm4 (List.mem_of_getElem? hjm) (JI _ _ [] (.c 0 0 (.c 1 0 (.c 2 0 (.c 3 0 (.c 4 0 (.c 5 0 (.c 6 0 (.c 7 0 (.c 8 0 (.c 9 0 (.c 10 0 (.c 11 0 (.c 12 0 (.c 13 2 (.c 14 0 (.c 15 0 (.c 16 0 (.c 17 0 (.c 18 0 .nil))))))))))))))))))) mixed (fun _ _ _ _ h=>h) (Sk5 (Sr)) (fun _ h=>h) (by kernel_rfl) (by decide) fun ws Z0=>Qe V (Jb V) (Qe V (JE V) (Qe V (Jh (o':=1) Un117 V Qr V V) (Qe V (Jk Un115 V V (Jj (Jj (Jn))) V) (Qe V (Jh (o':=0) Un60 V KM V V) (Qe V (Jh (o':=0) Un58 V JW V V) ?_))))))
   refine Qe V (Js (vs:= [_,_]) Un43 V JW V Jn V V) (Qe V (Qc keyT hgm Un115 QD V V (Jj (Jj (Jj (Jn))))) (Qe V (JE V) (Qe V (Jh (o':=1) Un122 V K3 V V) (Qe V (Jk Un45 V V (Jj (Jj (Jj (Jj (ownI (Yo hjm)))))) V) (Qe V (Jb V) (Qe V (Jb V) (Jy V V (Jm (VN xA xc H.ents[k].now at_ n (hr.now _ (List.getElem_mem hke))) (.n3 V V V) (by decide) (Jl Mm1 Jx) fun _ _ _ q9=>?_))))))))
   obtain ⟨A3,c3,rfl,rfl,rfl⟩:=q9
   refine ⟨⟨(Sk5 (Sr)),Mm1⟩,?_⟩
   refine Qe V (Jb V) (Qe V (Ji (vs:= [_,_]) V V) (Qe V (Ji (vs:= [_,_]) V V) (Qe V (Jd V) (Qe V (Jd V) (JK (JJ (Jf (Jc (Jc (Ja (Lq (Jb V) (Lq (Kr V V) (Je (Jf ?_))))))))))))))
   refine Jz V (fun h47=> ?_) (fun h47=> ?_)
   ·refine Jc (Ja (Lq (Jb V) (Lq (Jd V) (Lq (Jd V) (Je (Jf (Jp (Jt (JF (Jt (Jt (JF (Jt ?_)))))))))))))
    refine ⟨_,[_,_,_],[],fun Z w hs=> .tmp V (.tmp V .nil),?_,fun Z w hs=>hs.out (Sd2 (Sk3 (Sr))) Tt6⟩
    try simp only [Bp,Bq] at *
    refine ⟨V,?_⟩
    rw [hI.err hke (by omega)]
    exact ⟨V,V⟩
   ·refine Jo (Jf ?_)
    try simp only [Bp,Bq] at *
    have hrep:List.replicate (H.ops.length-k) (Value.slice none 0 0)= .slice none 0 0::List.replicate (H.ops.length-(k+1)) (Value.slice none 0 0):=by rw [show H.ops.length-k=(H.ops.length-(k+1))+1 from by omega,List.replicate_succ]
    have hyl:=hI.len
    refine Ja (Lq (Jb V) (Lq (Jb V) (Lq (Jb V) (Lq (Yl Un141 K3 V V (by omega) (by omega)) (Jg V (Yf K3 V V V (by rw [List.length_append,List.length_map,List.length_replicate];omega) .z1 (Je (J7 (Jf ?_)))))))))
    have hcell:(ys.map slC++List.replicate (H.ops.length-k) (Value.slice none 0 0)).set ((k:Int).toNat* 1) (.slice A3 (thrF (H.ents[k].now) at_ n).1.length c3)=(ys++ [((thrF H.ents[k].now at_ n).1,A3,c3)]).map slC++List.replicate (H.ops.length-(k+1)) (Value.slice none 0 0):=by
     have hk0:(k:Int).toNat* 1=(ys.map slC).length:=by rw [List.length_map];omega
     rw [hk0,List.set_append_right _ _ (Nat.le_refl _),Nat.sub_self,hrep];simp [slC]
    refine Kc (A:=slsF (ys++ [((thrF H.ents[k].now at_ n).1,A3,c3)])) (fun Z w hs x hx=> ?_) ?_
    ·rcases List.mem_append.1 hx with hx | hx
     ·exact hs.facts _ Mm5 x hx
     ·obtain rfl:=List.mem_singleton.1 hx;exact hs.facts _ Mm0
    rw [hcell]
    refine Ja (Lq (JQ V V (wr64 (by omega))) (Lq (Jb V) (Je (Ko ?_))))
    refine ⟨(k+1,ys++ [((thrF H.ents[k].now at_ n).1,A3,c3)]),?_,(.m7 V V V V V V V),(Sd (Sk4 (Sr))),(Jl Mm0 Tt7)⟩
    exact ⟨by show H.ops.length-(k+1)<H.ops.length-k;omega,hI.next hke (by omega) A3 c3⟩
  ·refine Kh (JH (JH (J6 (Jf (Jc ?_)))))
   try simp only [Bp,Bq] at *
   have hyl:=hI.len
   have hle:=hI.le
   have hdone:=hI.done (by omega)
   refine Kc (A:=RepsF rsl (ys.map Prod.fst) (ys.map fun x=> [slC x])) (fun Z w hs=>sls_reps (hs.facts _ Mm0)) ?_
   have hrow:Row 45 rsl.sz (.slice (some ⟨bo,0,none⟩) H.ops.length H.ops.length) H.ops.length (ys.map fun x=> [slC x]).flatten [(bo,JB (ys.map slC++List.replicate (H.ops.length-k) (Value.slice none 0 0)) 45)] :=by
    rw [sls_flat]
    exact ⟨by rw [List.length_map];show _=_*1;omega, .inr ⟨bo,_,_,rfl,rfl,by rw [List.length_append,List.length_map,List.length_replicate];show _=_*1;omega,Nat.le_refl _,by unfold maxLen;omega⟩⟩
   refine KJ (e:=rsl) (css:=ys.map fun x=> [slC x]) (xs:=ys.map Prod.fst) hrow .z (by rw [List.length_map];omega) Mm0 fun Ao co eo=> ?_
   obtain ⟨rfl,_,rfl⟩:=Value.slice.inj eo
   refine Ja (Lq (Jb V) (Lq (Jd V) (Lq (Jd V) (Je (Jf (Jp ?_))))))
   refine ⟨_,[_,_,_],[_],fun Z w hs=> .tmp V (.tmp V .nil),?_,fun Z w hs=>hs.out (Sk3 (Sr)) (Jl Mm0 Tt3)⟩
   refine ⟨V,?_⟩
   rw [hdone]
   exact ⟨_,_,by rw [List.length_map,hyl,show k=H.ops.length from by omega];rfl,rfl⟩
def OpR (r:GOp) (ps:List Part):Value→List Part→List Fact→Prop:=fun v Lo fs=> ∃(A':Option Addr) (c':Nat),v=opV r A' c'∧Lo=ps∧fs= [RdF rgD A' c' r.rs]
theorem bd28_1Xw15 (x1_:Int) (w:World):(Instr.build 58 #[(1, .int .i64 x1_)]).run Tryz.prog w= .ok (.agg #[.int .i64 0, .int .i64 0, .int .i64 x1_]) w:=by kernel_rfl
theorem bd31_0_3Xw15 (x0_0a0:Int) (x0_0a1:Int) (x0_1:Int) (x3_A:Option Addr) (x3_n x3_c:Nat) (w:World):(Instr.build 60 #[(0, .agg #[.int .i64 x0_0a0, .int .i64 x0_0a1, .int .i64 x0_1]),(3, .slice x3_A x3_n x3_c)]).run Tryz.prog w= .ok (.agg #[.int .i64 x0_0a0, .int .i64 x0_0a1, .int .i64 x0_1, .int .i64 0, .string ⟨#[]⟩, .slice x3_A x3_n x3_c, .int .i64 0, .int .i64 0, .bool false]) w:=by kernel_rfl
theorem Zq (h m cap:Nat) (A:Option Addr) (H:Hist) (L:List MR) (hr:HR H L) (xs:List GOp) (tot:Int) (hx:xs=H.ops) (j k:Nat) (xb:Nat) (xA:Option Addr) (xc:Nat) (hk:k<H.ents.length) (hj:L[j]? =some ⟨markAt k H.ents[k],xb,xA,xc⟩) (on:Bool):Sp Tryz.prog 73 [.pointer (some ⟨h,0,none⟩), .pointer (some ⟨xb,0,none⟩), .bool on] [hdP h A xs.length cap m tot,mkP L] [RdF opD A cap xs,AllF L nowF] (OpR (turnF H.ents[k] on) [hdP h A xs.length cap m tot,mkP L]):=by
 subst hx
 have hol:=K0 H
 have hlen:=hr.len
 refine Sp.of (n:=31) ⟨_,Tryz.func73,V,V,V,V⟩ (Nat.le_of_ble_eq_true V) fun Ps As=>Jc (Ja (Jg V (Jw (cs:= [_,_,_,_,_,_,_,_,_]) JA V (by decide) fun b6=>Je (Jf (Jc (Ja (Lq (Jd V) (Je (Jf (Jc (Jc ?_)))))))))))
 have hko:k<H.ops.length:=by omega
 have hop:=QJ hk
 refine Kd (k:=k) Mm0 (List.getElem?_eq_getElem hko) (op_open _) fun bo qo yo eo=> ?_
 cases eo
 refine Hp _ Mm3 (List.mem_of_getElem? hj) (JI _ _ [] (.c 0 0 (.c 1 0 (.c 2 0 (.c 3 0 (.c 4 0 (.c 5 0 (.c 6 0 (.c 7 0 (.c 8 0 (.c 9 0 (.c 10 0 (.c 11 0 (.c 12 0 (.c 13 0 (.c 14 0 .nil))))))))))))))) mixed (fun _ _ _ _ h=>h) (Sk3 (Sr)) (fun _ h=>h) (by kernel_rfl) (by decide) fun ws Z0=>Qe V (Jb V) (Qe V (JE V) (Qe V (Jh (o':=0) Un117 V Qi V V) (Qe V (Jk Un53 V V (Jj (Jn)) V) (Qe V (Jb V) (Qe V (JE V) (Qe V (Jh (o':=0) Un122 V ti3 V V) (Qe V (Jk (v:= .int .i64 (k:Int)) Un3 V V (Jj (Jj (ownI (Yo hj)))) V) ?_))))))))
 refine Qe V (J0 Un53 JA V V (by omega) (by omega)) (Qe V (Jh (o':=_+0) Un60 V KM V V) (Qe V (Jh (o':=_+2) Un58 V Yh V V) (Qe V (Kk (j:=2) Un44 V V Mm1 V V) (Qe V (Kb V V) (Qe V (Jb V) (Qe V (q_beql' Un4 V V) (JK (JJ (Jf (JG [(22,_),(7,_),(6,_),(1,_)] (.m4 V V V V) ?_))))))))))
 refine Jz V (fun h22=> ?_) (fun h22=> ?_)
 ·refine Ja (Lq (Jd V) (Je (Jf (Jc (Ja (Lq (Jb V) (Lq (JY (.n1 V) (bd28_1Xw15 _)) (Lq (Jb V) (Lq (JE V) (Lq (Jh (o':=1) Un122 V K3 V V) (Lq (Jk Un45 V V (Jj (Jj (ownI (Yo hj)))) V) (Lq (JY (.n2 V V) (bd31_0_3Xw15 _ _ _ _ _ _)) ?_))))))))))))
  refine Jg rfl (Jm (YU { zeroOp with kind:=2,rs:=H.ents[k].now } xA xc (hr.now _ (List.getElem_mem hk))) (.n1 rfl) (by decide) (Jl Mm1 Jx) fun _ _ _ q9=>?_)
  obtain ⟨A1,c1,rfl,rfl,rfl⟩:=q9
  refine Jg V (Jq (cs':= [_,_,_,_,_,_,_,_,_]) (vs:= [_,_,_,_,_,_,_,_,_]) JA V V V V V (Nat.le_of_ble_eq_true V) .z (Je (Jf (Jp ?_))))
  refine ⟨_,[_,_],[_],fun Z w hs=>JT hs Un60 V JA V Jn V .nil,?_,fun Z w hs=>hs.out (Sd (Sk2 (Sr))) (Jl Mm0 Tt5)⟩
  try simp only [Bp,Bq] at *
  rw [hop] at h22
  have hT:turnF H.ents[k] on= { zeroOp with kind:=2,rs:=H.ents[k].now } :=by unfold turnF;cases on<;>simp_all
  exact ⟨A1,c1,by rw [hT];rfl,V,by rw [hT]⟩
 ·refine Jo (Jf (Jc (Ja (Lq (Jb rfl) (Lq (JY (.n1 rfl) (bd28_1Xw15 _)) (Lq (Jb rfl) (Lq (JE rfl) (Lq (Jh (o':=1) Un122 rfl K3 rfl rfl) (Lq (Jk Un45 rfl rfl (Jj (Jj (ownI (Yo hj)))) rfl) (Lq (JY (.n2 rfl rfl) (bd31_0_3Xw15 _ _ _ _ _ _)) (Jg rfl (Jm (YU { zeroOp with kind:=3,rs:=H.ents[k].now } xA xc (hr.now _ (List.getElem_mem hk))) (.n1 rfl) (by decide) (Jl Mm1 Jx) fun _ _ _ q9=>?_))))))))))))
  obtain ⟨A1,c1,rfl,rfl,rfl⟩:=q9
  refine Jg V (Jq (cs':= [_,_,_,_,_,_,_,_,_]) (vs:= [_,_,_,_,_,_,_,_,_]) JA V V V V V (Nat.le_of_ble_eq_true V) .z (Je (Jf (Jp ?_))))
  refine ⟨_,[_,_],[_],fun Z w hs=>JT hs Un60 V JA V Jn V .nil,?_,fun Z w hs=>hs.out (Sd (Sk2 (Sr))) (Jl Mm0 Tt5)⟩
  try simp only [Bp,Bq] at *
  rw [hop] at h22
  have hT:turnF H.ents[k] on= { zeroOp with kind:=3,rs:=H.ents[k].now } :=by unfold turnF;cases on<;>simp_all
  exact ⟨A1,c1,by rw [hT];rfl,V,by rw [hT]⟩
def TdP (H:Hist) (i:Nat) (o:GOp) (h m cap:Nat) (A:Option Addr) (L:List MR):Value→List Part→List Fact→Prop:=fun v Lo fs=>
 ∃(L':List MR) (A':Option Addr) (c':Nat),HR ⟨(turnedF H i o).1,H.total⟩ L'∧keys L'=keys L∧v=opV (turnedF H i o).2 A' c'∧Lo= [hdP h A H.ops.length cap m H.total,mpP m L,mkP L'] ∧fs= [RdF rgD A' c' (turnedF H i o).2.rs,AllF L' nowF]
structure TdI (H:Hist) (i:Nat) (o:GOp) (k:Nat):Prop where
 le:k≤(H.ops.drop i).length
 eq:Yv (H.ents.drop i) o.tc o.tn=Yv (H.ents.drop (i+k)) o.tc o.tn
theorem XL (e:Ent) (l:List Ent) (c n:Int):Yv (e::l) c n=((decide (e.op.kind=4) && (decide (e.op.tc=c) && decide (e.op.tn=n))) || Yv l c n):=rfl
theorem TdI.hit {H:Hist} {i:Nat} {o:GOp} {k:Nat} (h:TdI H i o k) (hk:i+k<H.ents.length) (h1:H.ents[i+k].op.kind=4∧H.ents[i+k].op.tc=o.tc∧H.ents[i+k].op.tn=o.tn):Yv (H.ents.drop i) o.tc o.tn=true:=by
 rw [h.eq,List.drop_eq_getElem_cons hk,XL];simp [h1]
theorem TdI.next {H:Hist} {i:Nat} {o:GOp} {k:Nat} (h:TdI H i o k) (hk:i+k<H.ents.length) (h1: ¬(H.ents[i+k].op.kind=4∧H.ents[i+k].op.tc=o.tc∧H.ents[i+k].op.tn=o.tn)):TdI H i o (k+1):=by
 refine ⟨by rw [List.length_drop,K0];omega,?_⟩
 rw [h.eq,List.drop_eq_getElem_cons hk,XL]
 have:(decide (H.ents[i+k].op.kind=4) && (decide (H.ents[i+k].op.tc=o.tc) && decide (H.ents[i+k].op.tn=o.tn)))=false:=by
  rw [Bool.eq_false_iff];intro hh;simp at hh;exact h1 hh
 rw [this,Bool.false_or];rfl
theorem TdI.done {H:Hist} {i:Nat} {o:GOp} {k:Nat} (h:TdI H i o k) (hk: ¬i+k<H.ents.length):Yv (H.ents.drop i) o.tc o.tn=false:=by
 rw [h.eq,List.drop_eq_nil_of_le (by omega)];rfl
theorem HU {H:Hist} {i:Nat} {o:GOp} (h:Yv (H.ents.drop i) o.tc o.tn=true):turnedF H i o=(H.ents,zeroOp):=by unfold turnedF;rw [if_pos h]
theorem HT {H:Hist} {i:Nat} {o:GOp} {k:Nat} (h:Yv (H.ents.drop i) o.tc o.tn=false) (hw:J5 H.ents o.tc o.tn=some k) (hk:k<H.ents.length) (h2:H.ents[k].off= !o.on):turnedF H i o=(H.ents,zeroOp):=by
 unfold turnedF;rw [if_neg (by rw [h];decide),hw];simp only [List.getElem?_eq_getElem hk,if_pos h2]
theorem HS {H:Hist} {i:Nat} {o:GOp} {k:Nat} (h:Yv (H.ents.drop i) o.tc o.tn=false) (hw:J5 H.ents o.tc o.tn=some k) (hk:k<H.ents.length) (h2: ¬H.ents[k].off= !o.on):turnedF H i o=(H.ents.set k (offE H.ents[k] (!o.on)),turnF H.ents[k] o.on):=by
 unfold turnedF;rw [if_neg (by rw [h];decide),hw];simp only [List.getElem?_eq_getElem hk,if_neg h2]
theorem bd31Xw15 (w:World):(Instr.build 60 #[]).run Tryz.prog w= .ok (.agg #[.int .i64 0, .int .i64 0, .int .i64 0, .int .i64 0, .string ⟨#[]⟩, .slice none 0 0, .int .i64 0, .int .i64 0, .bool false]) w:=by kernel_rfl
theorem Zp (h m cap:Nat) (A:Option Addr) (H:Hist) (L:List MR) (hr:HR H L) (i:Nat) (hi:i≤H.ents.length) (o:GOp) (Ao:Option Addr) (co k:Nat) (hw:J5 H.ents o.tc o.tn=some k):Sp Tryz.prog 78 [.pointer (some ⟨h,0,none⟩), .int .i64 i,opV o Ao co] [hdP h A H.ops.length cap m H.total,mpP m L,mkP L] [RdF opD A cap H.ops,AllF L nowF] (TdP H i o h m cap A L):=by
 have hol:=K0 H
 have hlen:=hr.len
 obtain ⟨hk,j,x,hc,hn,hj,hm,hg⟩:=hr.look1 hw
 obtain ⟨xm,xb,xA,xc⟩:=x
 obtain rfl:xm=markAt k H.ents[k] :=hm
 refine Sp.of (n:=61) ⟨_,Tryz.func78,V,V,V,V⟩ (Nat.le_of_ble_eq_true V) fun Ps As=>Jc (Ja (Jg V (J3 (cs:= [_,_,_,_,_,_,_,_,_]) V V (by decide) fun b5=>Jg V (Jw (cs:= [_,_,_,_,_,_,_,_,_]) JA V (by decide) fun b6=>Je (Jf (Jc (Jc (Kc (A:=RdF rgD none 0 []) (fun Z w hs=>RdS.nil _ _ _) (QX Mm1 fun hcap hcap2=> ?_)))))))))
 obtain ⟨B,hB⟩: ∃B,B=cutA A i cap 9:=⟨_,rfl⟩
 have hdl:H.ops.length-i=(H.ops.drop i).length:=by rw [List.length_drop]
 refine Kc (A:=RdF opD B (cap-i) (H.ops.drop i)) (fun Z w hs=>by rw [hB];have h1:=RdS.cut (lo:=i) (hi:=H.ops.length) (m:=cap) (hs.facts _ Mm1) (by omega) (by omega) (by omega) (Nat.le_refl _);rw [List.take_length] at h1;exact h1) (Ja (Lq (Jb V) (Lq (JE V) (Lq (Jh (o':=0) Un117 V Qi V V) (Lq (Jk Un53 V V (Jj (Jj (Jn))) V) (Lq (Jb V) (Lq (X8 Un53 JA V V (by omega) (by omega)) (Lq (J4 Un53 V) (Lq (Jb V) ?_)))))))))
 refine Je (Jf (JD ?_))
 refine Ke (α:=Nat) (fun q=>(H.ops.drop i).length-q)
  (fun q=> [(0, .pointer (some ⟨h,0,none⟩)),(5, .pointer (some ⟨b5,0,none⟩)),(6, .pointer (some ⟨b6,0,none⟩)),(15, .slice B (H.ops.drop i).length (cap-i)),(16, .int .i64 (H.ops.drop i).length),(17, .int .i64 q)])
  (fun q=>([(b6,JB (opC zeroOp none 0) 60)] :: [(b5,JB (opC o Ao co) 60)] ::hdP h A H.ops.length cap m H.total::mpP m L::mkP L::Ps))
  (fun q=>(RdF opD B (cap-i) (H.ops.drop i)::RdF rgD none 0 [] ::RdF opD A cap H.ops::AllF L nowF::As))
  (fun q=>TdI H i o q)
  0 ?_ (.m6 rfl rfl rfl (by rw [hB,←hdl];rfl) (by rw [←hdl];rfl) rfl) (Sk5 (Sr)) (fun _ h=>h) ?_
 ·exact ⟨Nat.zero_le _,V⟩
 ·rintro q hI
  refine Jc (Ja (Lq (Km V V) (Je (Jf (Jc (Jz V (fun h18=> ?_) (fun h18=> ?_)))))))
  ·refine Jo (Jf (Jc (JD (Jc ?_))))
   try simp only [Bp,Bq] at *
   have hq:q<(H.ops.drop i).length:=by omega
   have hqe:i+q<H.ents.length:=by rw [List.length_drop] at hq;omega
   have hop:(H.ops.drop i)[q] =H.ents[i+q].op:=by rw [List.getElem_drop,QJ]
   refine Kd (k:=q) Mm0 (List.getElem?_eq_getElem hq) (op_open _) fun b3 q3 y3 e3=> ?_
   cases e3
   refine Ja (Lq (J0 Un53 JA V V (by omega) (by omega)) (Lq (Kg (k:=0) (vs:= [_,_,_,_,_,_,_,_,_]) Un60 V JA V Mm0 V V V) (Jg V (Jw (cs:= [_,_,_,_,_,_,_,_,_]) JA V (by decide) fun b8=>Jg V (Jq (cs':= [_,_,_,_,_,_,_,_,_]) (vs:= [_,_,_,_,_,_,_,_,_]) JA V V V V V (Nat.le_of_ble_eq_true V) .z (Je (Jf (Jc (Ja (Lq (Jh (o':=0) Un60 V KM V V) (Lq (Jh (o':=2) Un58 V Yh V V) (Lq (Jk Un44 V V Jn V) (Lq (Kb V V) ?_)))))))))))))
   refine Lq (Jb V) (J1 (t:=25) V (fun g25=> ?_) (fun g25=> ?_))
   ·refine Lg V V V g25 (Jh (o':=6) Un60 V JW V V) (Lg V V V g25 (Js (vs:= [_,_]) Un43 V JW V Jn V V) (Lg V V V g25 (Jh (o':=6) Un60 V JW V V) (Lg V V V g25 (Js (vs:= [_,_]) Un43 V JW V (Jj (Jj (Jn))) V V) (Lg V V V g25 (YS V V (eq43 _ _ _ _)) (Lq (JO V g25 V) (Je (Jf (Jz V (fun h31=> ?_) (fun h31=> ?_)))))))))
    ·refine Jc (Ja (Lq (JY .nil (bd31Xw15)) (Jg V (Jq (cs':= [_,_,_,_,_,_,_,_,_]) (vs:= [_,_,_,_,_,_,_,_,_]) JA V V V V V (Nat.le_of_ble_eq_true V) .z1 (Je (Jf (Jp (JF (Jt (Jt (JF (Jt ?_))))))))))))
     refine ⟨_,[_,_,_],[_,_],fun Z w hs=>JT hs Un60 V JA V (Jj (Jn)) V .nil,?_,fun Z w hs=>hs.out (Sd3 (Sk3 (Sr))) (Jl Mm3 (Jl Mm5 Tt4))⟩
     try simp only [Bp,Bq] at *
     have hF:turnedF H i o=_:=HU (hI.hit hqe (by rw [←hop];exact ⟨g25,h31.1,h31.2⟩))
     exact ⟨L,none,0,by rw [hF];exact hr,V,by rw [hF];rfl,V,by rw [hF];rfl⟩
    ·refine Jo (J7 (Jf (Ja (Lq (JQ V V (wr64 (by omega))) (Lq (Jb V) (Je (Ko ?_)))))))
     try simp only [Bp,Bq] at *
     refine ⟨q+1,?_,(.m6 V V V V V V),(Sd (Sk5 (Sr))),Tt2⟩
     exact ⟨by omega,hI.next hqe (fun ⟨e1,e2,e3⟩=>by rw [←hop] at e1 e2 e3;first | exact absurd e1 g25 | (rcases h31 with h31 | h31;exact h31 e2;exact h31 e3))⟩
   ·refine Ln V V V g25 (Ln V V V g25 (Ln V V V g25 (Ln V V V g25 (Ln V V V g25 (Lq (JL V g25 V) (Je (Jf (Ju V V (Jo (J7 (Jf (Ja (Lq (JQ V V (wr64 (by omega))) (Lq (Jb V) (Je (Ko ?_))))))))))))))))
    try simp only [Bp,Bq] at *
    refine ⟨q+1,?_,(.m6 V V V V V V),(Sd (Sk5 (Sr))),Tt2⟩
    exact ⟨by omega,hI.next hqe (fun ⟨e1,e2,e3⟩=>by rw [←hop] at e1 e2 e3;first | exact absurd e1 g25 | (rcases h31 with h31 | h31;exact h31 e2;exact h31 e3))⟩
  ·refine Kh (JH (JH (J6 (Jf (Jc (JI _ _ [] (.c 0 0 (.c 1 0 (.c 2 0 (.c 3 0 (.c 4 0 (.c 5 0 (.c 6 0 (.c 7 0 .nil)))))))) mixed (fun _ _ _ _ h=>h) (Sk5 (Sr)) (fun _ h=>h) (by kernel_rfl) (by decide) fun ws Z0=>Qe V (Jb V) (Qe V (JE V) (Qe V (Jh (o':=1) Un117 V Qr V V) (Qe V (Jk Un115 V V (Jj (Jj (Jn))) V) (Qe V (Jh (o':=6) Un60 V JW V V) (Qe V (Js (vs:= [_,_]) Un43 V JW V (Jj (Jn)) V V) (Qe V (Qc keyT hg Un115 QD V V (Jj (Jj (Jj (Jn))))) (Qe V (Jd V) ?_)))))))))))))
   refine JK (JJ (Jf (JG [(9,_),(0,_),(5,_),(6,_)] (.m4 V V V V) (Jc (Jc (JI _ _ [] (.c 0 0 (.c 1 0 (.c 2 0 (.c 3 0 (.c 4 0 (.c 5 0 (.c 6 0 (.c 7 0 .nil)))))))) mixed (fun _ _ _ _ h=>h) (Sk5 (Sr)) (fun _ h=>h) (by kernel_rfl) (by decide) fun ws Z0=>Qe V (Jb V) (Qe V (JE V) (Qe V (Jh (o':=2) Un122 V ti4 V V) (Qe V (Jk (v:= .bool H.ents[k].off) Un4 V V (Jj (Jj (Jj (Jj (ownI (Yo hj)))))) V) (Qe V (Jh (o':=8) Un60 V ti4 V V) ?_))))))))))
   refine Qe V (Jk Un4 V V (Jj (Jn)) V) (Qe V (KU V) (Qe V (q_beql' Un4 V V) (JK (JJ (Jf (Jz V (fun h48=> ?_) (fun h48=> ?_)))))))
   ·refine Jc (Ja (Lq (JY .nil (bd31Xw15)) (Jg V (Jq (cs':= [_,_,_,_,_,_,_,_,_]) (vs:= [_,_,_,_,_,_,_,_,_]) JA V V V V V (Nat.le_of_ble_eq_true V) .z (Je (Jf (Jp (Jt ?_))))))))
    refine ⟨_,[_,_,_],[_,_],fun Z w hs=>JT hs Un60 V JA V Jn V .nil,?_,fun Z w hs=>hs.out (Sd2 (Sk3 (Sr))) (Jl Mm3 (Jl Mm5 Tt4))⟩
    try simp only [Bp,Bq] at *
    have hF:turnedF H i o=_:=HT (hI.done (by have:=hI.le;rw [List.length_drop] at this;omega)) hw hk (by simpa using h48)
    exact ⟨L,none,0,by rw [hF];exact hr,V,by rw [hF];rfl,V,by rw [hF];rfl⟩
   ·refine Jo (Jf (Jc (Ja (Lq (Jb V) (Lq (Jh (o':=8) Un60 V ti4 V V) (Lq (Jk Un4 V V (Jj (Jn)) V) (Lq (KU V) (Lq (JE V) (Lq (Jh (o':=2) Un122 V ti4 V V) (Jg V (XC (i:=j) ti4 V V V (X9 hj) .z2 .z4 (Je (Jf (JG [(9,_),(0,_),(5,_),(6,_)] (.m4 V V V V) ?_))))))))))))))
    refine Jc ?_
    try simp only [Bp,Bq] at *
    have hmk:(mkP L).set j (xb,JB [.int .i64 (markAt k H.ents[k]).num, .slice xA (markAt k H.ents[k]).now.length xc, .bool (!o.on)] 122)=mkP (L.set j ⟨markAt k (offE H.ents[k] (!o.on)),xb,xA,xc⟩):=by rw [En];rfl
    rw [hmk]
    have hr':=hr.upd hk hj rfl (offE H.ents[k] (!o.on)) rfl (hr.now H.ents[k] (List.getElem_mem hk)) xA xc
    refine Kc (A:=AllF (L.set j ⟨markAt k (offE H.ents[k] (!o.on)),xb,xA,xc⟩) nowF) (fun Z w hs=>Em (hs.facts _ Mm5) (hs.facts _ Mm5 ⟨markAt k H.ents[k],xb,xA,xc⟩ (List.mem_of_getElem? hj))) (Ja (Lq (Jb V) (Lq (Jb V) (Lq (Jh (o':=8) Un60 V ti4 V V) (Lq (Jk Un4 V V (Jj (Jn)) V) ?_)))))
    refine Jg rfl (KE (Zq h m cap A _ _ hr' H.ops H.total (Gx hk (offE H.ents[k] (!o.on)) rfl H.total).symm j k xb xA xc (by simpa using hk) (by rw [List.getElem?_set_self (by rcases Nat.lt_or_ge j L.length with hh | hh;exact hh;rw [List.getElem?_eq_none hh] at hj;cases hj)];simp) o.on) (.n3 rfl rfl rfl) (by decide) .z2 .z3 (Jl Mm5 (Jl Mm0 Jx)) fun _ _ _ q9=>?_)
    obtain ⟨A1,c1,rfl,rfl,rfl⟩:=q9
    refine Jg V (Jq (cs':= [_,_,_,_,_,_,_,_,_]) (vs:= [_,_,_,_,_,_,_,_,_]) JA V V V V V (Nat.le_of_ble_eq_true V) .z2 (Je (Jf (Jp ?_))))
    refine ⟨_,[_,_,_],[_,_],fun Z w hs=>JT hs Un60 V JA V (Jj (Jj (Jn))) V .nil,?_,fun Z w hs=>(((hs.pick .z1).pick .z4).pick .z2).out (Sk3 (Sd2 (Sr))) (Jl Mm0 (Jl Mm1 Tt6))⟩
    have hF:=HS (hI.done (by have:=hI.le;rw [List.length_drop] at this;omega)) hw hk (by simpa using h48)
    refine ⟨L.set j ⟨markAt k (offE H.ents[k] (!o.on)),xb,xA,xc⟩,A1,c1,by rw [hF];exact hr',Gu hj V V V,?_,V,?_⟩
    ·rw [hF];simp only [List.getElem_set_self];rfl
    ·rw [hF];simp only [List.getElem_set_self];rfl
end Go.Proofs.YtggbpikbmnkiaaaGreatDoor
