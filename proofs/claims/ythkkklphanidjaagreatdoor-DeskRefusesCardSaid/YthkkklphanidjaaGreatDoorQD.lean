/- Part of the proof that this claim's law answers true, whatever its arguments. Condition: the laid variables hold what their initialisers lay (the card ties that to the program's text). -/
import Derived.Test.YthkkklphanidjaaGreatDoorQC
set_option maxRecDepth 10000
set_option linter.unusedVariables false
set_option linter.unusedSimpArgs false
open Go.Proofs.Tryz renaming underlying1→Un1,underlying3→Un3,underlying4→Un4,underlying9→Un9,underlying20→Un20,underlying21→Un21,underlying23→Un23,underlying24→Un24,underlying26→Un26,underlying27→Un27,underlying29→Un29,underlying34→Un34,underlying35→Un35,underlying37→Un37,underlying38→Un38,underlying40→Un40,underlying42→Un42,underlying43→Un43,underlying44→Un44,underlying45→Un45,underlying47→Un47,underlying54→Un54,underlying55→Un55,underlying56→Un56,underlying58→Un58,underlying61→Un61,underlying63→Un63,underlying65→Un65,underlying86→Un86,underlying92→Un92,underlying114→Un114,underlying117→Un117,underlying121→Un121,underlying123→Un123,underlying125→Un125,underlying126→Un126,underlying128→Un128,underlying132→Un132,underlying134→Un134,underlying138→Un138,underlying143→Un143,underlying144→Un144,underlying149→Un149,underlying152→Un152,underlying153→Un153,underlying155→Un155,underlying161→Un161,underlying165→Un165,underlying169→Un169,underlying185→Un185,underlying186→Un186,underlying188→Un188,underlying194→Un194,underlying199→Un199,underlying233→Un233
namespace Go.Proofs.YthkkklphanidjaaGreatDoor
open Go Go.GW
structure GEn where
 c:Int
 n:Int
 kind:Int
 on:Bool
 rs:List Rg
 tc:Int
 tn:Int
def enC (e:GEn) (A:Option Addr) (c:Nat):List Value:= [.int .i64 e.c, .int .i64 e.n, .int .i64 e.kind, .bool e.on, .slice A e.rs.length c, .int .i64 e.tc, .int .i64 e.tn]
def enV (e:GEn) (A:Option Addr) (c:Nat):Value:= .agg (enC e A c).toArray
def entE (e:Ent):GEn:=if e.op.kind=4 then ⟨e.op.c,e.op.n,e.op.kind,e.op.on,[],e.op.tc,e.op.tn⟩ else ⟨e.op.c,e.op.n,e.op.kind, !e.off,e.now,0,0⟩
def entryF (H:Hist) (i:Int):GEn×Int:=match H.ents[i.toNat]? with
 | none=>(⟨0,0,0,false,[],0,0⟩,12)
 | some e=>if i<0 then (⟨0,0,0,false,[],0,0⟩,12) else (entE e,0)
theorem Gc {H:Hist} {i:Int} (h:i<0∨i≥H.ents.length):entryF H i=(⟨0,0,0,false,[],0,0⟩,12):=by
 unfold entryF
 cases hq:H.ents[i.toNat]? with
 | none=>rfl
 | some e=>
  rcases h with h | h
  ·simp [h]
  ·rw [List.getElem?_eq_none (by omega)] at hq;cases hq
theorem Yj {H:Hist} {k:Nat} (h:k<H.ents.length):entryF H k=(entE H.ents[k],0):=by
 unfold entryF
 rw [Int.toNat_natCast,List.getElem?_eq_getElem h]
 simp only [if_neg (by omega: ¬(k:Int)<0)]
def EnP (r:GEn×Int) (ps:List Part):Value→List Part→List Fact→Prop:=fun v Lo fs=> ∃(A':Option Addr) (c':Nat),v= .tuple #[enV r.1 A' c', .int .i64 r.2] ∧Lo=ps∧fs= [RdF rgD A' c' r.1.rs]
theorem bd42Xw16 (w:World):(Instr.build 117 #[]).run Tryz.prog w= .ok (.agg #[.int .i64 0, .int .i64 0, .int .i64 0, .bool false, .slice none 0 0, .int .i64 0, .int .i64 0]) w:=by kernel_rfl
theorem bd42_0_1_2_4Xw16 (x0_a0:Int) (x0_a1:Int) (x1_:Int) (x2_:Bool) (x4_a0:Int) (x4_a1:Int) (w:World):(Instr.build 117 #[(0, .agg #[.int .i64 x0_a0, .int .i64 x0_a1]),(1, .int .i64 x1_),(2, .bool x2_),(4, .agg #[.int .i64 x4_a0, .int .i64 x4_a1])]).run Tryz.prog w= .ok (.agg #[.int .i64 x0_a0, .int .i64 x0_a1, .int .i64 x1_, .bool x2_, .slice none 0 0, .int .i64 x4_a0, .int .i64 x4_a1]) w:=by kernel_rfl
theorem bd31_3Xw16 (x3_A:Option Addr) (x3_n x3_c:Nat) (w:World):(Instr.build 40 #[(3, .slice x3_A x3_n x3_c)]).run Tryz.prog w= .ok (.agg #[.int .i64 0, .int .i64 0, .int .i64 0, .int .i64 0, .string ⟨#[]⟩, .slice x3_A x3_n x3_c, .int .i64 0, .int .i64 0, .bool false]) w:=by kernel_rfl
theorem fd31_3Xw16 (x00a0:Int) (x00a1:Int) (x01:Int) (x1:Int) (x2:ByteArray) (x3A:Option Addr) (x3n x3c:Nat) (x4a0:Int) (x4a1:Int) (x5:Bool) (w:World):(Instr.field 40 (.agg #[.int .i64 x00a0, .int .i64 x00a1, .int .i64 x01, .int .i64 x1, .string x2, .slice x3A x3n x3c, .int .i64 x4a0, .int .i64 x4a1, .bool x5]) 3).run Tryz.prog w= .ok (.slice x3A x3n x3c) w:=by kernel_rfl
theorem bd42_0_1_2_3Xw16 (x0_a0:Int) (x0_a1:Int) (x1_:Int) (x2_:Bool) (x3_A:Option Addr) (x3_n x3_c:Nat) (w:World):(Instr.build 117 #[(0, .agg #[.int .i64 x0_a0, .int .i64 x0_a1]),(1, .int .i64 x1_),(2, .bool x2_),(3, .slice x3_A x3_n x3_c)]).run Tryz.prog w= .ok (.agg #[.int .i64 x0_a0, .int .i64 x0_a1, .int .i64 x1_, .bool x2_, .slice x3_A x3_n x3_c, .int .i64 0, .int .i64 0]) w:=by kernel_rfl
theorem VG (h m cap:Nat) (A:Option Addr) (H:Hist) (L:List MR) (hr:HR H L) (i:Int):Sp Tryz.prog 72 [.pointer (some ⟨h,0,none⟩), .int .i64 i] [hdP h A H.ops.length cap m H.total,mpP m L,mkP L] [RdF opD A cap H.ops,AllF L nowF] (EnP (entryF H i) [hdP h A H.ops.length cap m H.total,mpP m L,mkP L]):=by
 have hol:=KY H
 have hlen:=hr.len
 refine Sp.of (n:=69) ⟨_,Tryz.func72,O,O,O,O⟩ (Nat.le_of_ble_eq_true O) fun Ps As=>Jc (Ja (Jg O (Jv (cs:= [_,_,_,_,_,_,_]) YI O (by decide) fun b4=>Lq (Jd O) (Je (Jf (Jc (Jc (Kf (A:=RdF rgD none 0 []) (fun Z w hs=>RdS.nil _ _ _) (Ja (Lq (Jb O) (Lq (Ku O O) (Lq (Jb O) ?_))))))))))))
 refine JU (t:=10) O (fun g10=> ?_) (fun g10=> ?_)
 ·refine Ln O O O g10 (Ln O O O g10 (Ln O O O g10 (Ln O O O g10 (Ln O O O g10 (Ln O O O g10 (Ln O O O g10 (Lq (JH O g10 O) (Je (Jf (JL [(18,_),(5,_),(4,_),(0,_),(1,_)] (.m5 O O O O O) ?_))))))))))
  refine JQ O O (Jc (Ja (Lq (JV .nil (bd42Xw16)) (Jg O (Jq (cs':= [_,_,_,_,_,_,_]) (vs:= [_,_,_,_,_,_,_]) YI O O O O O (Nat.le_of_ble_eq_true O) .z (Lq (Jd O) (Je (Jf (Jn (Jr ?_))))))))))
  refine ⟨_,[_,_,_],[_],fun Z w hs=>JS hs Un117 O YI O Jm O (.tmp O .nil),?_,fun Z w hs=>hs.out (Sd (Sk3 (Sr))) (fun _ h=>h)⟩
  try simp only [Bp,Bq] at *
  have hF:=Gc (H:=H) (i:=i) (by omega)
  exact ⟨none,0,by rw [hF];rfl,O,by rw [hF]⟩
 ·refine Lg O O O g10 (Jb O) (Lg O O O g10 (Jb O) (Lg O O O g10 (JB O) (Lg O O O g10 (Jh (o':=0) Un125 O YV O O) (Lg O O O g10 (Jj Un44 O O (Ji (Jm)) O) (Lg O O O g10 (J7 Un44 O) (Lg O O O g10 (Yl O O) (Lq (JA O g10 O) (Je (Jf (JL [(18,_),(5,_),(4,_),(0,_),(1,_)] (.m5 O O O O O) ?_))))))))))
  refine Jy O (fun h18=> ?_) (fun h18=> ?_)
  ·refine Jc (Ja (Lq (JV .nil (bd42Xw16)) (Jg O (Jq (cs':= [_,_,_,_,_,_,_]) (vs:= [_,_,_,_,_,_,_]) YI O O O O O (Nat.le_of_ble_eq_true O) .z (Lq (Jd O) (Je (Jf (Jn (Jr ?_)))))))))
   refine ⟨_,[_,_,_],[_],fun Z w hs=>JS hs Un117 O YI O Jm O (.tmp O .nil),?_,fun Z w hs=>hs.out (Sd (Sk3 (Sr))) (fun _ h=>h)⟩
   try simp only [Bp,Bq] at *
   have hF:=Gc (H:=H) (i:=i) (by omega)
   exact ⟨none,0,by rw [hF];rfl,O,by rw [hF]⟩
  ·refine Jp (Jf (Jc ?_))
   try simp only [Bp,Bq] at *
   obtain ⟨k,rfl⟩: ∃k:Nat,i=(k:Int):=⟨i.toNat,by omega⟩
   have hk:k<H.ents.length:=by omega
   have hko:k<H.ops.length:=by omega
   have hop:=QB hk
   refine Kh (k:=k) Mm1 (List.getElem?_eq_getElem hko) (op_open _) fun bo qo yo eo=> ?_
   cases eo
   refine Ja (Lq (Jb O) (Lq (JB O) (Lq (Jh (o':=0) Un125 O YV O O) (Lq (Jj Un44 O O (Ji (Jm)) O) (Lq (Jb O) (Lq (Kc Un44 JF O O (by omega) (by omega)) (Lq (Kq (k:=0) (vs:= [_,_,_,_,_,_,_,_,_]) Un40 O JF O Mm0 O O O) (Jg O (Jv (cs:= [_,_,_,_,_,_,_,_,_]) JF O (by decide) fun b6=>Jg O (Jq (cs':= [_,_,_,_,_,_,_,_,_]) (vs:= [_,_,_,_,_,_,_,_,_]) JF O O O O O (Nat.le_of_ble_eq_true O) .z ?_))))))))))
   refine Je (Jf (Jc (Jc (Ja (Lq (Jh (o':=0) Un40 O KI O O) (Lq (Jh (o':=2) Un37 O Yu O O) (Lq (Jj Un35 O O Jm O) (Lq (Ka O O) (Je (Jf (JL [(30,_),(6,_),(5,_),(4,_),(0,_)] (.m5 O O O O O) (Jy O (fun h30=> ?_) (fun h30=> ?_)))))))))))))
   ·refine Jc (Ja (Lq (Jh (o':=0) Un40 O KI O O) (Lq (Jh (o':=0) Un37 O JY O O) (Lq (Jw (vs:= [_,_]) Un34 O JY O Jm O O) (Lq (Jh (o':=0) Un40 O KI O O) (Lq (Jh (o':=2) Un37 O Yu O O) (Lq (Jj Un35 O O Jm O) (Lq (Jh (o':=8) Un40 O ti4 O O) (Lq (Jj Un4 O O Jm O) (Lq (Jh (o':=6) Un40 O JY O O) ?_))))))))))
    refine Lq (Jw (vs:= [_,_]) Un34 O JY O Jm O O) (Lq (JV (.n4 O O O O) (bd42_0_1_2_4Xw16 _ _ _ _ _ _)) (Jg O (Jq (cs':= [_,_,_,_,_,_,_]) (vs:= [_,_,_,_,_,_,_]) YI O O O O O (Nat.le_of_ble_eq_true O) .z1 (Lq (Jd O) (Je (Jf (JL [(5,_),(6,_),(4,_),(0,_)] (.m4 O O O O) (Jn (Jr ?_)))))))))
    refine ⟨_,[_,_,_],[_],fun Z w hs=>JS hs Un117 O YI O (Ji (Jm)) O (.tmp O .nil),?_,fun Z w hs=>hs.out (Sd2 (Sk3 (Sr))) Tt2⟩
    try simp only [Bp,Bq] at *
    rw [hop] at h30
    have hF:entryF H (k:Int)=_:=(Yj hk).trans (by unfold entE;rw [if_pos h30])
    exact ⟨none,0,by rw [hF];simp only [hop];rfl,O,by rw [hF]⟩
   ·refine Jp (Jf (Jc ?_))
    obtain ⟨jm,xm,hjm,hxm,hgm⟩:=hr.look hk
    obtain ⟨xk,xb,xA,xc⟩:=xm
    obtain rfl:xk=markAt k H.ents[k] :=hxm
    rw [←hop] at hgm
    refine E8 _ Mm4 (List.mem_of_getElem? hjm) (JI _ _ [] (.c 0 0 (.c 1 0 (.c 2 0 (.c 3 0 (.c 4 0 (.c 5 0 (.c 6 0 (.c 7 0 (.c 8 0 .nil))))))))) mixed (fun _ _ _ _ h=>h) (Sk5 (Sr)) (fun _ h=>h) (by kernel_rfl) (by decide) fun ws Z0=>Qe O (Jb O) (Qe O (JB O) (Qe O (Jh (o':=1) Un125 O YY O O) (Qe O (Jj Un123 O O (Ji (Ji (Jm))) O) (Qe O (Jh (o':=0) Un40 O KI O O) (Qe O (Jh (o':=0) Un37 O JY O O) (Qe O (Jw (vs:= [_,_]) Un34 O JY O Jm O O) ?_)))))))
    refine Qe O (YN keyT hgm Un123 Y3 O O (Ji (Ji (Ji (Jm))))) (Qe O (Jd O) (JJ (JK (Jf (JL [(7,_),(6,_),(5,_),(4,_)] (.m4 O O O O) (Jc (JI _ _ [19] (.c 0 0 (.c 1 0 (.c 2 0 (.c 3 0 (.c 4 0 (.c 5 0 (.c 6 0 (.c 7 0 (.c 8 0 (.c 9 0 (.c 10 0 (.c 11 0 (.c 12 0 (.c 13 0 (.c 14 0 (.c 15 0 (.c 16 2 (.c 17 0 (.c 18 0 (.c 19 3 (.c 20 1 .nil))))))))))))))))))))) mixed (fun _ _ _ _ h=>h) (Sk5 (Sr)) (fun _ h=>h) (by kernel_rfl) (by decide) fun ws Z0=>Qe O (Jh (o':=0) Un40 O KI O O) (Qe O (Jh (o':=0) Un37 O JY O O) ?_))))))))
    refine Qe O (Jw (vs:= [_,_]) Un34 O JY O Jm O O) (Qe O (Jh (o':=0) Un40 O KI O O) (Qe O (Jh (o':=2) Un37 O Yu O O) (Qe O (Jj Un35 O O Jm O) (Qe O (Jb O) (Qe O (JB O) (Qe O (Jh (o':=2) Un165 O ti4 O O) (Qe O (Jj (v:= .bool H.ents[k].off) Un4 O O (Ji (Ji (Ji (Ji (ownI (Yq hjm)))))) O) (Qe O (KC O) (Qe O (Jb O) ?_)))))))))
    refine Qe rfl (JB rfl) (Qe rfl (Jh (o':=1) Un165 rfl Yd rfl rfl) (Qe rfl (Jj (v:= .slice xA H.ents[k].now.length xc) Un38 rfl rfl (Ji (Ji (Ji (Ji (ownI (Yq hjm)))))) rfl) (Qe rfl (JV (.n1 rfl) (bd31_3Xw16 _ _ _)) (Js rfl rfl (Jo (Y1 { zeroOp with rs:=H.ents[k].now } xA xc (hr.now _ (List.getElem_mem hk))) (.n1 rfl) (by decide) (Jl Mm2 Jx) fun _ _ _ q9=>?_)))))
    obtain ⟨A1,c1,rfl,rfl,rfl⟩:=q9
    refine ⟨⟨(Sk5 (Sr)),Mm1⟩,?_⟩
    refine Qe O (Yn O (fd31_3Xw16 _ _ _ _ _ _ _ _ _ _ _)) (Qe O (JV (.n4 O O O O) (bd42_0_1_2_3Xw16 _ _ _ _ _ _ _)) (JJ (J2 O O (Jq (cs':= [_,_,_,_,_,_,_]) (vs:= [_,_,_,_,_,_,_]) YI O O O O O (Nat.le_of_ble_eq_true O) .z1 (YM O (Jd O) (by decide) (JK (Jf (JL [(5,_),(4,_)] (.m2 O O) (Jn ?_)))))))))
    refine ⟨_,[_,_,_],[_],fun Z w hs=>JS hs Un117 O YI O (Ji (Jm)) O (.tmp O .nil),?_,fun Z w hs=>hs.out (Sd2 (Sk3 (Sr))) (Jl Mm0 Tt7)⟩
    try simp only [Bp,Bq] at *
    rw [hop] at h30
    have hF:entryF H (k:Int)=_:=(Yj hk).trans (by unfold entE;rw [if_neg h30])
    exact ⟨A1,c1,by rw [hF];simp only [hop];rfl,O,by rw [hF]⟩
def OsP (H:Hist) (lo hi:Int) (ps:List Part):Value→List Part→List Fact→Prop:=fun v Lo fs=> ∃(A':Option Addr) (c':Nat),Lo=ps∧
 (((lo<0∨lo>hi∨hi>H.ents.length)∧v= .tuple #[.slice none 0 0, .int .i64 12] ∧fs= [RdF opD none 0 []])∨
  (¬(lo<0∨lo>hi∨hi>H.ents.length)∧v= .tuple #[.slice A' ((H.ops.take hi.toNat).drop lo.toNat).length c', .int .i64 0] ∧fs= [RdF opD A' c' ((H.ops.take hi.toNat).drop lo.toNat)]))
theorem Jaz (h m cap:Nat) (A:Option Addr) (H:Hist) (L:List MR) (hr:HR H L) (lo hi:Int):Sp Tryz.prog 57 [.pointer (some ⟨h,0,none⟩), .int .i64 lo, .int .i64 hi] [hdP h A H.ops.length cap m H.total,mpP m L,mkP L] [RdF opD A cap H.ops] (OsP H lo hi [hdP h A H.ops.length cap m H.total,mpP m L,mkP L]):=by
 have hol:=KY H
 have hlen:=hr.len
 refine Sp.of (n:=46) ⟨_,Tryz.func57,O,O,O,O⟩ (Nat.le_of_ble_eq_true O) fun Ps As=>Jc (Ja (Lq (Jd O) (Lq (Jd O) (Je (Jf (Jc (Jc (Kf (A:=RdF opD none 0 []) (fun Z w hs=>RdS.nil _ _ _) (Ja (Lq (Jb O) (Lq (Ku O O) (Lq (Jb O) ?_))))))))))))
 refine JU (t:=13) O (fun g13=> ?_) (fun g13=> ?_)
 ·refine Ln O O O g13 (Ln O O O g13 (Ln O O O g13 (Lq (JH O g13 O) (Lq (Jb O) (Ln O O O O (Ln O O O O (Ln O O O O (Ln O O O O (Ln O O O O ?_)))))))))
  refine Ln O O O O (Ln O O O O (Lq (JH O O O) (Je (Jf (JL [(26,_),(7,_),(6,_),(0,_),(1,_),(2,_)] (.m6 O O O O O O) (JQ O O (Jc (Ja (Lq (Jd O) (Lq (Jd O) (Je (Jf (Jn (Jr ?_))))))))))))))
  refine ⟨_,[_,_,_],[_],fun Z w hs=> .tmp O (.tmp O .nil),?_,fun Z w hs=>hs.out (Sk3 (Sr)) (fun _ h=>h)⟩
  try simp only [Bp,Bq] at *
  exact ⟨none,0,O, .inl ⟨by omega,O,O⟩⟩
 ·refine Lg O O O g13 (Jb O) (Lg O O O g13 (Jb O) (Lg O O O g13 (Ke O O) (Lq (JA O g13 O) (Lq (Jb O) (JU (t:=18) O (fun g18=> ?_) (fun g18=> ?_))))))
  ·refine Ln O O O g18 (Ln O O O g18 (Ln O O O g18 (Ln O O O g18 (Ln O O O g18 (Ln O O O g18 (Ln O O O g18 (Lq (JH O g18 O) (Je (Jf (JL [(26,_),(7,_),(6,_),(0,_),(1,_),(2,_)] (.m6 O O O O O O) ?_))))))))))
   refine JQ O O (Jc (Ja (Lq (Jd O) (Lq (Jd O) (Je (Jf (Jn (Jr ?_))))))))
   refine ⟨_,[_,_,_],[_],fun Z w hs=> .tmp O (.tmp O .nil),?_,fun Z w hs=>hs.out (Sk3 (Sr)) (fun _ h=>h)⟩
   try simp only [Bp,Bq] at *
   exact ⟨none,0,O, .inl ⟨by omega,O,O⟩⟩
  ·refine Lg O O O g18 (Jb O) (Lg O O O g18 (Jb O) (Lg O O O g18 (JB O) (Lg O O O g18 (Jh (o':=0) Un125 O YV O O) (Lg O O O g18 (Jj Un44 O O Jm O) (Lg O O O g18 (J7 Un44 O) (Lg O O O g18 (Ke O O) (Lq (JA O g18 O) (Je (Jf (JL [(26,_),(7,_),(6,_),(0,_),(1,_),(2,_)] (.m6 O O O O O O) ?_))))))))))
   refine Jy O (fun h26=> ?_) (fun h26=> ?_)
   ·refine Jc (Ja (Lq (Jd O) (Lq (Jd O) (Je (Jf (Jn (Jr ?_)))))))
    refine ⟨_,[_,_,_],[_],fun Z w hs=> .tmp O (.tmp O .nil),?_,fun Z w hs=>hs.out (Sk3 (Sr)) (fun _ h=>h)⟩
    try simp only [Bp,Bq] at *
    exact ⟨none,0,O, .inl ⟨by omega,O,O⟩⟩
   ·refine Jp (Jf (Jc (Ja (Lq (Jd O) (Je (Jf (Jc (Jc ?_))))))))
    try simp only [Bp,Bq] at *
    obtain ⟨lo,rfl⟩: ∃k:Nat,lo=(k:Int):=⟨lo.toNat,by omega⟩
    obtain ⟨hi,rfl⟩: ∃k:Nat,hi=(k:Int):=⟨hi.toNat,by omega⟩
    refine V5 Mm1 fun hcap hcap2=> ?_
    obtain ⟨B,hB⟩: ∃B,B=cutA A lo cap 9:=⟨_,rfl⟩
    obtain ⟨xs,hxs⟩: ∃xs,xs=(H.ops.take hi).drop lo:=⟨_,rfl⟩
    have hxl:hi-lo=xs.length:=by rw [hxs,List.length_drop,List.length_take];omega
    have hfx: ∀o∈xs,Fit o:=fun o ho=>by rw [hxs] at ho;have h1:=List.mem_of_mem_take (List.mem_of_mem_drop ho);obtain ⟨e,he,rfl⟩:=List.mem_map.1 h1;exact hr.fit e he
    refine Kf (A:=RdF opD B (cap-lo) xs) (fun Z w hs=>by rw [hB,hxs];exact RdS.cut (lo:=lo) (hi:=hi) (m:=cap) (hs.facts _ Mm1) (by omega) (by omega) (by omega) (Nat.le_refl _)) (Kf (A:=RepsF opD (xs.take 0) []) (fun Z w hs=>Reps.nil) (KE (Ja (Lq (Jb O) (Lq (JB O) (Lq (Jh (o':=0) Un125 O YV O O) (Lq (Jj Un44 O O (Ji (Jm)) O) (Lq (Jb O) (Lq (Jb O) ?_)))))))))
    refine Lq (GC Un44 JF O O O (by omega) (by omega) (by omega)) (Lq (J7 Un44 O) (Lq (Jb O) (Je (Jf (JL [(35,_),(34,_),(33,_),(8,_),(7,_),(6,_)] (.m6 O O O O O O) (JO ?_))))))
    refine Ki (α:=Nat×Value×Part×List (List Value)) (fun (k,v,p,css)=>xs.length-k)
     (fun (k,v,p,css)=> [(33, .slice B xs.length (cap-lo)),(34, .int .i64 xs.length),(35, .int .i64 k),(8,v)])
     (fun (k,v,p,css)=>(p::hdP h A H.ops.length cap m H.total::mpP m L::mkP L::Ps))
     (fun (k,v,p,css)=>(RepsF opD (xs.take k) css::RdF opD B (cap-lo) xs::RdF opD none 0 [] ::RdF opD A cap H.ops::As))
     (fun (k,v,p,css)=>k≤xs.length∧Row 40 9 v k css.flatten p)
     (0, .slice none 0 0,[],[]) ?_ (.m4 (by rw [hB,←hxl];rfl) (by rw [←hxl];rfl) rfl rfl) (Sk4 (Sr)) (fun _ h=>h) ?_
    ·exact ⟨Nat.zero_le _,Row.nil _ _⟩
    ·rintro ⟨k,v,p,css⟩ hI
     have hle:k≤xs.length:=hI.1
     have hxb:xs.length≤1000000:=by rw [hxs,List.length_drop,List.length_take];omega
     refine Jc (Ja (Lq (Ku O O) (Je (Jf (Jc (Jy O (fun h36=> ?_) (fun h36=> ?_)))))))
     ·refine Jp (Jf (Jc (JO (Jc ?_))))
      try simp only [Bp,Bq] at *
      have hk:k<xs.length:=by omega
      refine Kh (k:=k) Mm1 (List.getElem?_eq_getElem hk) (op_open _) fun b6 q6 y6 e6=> ?_
      cases e6
      refine Ja (Lq (Kc Un44 JF O O (by omega) (by omega)) (Lq (Kq (k:=0) (vs:= [_,_,_,_,_,_,_,_,_]) Un40 O JF O Mm0 O O O) (Jg O (Jv (cs:= [_,_,_,_,_,_,_,_,_]) JF O (by decide) fun b10=>Jg O (Jq (cs':= [_,_,_,_,_,_,_,_,_]) (vs:= [_,_,_,_,_,_,_,_,_]) JF O O O O O (Nat.le_of_ble_eq_true O) .z (Je (Jf (Ja (Lq (Jb O) (Lq (Jw (vs:= [_,_,_,_,_,_,_,_,_]) Un40 O JF O Jm O O) (Jg O (Jo (Y1 xs[k] y6.1 y6.2 (hfx _ (List.getElem_mem hk)).rs) (.n1 O) (by decide) (Jl Mm1 Jx) fun _ _ _ q9=>?_))))))))))))
      obtain ⟨A1,c1,rfl,rfl,rfl⟩:=q9
      refine Jg O (KP (cs:= [_,_,_,_,_,_,_,_,_]) Un44 JF (by decide) (by decide) O O O O (by decide) fun b42=>Jg O (KV (news:= [_,_,_,_,_,_,_,_,_]) Un44 JF O (by decide) O O hI.2 Jm O O (by omega) (by unfold maxLen;omega) (by decide) (DelAt.perm .z2) fun v43 p43 hr43=>Lq (Jd O) (Je (J9 (Jf (Vh (u:=xs[k]) (cs:=opC xs[k] A1 c1) Mm3 (fun Z w hs=>⟨A1,c1,O,hs.facts _ Mm0⟩) (List.take_succ_eq_append_getElem hk) (Ja (Lq (JZ O O (wr64 (by omega))) (Lq (Jb O) (Je (Ko ?_)))))))))))
      refine ⟨(k+1,v43,p43,css++ [opC xs[k] A1 c1]),?_,(.m4 O O O O),(Sk (Sd2 (Sk3 (Sr)))),(Jl Mm0 Tt5)⟩
      refine ⟨by show xs.length-(k+1)<xs.length-k;omega,by show k+1≤xs.length;omega,?_⟩
      rw [List.flatten_append,show [opC xs[k] A1 c1].flatten=opC xs[k] A1 c1 from by simp]
      exact hr43
     ·refine Kr (JR (JR (Kg (Jf (Jc ?_)))))
      try simp only [Bp,Bq] at *
      have hI1:k≤xs.length:=hI.1
      obtain rfl:k=xs.length:=by omega
      refine KW (e:=opD) (css:=css) (xs:=xs.take xs.length) hI.2 .z (by rw [List.take_length]) Mm0 fun Ao co eo=> ?_
      subst eo
      rw [List.take_length]
      refine Ja (Lq (Jb O) (Lq (Jd O) (Lq (Jd O) (Je (Jf (Jn ?_))))))
      refine ⟨_,[_,_,_],[_],fun Z w hs=> .tmp O (.tmp O .nil),?_,fun Z w hs=>hs.out (Sk3 (Sr)) (Jl Mm0 Tt4)⟩
      subst hxs
      exact ⟨Ao,co,O, .inr ⟨by omega,O,O⟩⟩
theorem turned_ops (H:Hist) (i:Nat) (o:GOp):(turnedF H i o).1.map (·.op)=H.ops:=by
 unfold turnedF
 split
 ·rfl
 ·split
  ·rfl
  ·split
   ·rfl
   ·rename_i k hwk _ e he
    split
    ·rfl
    ·have hk:k<H.ents.length:=by
      rcases Nat.lt_or_ge k H.ents.length with h | h
      ·exact h
      ·rw [List.getElem?_eq_none h] at he;cases he
     have e1:H.ents[k] =e:=by rw [List.getElem?_eq_getElem hk] at he;exact Option.some.inj he
     exact Gb hk (offE e (!o.on)) (by rw [e1];rfl) 0
theorem whereId_ops {es:List Ent} {H:Hist} {c n:Int} (h:es.map (·.op)=H.ops) (hn:J5 H.ents c n=none):J5 es c n=none:=by
 unfold J5
 rw [List.findIdx?_eq_none_iff]
 intro e he
 have h1:e.op∈H.ops:=by rw [←h];exact List.mem_map.2 ⟨e,he,rfl⟩
 obtain ⟨x,hx,hxe⟩:=List.mem_map.1 h1
 have h2:=K4 hn x hx
 rw [hxe] at h2
 cases hq:(decide (c=e.op.c) && decide (n=e.op.n)) with
 | false=>rfl
 | true=>simp at hq;exact absurd ⟨hq.1.symm,hq.2.symm⟩ h2
theorem bd31Xw18 (w:World):(Instr.build 40 #[]).run Tryz.prog w= .ok (.agg #[.int .i64 0, .int .i64 0, .int .i64 0, .int .i64 0, .string ⟨#[]⟩, .slice none 0 0, .int .i64 0, .int .i64 0, .bool false]) w:=by kernel_rfl
theorem bd101_0Xw18 (x0_:Int) (w:World):(Instr.build 165 #[(0, .int .i64 x0_)]).run Tryz.prog w= .ok (.agg #[.int .i64 x0_, .slice none 0 0, .bool false]) w:=by kernel_rfl
theorem bd28_1Xw18 (x1_:Int) (w:World):(Instr.build 37 #[(1, .int .i64 x1_)]).run Tryz.prog w= .ok (.agg #[.int .i64 0, .int .i64 0, .int .i64 x1_]) w:=by kernel_rfl
theorem bd31_0Xw18 (x0_0a0:Int) (x0_0a1:Int) (x0_1:Int) (w:World):(Instr.build 40 #[(0, .agg #[.int .i64 x0_0a0, .int .i64 x0_0a1, .int .i64 x0_1])]).run Tryz.prog w= .ok (.agg #[.int .i64 x0_0a0, .int .i64 x0_0a1, .int .i64 x0_1, .int .i64 0, .string ⟨#[]⟩, .slice none 0 0, .int .i64 0, .int .i64 0, .bool false]) w:=by kernel_rfl
theorem bd37_0_1Xw18 (x0_:Int) (x1_:Int) (w:World):(Instr.build 143 #[(0, .int .i64 x0_),(1, .int .i64 x1_)]).run Tryz.prog w= .ok (.agg #[.int .i64 x0_, .int .i64 x1_]) w:=by kernel_rfl
theorem fd31_3Xw18 (x00a0:Int) (x00a1:Int) (x01:Int) (x1:Int) (x2:ByteArray) (x3A:Option Addr) (x3n x3c:Nat) (x4a0:Int) (x4a1:Int) (x5:Bool) (w:World):(Instr.field 40 (.agg #[.int .i64 x00a0, .int .i64 x00a1, .int .i64 x01, .int .i64 x1, .string x2, .slice x3A x3n x3c, .int .i64 x4a0, .int .i64 x4a1, .bool x5]) 3).run Tryz.prog w= .ok (.slice x3A x3n x3c) w:=by kernel_rfl
theorem Jan (h m cap:Nat) (A:Option Addr) (H:Hist) (L:List MR) (hr:HR H L) (i:Int) (o:GOp) (Ao:Option Addr) (co:Nat) (ho:Fit o) (hlt:H.ents.length<1000000):Sp Tryz.prog 97 [.pointer (some ⟨h,0,none⟩), .int .i64 i,opV o Ao co] [hdP h A H.ops.length cap m H.total,mpP m L,mkP L] [barF,RdF opD A cap H.ops,AllF L nowF,RdF rgD Ao co o.rs] (PuP H i o h m cap A L):=by
 have hol:=KY H
 have hlen:=hr.len
 refine Sp.of (n:=196) ⟨_,Tryz.func97,O,O,O,O⟩ (Nat.le_of_ble_eq_true O) fun Ps As=>Jc (Ja (Jg O (J1 (cs:= [_,_,_,_,_,_,_,_,_]) O O (by decide) fun b5=>Jg O (Jv (cs:= [_,_,_,_,_,_,_,_,_]) JF O (by decide) fun b6=>Lq (Jd O) (Je (Jf (Jc (Jc (Kf (A:=RdF rgD none 0 []) (fun Z w hs=>RdS.nil _ _ _) (Ja (Lq (Jb O) (Lq (Jb O) ?_))))))))))))
 refine Lq (Jw (vs:= [_,_,_,_,_,_,_,_,_]) Un40 O JF O (Ji (Jm)) O O) (Jg O (Ky (Ja0 h m cap A H L hr i o Ao co ho) (.n3 O O O) (by decide) .z2 .z2 .z2 (Jl Mm1 (Jl Mm2 (Jl Mm4 Jx))) fun _ _ _ q9=>?_))
 obtain ⟨rfl,rfl,rfl⟩:=q9
 refine Lq (Jd O) (Je (Jf (Jc (Ja (Lq (Jb O) (Lq (Kp O O) (Je (Jf (Jy O (fun h24=> ?_) (fun h24=> ?_))))))))))
 ·refine Jc (Ja (Lq (JV .nil (bd31Xw18)) (Lq (Jb O) (Jg O (Jq (cs':= [_,_,_,_,_,_,_,_,_]) (vs:= [_,_,_,_,_,_,_,_,_]) JF O O O O O (Nat.le_of_ble_eq_true O) .z3 (Lq (Jd O) (Je (Jf (Jn (Jr ?_))))))))))
  refine ⟨_,[_,_,_],[_,_,_],fun Z w hs=>JS hs Un40 O JF O (Ji (Ji (Ji (Jm)))) O (.tmp O .nil),?_,fun Z w hs=>hs.out (Sk3 (Sd2 (Sr))) (Jl Mm0 (Jl Mm2 (Jl Mm3 Tt1)))⟩
  try simp only [Bp,Bq] at *
  have hF:=put_1 h24
  exact ⟨L,A,cap,none,0,by rw [hF];exact hr,by rw [hF];rfl,by rw [hF],by rw [hF];rfl⟩
 ·refine Jp (Jf (Jc ?_))
  try simp only [Bp,Bq] at *
  obtain ⟨h0,h1,hw0,htot,hne3,hk1,hk4,hck,htgt⟩:=fits_0 h24
  obtain ⟨i,rfl⟩: ∃k:Nat,i=(k:Int):=⟨i.toNat,by omega⟩
  have hil:i≤H.ents.length:=by omega
  have hwid:=check_wid hck
  refine Ja (Lq (Jw (vs:= [_,_,_,_,_,_,_,_,_]) Un40 O JF O (Ji (Ji (Ji (Ji (Jm))))) O O) (Jg O (Jo (Y1 o Ao co ho.rs) (.n1 O) (by decide) (Jl Mm4 Jx) fun _ _ _ q9=>?_)))
  obtain ⟨A1,c1,rfl,rfl,rfl⟩:=q9
  refine Jg O (Jq (cs':= [_,_,_,_,_,_,_,_,_]) (vs:= [_,_,_,_,_,_,_,_,_]) JF O O O O O (Nat.le_of_ble_eq_true O) .z4 (Je (Jf (Jc (V5 Mm3 fun hcap hcap2=> ?_)))))
  obtain ⟨B,hB⟩: ∃B,B=cutA A i cap 9:=⟨_,rfl⟩
  have hFd: ∀x∈H.ops.drop i,Fit x:=fun x hx=>by obtain ⟨e,he,rfl⟩:=List.mem_map.1 (List.mem_of_mem_drop hx);exact hr.fit e he
  refine Kf (A:=RdF opD B (cap-i) (H.ops.drop i)) (fun Z w hs=>by rw [hB];have h1:=RdS.cut (lo:=i) (hi:=H.ops.length) (m:=cap) (hs.facts _ Mm3) (by omega) (by omega) (by omega) (Nat.le_refl _);rw [List.take_length] at h1;exact h1) (JI _ _ [] (.c 0 0 (.c 2 0 (.c 3 0 (.c 4 0 (.c 5 0 (.c 6 0 (.c 7 0 (.c 1 2 (.c 8 2 (.c 9 0 (.c 10 0 (.c 11 0 (.c 12 0 (.c 13 0 (.c 14 0 (.c 15 0 .nil)))))))))))))))) mixed (fun _ _ _ _ h=>h) (Sk5 (Sr)) (fun _ h=>h) (by kernel_rfl) (by decide) fun ws Z0=>Qe O (Jw (vs:= [_,_,_,_,_,_,_,_,_]) Un40 O JF O (Ji (Ji (Ji (Ji (Jm))))) O O) (Qe O (Jb O) (Qe O (JB O) ?_)))
  refine Qe O (Jh (o':=0) Un125 O YV O O) (Qe O (Jj Un44 O O Jm O) (Qe O (Jb O) (Qe O (G4 Un44 JF O O (by omega) (by omega)) (Js O O (KP (cs:= [_,_,_,_,_,_,_,_,_]) Un44 JF (by decide) (by decide) O O O O (by decide) fun b31=> ?_)))))
  refine ⟨⟨(Sd (Sk5 (Sr))),Mm0⟩,?_⟩
  refine Ve (e:=opD) (u:=o) .z (fun Z w hs=>⟨A1,c1,O,hs.facts _ Mm2⟩) (Js O O (Jo (Z8 (some ⟨b31,0,none⟩) B 1 (cap-i) [o] (H.ops.drop i) (by simpa using ho) hFd (by simp) (by rw [List.length_drop];omega)) (.n2 O (by rw [hB,List.length_drop];rfl)) (by decide) (Jl Mm5 (Jl Mm0 (Jl Mm2 Jx))) fun _ _ _ q9=>?_))
  obtain ⟨Ac,cc,Ad,cd,rfl,rfl,rfl⟩:=q9
  refine ⟨⟨(Sk5 (Sr)),Mm3⟩,?_⟩
  refine Qe O (Jb O) (Qe O (Jk (vs:= [_,_,_]) O O) (Qe O (Jk (vs:= [_,_,_]) O O) (Qe O (Jk (vs:= [_,_,_]) O O) (Qe O (Jd O) (Qe O (Jd O) (Qe O (Jd O) (JJ (JK (Jf (JL [(11,_),(10,_),(9,_),(7,_),(6,_),(5,_),(0,_),(1,_)] (.m8 O O O O O O O O) ?_))))))))))
  refine Jc (Jc (Ja (Lq (Jb O) (Lq (Kp O O) (Je (Jf (Jy O (fun h43=> ?_) (fun h43=> ?_))))))))
  ·refine Jc (Ja (Lq (JV .nil (bd31Xw18)) (Lq (Jb O) (Jg O (Jq (cs':= [_,_,_,_,_,_,_,_,_]) (vs:= [_,_,_,_,_,_,_,_,_]) JF O O O O O (Nat.le_of_ble_eq_true O) .z3 (Lq (Jd O) (Je (Jf (Jn (Jr ?_))))))))))
   refine ⟨_,[_,_,_],[_,_,_],fun Z w hs=>JS hs Un40 O JF O (Ji (Ji (Ji (Jm)))) O (.tmp O .nil),?_,fun Z w hs=>hs.out (Sk3 (Sd2 (Sr))) (Jl Mm6 (Jl Mm8 (Jl Mm9 Tt7)))⟩
   try simp only [Bp,Bq] at *
   have hF:=put_2 h24 h43
   exact ⟨L,A,cap,none,0,by rw [hF];exact hr,by rw [hF];rfl,by rw [hF],by rw [hF];rfl⟩
  ·refine Jp (Jf (Jc ?_))
   try simp only [Bp,Bq] at *
   have hX:(crossF [o] (H.ops.drop i)).2.2=0:=by omega
   obtain ⟨td,htd,hsame⟩:=crossOne hX
   have hcf:=E0 (xs:= [o]) (ys:=H.ops.drop i) (by simpa using ho) hFd
   have htf:Fit td:=hcf.1 td (by rw [htd];exact List.mem_singleton.2 rfl)
   obtain ⟨later,hlater⟩: ∃x,x=(crossF [o] (H.ops.drop i)).2.1:=⟨_,rfl⟩
   have hsl:Sames (H.ops.drop i) later:=by rw [hlater];exact (Xt hX).2
   have hfl: ∀y∈later,Fit y:=by rw [hlater];exact hcf.2
   have hll:later.length=H.ops.length-i:=by rw [hsl.length,List.length_drop]
   rw [htd,←hlater]
   refine Ja (Lq (Jb O) (Lq (JV (.n1 O) (bd101_0Xw18 _)) (Jg O (J1 (cs:= [_,_,_]) O O (by decide) fun b48=>Lq (Jd O) (Je (Jf (Jc (Ja (Lq (Jh (o':=0) Un40 O KI O O) (Lq (Jh (o':=2) Un37 O Yu O O) (Lq (Jj Un35 O O (Ji (Ji (Ji (Ji (Ji (Jm)))))) O) (Lq (JV (.n1 O) (bd28_1Xw18 _)) ?_))))))))))))
   refine Lq (JV (.n1 O) (bd31_0Xw18 _ _ _)) (Jg O (Jv (cs:= [_,_,_,_,_,_,_,_,_]) JF O (by decide) fun b13=>Jg O (Jq (cs':= [_,_,_,_,_,_,_,_,_]) (vs:= [_,_,_,_,_,_,_,_,_]) JF O O O O O (Nat.le_of_ble_eq_true O) .z (Je (Jf (JL [(13,_),(12,_),(10,_),(9,_),(7,_),(6,_),(5,_),(0,_),(1,_)] (.m9 O O O O O O O O O) ?_))))))
   refine Ej (α:=List Ent×List MR×List Rg×Option Addr×Nat×GOp×Option Addr×Nat)
    (fun (es,L1,nw,An,cn,eff,Ae,ce)=> [(0, .pointer (some ⟨h,0,none⟩)),(1, .int .i64 i),(5, .pointer (some ⟨b5,0,none⟩)),(6, .pointer (some ⟨b6,0,none⟩)),(10, .slice Ad later.length cd),(12, .pointer (some ⟨b48,0,none⟩)),(13, .pointer (some ⟨b13,0,none⟩))])
    (fun (es,L1,nw,An,cn,eff,Ae,ce)=>([(b13,JD (opC eff Ae ce) 40)] :: [(b48,JD [.int .i64 i, .slice An nw.length cn, .bool false] 165)] :: [(b6,JD (opC zeroOp none 0) 40)] :: [(b5,JD (opC o A1 c1) 40)] ::hdP h A H.ops.length cap m H.total::mpP m L::mkP L1::Ps))
    (fun (es,L1,nw,An,cn,eff,Ae,ce)=>(RdF rgD Ae ce eff.rs::RdF rgD An cn nw::AllF L1 nowF::RdF opD Ad cd later::RdF rgD A1 c1 o.rs::RdF rgD none 0 [] ::barF::RdF opD A cap H.ops::AllF L nowF::RdF rgD Ao co o.rs::As))
    (fun (es,L1,nw,An,cn,eff,Ae,ce)=>MidI H i o td L es L1 nw eff) ?_ ?_
   ·refine Jc (Ja (Lq (Jh (o':=0) Un40 O KI O O) (Lq (Jh (o':=2) Un37 O Yu O O) (Lq (Jj Un35 O O (Ji (Ji (Ji (Ji (Ji (Ji (Jm))))))) O) (Je (Jf (JO (Jc (Ja (Lq (Ka O O) (Lq (Jd O) (Je (Jf (Jy O (fun h57=> ?_) (fun h57=> ?_)))))))))))))))
    ·refine Jc (Kh (k:=0) Mm0 O (op_open _) fun b12 q12 y12 e12=> ?_)
     cases e12
     refine JI _ _ [9] (.c 0 0 (.c 1 0 (.c 2 0 (.c 3 0 (.c 4 0 (.c 5 0 (.c 6 0 (.c 7 2 (.c 8 0 (.c 9 3 .nil)))))))))) mixed (fun _ _ _ _ h=>h) (Sd (Sk6 (Sr))) (fun _ h=>h) (by kernel_rfl) (by decide) fun ws Z0=>Qe O (Jb O) (Qe O (Kc Un44 JF O O (by decide) (by simp)) (Qe O (Jh (o':=_+3) Un40 O ti3 O O) (Qe O (Ks (j:=3) Un3 O O Mm0 O O) (Qe O (Jh (o':=4) Un40 O ti9 O O) (Qe O (Jj Un9 O O (Ji (Ji (Ji (Ji (Ji (Jm)))))) O) (Qe O (Jh (o':=3) Un40 O ti3 O O) ?_))))))
     refine Js O O (JN ti3 O O O .z3 .z ?_)
     refine ⟨⟨(Sd (Sk6 (Sr))),Mm0⟩,?_⟩
     refine Qe O (Jh (o':=4) Un40 O ti9 O O) (JJ (J2 O O (JN ti9 O O O .z4 .z (JK (Jf (JL [(13,_),(12,_),(10,_),(7,_),(6,_),(5,_),(0,_),(1,_)] (.m8 O O O O O O O O) (Jc ?_)))))))
     cases hmv:movedAll H.ents td.at_ (JC o) with
     | error e=>
      refine JI _ _ [] (.c 0 0 (.c 1 0 (.c 2 0 (.c 3 0 (.c 4 2 (.c 5 2 (.c 6 0 (.c 7 0 (.c 8 0 (.c 9 0 (.c 10 0 .nil))))))))))) mixed (fun _ _ _ _ h=>h) (Sk2 (Sd3 (Sk2 (Sr)))) (fun _ h=>h) (by kernel_rfl) (by decide) fun ws Z0=>Qe O (Jb O) (Qe O (Jh (o':=3) Un40 O ti3 O O) (Qe O (Jj Un3 O O Jm O) (Qe O (Jw (vs:= [_,_,_,_,_,_,_,_,_]) Un40 O JF O (Ji (Ji (Ji (Jm)))) O O) ?_)))
      refine Js O O (Jo (Yh o A1 c1 (by have:=ho.text;omega)) (.n1 O) (by decide) (Jl Mm11 Jx) fun _ _ _ q9=>?_)
      obtain ⟨rfl,rfl,rfl⟩:=q9
      refine ⟨⟨(Sk2 (Sd3 (Sk2 (Sr)))),Mm0⟩,?_⟩
      refine Js O O (Ky (Ey h m cap A H L hr td.at_ (JC o)) (.n3 O O O) (by decide) .z2 .z2 .z2 (Jl Mm12 (Jl Mm13 Jx)) fun _ _ _ q9=>?_)
      obtain ⟨rfl,hmr⟩:=q9
      rw [hmv] at hmr
      obtain ⟨rfl,rfl⟩:=hmr
      refine ⟨⟨(Sd3 (Sk4 (Sr))),Mm0⟩,?_⟩
      refine Qe O (Jb O) (Qe O (Jk (vs:= [_,_]) O O) (Qe O (Jk (vs:= [_,_]) O O) (Qe O (Jd O) (Qe O (Jd O) (JJ (JK (Jf (JL [(15,_),(14,_),(13,_),(12,_),(10,_),(7,_),(6,_),(5,_),(0,_),(1,_)] (.m10 O O O O O O O O O O) (Jc (Jc (Ja (Lq (Jb O) ?_))))))))))))
      refine Lq (Kp O O) (Je (Jf (JQ O (by simpa using movedAll_ne hmv) (Jc (Ja (Lq (JV .nil (bd31Xw18)) (Lq (Jb O) (Jg O (Jq (cs':= [_,_,_,_,_,_,_,_,_]) (vs:= [_,_,_,_,_,_,_,_,_]) JF O O O O O (Nat.le_of_ble_eq_true O) .z5 (Lq (Jd O) (Je (Jf (Jn (Jr (JM (Jr ?_))))))))))))))))
      refine ⟨_,[_,_,_],[_,_,_],fun Z w hs=>JS hs Un40 O JF O (Ji (Ji (Ji (Ji (Ji (Jm)))))) O (.tmp O .nil),?_,fun Z w hs=>hs.out (Sk3 (Sd4 (Sr))) (Jl Mm10 (Jl Mm12 (Jl Mm13 Tt11)))⟩
      try simp only [Bp,Bq] at *
      have hF:=put_3 h24 hX htd (by unfold midF;rw [if_pos h57,hmv])
      exact ⟨L,A,cap,none,0,by rw [hF];exact hr,by rw [hF];rfl,by rw [hF],by rw [hF];rfl⟩
     | ok ls=>
      have hlsl:=Vk hmv
      refine JI _ _ [] (.c 0 0 (.c 1 0 (.c 2 0 (.c 3 0 (.c 4 2 (.c 5 2 (.c 6 0 (.c 7 0 (.c 8 0 (.c 9 0 (.c 10 0 .nil))))))))))) mixed (fun _ _ _ _ h=>h) (Sk2 (Sd3 (Sk2 (Sr)))) (fun _ h=>h) (by kernel_rfl) (by decide) fun ws Z0=>Qe O (Jb O) (Qe O (Jh (o':=3) Un40 O ti3 O O) (Qe O (Jj Un3 O O Jm O) (Qe O (Jw (vs:= [_,_,_,_,_,_,_,_,_]) Un40 O JF O (Ji (Ji (Ji (Jm)))) O O) ?_)))
      refine Js O O (Jo (Yh o A1 c1 (by have:=ho.text;omega)) (.n1 O) (by decide) (Jl Mm11 Jx) fun _ _ _ q9=>?_)
      obtain ⟨rfl,rfl,rfl⟩:=q9
      refine ⟨⟨(Sk2 (Sd3 (Sk2 (Sr)))),Mm0⟩,?_⟩
      refine Js O O (Ky (Ey h m cap A H L hr td.at_ (JC o)) (.n3 O O O) (by decide) .z2 .z2 .z2 (Jl Mm12 (Jl Mm13 Jx)) fun _ _ _ q9=>?_)
      obtain ⟨rfl,hmr⟩:=q9
      rw [hmv] at hmr
      obtain ⟨A3,c3,rfl,rfl⟩:=hmr
      refine ⟨⟨(Sd3 (Sk4 (Sr))),Mm1⟩,?_⟩
      refine Qe O (Jb O) (Qe O (Jk (vs:= [_,_]) O O) (Qe O (Jk (vs:= [_,_]) O O) (Qe O (Jd O) (Qe O (Jd O) (JJ (JK (Jf (JL [(15,_),(14,_),(13,_),(12,_),(10,_),(7,_),(6,_),(5,_),(0,_),(1,_)] (.m10 O O O O O O O O O O) (Jc (Jc (Ja (Lq (Jb O) ?_))))))))))))
      refine Lq (Kp O O) (Je (Jf (Jz O O (Jp (Jf (Jc (Jc (Ja (Lq (Jb O) (Lq (J7 Un199 O) (Lq (Jb O) (Je (Jf (JO ?_))))))))))))))
      refine Ki (α:=Nat×List MR) (fun (k,Lk)=>ls.length-k)
       (fun (k,Lk)=> [(0, .pointer (some ⟨h,0,none⟩)),(1, .int .i64 i),(5, .pointer (some ⟨b5,0,none⟩)),(6, .pointer (some ⟨b6,0,none⟩)),(10, .slice Ad later.length cd),(12, .pointer (some ⟨b48,0,none⟩)),(13, .pointer (some ⟨b13,0,none⟩)),(80, .slice A3 ls.length c3),(81, .int .i64 ls.length),(82, .int .i64 k)])
       (fun (k,Lk)=>(hdP h A H.ops.length cap m H.total::mpP m L::mkP Lk:: [(b13,JD (opC { effF o with at_:=td.at_,text:=o.text } none 0) 40)] :: [(b48,JD [.int .i64 i, .slice none 0 0, .bool false] 165)] :: [(b6,JD (opC zeroOp none 0) 40)] :: [(b5,JD (opC o A1 c1) 40)] ::Ps))
       (fun (k,Lk)=>(AllF Lk nowF::RdF rsl A3 c3 ls::RdF opD Ad cd later::RdF rgD A1 c1 o.rs::RdF rgD none 0 [] ::barF::RdF opD A cap H.ops::AllF L nowF::RdF rgD Ao co o.rs::As))
       (fun (k,Lk)=>HR ⟨setNow H.ents ls k,H.total⟩ Lk∧keys Lk=keys L∧k≤ls.length)
       (0,L) ?_ (.m10 rfl rfl rfl rfl rfl rfl rfl rfl rfl rfl) (Sk7 (Sr)) (Jl Mm14 (Jl Mm0 (Jl Mm6 Tt10))) ?_
      ·exact ⟨by rw [Xk];exact hr,O,Nat.zero_le _⟩
      ·rintro ⟨k,Lk⟩ hI
       have hkls:k≤ls.length:=hI.2.2
       refine Jc (Ja (Lq (Ku O O) (Je (Jf (Jc (Jy O (fun h83=> ?_) (fun h83=> ?_)))))))
       ·refine Jp (Jf (Jc (JO (Jc ?_))))
        try simp only [Bp,Bq] at *
        have hk:k<ls.length:=by omega
        have hke:k<H.ents.length:=by omega
        refine Kh (k:=k) Mm1 (List.getElem?_eq_getElem hk) (rsl_open _) fun b18 q18 y18 e18=> ?_
        cases e18
        refine Ja (Lq (Jb O) (Lq (Kc Un199 Yd O O (by omega) (by omega)) (Lq (Ks (j:=0) Un38 O O Mm0 O O) (Lq (Jd O) (Lq (Jd O) (Je (Jf ?_)))))))
        have hko:k<H.ops.length:=by omega
        have hop:=QB hke
        refine Kh (k:=k) Mm8 (List.getElem?_eq_getElem hko) (op_open _) fun bo qo yo eo=> ?_
        cases eo
        have hks:k<(setNow H.ents ls k).length:=by rw [VK];exact hke
        have hsk:(setNow H.ents ls k)[k] =H.ents[k] :=by have h1:=XS H.ents ls k hke;rw [List.getElem?_eq_getElem hks] at h1;exact Option.some.inj h1
        obtain ⟨jm,xm,hjm,hxm,hgm⟩:=hI.1.look hks
        obtain ⟨xk,xb,xA,xc⟩:=xm
        simp only [hsk] at hxm hgm
        obtain rfl:xk=markAt k H.ents[k] :=hxm
        rw [←hop,hI.2.1] at hgm
        refine JI _ _ [17] (.c 0 0 (.c 1 0 (.c 2 0 (.c 3 0 (.c 4 0 (.c 5 0 (.c 6 0 (.c 7 0 (.c 8 0 (.c 9 0 (.c 10 0 (.c 11 0 (.c 12 0 (.c 13 0 (.c 14 0 (.c 15 0 (.c 16 0 (.c 17 3 .nil)))))))))))))))))) mixed (fun _ _ _ _ h=>h) (Sk2 (Sd (Sk4 (Sr)))) (fun _ h=>h) (by kernel_rfl) (by decide) fun ws Z0=>Qe O (Jb O) (Qe O (JB O) (Qe O (Jh (o':=1) Un125 O YY O O) (Qe O (Jj Un123 O O Jm O) (Qe O (Jb O) (Qe O (JB O) (Qe O (Jh (o':=0) Un125 O YV O O) (Qe O (Jj Un44 O O Jm O) (Qe O (Jb O) ?_))))))))
        refine Qe O (Kc Un44 JF O O (by omega) (by omega)) (Qe O (Jh (o':=_+0) Un40 O KI O O) (Qe O (Jh (o':=_+0) Un37 O JY O O) (Qe O (Kq (k:=0) (vs:= [_,_]) Un34 O JY O Mm0 O O O) (Qe O (YN keyT hgm Un123 Y3 O O (Ji (Jm))) (Qe O (Jb O) (Qe O (JB O) (Qe O (Jh (o':=1) Un165 O Yd O O) (JJ (J2 O O (Xg (i:=jm) Yd O O O (XH hjm) .z1 .z2 (JK ?_)))))))))))
        refine J9 (Jf ?_)
        have hmk:(mkP Lk).set jm (xb,JD [.int .i64 (markAt k H.ents[k]).num, .slice y18.1 ls[k].length y18.2, .bool (markAt k H.ents[k]).off] 165)=mkP (Lk.set jm ⟨markAt k ⟨H.ents[k].op,ls[k],H.ents[k].off⟩,xb,y18.1,y18.2⟩):=by rw [G7];rfl
        rw [hmk]
        refine Kf (A:=AllF (Lk.set jm ⟨markAt k ⟨H.ents[k].op,ls[k],H.ents[k].off⟩,xb,y18.1,y18.2⟩) nowF) (fun Z w hs=>G6 (hs.facts _ Mm5) (hs.facts _ Mm4)) (Ja (Lq (JZ O O (wr64 (by omega))) (Lq (Jb O) (Je (Ko ?_)))))
        refine ⟨(k+1,Lk.set jm ⟨markAt k ⟨H.ents[k].op,ls[k],H.ents[k].off⟩,xb,y18.1,y18.2⟩),?_,(.m10 O O O O O O O O O O),(Sk7 (Sr)),(Jl Mm0 Tt7)⟩
        refine ⟨by show ls.length-(k+1)<ls.length-k;omega,?_,(X8 (y:=⟨markAt k ⟨H.ents[k].op,ls[k],H.ents[k].off⟩,xb,y18.1,y18.2⟩) hjm rfl rfl rfl).trans hI.2.1,by show k+1≤ls.length;omega⟩
        rw [setNow_succ _ _ _ hke hk]
        exact hI.1.upd hks hjm (by simp only [hsk]) ⟨H.ents[k].op,ls[k],H.ents[k].off⟩ (by simp only [hsk]) (by have:=Xo hmv _ (List.getElem_mem hk);show ls[k].length≤_;omega) _ _
       ·refine Kr (JR (JR (Kg (Jf ?_))))
        try simp only [Bp,Bq] at *
        refine Jt .z2 (Jt .z2 (Jt .z2 (Jt .z6 (Jt .z6 (Jt .z6 (Jt .z6 (JI _ _ [12] (.c 0 0 (.c 1 0 (.c 2 0 (.c 3 0 (.c 4 0 (.c 5 0 (.c 6 2 (.c 7 0 (.c 8 0 (.c 9 2 (.c 10 0 (.c 11 0 (.c 12 3 .nil))))))))))))) mixed (fun _ _ _ _ h=>h) (Sk7 (Sr)) (fun _ h=>h) (by kernel_rfl) (by decide) fun ws Z0=>Qe O (Jb O) (Qe O (Jh (o':=3) Un40 O ti3 O O) ?_))))))))
        refine Qe O (Jj Un3 O O Jm O) (Qe O (Jh (o':=3) Un40 O ti3 O O) (Qe O (Jj Un3 O O Jm O) (Qe O (Jw (vs:= [_,_,_,_,_,_,_,_,_]) Un40 O JF O (Ji (Ji (Ji (Jm)))) O O) (Js O O (Jo (Yh o A1 c1 (by have:=ho.text;omega)) (.n1 O) (by decide) (Jl Mm6 Jx) fun _ _ _ q9=>?_)))))
        obtain ⟨rfl,rfl,rfl⟩:=q9
        refine ⟨⟨(Sk7 (Sr)),Mm0⟩,?_⟩
        refine Qe rfl (JZ rfl rfl (show IntKind.i64.wrap (td.at_+JC o)=td.at_+JC o from wr64 (by have:=htf.lo;have:=htf.hi;have:=KF o;omega))) (Qe rfl (JV (.n2 rfl rfl) (bd37_0_1Xw18 _ _)) (Js rfl rfl (KP (cs:= [_,_]) Un38 KB (by decide) (by decide) rfl rfl rfl rfl (by decide) fun b114=> ?_)))
        refine ⟨⟨(Sd (Sk7 (Sr))),Mm0⟩,?_⟩
        refine Qe O (JB O) (Qe O (Jh (o':=1) Un165 O Yd O O) (Ve (e:=rgD) (u:=⟨td.at_,td.at_+JC o⟩) .z (fun Z w hs=>O) (JJ (J2 O O (JN Yd O O O .z1 .z1 (JK (J9 (Ko ?_))))))))
        refine ⟨(setNow H.ents ls H.ents.length,Lk,[⟨td.at_,td.at_+JC o⟩],some ⟨b114,0,none⟩,1,{ effF o with at_:=td.at_,text:=o.text },none,0),?_,(.m7 rfl rfl rfl rfl rfl rfl rfl),(Sk7 (Sr)),(Jl Mm6 (Jl Mm0 (Jl Mm2 Tt4)))⟩
        have hkk:k=ls.length:=by have:=hI.2.2;omega
        subst hkk
        refine ⟨by rw [←hlsl];exact hI.1,hI.2.1,?_,setNow_ops _ _ _,by show (1:Nat)≤_;omega⟩
        unfold midF
        rw [if_pos h57,hmv]
    ·refine Jc (Ja (Lq (Ka O O) (Lq (Jd O) (Je (Jf (Jy O (fun h117=> ?_) (fun h117=> ?_)))))))
     ·refine Jc (Kh (k:=0) Mm0 O (op_open _) fun b23 q23 y23 e23=> ?_)
      cases e23
      refine Ja (Lq (Jb O) (Lq (Kc Un44 JF O O (by decide) (by simp)) (Lq (Jh (o':=_+5) Un40 O Yd O O) (Lq (Ks (j:=5) Un38 O O Mm0 O O) (Lq (Jh (o':=5) Un40 O Yd O O) (Jg O (JN Yd O O O .z5 .z (Je (Jf (JL [(13,_),(12,_),(10,_),(7,_),(6,_),(5,_),(0,_),(1,_)] (.m8 O O O O O O O O) (Jt .z4 ?_)))))))))))
      refine Jt .z4 (Jt .z4 (Jt .z6 (Jt .z6 (Jt .z6 (Jt .z6 (Ja (Lq (Jb rfl) (Lq (Jw (vs:= [_,_,_,_,_,_,_,_,_]) Un40 rfl JF rfl Jm rfl rfl) (Jg rfl (Jo (Y1 { effF o with rs:=td.rs } y23.1 y23.2 htf.rs) (.n1 rfl) (by decide) (Jl Mm1 Jx) fun _ _ _ q9=>?_))))))))))
      obtain ⟨A5,c5,rfl,rfl,rfl⟩:=q9
      refine Lq (Yn O (fd31_3Xw18 _ _ _ _ _ _ _ _ _ _ _)) (Lq (JB O) (Lq (Jh (o':=1) Un165 O Yd O O) (Jg O (JN Yd O O O .z1 .z1 (Je (J9 (Ko ?_)))))))
      refine ⟨(H.ents,L,td.rs,A5,c5,{ effF o with rs:=td.rs },y23.1,y23.2),?_,(.m7 rfl rfl rfl rfl rfl rfl rfl),(Sk7 (Sr)),(Jl Mm2 (Jl Mm0 (Jl Mm12 (Jl Mm4 Tt8))))⟩
      try simp only [Bp,Bq] at *
      refine ⟨hr,O,?_,O,htf.rs⟩
      unfold midF
      rw [if_neg h57,if_pos h117]
     ·refine Jc (Ja (Lq (Ka O O) (Lq (Jd O) (Je (Jf (JL [(130,_),(13,_),(12,_),(10,_),(7,_),(6,_),(5,_),(0,_),(1,_)] (.m9 O O O O O O O O O) (Jy O (fun h130=> ?_) (fun h130=> ?_))))))))
      ·try simp only [Bp,Bq] at *
       obtain ⟨kt,hkt⟩:=htgt h130
       refine Ja (Lq (Jb O) (Lq (Jb O) (Lq (Jw (vs:= [_,_,_,_,_,_,_,_,_]) Un40 O JF O (Ji (Ji (Ji (Ji (Ji (Ji (Jm))))))) O O) (Jg O (Ky (H3 h m cap A H L hr i hil o A1 c1 kt hkt) (.n3 O O O) (by decide) .z2 .z2 .z2 (Jl Mm8 (Jl Mm9 Jx)) fun _ _ _ q9=>?_)))))
       obtain ⟨L2,A4,c4,hr2,hk2,rfl,rfl,rfl⟩:=q9
       refine Vb .z2 (Vb .z2 (Vb .z2 (Vb .z6 (Vb .z6 (Vb .z6 (Vb .z6 (Jg O (Jq (cs':= [_,_,_,_,_,_,_,_,_]) (vs:= [_,_,_,_,_,_,_,_,_]) JF O O O O O (Nat.le_of_ble_eq_true O) .z (Je (J9 (Ko ?_)))))))))))
       refine ⟨((turnedF H i o).1,L2,[],none,0,(turnedF H i o).2,A4,c4),?_,(.m7 O O O O O O O),(Sk7 (Sr)),(Jl Mm0 (Jl Mm8 (Jl Mm1 (Jl Mm3 Tt7))))⟩
       refine ⟨hr2,hk2,?_,turned_ops H i o,by show (0:Nat)≤_;omega⟩
       unfold midF
       rw [if_neg h57,if_neg h117,if_pos h130]
      ·try simp only [Bp,Bq] at *
       exfalso
       omega
   ·rintro ⟨es,L1,nw,An,cn,eff,Ae,ce⟩ hM
    refine Jc (JI _ _ [9] (.c 0 0 (.c 1 0 (.c 2 0 (.c 3 0 (.c 4 0 (.c 5 2 (.c 6 0 (.c 7 0 (.c 8 0 (.c 9 3 .nil)))))))))) mixed (fun _ _ _ _ h=>h) (Sk7 (Sr)) (fun _ h=>h) (by kernel_rfl) (by decide) fun ws Z0=>Qe O (Jb O) (Qe O (JB O) (Qe O (Jh (o':=2) Un125 O ti3 O O) (Qe O (Jj Un3 O O (Ji (Ji (Ji (Ji (Jm))))) O) (Qe O (Jw (vs:= [_,_,_,_,_,_,_,_,_]) Un40 O JF O (Ji (Ji (Ji (Jm)))) O O) ?_)))))
    refine Js O O (Jo (Yh o A1 c1 (by have:=ho.text;omega)) (.n1 O) (by decide) (Jl Mm7 Jx) fun _ _ _ q9=>?_)
    obtain ⟨rfl,rfl,rfl⟩:=q9
    refine ⟨⟨(Sk7 (Sr)),Mm0⟩,?_⟩
    refine Qe O (JZ O O (wr64 (by have:=hr.tot;have:=KF o;omega))) (Qe O (JB O) (Qe O (Jh (o':=2) Un125 O ti3 O O) (JJ (J2 O O (JN ti3 O O O .z2 .z4 (JK (Jf (Jc (JI _ _ [8] (.c 0 0 (.c 1 0 (.c 2 0 (.c 3 0 (.c 4 0 (.c 5 0 (.c 6 0 (.c 7 0 (.c 8 3 .nil))))))))) mixed (fun _ _ _ _ h=>h) (Sk5 (Sd (Sk (Sr)))) (fun _ h=>h) (by kernel_rfl) (by decide) fun ws Z0=>Qe O (Jb O) (Qe O (JB O) (Qe O (Jh (o':=1) Un125 O YY O O) ?_)))))))))))
    refine Qe O (Jj Un123 O O (Ji (Ji (Ji (Ji (Jm))))) O) (Qe O (Jh (o':=0) Un40 O KI O O) (Qe O (Jh (o':=0) Un37 O JY O O) (Qe O (Jw (vs:= [_,_]) Un34 O JY O (Ji (Ji (Ji (Jm)))) O O) (Qe O (Jb O) (JJ (J2 O O (HW keyT Un123 O O O (hr.look0 hw0) .z5 (JK (Jf (JL [(0,_),(1,_),(5,_),(6,_),(10,_),(13,_)] (.m6 O O O O O O) (Jc ?_)))))))))))
    obtain ⟨xs,hxs⟩: ∃xs,xs=H.ops.take i:=⟨_,rfl⟩
    have hxl:xs.length=i:=by rw [hxs,List.length_take];omega
    obtain ⟨B2,hB2⟩: ∃B,B=cutA A 0 i 9:=⟨_,rfl⟩
    refine Kf (A:=RdF opD B2 xs.length xs) (fun Z w hs=>by rw [hB2,hxl,hxs];exact RdS.cut (lo:=0) (hi:=i) (m:=i) (hs.facts _ Mm9) (Nat.zero_le _) (by omega) (Nat.le_refl _) (by omega)) (JI _ _ [15] (.c 0 0 (.c 1 0 (.c 2 0 (.c 3 0 (.c 4 0 (.c 5 0 (.c 6 0 (.c 7 0 (.c 8 0 (.c 11 0 (.c 9 2 (.c 10 2 (.c 12 2 (.c 13 0 (.c 14 0 (.c 15 3 .nil)))))))))))))))) mixed (fun _ _ _ _ h=>h) (Sk7 (Sr)) (fun _ h=>h) (by kernel_rfl) (by decide) fun ws Z0=>Qe O (Jb O) (Qe O (Jb O) (Qe O (JB O) (Qe O (Jh (o':=0) Un125 O YV O O) ?_))))
    refine Qe O (Jj Un44 O O (Ji (Ji (Ji (Ji (Jm))))) O) (Qe O (Jb O) (Qe O (Jb O) (Qe O (EX Un44 JF O O O (by omega) (by omega) (by omega)) (Qe O (Jw (vs:= [_,_,_,_,_,_,_,_,_]) Un40 O JF O (Ji (Ji (Ji (Jm)))) O O) (Qe O (Jb O) (Js O O (KP (cs:= [_,_,_,_,_,_,_,_,_]) Un44 JF (by decide) (by decide) O O O O (by decide) fun b162=> ?_)))))))
    refine ⟨⟨(Sd (Sk7 (Sr))),Mm0⟩,?_⟩
    refine Js O O (Ha (e:=opD) (xs:=xs) (news:=opC o A1 c1) Un44 JF O (by decide) (by rw [hB2,hxl];rfl) O Mm1 Jm O O (by omega) (by unfold maxLen;omega) (by decide) fun v163 p163 css163 hr163=> ?_)
    refine ⟨⟨(Sd2 (Sk7 (Sr))),Mm1⟩,?_⟩
    refine Js O O (YE (e:=opD) (ys:=later) Un44 JF O (by decide) O O hr163 Mm8 (by omega) (by unfold maxLen;omega) (by decide) (DelAt.perm .z) fun v165 p165 css165 hr165=> ?_)
    refine ⟨⟨(Sd2 (Sk7 (Sr))),Mm2⟩,?_⟩
    refine Qe O (JB O) (Qe O (Jh (o':=0) Un125 O YV O O) (Jaf (A:=RepsF opD (xs++([o] ++later)) (css163++([opC o A1 c1] ++css165))) (fun Z w hs=>Reps.append (hs.facts _ Mm1) (Reps.append (.n1 ⟨A1,c1,O,hs.facts _ Mm10⟩) (hs.facts _ Mm0))) (HS (e:=opD) (css:=css163++([opC o A1 c1] ++css165)) (xs:=xs++([o] ++later)) (by have h1:=hr165;simp only [List.flatten_append,List.flatten_cons,List.flatten_nil,List.append_nil,List.nil_append,List.append_assoc] at h1 ⊢;exact h1) .z (by simp only [List.length_append,List.length_cons,List.length_nil];omega) Mm0 fun A9 c9 e9=> ?_)))
    subst e9
    refine JJ (J2 O O (JN YV O O O .z .z5 (JK (Jf (JL [(0,_),(1,_),(6,_),(13,_)] (.m4 O O O O) (Jc (Jc (Jt .z7 (Jt .z3 (Jaj ?_))))))))))
    have hglue:mkP L1++ [(b48,JD [.int .i64 i, .slice An nw.length cn, .bool false] 165)] =mkP (L1++ [⟨markAt i ⟨o,nw,false⟩,b48,An,cn⟩]):=by simp [mkP,mrO,markAt]
    rw [hglue]
    refine Kf (A:=AllF (L1++ [⟨markAt i ⟨o,nw,false⟩,b48,An,cn⟩]) nowF) (fun Z w hs x hx=>by rcases List.mem_append.1 hx with hx | hx;exact hs.facts _ Mm10 x hx;obtain rfl:=List.mem_singleton.1 hx;exact hs.facts _ Mm9) ?_
    have hesl:es.length=H.ents.length:=hM.len
    have hsl2:Sames ((es.drop i).map (·.op)) later:=by rw [List.map_drop,hM.ops];exact hsl
    have hwn:J5 es o.c o.n=none:=whereId_ops hM.ops hw0
    obtain ⟨FF,hFF⟩: ∃F,F=newEnts i o nw es later:=⟨_,rfl⟩
    obtain ⟨G,hG⟩: ∃G,G=xs++([o] ++later):=⟨_,rfl⟩
    have hGF:FF.map (·.op)=G:=by rw [hFF,newEnts_ops hsl2,hM.ops,hG,hxs]
    have hGl:G.length=FF.length:=by rw [←hGF,List.length_map]
    have hFl:FF.length=H.ents.length+1:=by rw [hFF,Qr hsl2 (by omega)];omega
    have hstart:=HN.start hM.hr (by simpa using (by omega:i≤es.length)) hsl2 hwn (o:=o) (nw:=nw) b48 An cn
    rw [←hFF] at hstart
    rw [←hG]
    refine Ja (Lq (Jb O) (Lq (Jd O) (Je (Jf (JO (Jt .z3 (Jt .z3 (Jt .z6 (Jt .z6 (Jt .z4 ?_))))))))))
    refine Ki (α:=Nat×List MR) (fun (k,Lk)=>FF.length-k)
     (fun (k,Lk)=> [(0, .pointer (some ⟨h,0,none⟩)),(6, .pointer (some ⟨b6,0,none⟩)),(13, .pointer (some ⟨b13,0,none⟩)),(18, .int .i64 k)])
     (fun (k,Lk)=>(mkP Lk::hdP h A9 G.length c9 m (H.total+JC o):: [(m,mapO (keys L++ [⟨o.c,o.n,b48⟩]))] :: [(b13,JD (opC eff Ae ce) 40)] :: [(b6,JD (opC zeroOp none 0) 40)] ::Ps))
     (fun (k,Lk)=>(AllF Lk nowF::RdF opD A9 c9 G::RdF rgD Ae ce eff.rs::barF::RdF opD A cap H.ops::AllF L nowF::RdF rgD Ao co o.rs::As))
     (fun (k,Lk)=>k≤FF.length∧HN FF Lk (numF i k)∧keys Lk=keys L++ [⟨o.c,o.n,b48⟩])
     (i,L1++ [⟨markAt i ⟨o,nw,false⟩,b48,An,cn⟩]) ?_ (.m4 rfl rfl rfl rfl) (Sk5 (Sd2 (Sr))) (Jl Mm0 (Jl Mm1 (Jl Mm9 Tt15))) ?_
    ·exact ⟨by omega,hstart,by unfold keys;rw [List.map_append];show Go.Proofs.YthkkklphanidjaaGreatDoor.keys L1++_=_;rw [show Go.Proofs.YthkkklphanidjaaGreatDoor.keys L1=keys L from hM.keys];rfl⟩
    ·rintro ⟨k,Lk⟩ hI
     have hkF:k≤FF.length:=hI.1
     refine Jc (Jc (Ja (Lq (Jb O) (Lq (Jb O) (Lq (JB O) (Lq (Jh (o':=0) Un125 O YV O O) (Lq (Jj Un44 O O (Ji (Jm)) O) (Lq (J7 Un44 O) (Lq (Ku O O) (Je (Jf (Jy O (fun h175=> ?_) (fun h175=> ?_)))))))))))))
     ·refine Jp (Jf (Jc (JO ?_)))
      try simp only [Bp,Bq] at *
      have hk:k<FF.length:=by omega
      have hko:k<G.length:=by omega
      have hop:G[k] =FF[k].op:=by simp only [←hGF,List.getElem_map]
      refine Kh (k:=k) Mm1 (List.getElem?_eq_getElem hko) (op_open _) fun bo qo yo eo=> ?_
      cases eo
      obtain ⟨jm,xm,hjm,hxm,hgm⟩:=hI.2.1.look hk
      obtain ⟨xk,xb,xA,xc⟩:=xm
      obtain rfl:xk=markAt (numF i k k) FF[k] :=hxm
      rw [←hop,hI.2.2] at hgm
      refine JI _ _ [17] (.c 0 0 (.c 1 0 (.c 2 0 (.c 3 0 (.c 4 0 (.c 5 0 (.c 6 0 (.c 7 0 (.c 8 0 (.c 9 0 (.c 10 0 (.c 11 0 (.c 12 0 (.c 13 0 (.c 14 0 (.c 15 0 (.c 16 0 (.c 17 3 .nil)))))))))))))))))) mixed (fun _ _ _ _ h=>h) (Sd (Sk4 (Sr))) (fun _ h=>h) (by kernel_rfl) (by decide) fun ws Z0=>Qe O (Jb O) (Qe O (JB O) (Qe O (Jh (o':=1) Un125 O YY O O) (Qe O (Jj Un123 O O Jm O) (Qe O (Jb O) (Qe O (JB O) (Qe O (Jh (o':=0) Un125 O YV O O) (Qe O (Jj Un44 O O Jm O) (Qe O (Jb O) ?_))))))))
      refine Qe O (Kc Un44 JF O O (by omega) (by omega)) (Qe O (Jh (o':=_+0) Un40 O KI O O) (Qe O (Jh (o':=_+0) Un37 O JY O O) (Qe O (Kq (k:=0) (vs:= [_,_]) Un34 O JY O Mm0 O O O) (Qe O (YN keyT hgm Un123 Y3 O O (Ji (Jm))) (Qe O (Jb O) (Qe O (JB O) (Qe O (Jh (o':=0) Un165 O ti3 O O) (JJ (J2 O O (Xg (i:=jm) ti3 O O O (XH hjm) .z .z (JK ?_)))))))))))
      refine J9 (Jf ?_)
      have hmk:(mkP Lk).set jm (xb,JD [.int .i64 (k:Int), .slice xA (markAt (numF i k k) FF[k]).now.length xc, .bool (markAt (numF i k k) FF[k]).off] 165)=mkP (Lk.set jm ⟨markAt k FF[k],xb,xA,xc⟩):=by rw [G7];rfl
      rw [hmk]
      refine Kf (A:=AllF (Lk.set jm ⟨markAt k FF[k],xb,xA,xc⟩) nowF) (fun Z w hs=>G6 (hs.facts _ Mm3) (hs.facts _ Mm3 ⟨markAt (numF i k k) FF[k],xb,xA,xc⟩ (List.mem_of_getElem? hjm))) (Ja (Lq (Jb O) (Lq (JZ O O (wr64 (by omega))) (Lq (Jd O) (Je (Ko ?_))))))
      refine ⟨(k+1,Lk.set jm ⟨markAt k FF[k],xb,xA,xc⟩),?_,(.m4 O O O O),(Sk5 (Sr)),(Jl Mm0 Tt5)⟩
      exact ⟨by show FF.length-(k+1)<FF.length-k;omega,by show k+1≤FF.length;omega,(hI.2.1.upd hk hjm rfl).next,(X8 (y:=⟨markAt k FF[k],xb,xA,xc⟩) hjm rfl rfl rfl).trans hI.2.2⟩
     ·refine Kr (JR (JR (Kg (Jf (Jc (Ja (Lq (Jw (vs:= [_,_,_,_,_,_,_,_,_]) Un40 O JF O (Ji (Ji (Ji (Jm)))) O O) (Jg O (Jq (cs':= [_,_,_,_,_,_,_,_,_]) (vs:= [_,_,_,_,_,_,_,_,_]) JF O O O O O (Nat.le_of_ble_eq_true O) .z4 (Lq (Jd O) (Je (Jf (Jn ?_)))))))))))))
      refine ⟨_,[_,_,_],[_,_,_],fun Z w hs=>JS hs Un40 O JF O (Ji (Ji (Ji (Ji (Jm))))) O (.tmp O .nil),?_,fun Z w hs=>(((hs.pick .z).pick .z2).pick .z2).out (Sk3 (Sd2 (Sr))) (Jl Mm2 (Jl Mm1 (Jl Mm0 Tt3)))⟩
      try simp only [Bp,Bq] at *
      have hkl: ¬k<FF.length:=by omega
      have hF:=put_4 h24 hX htd hM.mid
      rw [Int.toNat_natCast,←hlater,←hFF] at hF
      have hRR:HR ⟨FF,H.total+JC o⟩ Lk:=by
       have hn:=hI.2.1
       rw [hFF] at hn hkl ⊢
       exact HR.put hM hsl2 hfl ho hwid hlt htot hil hn hkl
      have hGG:(⟨FF,H.total+JC o⟩:Hist).ops=G:=hGF
      have hkeys: [(m,mapO (keys L++ [⟨o.c,o.n,b48⟩]))] =mpP m Lk:=by unfold mpP;rw [hI.2.2]
      refine ⟨Lk,A9,c9,Ae,ce,by rw [hF];exact hRR,by rw [hF];rfl,?_,?_⟩
      ·rw [hF];simp only [hGG,hkeys]
      ·rw [hF];simp only [hGG]
def SmIn (s:Sm):Prop:=(0≤s.tot∧s.tot≤4611686018427387903)∧(0≤s.lv∧s.lv≤4611686018427387903)∧(0≤s.am∧s.am≤4611686018427387903)
theorem HM (x:Int):Sp Tryz.prog 138 [.int .i64 x] [] [] (Is (.int .i64 (if x<0 then 30 else if x>1048576 then 31 else 0))):=by
 refine Sp.of (n:=7) ⟨_,Tryz.func138,O,O,O,O⟩ (Nat.le_of_ble_eq_true O) fun Ps As=>Jc (Ja (Lq (Jd O) (Je (Jf (Jc (Jc (Ja (Lq (Jb O) (Lq (Ku O O) (Je (Jf (Jy O (fun h4=> ?_) (fun h4=> ?_)))))))))))))
 ·refine Jc (Ja (Lq (Jd O) (Je (Jf (Jn (Jr ?_))))))
  refine ⟨_,[],[],fun Z w hs=> .tmp O .nil,?_,fun Z w hs=>hs.out (Sr) (fun _ h=>h)⟩
  try simp only [Bp,Bq] at *
  exact ⟨congrArg (Value.int .i64) (by repeat' split;all_goals first | rfl | omega),rfl,rfl⟩
 ·refine Jp (Jf (Jc (Jc (Ja (Lq (Jb O) (Lq (Ke O O) (Je (Jf (Jy O (fun h6=> ?_) (fun h6=> ?_))))))))))
  ·refine Jc (Ja (Lq (Jd O) (Je (Jf (Jn (Jr ?_))))))
   refine ⟨_,[],[],fun Z w hs=> .tmp O .nil,?_,fun Z w hs=>hs.out (Sr) (fun _ h=>h)⟩
   try simp only [Bp,Bq] at *
   exact ⟨congrArg (Value.int .i64) (by repeat' split;all_goals first | rfl | omega),rfl,rfl⟩
  ·refine Jp (Jf (Jc (Ja (Lq (Jd O) (Je (Jf (Jn ?_)))))))
   refine ⟨_,[],[],fun Z w hs=> .tmp O .nil,?_,fun Z w hs=>hs.out (Sr) (fun _ h=>h)⟩
   try simp only [Bp,Bq] at *
   exact ⟨congrArg (Value.int .i64) (by repeat' split;all_goals first | rfl | omega),rfl,rfl⟩
theorem bd112Xw21 (w:World):(Instr.build 138 #[]).run Tryz.prog w= .ok (.agg #[.int .i64 0, .int .i64 0, .int .i64 0, .int .i64 0, .int .i64 0, .int .i64 0]) w:=by kernel_rfl
theorem all_1:Sp Tryz.prog 77 [.pointer none] [] [TrF none .nil] (Is (smV (allF .nil))):=by
 refine Sp.of (n:=10) ⟨_,Tryz.func77,O,O,O,O⟩ (Nat.le_of_ble_eq_true O) fun Ps As=>Jc (Ja (Jg O (Jv (cs:= [_,_,_,_,_,_]) Kz O (by decide) fun b2=>Je (Jf (Jc (Jc (Ja (Lq (Jb O) (Lq (KK Un126 O O (by simp)) (Je (Jf (JQ O O (Jc (Ja (Lq (JV .nil (bd112Xw21)) (Jg O (Jq (cs':= [_,_,_,_,_,_]) (vs:= [_,_,_,_,_,_]) Kz O O O O O (Nat.le_of_ble_eq_true O) .z (Je (Jf (Jn (Jr ?_)))))))))))))))))))))
 refine ⟨_,[],[],fun Z w hs=>JS hs Un138 O Kz O Jm O .nil,?_,fun Z w hs=>hs.out (Sd (Sr)) (fun _ h=>h)⟩
 exact ⟨O,O,O⟩
theorem all_2 (A:Option Addr) (s:Sm) (l r:Tr) (rs:List Int) (hid plus:Int):Sp Tryz.prog 77 [.pointer A] [] [TrF A (.nd s l rs hid r plus)] (Is (smV s)):=by
 refine Sp.of (n:=10) ⟨_,Tryz.func77,O,O,O,O⟩ (Nat.le_of_ble_eq_true O) fun Ps As=>Ei Mm0 fun b Al Ar Ac cc e=> ?_
 cases e
 refine Jc (Ja (Jg O (Jv (cs:= [_,_,_,_,_,_]) Kz O (by decide) fun b2=>Je (Jf (Jc (Jc (Ja (Lq (Jb O) (Lq (KK Un126 O O (by simp)) (Je (Jf (Jz O O (Jp (Jf (Jc (Ja (Lq (Jb O) (Lq (JB O) (Lq (Jh (o':=_+0) Un188 O Kz O O) (Lq (Kq (k:=0) (vs:= [_,_,_,_,_,_]) Un138 O Kz O Mm0 O O O) ?_))))))))))))))))))))
 refine Jg O (Jq (cs':= [_,_,_,_,_,_]) (vs:= [_,_,_,_,_,_]) Kz O O O O O (Nat.le_of_ble_eq_true O) .z (Je (Jf (Jn ?_))))
 refine ⟨_,[],[],fun Z w hs=>JS hs Un138 O Kz O Jm O .nil,?_,fun Z w hs=>hs.out (Sd (Sr)) Tt4⟩
 exact ⟨O,O,O⟩
theorem YD (A:Option Addr) (t:Tr):Sp Tryz.prog 77 [.pointer A] [] [TrF A t] (Is (smV (allF t))):=by
 cases t with
 | nil=>
  refine ⟨all_1.enters,fun Z w Ps As hs=> ?_⟩
  obtain rfl:A=none:=hs.facts _ (by simp:TrF A .nil∈ [TrF A .nil] ++As)
  exact all_1.calls Z w Ps As hs
 | nd s l rs hid r plus=>exact all_2 A s l r rs hid plus
theorem bd112_0_1_3_5Xw21 (x0_:Int) (x1_:Int) (x3_:Int) (x5_:Int) (w:World):(Instr.build 138 #[(0, .int .i64 x0_),(1, .int .i64 x1_),(3, .int .i64 x3_),(5, .int .i64 x5_)]).run Tryz.prog w= .ok (.agg #[.int .i64 x0_, .int .i64 x1_, .int .i64 0, .int .i64 x3_, .int .i64 0, .int .i64 x5_]) w:=by kernel_rfl
theorem XK (s t:Sm) (hs:SmIn s) (ht:SmIn t):Sp Tryz.prog 157 [smV s,smV t] [] [] (Is (smV (withF s t))):=by
 obtain ⟨⟨a1,a2⟩,⟨a3,a4⟩,a5,a6⟩:=hs
 obtain ⟨⟨b1,b2⟩,⟨b3,b4⟩,b5,b6⟩:=ht
 refine Sp.of (n:=58) ⟨_,Tryz.func157,O,O,O,O⟩ (Nat.le_of_ble_eq_true O) fun Ps As=>Jc (Ja (Jg O (J1 (cs:= [_,_,_,_,_,_]) O O (by decide) fun b2=>Jg O (J1 (cs:= [_,_,_,_,_,_]) O O (by decide) fun b3=>Jg O (Jv (cs:= [_,_,_,_,_,_]) Kz O (by decide) fun b4=>Je (Jf (Jc (Jc (Ja (Lq (Jh (o':=0) Un138 O ti3 O O) (Lq (Jj Un3 O O (Ji (Jm)) O) (Lq (Ka O O) (Je (Jf ?_))))))))))))))
 refine Jy O (fun h8=> ?_) (fun h8=> ?_)
 ·refine Jc (Ja (Lq (Jw (vs:= [_,_,_,_,_,_]) Un138 O Kz O (Ji (Ji (Jm))) O O) (Jg O (Jq (cs':= [_,_,_,_,_,_]) (vs:= [_,_,_,_,_,_]) Kz O O O O O (Nat.le_of_ble_eq_true O) .z (Je (Jf (Jn (Jr ?_))))))))
  refine ⟨_,[],[],fun Z w hs=>JS hs Un138 O Kz O Jm O .nil,?_,fun Z w hs=>hs.out (Sd3 (Sr)) (fun _ h=>h)⟩
  try simp only [Bp,Bq] at *
  exact ⟨by unfold withF;rw [if_pos h8];rfl,O,O⟩
 ·refine Jp (Jf (Jc (Jc (Ja (Lq (Jh (o':=0) Un138 O ti3 O O) (Lq (Jj Un3 O O (Ji (Ji (Jm))) O) (Lq (Ka O O) (Je (Jf (Jy O (fun h12=> ?_) (fun h12=> ?_)))))))))))
  ·refine Jc (Ja (Lq (Jw (vs:= [_,_,_,_,_,_]) Un138 O Kz O (Ji (Jm)) O O) (Jg O (Jq (cs':= [_,_,_,_,_,_]) (vs:= [_,_,_,_,_,_]) Kz O O O O O (Nat.le_of_ble_eq_true O) .z (Je (Jf (Jn (Jr ?_))))))))
   refine ⟨_,[],[],fun Z w hs=>JS hs Un138 O Kz O Jm O .nil,?_,fun Z w hs=>hs.out (Sd3 (Sr)) (fun _ h=>h)⟩
   try simp only [Bp,Bq] at *
   exact ⟨by unfold withF;rw [if_neg h8,if_pos h12];rfl,O,O⟩
  ·refine Jp (Jf (Jc (Ja (Lq (Jh (o':=0) Un138 O ti3 O O) (Lq (Jj Un3 O O (Ji (Ji (Jm))) O) (Lq (Jh (o':=0) Un138 O ti3 O O) (Lq (Jj Un3 O O (Ji (Jm)) O) (Lq (JZ O O (wr64 (by omega))) (Lq (Jh (o':=1) Un138 O ti3 O O) (Lq (Jj Un3 O O (Ji (Ji (Jm))) O) (Lq (Jh (o':=1) Un138 O ti3 O O) (Lq (Jj Un3 O O (Ji (Jm)) O) ?_))))))))))))
   refine Lq (JZ O O (wr64 (by omega))) (Lq (Jh (o':=3) Un138 O ti3 O O) (Lq (Jj Un3 O O (Ji (Ji (Jm))) O) (Lq (Jh (o':=3) Un138 O ti3 O O) (Lq (Jj Un3 O O (Ji (Jm)) O) (Lq (XY O O) (Lq (Jh (o':=5) Un138 O ti3 O O) (Lq (Jj Un3 O O (Ji (Ji (Jm))) O) (Lq (Jh (o':=5) Un138 O ti3 O O) (Lq (Jj Un3 O O (Ji (Jm)) O) ?_)))))))))
   refine Lq (VM O O) (Lq (JV (.n4 O O O O) (bd112_0_1_3_5Xw21 _ _ _ _)) (Jg O (Jv (cs:= [_,_,_,_,_,_]) Kz O (by decide) fun b5=>Jg O (Jq (cs':= [_,_,_,_,_,_]) (vs:= [_,_,_,_,_,_]) Kz O O O O O (Nat.le_of_ble_eq_true O) .z (Je (Jf (JL [(5,_),(4,_),(3,_),(2,_)] (.m4 O O O O) (Jc (Jc (Ja (Lq (Jh (o':=3) Un138 O ti3 O O) (Lq (Jj Un3 O O (Ji (Ji (Ji (Jm)))) O) (Lq (Jh (o':=3) Un138 O ti3 O O) ?_)))))))))))))
   refine Lq (Jj Un3 O O Jm O) (Lq (Ka O O) (Je (Jf (Jy O (fun h39=> ?_) (fun h39=> ?_)))))
   ·refine Ja (Lq (Jh (o':=4) Un138 O ti3 O O) (Lq (Jj Un3 O O Jm O) (Lq (Jh (o':=4) Un138 O ti3 O O) (Lq (Jj Un3 O O (Ji (Ji (Ji (Jm)))) O) (Lq (JZ O O (wr64 (by omega))) (Lq (Jh (o':=4) Un138 O ti3 O O) (Jg O (JN ti3 O O O .z4 .z (Je (Jf (JL [(5,_),(4,_),(3,_)] (.m3 O O O) ?_)))))))))))
    refine Jc (Jc (Ja (Lq (Jh (o':=3) Un138 O ti3 O O) (Lq (Jj Un3 O O (Ji (Ji (Jm))) O) (Lq (Jh (o':=3) Un138 O ti3 O O) (Lq (Jj Un3 O O Jm O) (Lq (Ka O O) (Je (Jf (Jy O (fun h50=> ?_) (fun h50=> ?_)))))))))))
    ·refine Ja (Lq (Jh (o':=4) Un138 O ti3 O O) (Lq (Jj Un3 O O Jm O) (Lq (Jh (o':=4) Un138 O ti3 O O) (Lq (Jj Un3 O O (Ji (Ji (Jm))) O) (Lq (JZ O O (wr64 (by omega))) (Lq (Jh (o':=4) Un138 O ti3 O O) (Jg O (JN ti3 O O O .z4 .z (Je (Jf (JL [(5,_),(4,_)] (.m2 O O) ?_)))))))))))
     refine Jc (Ja (Lq (Jw (vs:= [_,_,_,_,_,_]) Un138 O Kz O Jm O O) (Jg O (Jq (cs':= [_,_,_,_,_,_]) (vs:= [_,_,_,_,_,_]) Kz O O O O O (Nat.le_of_ble_eq_true O) .z1 (Je (Jf (Jn ?_)))))))
     refine ⟨_,[],[],fun Z w hs=>JS hs Un138 O Kz O (Ji (Jm)) O .nil,?_,fun Z w hs=>hs.out (Sd4 (Sr)) (fun _ h=>h)⟩
     try simp only [Bp,Bq] at *
     refine ⟨?_,O,O⟩
     unfold withF
     rw [if_neg h8,if_neg h12]
     first
      | rw [if_pos h39,if_pos h50]
      | rw [if_pos h39,if_neg h50]
      | rw [if_neg h39,if_pos h50]
      | rw [if_neg h39,if_neg h50]
     simp only [tup,smV,smC,Int.zero_add,Int.add_zero]
    ·refine Jp (Jf (Jc (Ja (Lq (Jw (vs:= [_,_,_,_,_,_]) Un138 O Kz O Jm O O) (Jg O (Jq (cs':= [_,_,_,_,_,_]) (vs:= [_,_,_,_,_,_]) Kz O O O O O (Nat.le_of_ble_eq_true O) .z1 (Je (Jf (Jn ?_)))))))))
     refine ⟨_,[],[],fun Z w hs=>JS hs Un138 O Kz O (Ji (Jm)) O .nil,?_,fun Z w hs=>hs.out (Sd4 (Sr)) (fun _ h=>h)⟩
     try simp only [Bp,Bq] at *
     refine ⟨?_,O,O⟩
     unfold withF
     rw [if_neg h8,if_neg h12]
     first
      | rw [if_pos h39,if_pos h50]
      | rw [if_pos h39,if_neg h50]
      | rw [if_neg h39,if_pos h50]
      | rw [if_neg h39,if_neg h50]
     simp only [tup,smV,smC,Int.zero_add,Int.add_zero]
   ·refine Jp (Jf (Jc (Jc (Ja (Lq (Jh (o':=3) Un138 O ti3 O O) (Lq (Jj Un3 O O (Ji (Ji (Jm))) O) (Lq (Jh (o':=3) Un138 O ti3 O O) (Lq (Jj Un3 O O Jm O) (Lq (Ka O O) (Je (Jf (JL [(50,_),(5,_),(4,_),(3,_)] (.m4 O O O O) (Jy O (fun h50=> ?_) (fun h50=> ?_))))))))))))))
    ·refine Ja (Lq (Jh (o':=4) Un138 O ti3 O O) (Lq (Jj Un3 O O Jm O) (Lq (Jh (o':=4) Un138 O ti3 O O) (Lq (Jj Un3 O O (Ji (Ji (Jm))) O) (Lq (JZ O O (wr64 (by omega))) (Lq (Jh (o':=4) Un138 O ti3 O O) (Jg O (JN ti3 O O O .z4 .z (Je (Jf (Jc (Ja (Lq (Jw (vs:= [_,_,_,_,_,_]) Un138 O Kz O Jm O O) ?_)))))))))))))
     refine Jg O (Jq (cs':= [_,_,_,_,_,_]) (vs:= [_,_,_,_,_,_]) Kz O O O O O (Nat.le_of_ble_eq_true O) .z1 (Je (Jf (Jn ?_))))
     refine ⟨_,[],[],fun Z w hs=>JS hs Un138 O Kz O (Ji (Jm)) O .nil,?_,fun Z w hs=>hs.out (Sd4 (Sr)) (fun _ h=>h)⟩
     try simp only [Bp,Bq] at *
     refine ⟨?_,O,O⟩
     unfold withF
     rw [if_neg h8,if_neg h12]
     first
      | rw [if_pos h39,if_pos h50]
      | rw [if_pos h39,if_neg h50]
      | rw [if_neg h39,if_pos h50]
      | rw [if_neg h39,if_neg h50]
     simp only [tup,smV,smC,Int.zero_add,Int.add_zero]
    ·refine Jp (Jf (Jc (Ja (Lq (Jw (vs:= [_,_,_,_,_,_]) Un138 O Kz O Jm O O) (Jg O (Jq (cs':= [_,_,_,_,_,_]) (vs:= [_,_,_,_,_,_]) Kz O O O O O (Nat.le_of_ble_eq_true O) .z1 (Je (Jf (Jn ?_)))))))))
     refine ⟨_,[],[],fun Z w hs=>JS hs Un138 O Kz O (Ji (Jm)) O .nil,?_,fun Z w hs=>hs.out (Sd4 (Sr)) (fun _ h=>h)⟩
     try simp only [Bp,Bq] at *
     refine ⟨?_,O,O⟩
     unfold withF
     rw [if_neg h8,if_neg h12]
     first
      | rw [if_pos h39,if_pos h50]
      | rw [if_pos h39,if_neg h50]
      | rw [if_neg h39,if_pos h50]
      | rw [if_neg h39,if_neg h50]
     simp only [tup,smV,smC,Int.zero_add,Int.add_zero]
theorem Zr (s:Sm) (x:Int) (h:(-4611686018427387904≤s.mn∧s.mn≤4611686018427387903)∧(-4611686018427387904≤s.mx∧s.mx≤4611686018427387903)∧(-4611686018427387904≤x∧x≤4611686018427387903)):Sp Tryz.prog 126 [smV s, .int .i64 x] [] [] (Is (smV (liftedF s x))):=by
 refine Sp.of (n:=16) ⟨_,Tryz.func126,O,O,O,O⟩ (Nat.le_of_ble_eq_true O) fun Ps As=>Jc (Ja (Jg O (J1 (cs:= [_,_,_,_,_,_]) O O (by decide) fun b2=>Jg O (Jv (cs:= [_,_,_,_,_,_]) Kz O (by decide) fun b4=>Je (Jf (Jc (Ja (Lq (Jh (o':=3) Un138 O ti3 O O) (Lq (Jj Un3 O O (Ji (Jm)) O) (Lq (Jb O) (Lq (JZ O O (wr64 (by omega))) (Lq (Jh (o':=3) Un138 O ti3 O O) ?_))))))))))))
 refine Jg O (JN ti3 O O O .z3 .z1 (Je (Jf (Jc (Ja (Lq (Jh (o':=5) Un138 O ti3 O O) (Lq (Jj Un3 O O (Ji (Jm)) O) (Lq (Jb O) (Lq (JZ O O (wr64 (by omega))) (Lq (Jh (o':=5) Un138 O ti3 O O) (Jg O (JN ti3 O O O .z5 .z1 (Je (Jf (JL [(4,_),(2,_)] (.m2 O O) ?_)))))))))))))))
 refine Jc (Ja (Lq (Jw (vs:= [_,_,_,_,_,_]) Un138 O Kz O (Ji (Jm)) O O) (Jg O (Jq (cs':= [_,_,_,_,_,_]) (vs:= [_,_,_,_,_,_]) Kz O O O O O (Nat.le_of_ble_eq_true O) .z (Je (Jf (Jn ?_)))))))
 refine ⟨_,[],[],fun Z w hs=>JS hs Un138 O Kz O Jm O .nil,?_,fun Z w hs=>hs.out (Sd2 (Sr)) (fun _ h=>h)⟩
 exact ⟨O,O,O⟩
structure Sm40 (s:Sm):Prop where
 tot:0≤s.tot∧s.tot≤1099511627776
 lv:0≤s.lv∧s.lv≤1099511627776
 ht:0≤s.ht∧s.ht≤1099511627776
 am:0≤s.am∧s.am≤1099511627776
theorem Sm40.sm {s:Sm} (h:Sm40 s):SmIn s:=⟨⟨h.tot.1,by have:=h.tot;omega⟩,⟨h.lv.1,by have:=h.lv;omega⟩,⟨h.am.1,by have:=h.am;omega⟩⟩
theorem smIn_with {a b:Sm} (ha:Sm40 a) (hb:Sm40 b):SmIn (withF a b):=by
 have h1:=ha.tot;have h2:=ha.lv;have h3:=ha.am
 have g1:=hb.tot;have g2:=hb.lv;have g3:=hb.am
 unfold withF
 split
 ·exact ha.sm
 ·split
  ·exact hb.sm
  ·refine ⟨by simp only;omega,by simp only;omega,?_⟩
   simp only
   split<;>split<;>omega
def NodeP (t:Tr):Value→List Part→List Fact→Prop:=fun v Lo fs=> ∃A:Option Addr,v= .pointer A∧Lo= [] ∧fs= [TrF A t]
theorem bd112_0_1_3_4_5Xw22 (x0_:Int) (x1_:Int) (x3_:Int) (x4_:Int) (x5_:Int) (w:World):(Instr.build 138 #[(0, .int .i64 x0_),(1, .int .i64 x1_),(3, .int .i64 x3_),(4, .int .i64 x4_),(5, .int .i64 x5_)]).run Tryz.prog w= .ok (.agg #[.int .i64 x0_, .int .i64 x1_, .int .i64 0, .int .i64 x3_, .int .i64 x4_, .int .i64 x5_]) w:=by kernel_rfl
theorem bd150_0_1_2_3Xw22 (x0_0:Int) (x0_1:Int) (x0_2:Int) (x0_3:Int) (x0_4:Int) (x0_5:Int) (x1_:Option Addr) (x2_:Option Addr) (x3_0A:Option Addr) (x3_0n x3_0c:Nat) (x3_1:Int) (w:World):(Instr.build 188 #[(0, .agg #[.int .i64 x0_0, .int .i64 x0_1, .int .i64 x0_2, .int .i64 x0_3, .int .i64 x0_4, .int .i64 x0_5]),(1, .pointer x1_),(2, .pointer x2_),(3, .agg #[.slice x3_0A x3_0n x3_0c, .int .i64 x3_1])]).run Tryz.prog w= .ok (.agg #[.int .i64 x0_0, .int .i64 x0_1, .int .i64 x0_2, .int .i64 x0_3, .int .i64 x0_4, .int .i64 x0_5, .pointer x1_, .pointer x2_, .slice x3_0A x3_0n x3_0c, .int .i64 x3_1, .int .i64 0]) w:=by kernel_rfl
theorem Jay (Al Ar Ac:Option Addr) (c:Nat) (l r:Tr) (rs:List Int) (hid:Int) (hl:Sm40 (allF l)) (hr:Sm40 (allF r)) (hn:rs.length≤1099511627776):Sp Tryz.prog 155 [.pointer Al,pcV rs hid Ac c, .pointer Ar] [] [TrF Al l,TrF Ar r,RdF runeD Ac c rs] (NodeP (knotF l rs hid r)):=by
 refine Sp.of (n:=42) ⟨_,Tryz.func155,O,O,O,O⟩ (Nat.le_of_ble_eq_true O) fun Ps As=>Jc (Ja (Jg O (J1 (cs:= [_,_]) O O (by decide) fun b4=>Lq (Jd O) (Je (Jf (Jc (Ja (Lq (Jb O) (Jg O (Jo (YD Al l) (.n1 O) (by decide) (Jl Mm0 Jx) fun _ _ _ q9=>?_))))))))))
 obtain ⟨rfl,rfl,rfl⟩:=q9
 refine Lq (Jb O) (Jg O (Jo (YD Ar r) (.n1 O) (by decide) (Jl Mm1 Jx) fun _ _ _ q9=>?_))
 obtain ⟨rfl,rfl,rfl⟩:=q9
 refine Jg O (Jv (cs:= [_,_,_,_,_,_]) Kz O (by decide) fun b7=>Jg O (Jv (cs:= [_,_,_,_,_,_]) Kz O (by decide) fun b8=>Jg O (Jq (cs':= [_,_,_,_,_,_]) (vs:= [_,_,_,_,_,_]) Kz O O O O O (Nat.le_of_ble_eq_true O) .z1 (Jg O (Jq (cs':= [_,_,_,_,_,_]) (vs:= [_,_,_,_,_,_]) Kz O O O O O (Nat.le_of_ble_eq_true O) .z (Je (Jf (Jc ?_))))))))
 refine JI _ _ [16] (.c 0 0 (.c 1 0 (.c 2 0 (.c 3 0 (.c 4 0 (.c 5 0 (.c 6 0 (.c 7 0 (.c 8 0 (.c 9 0 (.c 10 0 (.c 11 0 (.c 13 0 (.b (.c 12 2 (.b (.c 14 2 (.c 15 2 (.c 16 3 .nil))) (.c 15 2 (.c 14 2 (.c 16 3 .nil))))) (.c 15 2 (.c 12 2 (.c 14 2 (.c 16 3 .nil)))))))))))))))))) mixed (fun _ _ _ _ h=>h) (Sk3 (Sr)) (fun _ h=>h) (by kernel_rfl) (by decide) fun ws Z0=>Qe O (Jw (vs:= [_,_,_,_,_,_]) Un138 O Kz O (Ji (Jm)) O O) (Qe O (Jh (o':=0) Un134 O Yb O O) (Qe O (Jj Un132 O O (Ji (Ji (Jm))) O) (Qe O (J7 Un132 O) (Qe O (Jh (o':=1) Un134 O ti3 O O) (Qe O (Jj Un3 O O (Ji (Ji (Jm))) O) ?_)))))
 refine Qe O (Jh (o':=0) Un134 O Yb O O) (Qe O (Jj Un132 O O (Ji (Ji (Jm))) O) (Qe O (J7 Un132 O) (Qe O (Jh (o':=1) Un134 O ti3 O O) (Qe O (Jj Un3 O O (Ji (Ji (Jm))) O) (Qe O (JV (.n5 O O O O O) (bd112_0_1_3_4_5Xw22 _ _ _ _ _)) (Qe O (Jw (vs:= [_,_,_,_,_,_]) Un138 O Kz O Jm O O) (KN ?_ ?_)))))))
 ·refine Js O O (Jo (XK (allF l) ⟨rs.length,1,0,hid,rs.length,hid⟩ hl.sm ⟨by simp only;omega,by simp only;omega,by simp only;omega⟩) (.n2 O O) (by decide) Jx fun _ _ _ q9=>?_)
  obtain ⟨rfl,rfl,rfl⟩:=q9
  refine ⟨⟨(Sk3 (Sr)),Mm0⟩,?_⟩
  refine KN ?_ ?_
  ·refine Js O O (Jo (XK (withF (allF l) ⟨rs.length,1,0,hid,rs.length,hid⟩) (allF r) (smIn_with hl ⟨by simp only;omega,by simp only;omega,by simp only;omega,by simp only;omega⟩) hr.sm) (.n2 O O) (by decide) Jx fun _ _ _ q9=>?_)
   obtain ⟨rfl,rfl,rfl⟩:=q9
   refine ⟨⟨(Sk3 (Sr)),Mm0⟩,?_⟩
   refine Js O O (Jv (cs:= [_,_,_,_,_,_]) Kz O (by decide) fun b9=> ?_)
   refine ⟨⟨(Sd (Sk3 (Sr))),Mm0⟩,?_⟩
   refine JJ (J2 O O (Jq (cs':= [_,_,_,_,_,_]) (vs:= [_,_,_,_,_,_]) Kz O O O O O (Nat.le_of_ble_eq_true O) .z (JK (Jf (JL [(9,_),(8,_),(7,_),(6,_),(4,_),(0,_),(2,_)] (.m7 O O O O O O O) (Jc (Ja (Lq (Jh (o':=2) Un138 O ti3 O O) (Lq (Jj Un3 O O (Ji (Ji (Jm))) O) (Lq (Jh (o':=2) Un138 O ti3 O O) (Lq (Jj Un3 O O (Ji (Jm)) O) (Lq (VM O O) ?_))))))))))))
   refine Lq (JZ O O (wr64 (by have:=hl.ht;have:=hr.ht;omega))) (Lq (Jh (o':=2) Un138 O ti3 O O) (Jg O (JN ti3 O O O .z2 .z (Je (Jf (JL [(9,_),(6,_),(4,_),(0,_),(2,_)] (.m5 O O O O O) (Jc (Ja (Lq (Jw (vs:= [_,_,_,_,_,_]) Un138 O Kz O Jm O O) (Lq (Jb O) (Lq (Jb O) (Lq (Jw (vs:= [_,_]) Un134 O J3 O (Ji (Ji (Ji (Jm)))) O O) ?_))))))))))))
   refine Lq (JV (.n4 rfl rfl rfl rfl) (bd150_0_1_2_3Xw22 _ _ _ _ _ _ _ _ _ _ _ _)) (Jg rfl (J1 (cs:=ndC ({ withF (withF (allF l) ⟨rs.length,1,0,hid,rs.length,hid⟩) (allF r) with ht:=1+max (allF l).ht (allF r).ht }) Al Ar Ac rs c hid 0) rfl rfl (by decide) fun b41=>Vc (lt:=l) (rt:=r) .z Mm1 Mm2 Mm3 (Lq (Jd rfl) (Je (Jf (Jn ?_))))))
   refine ⟨_,[],[_],fun Z w hs=> .tmp O .nil,?_,fun Z w hs=>hs.out (Sd4 (Sr)) (Jl Mm0 Tt2)⟩
   exact ⟨_,O,O,O⟩
  ·refine Js O O (Jv (cs:= [_,_,_,_,_,_]) Kz O (by decide) fun b9=> ?_)
   refine ⟨⟨(Sd (Sk3 (Sr))),Mm0⟩,?_⟩
   refine Js O O (Jo (XK (withF (allF l) ⟨rs.length,1,0,hid,rs.length,hid⟩) (allF r) (smIn_with hl ⟨by simp only;omega,by simp only;omega,by simp only;omega,by simp only;omega⟩) hr.sm) (.n2 O O) (by decide) Jx fun _ _ _ q9=>?_)
   obtain ⟨rfl,rfl,rfl⟩:=q9
   refine ⟨⟨(Sd (Sk3 (Sr))),Mm0⟩,?_⟩
   refine JJ (J2 O O (Jq (cs':= [_,_,_,_,_,_]) (vs:= [_,_,_,_,_,_]) Kz O O O O O (Nat.le_of_ble_eq_true O) .z (JK (Jf (JL [(9,_),(8,_),(7,_),(6,_),(4,_),(0,_),(2,_)] (.m7 O O O O O O O) (Jc (Ja (Lq (Jh (o':=2) Un138 O ti3 O O) (Lq (Jj Un3 O O (Ji (Ji (Jm))) O) (Lq (Jh (o':=2) Un138 O ti3 O O) (Lq (Jj Un3 O O (Ji (Jm)) O) (Lq (VM O O) ?_))))))))))))
   refine Lq (JZ O O (wr64 (by have:=hl.ht;have:=hr.ht;omega))) (Lq (Jh (o':=2) Un138 O ti3 O O) (Jg O (JN ti3 O O O .z2 .z (Je (Jf (JL [(9,_),(6,_),(4,_),(0,_),(2,_)] (.m5 O O O O O) (Jc (Ja (Lq (Jw (vs:= [_,_,_,_,_,_]) Un138 O Kz O Jm O O) (Lq (Jb O) (Lq (Jb O) (Lq (Jw (vs:= [_,_]) Un134 O J3 O (Ji (Ji (Ji (Jm)))) O O) ?_))))))))))))
   refine Lq (JV (.n4 rfl rfl rfl rfl) (bd150_0_1_2_3Xw22 _ _ _ _ _ _ _ _ _ _ _ _)) (Jg rfl (J1 (cs:=ndC ({ withF (withF (allF l) ⟨rs.length,1,0,hid,rs.length,hid⟩) (allF r) with ht:=1+max (allF l).ht (allF r).ht }) Al Ar Ac rs c hid 0) rfl rfl (by decide) fun b41=>Vc (lt:=l) (rt:=r) .z Mm1 Mm2 Mm3 (Lq (Jd rfl) (Je (Jf (Jn ?_))))))
   refine ⟨_,[],[_],fun Z w hs=> .tmp O .nil,?_,fun Z w hs=>hs.out (Sd4 (Sr)) (Jl Mm0 Tt2)⟩
   exact ⟨_,O,O,O⟩
 ·refine Js O O (Jv (cs:= [_,_,_,_,_,_]) Kz O (by decide) fun b9=> ?_)
  refine ⟨⟨(Sd (Sk3 (Sr))),Mm0⟩,?_⟩
  refine Js O O (Jo (XK (allF l) ⟨rs.length,1,0,hid,rs.length,hid⟩ hl.sm ⟨by simp only;omega,by simp only;omega,by simp only;omega⟩) (.n2 O O) (by decide) Jx fun _ _ _ q9=>?_)
  obtain ⟨rfl,rfl,rfl⟩:=q9
  refine ⟨⟨(Sd (Sk3 (Sr))),Mm0⟩,?_⟩
  refine Js O O (Jo (XK (withF (allF l) ⟨rs.length,1,0,hid,rs.length,hid⟩) (allF r) (smIn_with hl ⟨by simp only;omega,by simp only;omega,by simp only;omega,by simp only;omega⟩) hr.sm) (.n2 O O) (by decide) Jx fun _ _ _ q9=>?_)
  obtain ⟨rfl,rfl,rfl⟩:=q9
  refine ⟨⟨(Sd (Sk3 (Sr))),Mm0⟩,?_⟩
  refine JJ (J2 O O (Jq (cs':= [_,_,_,_,_,_]) (vs:= [_,_,_,_,_,_]) Kz O O O O O (Nat.le_of_ble_eq_true O) .z (JK (Jf (JL [(9,_),(8,_),(7,_),(6,_),(4,_),(0,_),(2,_)] (.m7 O O O O O O O) (Jc (Ja (Lq (Jh (o':=2) Un138 O ti3 O O) (Lq (Jj Un3 O O (Ji (Ji (Jm))) O) (Lq (Jh (o':=2) Un138 O ti3 O O) (Lq (Jj Un3 O O (Ji (Jm)) O) (Lq (VM O O) ?_))))))))))))
  refine Lq (JZ O O (wr64 (by have:=hl.ht;have:=hr.ht;omega))) (Lq (Jh (o':=2) Un138 O ti3 O O) (Jg O (JN ti3 O O O .z2 .z (Je (Jf (JL [(9,_),(6,_),(4,_),(0,_),(2,_)] (.m5 O O O O O) (Jc (Ja (Lq (Jw (vs:= [_,_,_,_,_,_]) Un138 O Kz O Jm O O) (Lq (Jb O) (Lq (Jb O) (Lq (Jw (vs:= [_,_]) Un134 O J3 O (Ji (Ji (Ji (Jm)))) O O) ?_))))))))))))
  refine Lq (JV (.n4 rfl rfl rfl rfl) (bd150_0_1_2_3Xw22 _ _ _ _ _ _ _ _ _ _ _ _)) (Jg rfl (J1 (cs:=ndC ({ withF (withF (allF l) ⟨rs.length,1,0,hid,rs.length,hid⟩) (allF r) with ht:=1+max (allF l).ht (allF r).ht }) Al Ar Ac rs c hid 0) rfl rfl (by decide) fun b41=>Vc (lt:=l) (rt:=r) .z Mm1 Mm2 Mm3 (Lq (Jd rfl) (Je (Jf (Jn ?_))))))
  refine ⟨_,[],[_],fun Z w hs=> .tmp O .nil,?_,fun Z w hs=>hs.out (Sd4 (Sr)) (Jl Mm0 Tt2)⟩
  exact ⟨_,O,O,O⟩
theorem eq138 (x0:Int) (x1:Int) (x2:Int) (x3:Int) (x4:Int) (x5:Int) (y0:Int) (y1:Int) (y2:Int) (y3:Int) (y4:Int) (y5:Int):EqT Tryz.prog 138 [.int .i64 x0, .int .i64 x1, .int .i64 x2, .int .i64 x3, .int .i64 x4, .int .i64 x5].toArray [.int .i64 y0, .int .i64 y1, .int .i64 y2, .int .i64 y3, .int .i64 y4, .int .i64 y5].toArray ((x0==y0) && ((x1==y1) && ((x2==y2) && ((x3==y3) && ((x4==y4) && ((x5==y5) && true)))))):=EqD.eqT (D:=2) (EqD.struct (D:=0) (l:= [(3,0),(3,1),(3,2),(3,3),(3,4),(3,5)]) (by kernel_rfl) (by kernel_rfl) (by kernel_rfl) (.int Un3 rfl rfl (.int Un3 rfl rfl (.int Un3 rfl rfl (.int Un3 rfl rfl (.int Un3 rfl rfl (.int Un3 rfl rfl .nil))))))) (by decide) (by kernel_rfl)
theorem lift_1 (x:Int):Sp Tryz.prog 106 [.pointer none, .int .i64 x] [] [TrF none .nil] (NodeP .nil):=by
 refine Sp.of (n:=32) ⟨_,Tryz.func106,O,O,O,O⟩ (Nat.le_of_ble_eq_true O) fun Ps As=>Jc (Ja (Lq (Jd O) (Je (Jf (Jc (Jc (Ja (Lq (Jb O) (Lq (KK Un126 O O (by simp)) (Je (Jf (JQ O O (Jc (Ja (Lq (Jd O) (Je (Jf (Jn (Jr ?_)))))))))))))))))))
 refine ⟨_,[],[_],fun Z w hs=> .tmp O .nil,?_,fun Z w hs=>hs.out (Sr) (Jl Mm0 (fun _ h=>h))⟩
 exact ⟨_,O,O,O⟩
theorem lift_2 (A:Option Addr) (s:Sm) (l r:Tr) (rs:List Int) (hid plus x:Int) (hw:Wf (.nd s l rs hid r plus)) (hx: -4194304≤x∧x≤4194304):Sp Tryz.prog 106 [.pointer A, .int .i64 x] [] [TrF A (.nd s l rs hid r plus)] (NodeP (liftF (.nd s l rs hid r plus) x)):=by
 have hbd:=hw.bd
 simp only [allF] at hbd
 have hpl:=hw.opened.plusB
 refine Sp.of (n:=32) ⟨_,Tryz.func106,O,O,O,O⟩ (Nat.le_of_ble_eq_true O) fun Ps As=>Ei Mm0 fun b Al Ar Ac cc e=> ?_
 cases e
 refine Jc (Ja (Lq (Jd O) (Je (Jf (Jc (Jc (Ja (Lq (Jb O) (Lq (KK Un126 O O (by simp)) (Je (Jf (Jz O O (Jp (Jf (Jc (Ja (Lq (Jb O) (Lq (JB O) (Lq (Jh (o':=_+0) Un188 O Kz O O) (Lq (Kq (k:=0) (vs:= [_,_,_,_,_,_]) Un138 O Kz O Mm0 O O O) ?_))))))))))))))))))))
 refine Lq (Jb O) (Jg O (Jo (Zr s x (by omega)) (.n2 O O) (by decide) Jx fun _ _ _ q9=>?_))
 obtain ⟨rfl,rfl,rfl⟩:=q9
 refine Jg O (Jv (cs:= [_,_,_,_,_,_]) Kz O (by decide) fun b5=>Jg O (Jq (cs':= [_,_,_,_,_,_]) (vs:= [_,_,_,_,_,_]) Kz O O O O O (Nat.le_of_ble_eq_true O) .z (Je (Jf (Jc (Jc (JI _ _ [] (.c 0 0 (.c 1 0 (.c 2 0 (.c 3 0 (.c 4 0 (.c 5 0 .nil)))))) mixed (fun _ _ _ _ h=>h) (Sk (Sr)) (fun _ h=>h) (by kernel_rfl) (by decide) fun ws Z0=>Qe O (Jw (vs:= [_,_,_,_,_,_]) Un138 O Kz O Jm O O) (Qe O (Jb O) (Qe O (JB O) (Qe O (Jh (o':=_+0) Un188 O Kz O O) (Qe O (Kq (k:=0) (vs:= [_,_,_,_,_,_]) Un138 O Kz O Mm0 O O O) (Qe O (Qd O O (eq138 _ _ _ _ _ _ _ _ _ _ _ _)) ?_))))))))))))
 refine JJ (JK (Jf (JL [(20,_),(5,_),(4,_),(0,_),(1,_)] (.m5 O O O O O) (Jy O (fun h20=> ?_) (fun h20=> ?_)))))
 ·refine Jc (Ja (Lq (Jb O) (Lq (Jd O) (Je (Jf (Jn (Jr ?_)))))))
  refine ⟨_,[],[_],fun Z w hs=> .tmp O .nil,?_,fun Z w hs=>hs.out (Sd (Sr)) (Jl Mm5 Tt5)⟩
  have hx0:x=0:=by simp [liftedF] at h20;omega
  exact ⟨_,O,O,by rw [Vx,if_pos (by subst hx0;simp [liftedF])]⟩
 ·refine Jp (Jf (Jc (Ja (Lq (Jb O) (Lq (JB O) (Lq (Kq (k:=0) (vs:= [_,_,_,_,_,_,_,_,_,_,_]) Un188 O H6 O Mm1 O O O) (Jg O (Jv (cs:= [_,_,_,_,_,_,_,_,_,_,_]) H6 O (by decide) fun b6=>Jg O (Jq (cs':= [_,_,_,_,_,_,_,_,_,_,_]) (vs:= [_,_,_,_,_,_,_,_,_,_,_]) H6 O O O O O (Nat.le_of_ble_eq_true O) .z (Je (Jf (Jc (Ja (Lq (Jw (vs:= [_,_,_,_,_,_]) Un138 O Kz O (Ji (Jm)) O O) (Lq (Jh (o':=0) Un188 O Kz O O) (Jg O (Jq (cs':= [_,_,_,_,_,_,_,_,_,_,_]) (vs:= [_,_,_,_,_,_]) Kz O O O O O (Nat.le_of_ble_eq_true O) .z ?_)))))))))))))))))
  refine Je (Jf (Jc (Ja (Lq (Jh (o':=10) Un188 O ti3 O O) (Lq (Jj Un3 O O Jm O) (Lq (Jb O) (Lq (JZ O O (wr64 (by omega))) (Lq (Jh (o':=10) Un188 O ti3 O O) (Jg O (JN ti3 O O O .z10 .z (Je (Jf (JL [(6,_),(4,_)] (.m2 O O) (Jc (Ja ?_)))))))))))))))
  refine Vc (s:=liftedF s x) (lt:=l) (rt:=r) (Al:=Al) (Ar:=Ar) (Ac:=Ac) (rs:=rs) (cc:=cc) (hid:=hid) (plus:=plus+x) .z Mm2 Mm3 Mm4 (Lq (Jd O) (Je (Jf (Jn ?_))))
  refine ⟨_,[],[_],fun Z w hs=> .tmp O .nil,?_,fun Z w hs=>hs.out (Sd (Sr)) (Jl Mm0 Tt6)⟩
  have hne: ¬liftedF s x=s:=fun e=>by
   have:=congrArg Sm.mn e
   simp only [liftedF] at this
   have hx0:x=0:=by omega
   subst hx0;simp [liftedF] at h20
  exact ⟨_,O,O,by rw [Vx,if_neg hne]⟩
theorem Ea (A:Option Addr) (t:Tr) (x:Int) (hw:Wf t) (hx: -4194304≤x∧x≤4194304):Sp Tryz.prog 106 [.pointer A, .int .i64 x] [] [TrF A t] (NodeP (liftF t x)):=by
 cases t with
 | nil=>
  refine ⟨(lift_1 x).enters,fun Z w Ps As hs=> ?_⟩
  obtain rfl:A=none:=hs.facts _ (by simp:TrF A .nil∈ [TrF A .nil] ++As)
  exact (lift_1 x).calls Z w Ps As hs
 | nd s l rs hid r plus=>exact lift_2 A s l r rs hid plus x hw hx
def OpenP (t:Tr):Value→List Part→List Fact→Prop:=fun v Lo fs=> ∃(Al:Option Addr) (l:Tr) (rs:List Int) (hid:Int) (Ac:Option Addr) (cc:Nat) (Ar:Option Addr) (r:Tr),v= .tuple #[.pointer Al,pcV rs hid Ac cc, .pointer Ar] ∧Lo= [] ∧fs= [TrF Al l,RdF runeD Ac cc rs,TrF Ar r] ∧Wf l∧Wf r∧rs≠ [] ∧(0≤hid∧hid≤1048576)∧t.row=l.row++(cellsOf rs hid++r.row)∧l.size<t.size∧r.size<t.size
theorem open_1 (A:Option Addr) (s:Sm) (l r:Tr) (rs:List Int) (hid plus:Int) (hw:Wf (.nd s l rs hid r plus)):Sp Tryz.prog 76 [.pointer A] [] [TrF A (.nd s l rs hid r plus)] (OpenP (.nd s l rs hid r plus)):=by
 have ho:=hw.opened
 have hpl:=ho.plusB
 have hhb:=ho.hidB
 have hwl:=hw.1
 have hwr:=hw.2.1
 refine Sp.of (n:=37) ⟨_,Tryz.func76,O,O,O,O⟩ (Nat.le_of_ble_eq_true O) fun Ps As=>Ei Mm0 fun b Al Ar Ac cc e=> ?_
 cases e
 refine Jc (Ja (Lq (Jd O) (Jg O (Jv (cs:= [_,_]) J3 O (by decide) fun b3=>Lq (Jd O) (Je (Jf (Jc (Ja (Lq (Jb O) (Lq (JB O) (Lq (Jh (o':=_+8) Un188 O J3 O O) (Lq (Kq (k:=8) (vs:= [_,_]) Un134 O J3 O Mm0 O O O) (Jg O (Jv (cs:= [_,_]) J3 O (by decide) fun b5=> ?_))))))))))))))
 refine Jg O (Jq (cs':= [_,_]) (vs:= [_,_]) J3 O O O O O (Nat.le_of_ble_eq_true O) .z (Je (Jf (Jc (JI _ _ [8] (.c 0 0 (.c 1 0 (.c 2 0 (.c 3 0 (.c 4 0 (.c 5 0 (.c 6 0 (.c 7 0 (.c 8 3 .nil))))))))) mixed (fun _ _ _ _ h=>h) (Sk2 (Sr)) (fun _ h=>h) (by kernel_rfl) (by decide) fun ws Z0=>Qe O (Jh (o':=1) Un134 O ti3 O O) (Qe O (Jj Un3 O O Jm O) (Qe O (Jb O) (Qe O (JB O) (Qe O (Jh (o':=_+10) Un188 O ti3 O O) (Qe O (Ks (j:=10) Un3 O O Mm0 O O) (Qe O (JZ O O (wr64 (by omega))) ?_)))))))))))
 refine Qe O (Jh (o':=1) Un134 O ti3 O O) (JJ (J2 O O (JN ti3 O O O .z1 .z (JK (Jf (JL [(5,_),(4,_),(3,_),(2,_),(0,_)] (.m5 O O O O O) (Jc (JI _ _ [20] (.c 0 0 (.c 1 0 (.c 2 0 (.c 3 0 (.c 4 0 (.c 5 0 (.c 6 0 (.c 7 0 (.c 9 0 (.c 10 0 (.c 11 0 (.c 12 0 (.c 13 0 (.c 14 0 (.c 15 0 (.c 16 0 (.c 17 0 (.c 8 2 (.c 18 2 (.c 19 0 (.c 20 3 (.c 21 1 .nil)))))))))))))))))))))) mixed (fun _ _ _ _ h=>h) (Sk2 (Sr)) (fun _ h=>h) (by kernel_rfl) (by decide) fun ws Z0=>Qe O (Jb O) (Qe O (JB O) (Qe O (Jh (o':=_+6) Un188 O YX O O) ?_))))))))))
 refine Qe O (Ks (j:=6) Un126 O O Mm1 O O) (Qe O (Jb O) (Qe O (JB O) (Qe O (Jh (o':=_+10) Un188 O ti3 O O) (Qe O (Ks (j:=10) Un3 O O Mm1 O O) (Qe O (Jw (vs:= [_,_]) Un134 O J3 O Jm O O) (Qe O (Jb O) (Qe O (JB O) (Qe O (Jh (o':=_+7) Un188 O YX O O) (Qe O (Ks (j:=7) Un126 O O Mm1 O O) ?_)))))))))
 refine Qe O (Jb O) (Qe O (JB O) (Qe O (Jh (o':=_+10) Un188 O ti3 O O) (Qe O (Ks (j:=10) Un3 O O Mm1 O O) (Js O O (Jo (Ea Al l plus hwl (by omega)) (.n2 O O) (by decide) (Jl Mm3 Jx) fun _ _ _ q9=>?_)))))
 obtain ⟨Al2,rfl,rfl,rfl⟩:=q9
 refine ⟨⟨(Sk2 (Sr)),Mm1⟩,?_⟩
 refine Js O O (Jo (Ea Ar r plus hwr (by omega)) (.n2 O O) (by decide) (Jl Mm5 Jx) fun _ _ _ q9=>?_)
 obtain ⟨Ar2,rfl,rfl,rfl⟩:=q9
 refine ⟨⟨(Sk2 (Sr)),Mm2⟩,?_⟩
 refine Qe O (Jd O) (JJ (J2 O O (Jq (cs':= [_,_]) (vs:= [_,_]) J3 O O O O O (Nat.le_of_ble_eq_true O) .z1 (YM O (Jd O) (by decide) (JK (Jf (JL [(4,_),(2,_),(3,_)] (.m3 O O O) (Jn ?_))))))))
 refine ⟨_,[],[_,_,_],fun Z w hs=> .tmp O (JS hs Un134 O J3 O (Ji (Jm)) O (.tmp O .nil)),?_,fun Z w hs=>hs.out (Sd2 (Sr)) (Jl Mm1 (Jl Mm7 (Jl Mm0 Tt8)))⟩
 exact ⟨_,liftF l plus,rs,hid+plus,Ac,cc,_,liftF r plus,O,O,O,ho.wl,ho.wr,ho.ne,hhb,ho.row,by rw [size_lift];simp only [Tr.size];omega,by rw [size_lift];simp only [Tr.size];omega⟩
theorem open_r (A:Option Addr) (t:Tr) (hw:Wf t) (ht:t≠ .nil) (hb:t.row.length≤1073741824):Sp Tryz.prog 76 [.pointer A] [] [TrF A t] (OpenP t):=by
 cases t with
 | nil=>exact absurd rfl ht
 | nd s l rs hid r plus=>exact open_1 A s l r rs hid plus hw
def NP (row:List Ce):Value→List Part→List Fact→Prop:=fun v Lo fs=> ∃(A:Option Addr) (t:Tr),v= .pointer A∧Lo= [] ∧fs= [TrF A t] ∧Wf t∧t.row=row
theorem knot_r (Al Ar Ac:Option Addr) (c:Nat) (l r:Tr) (rs:List Int) (hid:Int) (hl:Wf l) (hr:Wf r) (hn:rs≠ []) (hh:0≤hid∧hid≤1048576) (hb:l.row.length+rs.length+r.row.length≤1073741824):Sp Tryz.prog 155 [.pointer Al,pcV rs hid Ac c, .pointer Ar] [] [TrF Al l,TrF Ar r,RdF runeD Ac c rs] (NP (l.row++(cellsOf rs hid++r.row))):=by
 obtain ⟨a1,a2,a3,a4⟩:=hl.sm40 (by omega)
 obtain ⟨b1,b2,b3,b4⟩:=hr.sm40 (by omega)
 obtain ⟨k1,k2⟩:=wf_knot hl hr hn hh
 refine (Jay Al Ar Ac c l r rs hid ⟨a1,a2,a3,a4⟩ ⟨b1,b2,b3,b4⟩ (by omega)).mono ?_
 rintro v Lo fs ⟨A,rfl,rfl,rfl⟩
 exact ⟨A,_,O,O,O,k1,k2⟩
theorem wnilT:Wf .nil:=trivial
theorem nn {t:Tr} (h:0<(allF t).ht):t≠ .nil:=fun e=>by subst e;simp [allF,zeroSm] at h
theorem fd112_2Xw24 (x0:Int) (x1:Int) (x2:Int) (x3:Int) (x4:Int) (x5:Int) (w:World):(Instr.field 138 (.agg #[.int .i64 x0, .int .i64 x1, .int .i64 x2, .int .i64 x3, .int .i64 x4, .int .i64 x5]) 2).run Tryz.prog w= .ok (.int .i64 x2) w:=by kernel_rfl
theorem weigh_r (Al Ar Ac:Option Addr) (c:Nat) (l r:Tr) (rs:List Int) (hid:Int) (wl:Wf l) (wr:Wf r) (n0:rs≠ []) (h0:0≤hid∧hid≤1048576) (hb:l.row.length+rs.length+r.row.length≤1073741824):Sp Tryz.prog 156 [.pointer Al,pcV rs hid Ac c, .pointer Ar] [] [TrF Al l,TrF Ar r,RdF runeD Ac c rs] (NP (l.row++(cellsOf rs hid++r.row))):=by
 have bl:=wl.sm40 (by omega)
 have br:=wr.sm40 (by omega)
 refine Sp.of (n:=113) ⟨_,Tryz.func156,O,O,O,O⟩ (Nat.le_of_ble_eq_true O) fun Ps As=>Jc (Ja (Jg O (J1 (cs:= [_,_]) O O (by decide) fun b4=>Lq (Jd O) (Je (Jf (Jc (Ja (Lq (Jb O) (Jg O (Jo (YD Al l) (.n1 O) (by decide) (Jl Mm0 Jx) fun _ _ _ q9=>?_))))))))))
 obtain ⟨rfl,rfl,rfl⟩:=q9
 refine Lq (Yn O (fd112_2Xw24 _ _ _ _ _ _)) (Lq (Jb O) (Jg O (Jo (YD Ar r) (.n1 O) (by decide) (Jl Mm1 Jx) fun _ _ _ q9=>?_)))
 obtain ⟨rfl,rfl,rfl⟩:=q9
 refine Lq (Yn O (fd112_2Xw24 _ _ _ _ _ _)) (Lq (Jd O) (Lq (Jd O) (Je (Jf (Jc (JO (Jc (Ja (Lq (Jb O) (Lq (Jb O) (Lq (JZ O O (wr64 (by omega))) (Lq (Ke O O) (Lq (Jd O) (Je (Jf ?_)))))))))))))))
 refine JL [(27,_),(8,_),(7,_),(6,_),(4,_),(0,_),(2,_)] (.m7 O O O O O O O) (Jy O (fun h27=> ?_) (fun h27=> ?_))
 ·refine Jc (Ja (Lq (Jb O) (Jg O (Jo (open_r Al l wl (nn (by have:=wr.bd;simp only [decide_eq_true_eq] at h27;omega)) (by omega)) (.n1 O) (by decide) (Jl Mm0 Jx) fun _ _ _ q9=>?_))))
  obtain ⟨B1,l1,s1,k1,C1,d1,D1,m1,rfl,rfl,rfl,wl1,wm1,n1,h1,r1,zl1,zm1⟩:=q9
  have e1:=congrArg List.length r1
  simp only [List.length_append,Ju,Tr.row,List.length_nil,List.length_take,List.length_drop] at e1
  refine Lq (Jb O) (Lq (Jk (vs:= [_,_,_]) O O) (Lq (Jk (vs:= [_,_,_]) O O) (Lq (Jk (vs:= [_,_,_]) O O) (Jg O (Jv (cs:= [_,_]) J3 O (by decide) fun b10=>Lq (Jd O) (Jg O (Jq (cs':= [_,_]) (vs:= [_,_]) J3 O O O O O (Nat.le_of_ble_eq_true O) .z (Lq (Jd O) (Je (Jf (JL [(11,_),(9,_),(10,_),(6,_),(4,_),(0,_),(2,_)] (.m7 O O O O O O O) ?_)))))))))))
  refine Jc (Jc (Ja (Lq (Jb O) (Jg O (Jo (YD B1 l1) (.n1 O) (by decide) (Jl Mm0 Jx) fun _ _ _ q9=>?_)))))
  obtain ⟨rfl,rfl,rfl⟩:=q9
  refine Lq (Yn O (fd112_2Xw24 _ _ _ _ _ _)) (Lq (Jb O) (Jg O (Jo (YD D1 m1) (.n1 O) (by decide) (Jl Mm2 Jx) fun _ _ _ q9=>?_)))
  obtain ⟨rfl,rfl,rfl⟩:=q9
  refine Lq (Yn O (fd112_2Xw24 _ _ _ _ _ _)) (Lq (Yl O O) (Je (Jf (JL [(44,_),(11,_),(9,_),(10,_),(6,_),(4,_),(0,_),(2,_)] (.m8 O O O O O O O O) (Jy O (fun h44=> ?_) (fun h44=> ?_))))))
  ·refine Jc (JI _ _ [] (.c 0 0 (.c 1 0 (.c 2 0 (.c 3 0 (.c 4 0 (.c 5 2 (.c 6 2 (.c 7 0 .nil)))))))) mixed (fun _ _ _ _ h=>h) (Sk2 (Sr)) (fun _ h=>h) (by kernel_rfl) (by decide) fun ws Z0=>Qe O (Jb O) (Qe O (Jw (vs:= [_,_]) Un134 O J3 O Jm O O) (Qe O (Jb O) (Qe O (Jw (vs:= [_,_]) Un134 O J3 O (Ji (Jm)) O O) (Qe O (Jb O) (Js O O (Jo (knot_r D1 Ar Ac c m1 r rs hid wm1 wr n0 h0 (by omega)) (.n3 O O O) (by decide) (Jl Mm3 (Jl Mm5 (Jl Mm6 Jx))) fun _ _ _ q9=>?_)))))))
   obtain ⟨T2,t2,rfl,rfl,rfl,wt2,r2⟩:=q9
   have e2:=congrArg List.length r2
   simp only [List.length_append,Ju,Tr.row,List.length_nil,List.length_take,List.length_drop] at e2
   refine ⟨⟨(Sk2 (Sr)),Mm1⟩,?_⟩
   refine Js O O (Jo (knot_r B1 T2 C1 d1 l1 t2 s1 k1 wl1 wt2 n1 h1 (by omega)) (.n3 O O O) (by decide) (Jl Mm2 (Jl Mm0 (Jl Mm3 Jx))) fun _ _ _ q9=>?_)
   obtain ⟨T3,t3,rfl,rfl,rfl,wt3,r3⟩:=q9
   have e3:=congrArg List.length r3
   simp only [List.length_append,Ju,Tr.row,List.length_nil,List.length_take,List.length_drop] at e3
   refine ⟨⟨(Sk2 (Sr)),Mm2⟩,?_⟩
   refine Qe O (Jd O) (JJ (JK (Jf (JL [(6,_),(11,_),(9,_),(10,_),(4,_),(0,_),(2,_)] (.m7 O O O O O O O) (Jn (Jr (JM (Jr ?_))))))))
   refine ⟨_,[],[_],fun Z w hs=> .tmp O .nil,?_,fun Z w hs=>hs.out (Sd2 (Sr)) (Jl Mm0 Tt6)⟩
   exact ⟨_,_,O,O,O,wt3,by simp only [r1,r2,r3,List.append_assoc,Tr.row,List.nil_append,List.append_nil]⟩
  ·refine Jp (Jf (Jc (Ja (Lq (Jb O) (Jg O (Jo (open_r D1 m1 wm1 (nn (by have:=wl1.bd;simp only [decide_eq_false_iff_not] at h44;omega)) (by omega)) (.n1 O) (by decide) (Jl Mm2 Jx) fun _ _ _ q9=>?_))))))
   obtain ⟨B4,l4,s4,k4,C4,d4,D4,m4,rfl,rfl,rfl,wl4,wm4,n4,h4,r4,zl4,zm4⟩:=q9
   have e4:=congrArg List.length r4
   simp only [List.length_append,Ju,Tr.row,List.length_nil,List.length_take,List.length_drop] at e4
   refine Lq (Jb O) (Lq (Jk (vs:= [_,_,_]) O O) (Lq (Jk (vs:= [_,_,_]) O O) (Lq (Jk (vs:= [_,_,_]) O O) (Jg O (Jv (cs:= [_,_]) J3 O (by decide) fun b13=>Lq (Jd O) (Jg O (Jq (cs':= [_,_]) (vs:= [_,_]) J3 O O O O O (Nat.le_of_ble_eq_true O) .z (Lq (Jd O) (Je (Jf (JL [(14,_),(12,_),(13,_),(9,_),(10,_),(6,_),(4,_),(0,_),(2,_)] (.m9 O O O O O O O O O) ?_)))))))))))
   refine Jc (JI _ _ [] (.c 0 0 (.c 1 0 (.c 2 0 (.c 4 0 (.c 5 0 (.c 6 0 (.c 7 0 (.c 3 2 (.c 8 2 (.c 9 2 (.c 10 0 .nil))))))))))) mixed (fun _ _ _ _ h=>h) (Sk3 (Sr)) (fun _ h=>h) (by kernel_rfl) (by decide) fun ws Z0=>Qe O (Jb O) (Qe O (Jw (vs:= [_,_]) Un134 O J3 O (Ji (Jm)) O O) (Qe O (Jb O) (Qe O (Jw (vs:= [_,_]) Un134 O J3 O Jm O O) (Qe O (Jb O) (Qe O (Jw (vs:= [_,_]) Un134 O J3 O (Ji (Ji (Jm))) O O) (Qe O (Jb O) ?_)))))))
   refine Js O O (Jo (knot_r B1 B4 C1 d1 l1 l4 s1 k1 wl1 wl4 n1 h1 (by omega)) (.n3 O O O) (by decide) (Jl Mm4 (Jl Mm1 (Jl Mm5 Jx))) fun _ _ _ q9=>?_)
   obtain ⟨T5,t5,rfl,rfl,rfl,wt5,r5⟩:=q9
   have e5:=congrArg List.length r5
   simp only [List.length_append,Ju,Tr.row,List.length_nil,List.length_take,List.length_drop] at e5
   refine ⟨⟨(Sk3 (Sr)),Mm1⟩,?_⟩
   refine Js O O (Jo (knot_r D4 Ar Ac c m4 r rs hid wm4 wr n0 h0 (by omega)) (.n3 O O O) (by decide) (Jl Mm4 (Jl Mm9 (Jl Mm10 Jx))) fun _ _ _ q9=>?_)
   obtain ⟨T6,t6,rfl,rfl,rfl,wt6,r6⟩:=q9
   have e6:=congrArg List.length r6
   simp only [List.length_append,Ju,Tr.row,List.length_nil,List.length_take,List.length_drop] at e6
   refine ⟨⟨(Sk3 (Sr)),Mm2⟩,?_⟩
   refine Js O O (Jo (knot_r T5 T6 C4 d4 t5 t6 s4 k4 wt5 wt6 n4 h4 (by omega)) (.n3 O O O) (by decide) (Jl Mm1 (Jl Mm0 (Jl Mm4 Jx))) fun _ _ _ q9=>?_)
   obtain ⟨T7,t7,rfl,rfl,rfl,wt7,r7⟩:=q9
   have e7:=congrArg List.length r7
   simp only [List.length_append,Ju,Tr.row,List.length_nil,List.length_take,List.length_drop] at e7
   refine ⟨⟨(Sk3 (Sr)),Mm3⟩,?_⟩
   refine Qe O (Jd O) (JJ (JK (Jf (JL [(6,_),(4,_),(0,_),(2,_)] (.m4 O O O O) (Jn (JM (Jr ?_)))))))
   refine ⟨_,[],[_],fun Z w hs=> .tmp O .nil,?_,fun Z w hs=>hs.out (Sd3 (Sr)) (Jl Mm0 Tt10)⟩
   exact ⟨_,_,O,O,O,wt7,by simp only [r1,r4,r5,r6,r7,List.append_assoc,Tr.row,List.nil_append,List.append_nil]⟩
 ·refine Jc (Ja (Lq (Jb O) (Lq (Jb O) (Lq (JZ O O (wr64 (by omega))) (Lq (Ke O O) (Lq (Jd O) (Je (Jf (Jy O (fun h68=> ?_) (fun h68=> ?_))))))))))
  ·refine Jc (Ja (Lq (Jb O) (Jg O (Jo (open_r Ar r wr (nn (by have:=wl.bd;simp only [decide_eq_true_eq] at h68;omega)) (by omega)) (.n1 O) (by decide) (Jl Mm1 Jx) fun _ _ _ q9=>?_))))
   obtain ⟨B8,l8,s8,k8,C8,d8,D8,m8,rfl,rfl,rfl,wl8,wm8,n8,h8,r8,zl8,zm8⟩:=q9
   have e8:=congrArg List.length r8
   simp only [List.length_append,Ju,Tr.row,List.length_nil,List.length_take,List.length_drop] at e8
   refine Lq (Jb O) (Lq (Jk (vs:= [_,_,_]) O O) (Lq (Jk (vs:= [_,_,_]) O O) (Lq (Jk (vs:= [_,_,_]) O O) (Jg O (Jv (cs:= [_,_]) J3 O (by decide) fun b16=>Lq (Jd O) (Jg O (Jq (cs':= [_,_]) (vs:= [_,_]) J3 O O O O O (Nat.le_of_ble_eq_true O) .z (Lq (Jd O) (Je (Jf (JL [(17,_),(15,_),(16,_),(6,_),(4,_),(0,_),(2,_)] (.m7 O O O O O O O) ?_)))))))))))
   refine Jc (Jc (Ja (Lq (Jb O) (Jg O (Jo (YD D8 m8) (.n1 O) (by decide) (Jl Mm2 Jx) fun _ _ _ q9=>?_)))))
   obtain ⟨rfl,rfl,rfl⟩:=q9
   refine Lq (Yn O (fd112_2Xw24 _ _ _ _ _ _)) (Lq (Jb O) (Jg O (Jo (YD B8 l8) (.n1 O) (by decide) (Jl Mm0 Jx) fun _ _ _ q9=>?_)))
   obtain ⟨rfl,rfl,rfl⟩:=q9
   refine Lq (Yn O (fd112_2Xw24 _ _ _ _ _ _)) (Lq (Yl O O) (Je (Jf (JL [(85,_),(17,_),(15,_),(16,_),(6,_),(4,_),(0,_),(2,_)] (.m8 O O O O O O O O) (Jy O (fun h85=> ?_) (fun h85=> ?_))))))
   ·refine Jc (JI _ _ [] (.c 0 0 (.c 1 0 (.c 2 0 (.c 4 0 (.c 5 0 (.c 3 2 (.c 6 2 (.c 7 0 .nil)))))))) mixed (fun _ _ _ _ h=>h) (Sk2 (Sr)) (fun _ h=>h) (by kernel_rfl) (by decide) fun ws Z0=>Qe O (Jb O) (Qe O (Jw (vs:= [_,_]) Un134 O J3 O (Ji (Jm)) O O) (Qe O (Jb O) (Qe O (Jw (vs:= [_,_]) Un134 O J3 O Jm O O) (Qe O (Jb O) (Js O O (Jo (knot_r Al B8 Ac c l l8 rs hid wl wl8 n0 h0 (by omega)) (.n3 O O O) (by decide) (Jl Mm4 (Jl Mm1 (Jl Mm6 Jx))) fun _ _ _ q9=>?_)))))))
    obtain ⟨T9,t9,rfl,rfl,rfl,wt9,r9⟩:=q9
    have e9:=congrArg List.length r9
    simp only [List.length_append,Ju,Tr.row,List.length_nil,List.length_take,List.length_drop] at e9
    refine ⟨⟨(Sk2 (Sr)),Mm1⟩,?_⟩
    refine Js O O (Jo (knot_r T9 D8 C8 d8 t9 m8 s8 k8 wt9 wm8 n8 h8 (by omega)) (.n3 O O O) (by decide) (Jl Mm0 (Jl Mm4 (Jl Mm3 Jx))) fun _ _ _ q9=>?_)
    obtain ⟨T10,t10,rfl,rfl,rfl,wt10,r10⟩:=q9
    have e10:=congrArg List.length r10
    simp only [List.length_append,Ju,Tr.row,List.length_nil,List.length_take,List.length_drop] at e10
    refine ⟨⟨(Sk2 (Sr)),Mm2⟩,?_⟩
    refine Qe O (Jd O) (JJ (JK (Jf (JL [(6,_),(17,_),(15,_),(16,_),(4,_),(0,_),(2,_)] (.m7 O O O O O O O) (Jn (Jr (JM (Jr ?_))))))))
    refine ⟨_,[],[_],fun Z w hs=> .tmp O .nil,?_,fun Z w hs=>hs.out (Sd2 (Sr)) (Jl Mm0 Tt6)⟩
    exact ⟨_,_,O,O,O,wt10,by simp only [r8,r9,r10,List.append_assoc,Tr.row,List.nil_append,List.append_nil]⟩
   ·refine Jp (Jf (Jc (Ja (Lq (Jb O) (Jg O (Jo (open_r B8 l8 wl8 (nn (by have:=wm8.bd;simp only [decide_eq_false_iff_not] at h85;omega)) (by omega)) (.n1 O) (by decide) (Jl Mm0 Jx) fun _ _ _ q9=>?_))))))
    obtain ⟨B11,l11,s11,k11,C11,d11,D11,m11,rfl,rfl,rfl,wl11,wm11,n11,h11,r11,zl11,zm11⟩:=q9
    have e11:=congrArg List.length r11
    simp only [List.length_append,Ju,Tr.row,List.length_nil,List.length_take,List.length_drop] at e11
    refine Lq (Jb O) (Lq (Jk (vs:= [_,_,_]) O O) (Lq (Jk (vs:= [_,_,_]) O O) (Lq (Jk (vs:= [_,_,_]) O O) (Jg O (Jv (cs:= [_,_]) J3 O (by decide) fun b19=>Lq (Jd O) (Jg O (Jq (cs':= [_,_]) (vs:= [_,_]) J3 O O O O O (Nat.le_of_ble_eq_true O) .z (Lq (Jd O) (Je (Jf (JL [(20,_),(18,_),(19,_),(17,_),(16,_),(6,_),(4,_),(0,_),(2,_)] (.m9 O O O O O O O O O) ?_)))))))))))
    refine Jc (JI _ _ [] (.c 0 0 (.c 1 0 (.c 2 0 (.c 4 0 (.c 5 0 (.c 6 0 (.c 7 0 (.c 3 2 (.c 8 2 (.c 9 2 (.c 10 0 .nil))))))))))) mixed (fun _ _ _ _ h=>h) (Sk3 (Sr)) (fun _ h=>h) (by kernel_rfl) (by decide) fun ws Z0=>Qe O (Jb O) (Qe O (Jw (vs:= [_,_]) Un134 O J3 O (Ji (Ji (Jm))) O O) (Qe O (Jb O) (Qe O (Jw (vs:= [_,_]) Un134 O J3 O Jm O O) (Qe O (Jb O) (Qe O (Jw (vs:= [_,_]) Un134 O J3 O (Ji (Jm)) O O) (Qe O (Jb O) ?_)))))))
    refine Js O O (Jo (knot_r Al B11 Ac c l l11 rs hid wl wl11 n0 h0 (by omega)) (.n3 O O O) (by decide) (Jl Mm7 (Jl Mm1 (Jl Mm9 Jx))) fun _ _ _ q9=>?_)
    obtain ⟨T12,t12,rfl,rfl,rfl,wt12,r12⟩:=q9
    have e12:=congrArg List.length r12
    simp only [List.length_append,Ju,Tr.row,List.length_nil,List.length_take,List.length_drop] at e12
    refine ⟨⟨(Sk3 (Sr)),Mm1⟩,?_⟩
    refine Js O O (Jo (knot_r D11 D8 C8 d8 m11 m8 s8 k8 wm11 wm8 n8 h8 (by omega)) (.n3 O O O) (by decide) (Jl Mm4 (Jl Mm7 (Jl Mm6 Jx))) fun _ _ _ q9=>?_)
    obtain ⟨T13,t13,rfl,rfl,rfl,wt13,r13⟩:=q9
    have e13:=congrArg List.length r13
    simp only [List.length_append,Ju,Tr.row,List.length_nil,List.length_take,List.length_drop] at e13
    refine ⟨⟨(Sk3 (Sr)),Mm2⟩,?_⟩
    refine Js O O (Jo (knot_r T12 T13 C11 d11 t12 t13 s11 k11 wt12 wt13 n11 h11 (by omega)) (.n3 O O O) (by decide) (Jl Mm1 (Jl Mm0 (Jl Mm4 Jx))) fun _ _ _ q9=>?_)
    obtain ⟨T14,t14,rfl,rfl,rfl,wt14,r14⟩:=q9
    have e14:=congrArg List.length r14
    simp only [List.length_append,Ju,Tr.row,List.length_nil,List.length_take,List.length_drop] at e14
    refine ⟨⟨(Sk3 (Sr)),Mm3⟩,?_⟩
    refine Qe O (Jd O) (JJ (JK (Jf (JL [(6,_),(4,_),(0,_),(2,_)] (.m4 O O O O) (Jn (JM (Jr ?_)))))))
    refine ⟨_,[],[_],fun Z w hs=> .tmp O .nil,?_,fun Z w hs=>hs.out (Sd3 (Sr)) (Jl Mm0 Tt10)⟩
    exact ⟨_,_,O,O,O,wt14,by simp only [r8,r11,r12,r13,r14,List.append_assoc,Tr.row,List.nil_append,List.append_nil]⟩
  ·refine Jp (J9 (Jf (Jc (Ja (Lq (Jb O) (Lq (Jw (vs:= [_,_]) Un134 O J3 O Jm O O) (Lq (Jb O) (Jg O (Jo (knot_r Al Ar Ac c l r rs hid wl wr n0 h0 (by omega)) (.n3 O O O) (by decide) (Jl Mm0 (Jl Mm1 (Jl Mm2 Jx))) fun _ _ _ q9=>?_)))))))))
   obtain ⟨T15,t15,rfl,rfl,rfl,wt15,r15⟩:=q9
   have e15:=congrArg List.length r15
   simp only [List.length_append,Ju,Tr.row,List.length_nil,List.length_take,List.length_drop] at e15
   refine Lq (Jd O) (Je (Jf (JL [(6,_)] (.m1 O) (Jn ?_))))
   refine ⟨_,[],[_],fun Z w hs=> .tmp O .nil,?_,fun Z w hs=>hs.out (Sd (Sr)) (fun _ h=>h)⟩
   exact ⟨_,_,O,O,O,wt15,by simp only [r15,List.append_assoc,Tr.row,List.nil_append,List.append_nil]⟩
theorem join_n (N:Nat): ∀(Al Ar Ac:Option Addr) (c:Nat) (l r:Tr) (rs:List Int) (hid:Int) (wl:Wf l) (wr:Wf r) (n0:rs≠ []) (h0:0≤hid∧hid≤1048576) (hb:l.row.length+rs.length+r.row.length≤1073741824),l.size+r.size≤N→Sp Tryz.prog 151 [.pointer Al,pcV rs hid Ac c, .pointer Ar] [] [TrF Al l,TrF Ar r,RdF runeD Ac c rs] (NP (l.row++(cellsOf rs hid++r.row))):=by
 induction N using Nat.strongRecOn
 rename_i N ih
 intro Al Ar Ac c l r rs hid wl wr n0 h0 hb hN
 have bl:=wl.sm40 (by omega)
 have br:=wr.sm40 (by omega)
 refine Sp.of (n:=61) ⟨_,Tryz.func151,O,O,O,O⟩ (Nat.le_of_ble_eq_true O) fun Ps As=>Jc (Ja (Jg O (J1 (cs:= [_,_]) O O (by decide) fun b4=>Lq (Jd O) (Je (Jf (Jc (Ja (Lq (Jb O) (Jg O (Jo (YD Al l) (.n1 O) (by decide) (Jl Mm0 Jx) fun _ _ _ q9=>?_))))))))))
 obtain ⟨rfl,rfl,rfl⟩:=q9
 refine Lq (Yn O (fd112_2Xw24 _ _ _ _ _ _)) (Lq (Jb O) (Jg O (Jo (YD Ar r) (.n1 O) (by decide) (Jl Mm1 Jx) fun _ _ _ q9=>?_)))
 obtain ⟨rfl,rfl,rfl⟩:=q9
 refine Lq (Yn O (fd112_2Xw24 _ _ _ _ _ _)) (Lq (Jd O) (Lq (Jd O) (Je (Jf (Jc (JO (Jc (Ja (Lq (Jb O) (Lq (Jb O) (Lq (JZ O O (wr64 (by omega))) (Lq (Ke O O) (Lq (Jd O) (Je (Jf ?_)))))))))))))))
 refine JL [(21,_),(8,_),(7,_),(6,_),(4,_),(0,_),(2,_)] (.m7 O O O O O O O) (Jy O (fun h21=> ?_) (fun h21=> ?_))
 ·refine Jc (Ja (Lq (Jb O) (Jg O (Jo (open_r Al l wl (nn (by have:=wr.bd;simp only [decide_eq_true_eq] at h21;omega)) (by omega)) (.n1 O) (by decide) (Jl Mm0 Jx) fun _ _ _ q9=>?_))))
  obtain ⟨B16,l16,s16,k16,C16,d16,D16,m16,rfl,rfl,rfl,wl16,wm16,n16,h16,r16,zl16,zm16⟩:=q9
  have e16:=congrArg List.length r16
  simp only [List.length_append,Ju,Tr.row,List.length_nil,List.length_take,List.length_drop] at e16
  refine Lq (Jb O) (Lq (Jk (vs:= [_,_,_]) O O) (Lq (Jk (vs:= [_,_,_]) O O) (Lq (Jk (vs:= [_,_,_]) O O) (Jg O (Jv (cs:= [_,_]) J3 O (by decide) fun b10=>Lq (Jd O) (Jg O (Jq (cs':= [_,_]) (vs:= [_,_]) J3 O O O O O (Nat.le_of_ble_eq_true O) .z (Lq (Jd O) (Je (Jf (JL [(11,_),(9,_),(10,_),(6,_),(4,_),(0,_),(2,_)] (.m7 O O O O O O O) ?_)))))))))))
  refine Jc (JI _ _ [] (.c 0 0 (.c 1 0 (.c 2 0 (.c 3 0 (.c 4 0 (.c 5 2 (.c 6 2 (.c 7 0 .nil)))))))) mixed (fun _ _ _ _ h=>h) (Sk2 (Sr)) (fun _ h=>h) (by kernel_rfl) (by decide) fun ws Z0=>Qe O (Jb O) (Qe O (Jw (vs:= [_,_]) Un134 O J3 O Jm O O) (Qe O (Jb O) (Qe O (Jw (vs:= [_,_]) Un134 O J3 O (Ji (Jm)) O O) (Qe O (Jb O) ?_)))))
  refine Js O O (Jo (ih (m16.size+r.size) (by omega) D16 Ar Ac c m16 r rs hid wm16 wr n0 h0 (by omega) (Nat.le_refl _)) (.n3 O O O) (by decide) (Jl Mm3 (Jl Mm5 (Jl Mm6 Jx))) fun _ _ _ q9=>?_)
  obtain ⟨T17,t17,rfl,rfl,rfl,wt17,r17⟩:=q9
  have e17:=congrArg List.length r17
  simp only [List.length_append,Ju,Tr.row,List.length_nil,List.length_take,List.length_drop] at e17
  refine ⟨⟨(Sk2 (Sr)),Mm1⟩,?_⟩
  refine Js O O (Jo (weigh_r B16 T17 C16 d16 l16 t17 s16 k16 wl16 wt17 n16 h16 (by omega)) (.n3 O O O) (by decide) (Jl Mm2 (Jl Mm0 (Jl Mm3 Jx))) fun _ _ _ q9=>?_)
  obtain ⟨T18,t18,rfl,rfl,rfl,wt18,r18⟩:=q9
  have e18:=congrArg List.length r18
  simp only [List.length_append,Ju,Tr.row,List.length_nil,List.length_take,List.length_drop] at e18
  refine ⟨⟨(Sk2 (Sr)),Mm2⟩,?_⟩
  refine Qe O (Jd O) (JJ (JK (Jf (JL [(6,_),(4,_),(0,_),(2,_)] (.m4 O O O O) (Jn (JM (Jr ?_)))))))
  refine ⟨_,[],[_],fun Z w hs=> .tmp O .nil,?_,fun Z w hs=>hs.out (Sd2 (Sr)) (Jl Mm0 Tt6)⟩
  exact ⟨_,_,O,O,O,wt18,by simp only [r16,r17,r18,List.append_assoc,Tr.row,List.nil_append,List.append_nil]⟩
 ·refine Jc (Ja (Lq (Jb O) (Lq (Jb O) (Lq (JZ O O (wr64 (by omega))) (Lq (Ke O O) (Lq (Jd O) (Je (Jf (Jy O (fun h39=> ?_) (fun h39=> ?_))))))))))
  ·refine Jc (Ja (Lq (Jb O) (Jg O (Jo (open_r Ar r wr (nn (by have:=wl.bd;simp only [decide_eq_true_eq] at h39;omega)) (by omega)) (.n1 O) (by decide) (Jl Mm1 Jx) fun _ _ _ q9=>?_))))
   obtain ⟨B19,l19,s19,k19,C19,d19,D19,m19,rfl,rfl,rfl,wl19,wm19,n19,h19,r19,zl19,zm19⟩:=q9
   have e19:=congrArg List.length r19
   simp only [List.length_append,Ju,Tr.row,List.length_nil,List.length_take,List.length_drop] at e19
   refine Lq (Jb O) (Lq (Jk (vs:= [_,_,_]) O O) (Lq (Jk (vs:= [_,_,_]) O O) (Lq (Jk (vs:= [_,_,_]) O O) (Jg O (Jv (cs:= [_,_]) J3 O (by decide) fun b13=>Lq (Jd O) (Jg O (Jq (cs':= [_,_]) (vs:= [_,_]) J3 O O O O O (Nat.le_of_ble_eq_true O) .z (Lq (Jd O) (Je (Jf (JL [(14,_),(12,_),(13,_),(6,_),(4,_),(0,_),(2,_)] (.m7 O O O O O O O) ?_)))))))))))
   refine Jc (JI _ _ [] (.c 0 0 (.c 1 0 (.c 2 0 (.c 4 0 (.c 5 0 (.c 3 2 (.c 6 2 (.c 7 0 .nil)))))))) mixed (fun _ _ _ _ h=>h) (Sk2 (Sr)) (fun _ h=>h) (by kernel_rfl) (by decide) fun ws Z0=>Qe O (Jb O) (Qe O (Jw (vs:= [_,_]) Un134 O J3 O (Ji (Jm)) O O) (Qe O (Jb O) (Qe O (Jw (vs:= [_,_]) Un134 O J3 O Jm O O) (Qe O (Jb O) (Js O O (Jo (ih (l.size+l19.size) (by omega) Al B19 Ac c l l19 rs hid wl wl19 n0 h0 (by omega) (Nat.le_refl _)) (.n3 O O O) (by decide) (Jl Mm4 (Jl Mm1 (Jl Mm6 Jx))) fun _ _ _ q9=>?_)))))))
   obtain ⟨T20,t20,rfl,rfl,rfl,wt20,r20⟩:=q9
   have e20:=congrArg List.length r20
   simp only [List.length_append,Ju,Tr.row,List.length_nil,List.length_take,List.length_drop] at e20
   refine ⟨⟨(Sk2 (Sr)),Mm1⟩,?_⟩
   refine Js O O (Jo (weigh_r T20 D19 C19 d19 t20 m19 s19 k19 wt20 wm19 n19 h19 (by omega)) (.n3 O O O) (by decide) (Jl Mm0 (Jl Mm4 (Jl Mm3 Jx))) fun _ _ _ q9=>?_)
   obtain ⟨T21,t21,rfl,rfl,rfl,wt21,r21⟩:=q9
   have e21:=congrArg List.length r21
   simp only [List.length_append,Ju,Tr.row,List.length_nil,List.length_take,List.length_drop] at e21
   refine ⟨⟨(Sk2 (Sr)),Mm2⟩,?_⟩
   refine Qe O (Jd O) (JJ (JK (Jf (JL [(6,_),(4,_),(0,_),(2,_)] (.m4 O O O O) (Jn (JM (Jr ?_)))))))
   refine ⟨_,[],[_],fun Z w hs=> .tmp O .nil,?_,fun Z w hs=>hs.out (Sd2 (Sr)) (Jl Mm0 Tt6)⟩
   exact ⟨_,_,O,O,O,wt21,by simp only [r19,r20,r21,List.append_assoc,Tr.row,List.nil_append,List.append_nil]⟩
  ·refine Jp (J9 (Jf (Jc (Ja (Lq (Jb O) (Lq (Jw (vs:= [_,_]) Un134 O J3 O Jm O O) (Lq (Jb O) (Jg O (Jo (knot_r Al Ar Ac c l r rs hid wl wr n0 h0 (by omega)) (.n3 O O O) (by decide) (Jl Mm0 (Jl Mm1 (Jl Mm2 Jx))) fun _ _ _ q9=>?_)))))))))
   obtain ⟨T22,t22,rfl,rfl,rfl,wt22,r22⟩:=q9
   have e22:=congrArg List.length r22
   simp only [List.length_append,Ju,Tr.row,List.length_nil,List.length_take,List.length_drop] at e22
   refine Lq (Jd O) (Je (Jf (JL [(6,_)] (.m1 O) (Jn ?_))))
   refine ⟨_,[],[_],fun Z w hs=> .tmp O .nil,?_,fun Z w hs=>hs.out (Sd (Sr)) (fun _ h=>h)⟩
   exact ⟨_,_,O,O,O,wt22,by simp only [r22,List.append_assoc,Tr.row,List.nil_append,List.append_nil]⟩
theorem join_r (Al Ar Ac:Option Addr) (c:Nat) (l r:Tr) (rs:List Int) (hid:Int) (wl:Wf l) (wr:Wf r) (n0:rs≠ []) (h0:0≤hid∧hid≤1048576) (hb:l.row.length+rs.length+r.row.length≤1073741824):Sp Tryz.prog 151 [.pointer Al,pcV rs hid Ac c, .pointer Ar] [] [TrF Al l,TrF Ar r,RdF runeD Ac c rs] (NP (l.row++(cellsOf rs hid++r.row))):=join_n _ Al Ar Ac c l r rs hid wl wr n0 h0 hb (Nat.le_refl _)
theorem Vf {P:Program} {n:Dm} {R:Post} {l:Fr} {Ps:List Part} {As:List Fact} {c:Code} {A:Option Addr} {t:Tr} (hA:TrF A t∈As) (ht:t≠ .nil) (h: ∀b:Nat,A=some ⟨b,0,none⟩→WC P n c R l Ps As):WC P n c R l Ps As:=fun Z w a hs ha=>by
 cases t with
 | nil=>exact absurd rfl ht
 | nd s lt rs hid rt plus=>
  obtain ⟨b,Al,Ar,Ac,cc,e,_⟩:trRep Z w (.nd s lt rs hid rt plus) A:=hs.facts _ hA
  exact h b e Z w a hs ha
def LastP (row:List Ce):Value→List Part→List Fact→Prop:=fun v Lo fs=> ∃(A:Option Addr) (t:Tr) (rs:List Int) (hid:Int) (Ac:Option Addr) (c:Nat),v= .tuple #[.pointer A,pcV rs hid Ac c] ∧Lo= [] ∧fs= [TrF A t,RdF runeD Ac c rs] ∧Wf t∧rs≠ [] ∧(0≤hid∧hid≤1048576)∧row=t.row++cellsOf rs hid
def FirstP (row:List Ce):Value→List Part→List Fact→Prop:=fun v Lo fs=> ∃(A:Option Addr) (t:Tr) (rs:List Int) (hid:Int) (Ac:Option Addr) (c:Nat),v= .tuple #[pcV rs hid Ac c, .pointer A] ∧Lo= [] ∧fs= [TrF A t,RdF runeD Ac c rs] ∧Wf t∧rs≠ [] ∧(0≤hid∧hid≤1048576)∧row=cellsOf rs hid++t.row
theorem popLast_n (N:Nat): ∀(A:Option Addr) (t:Tr) (wt:Wf t) (nt:t≠ .nil) (hb:t.row.length≤1073741824),t.size≤N→Sp Tryz.prog 152 [.pointer A] [] [TrF A t] (LastP t.row):=by
 induction N using Nat.strongRecOn
 rename_i N ih
 intro A t wt nt hb hN
 refine Sp.of (n:=29) ⟨_,Tryz.func152,O,O,O,O⟩ (Nat.le_of_ble_eq_true O) fun Ps As=>Jc (Ja (Lq (Jd O) (Jg O (Jv (cs:= [_,_]) J3 O (by decide) fun b3=>Je (Jf (Jc (Ja (Lq (Jb O) (Jg O (Jo (open_r A t wt nt (by omega)) (.n1 O) (by decide) (Jl Mm0 Jx) fun _ _ _ q9=>?_))))))))))
 obtain ⟨B1,l1,s1,k1,C1,d1,D1,m1,rfl,rfl,rfl,wl1,wm1,n1,h1,r1,zl1,zm1⟩:=q9
 have e1:=congrArg List.length r1
 simp only [List.length_append,Ju,Tr.row,List.length_nil,List.length_take,List.length_drop] at e1
 refine Lq (Jb O) (Lq (Jk (vs:= [_,_,_]) O O) (Lq (Jk (vs:= [_,_,_]) O O) (Lq (Jk (vs:= [_,_,_]) O O) (Jg O (Jv (cs:= [_,_]) J3 O (by decide) fun b5=>Lq (Jd O) (Jg O (Jq (cs':= [_,_]) (vs:= [_,_]) J3 O O O O O (Nat.le_of_ble_eq_true O) .z (Lq (Jd O) (Je (Jf (Jc (Jc ?_))))))))))))
 by_cases hzm1:m1= .nil
 ·rw [hzm1]
  refine VH Mm2 fun e=> ?_
  subst e
  refine Ja (Lq (Jb O) (Lq (KK Un126 O O (by simp)) (Je (Jf (JL [(16,_),(6,_),(4,_),(5,_),(3,_),(2,_)] (.m6 O O O O O O) (JQ O O (Jc (JI _ _ [3] (.c 0 0 (.c 1 0 (.c 2 0 (.c 3 3 .nil)))) mixed (fun _ _ _ _ h=>h) (Sk2 (Sr)) (fun _ h=>h) (by kernel_rfl) (by decide) fun ws Z0=>Qe O (Jb O) (Qe O (Jw (vs:= [_,_]) Un134 O J3 O Jm O O) (Qe O (Jd O) ?_))))))))))
  refine JJ (J2 O O (Jq (cs':= [_,_]) (vs:= [_,_]) J3 O O O O O (Nat.le_of_ble_eq_true O) .z1 (JK (Jf (Jn (Jr ?_))))))
  refine ⟨_,[],[_,_],fun Z w hs=> .tmp O (JS hs Un134 O J3 O (Ji (Jm)) O .nil),?_,fun Z w hs=>hs.out (Sd2 (Sr)) (Jl Mm1 (Jl Mm2 Tt4))⟩
  exact ⟨_,_,_,_,_,_,O,O,O,wl1,n1,h1,by simp only [r1,hzm1,Tr.row,List.append_nil,List.nil_append]⟩
 ·refine Vf Mm2 hzm1 fun _ e=> ?_
  subst e
  refine Ja (Lq (Jb O) (Lq (KK Un126 O O (by simp)) (Je (Jf (JL [(16,_),(6,_),(4,_),(5,_),(3,_),(2,_)] (.m6 O O O O O O) (Jz O O (Jp (Jf (Jc (Ja (Lq (Jb O) (Jg O (Jo (ih m1.size (by omega) _ m1 wm1 hzm1 (by omega) (Nat.le_refl _)) (.n1 O) (by decide) (Jl Mm2 Jx) fun _ _ _ q9=>?_)))))))))))))
  obtain ⟨A2,t2,s2,k2,C2,d2,rfl,rfl,rfl,wt2,n2,h2,r2⟩:=q9
  have e2:=congrArg List.length r2
  simp only [List.length_append,Ju] at e2
  refine Lq (Jb O) (Lq (Jk (vs:= [_,_]) O O) (Lq (Jk (vs:= [_,_]) O O) (Jg O (Jv (cs:= [_,_]) J3 O (by decide) fun b8=>Lq (Jd O) (Jg O (Jq (cs':= [_,_]) (vs:= [_,_]) J3 O O O O O (Nat.le_of_ble_eq_true O) .z (Je (Jf (Jc (JI _ _ [6] (.c 0 0 (.c 1 0 (.c 2 0 (.c 4 0 (.c 3 2 (.c 5 0 (.c 6 3 .nil))))))) mixed (fun _ _ _ _ h=>h) (Sk3 (Sr)) (fun _ h=>h) (by kernel_rfl) (by decide) fun ws Z0=>Qe O (Jb O) (Qe O (Jw (vs:= [_,_]) Un134 O J3 O (Ji (Jm)) O O) ?_)))))))))))
  refine Qe O (Jb O) (Qe O (Jw (vs:= [_,_]) Un134 O J3 O Jm O O) (Js O O (Jo (join_r B1 A2 C1 d1 l1 t2 s1 k1 wl1 wt2 n1 h1 (by omega)) (.n3 O O O) (by decide) (Jl Mm3 (Jl Mm1 (Jl Mm4 Jx))) fun _ _ _ q9=>?_)))
  obtain ⟨T3,t3,rfl,rfl,rfl,wt3,r3⟩:=q9
  have e3:=congrArg List.length r3
  simp only [List.length_append,Ju,Tr.row,List.length_nil,List.length_take,List.length_drop] at e3
  refine ⟨⟨(Sk3 (Sr)),Mm1⟩,?_⟩
  refine Qe O (Jd O) (JJ (J2 O O (Jq (cs':= [_,_]) (vs:= [_,_]) J3 O O O O O (Nat.le_of_ble_eq_true O) .z2 (JK (Jf (JL [(2,_),(3,_)] (.m2 O O) (Jn ?_)))))))
  refine ⟨_,[],[_,_],fun Z w hs=> .tmp O (JS hs Un134 O J3 O (Ji (Ji (Jm))) O .nil),?_,fun Z w hs=>hs.out (Sd3 (Sr)) (Jl Mm0 (Jl Mm3 Tt7))⟩
  exact ⟨_,_,_,_,_,_,O,O,O,wt3,n2,h2,by simp only [r1,r2,r3,List.append_assoc]⟩
theorem popFirst_n (N:Nat): ∀(A:Option Addr) (t:Tr) (wt:Wf t) (nt:t≠ .nil) (hb:t.row.length≤1073741824),t.size≤N→Sp Tryz.prog 153 [.pointer A] [] [TrF A t] (FirstP t.row):=by
 induction N using Nat.strongRecOn
 rename_i N ih
 intro A t wt nt hb hN
 refine Sp.of (n:=29) ⟨_,Tryz.func153,O,O,O,O⟩ (Nat.le_of_ble_eq_true O) fun Ps As=>Jc (Ja (Jg O (Jv (cs:= [_,_]) J3 O (by decide) fun b2=>Lq (Jd O) (Je (Jf (Jc (Ja (Lq (Jb O) (Jg O (Jo (open_r A t wt nt (by omega)) (.n1 O) (by decide) (Jl Mm0 Jx) fun _ _ _ q9=>?_))))))))))
 obtain ⟨B1,l1,s1,k1,C1,d1,D1,m1,rfl,rfl,rfl,wl1,wm1,n1,h1,r1,zl1,zm1⟩:=q9
 have e1:=congrArg List.length r1
 simp only [List.length_append,Ju,Tr.row,List.length_nil,List.length_take,List.length_drop] at e1
 refine Lq (Jb O) (Lq (Jk (vs:= [_,_,_]) O O) (Lq (Jk (vs:= [_,_,_]) O O) (Lq (Jk (vs:= [_,_,_]) O O) (Jg O (Jv (cs:= [_,_]) J3 O (by decide) fun b5=>Lq (Jd O) (Jg O (Jq (cs':= [_,_]) (vs:= [_,_]) J3 O O O O O (Nat.le_of_ble_eq_true O) .z (Lq (Jd O) (Je (Jf (Jc (Jc ?_))))))))))))
 by_cases hzl1:l1= .nil
 ·rw [hzl1]
  refine VH Mm0 fun e=> ?_
  subst e
  refine Ja (Lq (Jb O) (Lq (KK Un126 O O (by simp)) (Je (Jf (JL [(16,_),(6,_),(4,_),(5,_),(3,_),(2,_)] (.m6 O O O O O O) (JQ O O (Jc (Ja (Lq (Jw (vs:= [_,_]) Un134 O J3 O Jm O O) (Lq (Jb O) (Jg O (Jq (cs':= [_,_]) (vs:= [_,_]) J3 O O O O O (Nat.le_of_ble_eq_true O) .z1 (Lq (Jd O) ?_)))))))))))))
  refine Je (Jf (Jn (Jr ?_)))
  refine ⟨_,[],[_,_],fun Z w hs=>JS hs Un134 O J3 O (Ji (Jm)) O (.tmp O .nil),?_,fun Z w hs=>hs.out (Sd2 (Sr)) (Jl Mm2 (Jl Mm1 Tt3))⟩
  exact ⟨_,_,_,_,_,_,O,O,O,wm1,n1,h1,by simp only [r1,hzl1,Tr.row,List.append_nil,List.nil_append]⟩
 ·refine Vf Mm0 hzl1 fun _ e=> ?_
  subst e
  refine Ja (Lq (Jb O) (Lq (KK Un126 O O (by simp)) (Je (Jf (JL [(16,_),(6,_),(4,_),(5,_),(3,_),(2,_)] (.m6 O O O O O O) (Jz O O (Jp (Jf (Jc (Ja (Lq (Jb O) (Jg O (Jo (ih l1.size (by omega) _ l1 wl1 hzl1 (by omega) (Nat.le_refl _)) (.n1 O) (by decide) (Jl Mm0 Jx) fun _ _ _ q9=>?_)))))))))))))
  obtain ⟨A2,t2,s2,k2,C2,d2,rfl,rfl,rfl,wt2,n2,h2,r2⟩:=q9
  have e2:=congrArg List.length r2
  simp only [List.length_append,Ju] at e2
  refine Lq (Jb O) (Lq (Jk (vs:= [_,_]) O O) (Lq (Jk (vs:= [_,_]) O O) (Jg O (Jv (cs:= [_,_]) J3 O (by decide) fun b7=>Jg O (Jq (cs':= [_,_]) (vs:= [_,_]) J3 O O O O O (Nat.le_of_ble_eq_true O) .z (Lq (Jd O) (Je (Jf (Jc (JI _ _ [5] (.c 0 0 (.c 1 0 (.c 2 0 (.c 3 0 (.c 4 2 (.c 5 3 (.c 6 1 .nil))))))) mixed (fun _ _ _ _ h=>h) (Sk3 (Sr)) (fun _ h=>h) (by kernel_rfl) (by decide) fun ws Z0=>Qe O (Jw (vs:= [_,_]) Un134 O J3 O Jm O O) (Qe O (Jb O) ?_)))))))))))
  refine Qe O (Jw (vs:= [_,_]) Un134 O J3 O (Ji (Jm)) O O) (Qe O (Jb O) (Js O O (Jo (join_r A2 D1 C1 d1 t2 m1 s1 k1 wt2 wm1 n1 h1 (by omega)) (.n3 O O O) (by decide) (Jl Mm1 (Jl Mm5 (Jl Mm4 Jx))) fun _ _ _ q9=>?_)))
  obtain ⟨T3,t3,rfl,rfl,rfl,wt3,r3⟩:=q9
  have e3:=congrArg List.length r3
  simp only [List.length_append,Ju,Tr.row,List.length_nil,List.length_take,List.length_drop] at e3
  refine ⟨⟨(Sk3 (Sr)),Mm1⟩,?_⟩
  refine JJ (J2 O O (Jq (cs':= [_,_]) (vs:= [_,_]) J3 O O O O O (Nat.le_of_ble_eq_true O) .z2 (YM O (Jd O) (by decide) (JK (Jf (JL [(3,_),(2,_)] (.m2 O O) (Jn ?_)))))))
  refine ⟨_,[],[_,_],fun Z w hs=>JS hs Un134 O J3 O (Ji (Ji (Jm))) O (.tmp O .nil),?_,fun Z w hs=>hs.out (Sd3 (Sr)) (Jl Mm0 (Jl Mm3 Tt7))⟩
  exact ⟨_,_,_,_,_,_,O,O,O,wt3,n2,h2,by simp only [r1,r2,r3,List.append_assoc]⟩
theorem popLast_r (A:Option Addr) (t:Tr) (wt:Wf t) (nt:t≠ .nil) (hb:t.row.length≤1073741824):Sp Tryz.prog 152 [.pointer A] [] [TrF A t] (LastP t.row):=popLast_n _ A t wt nt hb (Nat.le_refl _)
theorem popFirst_r (A:Option Addr) (t:Tr) (wt:Wf t) (nt:t≠ .nil) (hb:t.row.length≤1073741824):Sp Tryz.prog 153 [.pointer A] [] [TrF A t] (FirstP t.row):=popFirst_n _ A t wt nt hb (Nat.le_refl _)
theorem sp1 {a b:List Ce} {x:Int} (h0:0≤x) (h:x≤a.length):(a++b).take x.toNat=a.take x.toNat∧(a++b).drop x.toNat=a.drop x.toNat ++b:=
 ⟨List.take_append_of_le_length (by omega),List.drop_append_of_le_length (by omega)⟩
theorem sp2 {a c b:List Ce} {x:Int} (h:(a.length:Int)+c.length≤x):(a++(c++b)).take x.toNat=a++(c++b.take (x-a.length-c.length).toNat)∧(a++(c++b)).drop x.toNat=b.drop (x-a.length-c.length).toNat:=by
 have e:x.toNat=a.length+(c.length+(x-a.length-c.length).toNat):=by omega
 rw [e,List.take_length_add_append,List.take_length_add_append,List.drop_length_add_append,List.drop_length_add_append]
 exact ⟨O,O⟩
theorem sp3 {a c b:List Ce} {x:Int} (h:(a.length:Int)≤x) (h2:x≤a.length+c.length):(a++(c++b)).take x.toNat=a++c.take (x-a.length).toNat∧(a++(c++b)).drop x.toNat=c.drop (x-a.length).toNat ++b:=by
 have e:x.toNat=a.length+(x-a.length).toNat:=by omega
 rw [e,List.take_length_add_append,List.drop_length_add_append,List.take_append_of_le_length (by omega),List.drop_append_of_le_length (by omega)]
 exact ⟨O,O⟩
theorem cells_take (rs:List Int) (hid:Int) (k:Nat):(cellsOf rs hid).take k=cellsOf (rs.take k) hid:=by unfold cellsOf;rw [List.map_take]
theorem cells_drop (rs:List Int) (hid:Int) (k:Nat):(cellsOf rs hid).drop k=cellsOf (rs.drop k) hid:=by unfold cellsOf;rw [List.map_drop]
theorem take_ne {rs:List Int} {k:Nat} (h:0<k) (h2:k≤rs.length):rs.take k≠ [] :=fun e=>by have:=congrArg List.length e;rw [List.length_take,List.length_nil] at this;omega
theorem drop_ne {rs:List Int} {k:Nat} (h2:k<rs.length):rs.drop k≠ [] :=fun e=>by have:=congrArg List.length e;simp at this;omega
def NP2 (a b:List Ce):Value→List Part→List Fact→Prop:=fun v Lo fs=> ∃(A:Option Addr) (t:Tr) (B:Option Addr) (u:Tr),v= .tuple #[.pointer A, .pointer B] ∧Lo= [] ∧fs= [TrF A t,TrF B u] ∧Wf t∧Wf u∧t.row=a∧u.row=b
theorem split_0 (x:Int):Sp Tryz.prog 139 [.pointer none, .int .i64 x] [] [TrF none .nil] (NP2 [] []):=by
 refine Sp.of (n:=89) ⟨_,Tryz.func139,O,O,O,O⟩ (Nat.le_of_ble_eq_true O) fun Ps As=>Jc (Ja (Lq (Jd O) (Lq (Jd O) (Je (Jf (Jc (Jc (Ja (Lq (Jb O) (Lq (KK Un126 O O (by simp)) (Je (Jf (JQ O O (Jc (Ja (Lq (Jd O) (Lq (Jd O) ?_)))))))))))))))))
 refine Je (Jf (Jn (Jr ?_)))
 refine ⟨_,[],[_,_],fun Z w hs=> .tmp O (.tmp O .nil),?_,fun Z w hs=>hs.out (Sr) (Jl Mm0 (Jl Mm0 (fun _ h=>h)))⟩
 exact ⟨_,_,_,_,O,O,O,wnilT,wnilT,O,O⟩
theorem fd112_0Xw26 (x0:Int) (x1:Int) (x2:Int) (x3:Int) (x4:Int) (x5:Int) (w:World):(Instr.field 138 (.agg #[.int .i64 x0, .int .i64 x1, .int .i64 x2, .int .i64 x3, .int .i64 x4, .int .i64 x5]) 0).run Tryz.prog w= .ok (.int .i64 x0) w:=by kernel_rfl
theorem split_n (N:Nat): ∀(A:Option Addr) (t:Tr) (x:Int) (wt:Wf t) (hb:t.row.length≤1073741824) (hx:0≤x) (hx2:x≤1073741824),t.size≤N→Sp Tryz.prog 139 [.pointer A, .int .i64 x] [] [TrF A t] (NP2 (t.row.take x.toNat) (t.row.drop x.toNat)):=by
 induction N using Nat.strongRecOn
 rename_i N ih
 intro A t x wt hb hx hx2 hN
 by_cases nt:t= .nil
 ·subst nt
  refine ⟨(split_0 x).enters,fun Z w Ps As hs=> ?_⟩
  obtain rfl:A=none:=hs.facts _ (by simp:TrF A .nil∈ [TrF A .nil] ++As)
  simpa [Tr.row] using (split_0 x).calls Z w Ps As hs
 refine Sp.of (n:=89) ⟨_,Tryz.func139,O,O,O,O⟩ (Nat.le_of_ble_eq_true O) fun Ps As=>Vf Mm0 nt fun _ e=> ?_
 subst e
 refine Jc (Ja (Lq (Jd O) (Lq (Jd O) (Je (Jf (Jc (Jc (Ja (Lq (Jb O) (Lq (KK Un126 O O (by simp)) (Je (Jf (Jz O O (Jp (Jf (Jc (Ja (Lq (Jb O) (Jg O (Jo (open_r _ t wt nt (by omega)) (.n1 O) (by decide) (Jl Mm0 Jx) fun _ _ _ q9=>?_))))))))))))))))))))
 obtain ⟨B1,l1,s1,k1,C1,d1,D1,m1,rfl,rfl,rfl,wl1,wm1,n1,h1,r1,zl1,zm1⟩:=q9
 have e1:=congrArg List.length r1
 simp only [List.length_append,Ju,Tr.row,List.length_nil,List.length_take,List.length_drop] at e1
 refine Lq (Jb O) (Lq (Jk (vs:= [_,_,_]) O O) (Lq (Jk (vs:= [_,_,_]) O O) (Lq (Jk (vs:= [_,_,_]) O O) (Jg O (Jv (cs:= [_,_]) J3 O (by decide) fun b7=>Lq (Jd O) (Jg O (Jq (cs':= [_,_]) (vs:= [_,_]) J3 O O O O O (Nat.le_of_ble_eq_true O) .z (Lq (Jd O) (Je (Jf (JL [(8,_),(6,_),(7,_),(5,_),(4,_),(1,_)] (.m6 O O O O O O) ?_)))))))))))
 refine Jc (Ja (Lq (Jb O) (Jg O (Jo (YD B1 l1) (.n1 O) (by decide) (Jl Mm0 Jx) fun _ _ _ q9=>?_))))
 obtain ⟨rfl,rfl,rfl⟩:=q9
 refine Lq (Yn O (fd112_0Xw26 _ _ _ _ _ _)) (Lq (Jd O) (Je (Jf (Jc (JO (Jc ?_))))))
 have hkk:=wl1.tot
 refine Ja (Lq (Jb O) (Lq (Jb O) (Lq (YK O O) (Lq (Jd O) (Je (Jf (JL [(27,_),(9,_),(8,_),(6,_),(7,_),(5,_),(4,_),(1,_)] (.m8 O O O O O O O O) (Jy O (fun h27=> ?_) (fun h27=> ?_)))))))))
 ·refine Jc ?_
  simp only [decide_eq_true_eq] at h27
  refine Ja (Lq (Jb O) (Lq (Jb O) (Jg O (Jo (ih l1.size (by omega) B1 l1 x wl1 (by omega) (by omega) (by omega) (Nat.le_refl _)) (.n2 O O) (by decide) (Jl Mm0 Jx) fun _ _ _ q9=>?_))))
  obtain ⟨A2,t2,E2,q2,rfl,rfl,rfl,wt2,wq2,r2,rq2⟩:=q9
  have e2:=congrArg List.length r2
  simp only [List.length_append,Ju,Tr.row,List.length_nil,List.length_take,List.length_drop] at e2
  have eq2:=congrArg List.length rq2
  simp only [List.length_append,Ju,Tr.row,List.length_nil,List.length_take,List.length_drop] at eq2
  refine Lq (Jb O) (Lq (Jk (vs:= [_,_]) O O) (Lq (Jk (vs:= [_,_]) O O) (Lq (Jd O) (Lq (Jd O) (Je (Jf (JL [(11,_),(10,_),(9,_),(8,_),(6,_),(7,_),(5,_),(4,_),(1,_)] (.m9 O O O O O O O O O) (Jc (Ja (Lq (Jb O) (Lq (Jb O) ?_)))))))))))
  refine Lq (Jw (vs:= [_,_]) Un134 O J3 O Jm O O) (Lq (Jb O) (Jg O (Jo (join_r E2 D1 C1 d1 q2 m1 s1 k1 wq2 wm1 n1 h1 (by omega)) (.n3 O O O) (by decide) (Jl Mm1 (Jl Mm4 (Jl Mm3 Jx))) fun _ _ _ q9=>?_)))
  obtain ⟨T3,t3,rfl,rfl,rfl,wt3,r3⟩:=q9
  have e3:=congrArg List.length r3
  simp only [List.length_append,Ju,Tr.row,List.length_nil,List.length_take,List.length_drop] at e3
  refine Lq (Jd O) (Lq (Jd O) (Je (Jf (JL [(5,_),(4,_),(9,_),(8,_),(6,_),(7,_),(1,_)] (.m7 O O O O O O O) (Jn (JM (Jr ?_)))))))
  refine ⟨_,[],[_,_],fun Z w hs=> .tmp O (.tmp O .nil),?_,fun Z w hs=>hs.out (Sd (Sr)) (Jl Mm1 (Jl Mm0 Tt6))⟩
  obtain ⟨g1,g2⟩:=sp1 (a:=l1.row) (b:=cellsOf s1 k1++m1.row) (x:=x) hx (by omega)
  refine ⟨_,_,_,_,O,O,O,wt2,wt3,?_,?_⟩
  ·rw [r1,g1];simp only [r2,r3,rq2,cells_take,cells_drop,Ju,List.append_assoc,Tr.row,List.append_nil,List.nil_append,hkk]
  ·rw [r1,g2];simp only [r2,r3,rq2,cells_take,cells_drop,Ju,List.append_assoc,Tr.row,List.append_nil,List.nil_append,hkk]
 ·refine Jc (Ja (Lq (Jb O) (Lq (Jb O) (Lq (Jh (o':=0) Un134 O Yb O O) (Lq (Jj Un132 O O Jm O) (Lq (J7 Un132 O) (Lq (JZ O O (wr64 (by omega))) (Lq (Yl O O) (Lq (Jd O) (Je (Jf ?_)))))))))))
  refine JL [(42,_),(9,_),(8,_),(6,_),(7,_),(5,_),(4,_),(1,_)] (.m8 O O O O O O O O) (Jy O (fun h42=> ?_) (fun h42=> ?_))
  ·refine Jc ?_
   simp only [decide_eq_true_eq] at h42
   refine Ja (Lq (Jb O) (Lq (Jb O) (Lq (Jb O) (Lq (KS O O (wr64 (by omega))) (Lq (Jh (o':=0) Un134 O Yb O O) (Lq (Jj Un132 O O Jm O) (Lq (J7 Un132 O) (Lq (KS O O (wr64 (by omega))) (Jg O (Jo (ih m1.size (by omega) D1 m1 (x-(allF l1).tot-s1.length) wm1 (by omega) (by omega) (by omega) (Nat.le_refl _)) (.n2 O O) (by decide) (Jl Mm2 Jx) fun _ _ _ q9=>?_))))))))))
   obtain ⟨A4,t4,E4,q4,rfl,rfl,rfl,wt4,wq4,r4,rq4⟩:=q9
   have e4:=congrArg List.length r4
   simp only [List.length_append,Ju,Tr.row,List.length_nil,List.length_take,List.length_drop] at e4
   have eq4:=congrArg List.length rq4
   simp only [List.length_append,Ju,Tr.row,List.length_nil,List.length_take,List.length_drop] at eq4
   refine Lq (Jb O) (Lq (Jk (vs:= [_,_]) O O) (Lq (Jk (vs:= [_,_]) O O) (Lq (Jd O) (Lq (Jd O) (Je (Jf (JL [(13,_),(12,_),(9,_),(8,_),(6,_),(7,_),(5,_),(4,_),(1,_)] (.m9 O O O O O O O O O) (Jc (Ja (Lq (Jb O) (Lq (Jw (vs:= [_,_]) Un134 O J3 O Jm O O) ?_)))))))))))
   refine Lq (Jb O) (Jg O (Jo (join_r B1 A4 C1 d1 l1 t4 s1 k1 wl1 wt4 n1 h1 (by omega)) (.n3 O O O) (by decide) (Jl Mm2 (Jl Mm0 (Jl Mm3 Jx))) fun _ _ _ q9=>?_))
   obtain ⟨T5,t5,rfl,rfl,rfl,wt5,r5⟩:=q9
   have e5:=congrArg List.length r5
   simp only [List.length_append,Ju,Tr.row,List.length_nil,List.length_take,List.length_drop] at e5
   refine Lq (Jb O) (Lq (Jd O) (Lq (Jd O) (Je (Jf (JL [(5,_),(4,_),(9,_),(8,_),(6,_),(7,_),(1,_)] (.m7 O O O O O O O) (Jn (JM (Jr ?_))))))))
   refine ⟨_,[],[_,_],fun Z w hs=> .tmp O (.tmp O .nil),?_,fun Z w hs=>hs.out (Sd (Sr)) (Jl Mm0 (Jl Mm2 Tt6))⟩
   obtain ⟨g1,g2⟩:=sp2 (a:=l1.row) (c:=cellsOf s1 k1) (b:=m1.row) (x:=x) (by rw [Ju];omega)
   refine ⟨_,_,_,_,O,O,O,wt5,wq4,?_,?_⟩
   ·rw [r1,g1];simp only [r4,r5,rq4,cells_take,cells_drop,Ju,List.append_assoc,Tr.row,List.append_nil,List.nil_append,hkk]
   ·rw [r1,g2];simp only [r4,r5,rq4,cells_take,cells_drop,Ju,List.append_assoc,Tr.row,List.append_nil,List.nil_append,hkk]
  ·refine Jp (J9 (Jf (Jc (JI _ _ [5] (.c 0 0 (.c 1 0 (.c 2 4 (.c 3 4 (.c 4 2 (.c 5 3 .nil)))))) mixed (fun _ _ _ _ h=>h) (Sk (Sr)) (fun _ h=>h) (by kernel_rfl) (by decide) fun ws Z0=>Qe O (Jw (vs:= [_,_]) Un134 O J3 O Jm O O) (Qe O (Jw (vs:= [_,_]) Un134 O J3 O Jm O O) (GP O O (cs1:= [_,_]) (cs2:= [_,_]) J3 O J3 O (by decide) (by decide) (by decide) (Sk (Sr)) Mm0 fun b14 b15=>Js O O (Jq (cs':= [_,_]) (vs:= [_,_]) J3 O O O O O (Nat.le_of_ble_eq_true O) .z1 ?_)))))))
   refine ⟨⟨(Sd2 (Sk (Sr))),Mm0⟩,?_⟩
   refine JJ (J2 O O (Jq (cs':= [_,_]) (vs:= [_,_]) J3 O O O O O (Nat.le_of_ble_eq_true O) .z (JK (Jf (Jc ?_)))))
   simp only [decide_eq_false_iff_not] at h27 h42
   obtain ⟨k0,hk0⟩: ∃k:Nat,k=(x-l1.row.length).toNat:=⟨_,rfl⟩
   have hk1:0<k0:=by omega
   have hk2:k0<s1.length:=by omega
   have ht1:(s1.take k0).length=k0:=by rw [List.length_take];omega
   have hd1:(s1.drop k0).length=s1.length-k0:=by rw [List.length_drop]
   refine Gt Mm2 fun hcap=>V4 k0 Mm2 (by omega) (V3 k0 Mm3 (by omega) (Kf (A:=TrF none .nil) (fun _ _ _=>O) (JI _ _ [15] (.c 0 0 (.c 1 0 (.c 2 0 (.c 3 0 (.c 4 0 (.c 5 0 (.c 6 0 (.c 7 0 (.c 8 0 (.c 9 0 (.c 10 0 (.c 11 0 (.c 12 0 (.c 13 2 (.c 14 0 (.c 15 3 .nil)))))))))))))))) mixed (fun _ _ _ _ h=>h) (Sk (Sd (Sk (Sr)))) (fun _ h=>h) (by kernel_rfl) (by decide) fun ws Z0=>Qe O (Jh (o':=0) Un134 O Yb O O) (Qe O (Jj Un132 O O (Ji (Jm)) O) (Qe O (Jb O) (Qe O (Jb O) (Qe O (KS O O (wr64 (by omega))) ?_)))))))
   refine Qe O (Vs (m:=(s1.take k0).length) (by omega) Un132 VX O O (by omega) (by omega)) (Qe O (Jh (o':=0) Un134 O Yb O O) (Qe O (Jj Un132 O O (Ji (Jm)) O) (Qe O (Jb O) (Qe O (Jb O) (Qe O (KS O O (wr64 (by omega))) (Qe O (Vr (j:=k0) (m:=(s1.drop k0).length) (by omega) (by omega) Un132 VX O O (by omega) (by omega)) (Qe O (Jh (o':=0) Un134 O Yb O O) (Js O O (JN Yb O O O .z .z1 ?_)))))))))
   refine ⟨⟨(Sk (Sd (Sk (Sr)))),Mm0⟩,?_⟩
   refine Qe O (Jh (o':=0) Un134 O Yb O O) (JJ (J2 O O (JN Yb O O O .z .z (JK (Jf (JL [(15,_),(14,_),(8,_),(6,_),(5,_),(4,_)] (.m6 O O O O O O) (Jc (JI _ _ [] (.c 0 0 (.c 1 0 (.c 3 0 (.c 4 0 (.c 2 2 (.c 5 2 (.c 6 0 (.c 7 0 .nil)))))))) mixed (fun _ _ _ _ h=>h) (Sk3 (Sr)) (fun _ h=>h) (by kernel_rfl) (by decide) fun ws Z0=>Qe O (Jb O) (Qe O (Jw (vs:= [_,_]) Un134 O J3 O (Ji (Jm)) O O) (Qe O (Jw (vs:= [_,_]) Un134 O J3 O Jm O O) ?_))))))))))
   refine Qe O (Jb O) (Js O O (Jo (join_r B1 none (cutA C1 0 d1 1) d1 l1 Tr.nil (s1.take k0) k1 wl1 wnilT (take_ne hk1 (by omega)) h1 (by simp only [Tr.row,List.length_nil];omega)) (.n3 O O O) (by decide) (Jl Mm6 (Jl Mm2 (Jl Mm4 Jx))) fun _ _ _ q9=>?_))
   obtain ⟨T6,t6,rfl,rfl,rfl,wt6,r6⟩:=q9
   have e6:=congrArg List.length r6
   simp only [List.length_append,Ju,Tr.row,List.length_nil,List.length_take,List.length_drop] at e6
   refine ⟨⟨(Sk3 (Sr)),Mm1⟩,?_⟩
   refine Js O O (Jo (join_r none D1 (cutA C1 k0 d1 1) (d1-k0) Tr.nil m1 (s1.drop k0) k1 wnilT wm1 (drop_ne hk2) h1 (by simp only [Tr.row,List.length_nil];omega)) (.n3 O O O) (by decide) (Jl Mm3 (Jl Mm9 (Jl Mm4 Jx))) fun _ _ _ q9=>?_)
   obtain ⟨T7,t7,rfl,rfl,rfl,wt7,r7⟩:=q9
   have e7:=congrArg List.length r7
   simp only [List.length_append,Ju,Tr.row,List.length_nil,List.length_take,List.length_drop] at e7
   refine ⟨⟨(Sk3 (Sr)),Mm2⟩,?_⟩
   refine Qe O (Jd O) (Qe O (Jd O) (JJ (JK (Jf (Jn ?_)))))
   refine ⟨_,[],[_,_],fun Z w hs=> .tmp O (.tmp O .nil),?_,fun Z w hs=>hs.out (Sd3 (Sr)) (Jl Mm1 (Jl Mm0 Tt11))⟩
   obtain ⟨g1,g2⟩:=sp3 (a:=l1.row) (c:=cellsOf s1 k1) (b:=m1.row) (x:=x) (by omega) (by rw [Ju];omega)
   refine ⟨_,_,_,_,O,O,O,wt6,wt7,?_,?_⟩
   ·rw [r1,g1];simp only [r6,r7,←hk0,cells_take,cells_drop,Ju,List.append_assoc,Tr.row,List.append_nil,List.nil_append,hkk]
   ·rw [r1,g2];simp only [r6,r7,←hk0,cells_take,cells_drop,Ju,List.append_assoc,Tr.row,List.append_nil,List.nil_append,hkk]
theorem split_r (A:Option Addr) (t:Tr) (x:Int) (wt:Wf t) (hb:t.row.length≤1073741824) (hx:0≤x) (hx2:x≤1073741824):Sp Tryz.prog 139 [.pointer A, .int .i64 x] [] [TrF A t] (NP2 (t.row.take x.toNat) (t.row.drop x.toNat)):=split_n _ A t x wt hb hx hx2 (Nat.le_refl _)
structure RuI (s:ByteArray) (p:Nat) (acc:List Int) (v:Value) (pa:Part):Prop where
 le:p≤s.size
 len:acc.length≤p
 eq:KH s=acc++runesAt s p
 row:Row 21 1 v acc.length (ints .i32 acc) pa
theorem HF (s:ByteArray) (hs:s.size≤1073741824):Sp Tryz.prog 143 [.string s] [] [] (fun v Lo fs=> ∃A c,v= .slice A (KH s).length c∧Lo= [] ∧fs= [RdF runeD A c (KH s)]):=by
 refine Sp.of (n:=16) ⟨_,Tryz.func143,O,O,O,O⟩ (Nat.le_of_ble_eq_true O) fun Ps As=>Jc (Ja (Lq (Jd O) (Je (Jf (Jc (Ja (Lq (Jd O) (Je (Jf (Jc (Jc (Ja (Lq (Jb O) (Jg O (GR Un9 O (by decide) fun b7=>Je (Jf (JO (KE ?_))))))))))))))))))
 refine Ki (α:=Nat×List Int×Value×Part) (fun (p,acc,v,pa)=>s.size-p)
  (fun (p,acc,v,pa)=> [(3,v),(7, .pointer (some ⟨b7,0,none⟩))])
  (fun (p,acc,v,pa)=>(pa:: [(b7, .stringIter s p)] ::Ps))
  (fun (p,acc,v,pa)=>As)
  (fun (p,acc,v,pa)=>RuI s p acc v pa)
  (0,[], .slice none 0 0,[]) ?_ (.m2 rfl rfl) (Sk2 (Sr)) (fun _ h=>h) ?_
 ·exact ⟨Nat.zero_le _,Nat.le_refl _,O,Row.nil _ _⟩
 ·rintro ⟨p,acc,v,pa⟩ hI
  have hle:=hI.le
  have hal:=hI.len
  refine Jc ?_
  by_cases hp:p<s.size
  ·refine Ja (Jg O (GS O hp .z1 (by decide) (Lq (Jk (vs:= [_,_,_]) O O) (Je (Jf (Jc (JQ O O (Jp (Jf (JO (Jc (Ja (Lq (Jk (vs:= [_,_,_]) O O) (Lq (Jd O) (Je (Jf (Ja (Lq (Jb O) (Lq (Jb O) ?_)))))))))))))))))))
   refine Jg O (KP (cs:= [_]) Un132 VX (by decide) (by decide) O O O O (by decide) fun b13=>Jg O (KV (news:= [_]) Un132 VX O (by decide) O O hI.row Jm O O (by omega) (by unfold maxLen;omega) (by decide) (DelAt.perm .z1) fun v14 p14 hr14=>Lq (Jd O) (Je (J9 (Ko ?_)))))
   have hd:=decode_pos s p
   have hd2:=decode_leP hp
   refine ⟨(p+(Utf8.decode s p).2,acc++ [((Utf8.decode s p).1:Int)],v14,p14),?_,(.m2 O O),(Sk (Sd (Sk (Sr)))),(fun _ h=>h)⟩
   exact ⟨by show s.size-(p+(Utf8.decode s p).2)<s.size-p;omega,by show p+(Utf8.decode s p).2≤s.size;exact hd2,by rw [List.length_append];show acc.length+1≤p+(Utf8.decode s p).2;omega,by rw [hI.eq,runesAt_next hp,List.append_assoc];rfl,by rw [KX,List.length_append];exact hr14⟩
  ·refine Ja (Jg O (GT O (Ji (Jm)) hp (by decide) (Lq (Jk (vs:= [_]) O O) (Je (Jf (Jc (Jz O O (Kr (JR (JR (Kg (Jf (Jc ?_)))))))))))))
   have hdone:KH s=acc:=by rw [hI.eq,runesAt_end hp,List.append_nil]
   subst hdone
   refine Kf (A:=RepsF runeD (KH s) ((KH s).map fun x=> [Value.int .i32 x])) (fun Z w _=>ints_reps _ _ Z w) (KW (e:=runeD) (xs:=KH s) (css:=(KH s).map fun x=> [Value.int .i32 x]) (by rw [ints_flat];exact hI.row) .z O Mm0 fun A9 c9 e9=> ?_)
   cases e9
   refine Ja (Lq (Jb O) (Lq (Jd O) (Je (Jf (Jn ?_)))))
   refine ⟨_,[],[_],fun Z w hs=> .tmp O .nil,?_,fun Z w hs=>hs.out (Sd (Sr)) (Jl Mm0 Tt2)⟩
   exact ⟨_,_,O,O,O⟩
theorem tdiv_nat (a b:Nat) (h:a≤4611686018427387904):IntKind.i64.wrap ((a:Int).tdiv (b:Int))=((a / b:Nat):Int):=by
 rw [←Int.ofNat_tdiv]
 have:a / b≤a:=Nat.div_le_self a b
 generalize a / b=q at this
 exact wr64 (by omega)
theorem mul_nat (a b:Nat) (h:a*b≤4611686018427387904):IntKind.i64.wrap ((a:Int)*(b:Int))=((a*b:Nat):Int):=by
 rw [←Int.natCast_mul];exact wr64 (by omega)
def PcsP (row:List Ce):Value→List Part→List Fact→Prop:=fun v Lo fs=> ∃(A:Option Addr) (c:Nat) (ps:List Pc),v= .slice A ps.length c∧Lo= [] ∧fs= [RdF pcD A c ps] ∧PcOk ps∧pcsRow ps=row
def CuI (rs:List Int) (hid:Int) (K i:Nat) (v:Value) (p:Part) (css:List (List Value)):Prop:=i≤K∧Row 134 2 v (cutPcs rs hid K i).length css.flatten p
theorem bd118_0_1Xw28 (x0_A:Option Addr) (x0_n x0_c:Nat) (x1_:Int) (w:World):(Instr.build 134 #[(0, .slice x0_A x0_n x0_c),(1, .int .i64 x1_)]).run Tryz.prog w= .ok (.agg #[.slice x0_A x0_n x0_c, .int .i64 x1_]) w:=by kernel_rfl
theorem Ee (A:Option Addr) (c:Nat) (rs:List Int) (hid:Int) (hb:rs.length≤1073741824) (hh:0≤hid∧hid≤1048576):Sp Tryz.prog 142 [.slice A rs.length c, .int .i64 hid] [] [RdF runeD A c rs] (PcsP (cellsOf rs hid)):=by
 obtain ⟨K,hK⟩: ∃K:Nat,K=(rs.length+63) / 64:=⟨_,rfl⟩
 refine Sp.of (n:=39) ⟨_,Tryz.func142,O,O,O,O⟩ (Nat.le_of_ble_eq_true O) fun Ps As=>Jc (Ja (Lq (Jd O) (Je (Jf (Jc (Ja (Lq (Jb O) (Lq (J7 Un132 O) (Lq (JZ O O (wr64 (by omega)) (c:=((rs.length+64:Nat):Int))) (Lq (KS O O (by rw [wr64 (by omega)];omega) (c:=((rs.length+63:Nat):Int))) (Lq (Hk O O (by decide) (by rw [hK];exact tdiv_nat (rs.length+63) 64 (by omega)) (c:=((K:Nat):Int))) (Lq (Jd O) ?_))))))))))))
 refine Je (Jf (Jc (Ja (Lq (Jd O) (Je (Jf (Jc (Jc (Ja (Lq (Jb O) (Lq (Jb O) (Je (Jf (JO (KE (Kf (A:=RepsF pcD [] []) (fun Z w _=> .nil) ?_))))))))))))))))
 refine Ki (α:=Nat×Value×Part×List (List Value)) (fun (i,v,p,css)=>K-i)
  (fun (i,v,p,css)=> [(0, .slice A rs.length c),(1, .int .i64 hid),(5, .int .i64 (K:Nat)),(6,v),(13, .int .i64 (K:Nat)),(14, .int .i64 i)])
  (fun (i,v,p,css)=>(p::Ps))
  (fun (i,v,p,css)=>(RepsF pcD (cutPcs rs hid K i) css::RdF runeD A c rs::As))
  (fun (i,v,p,css)=>CuI rs hid K i v p css)
  (0, .slice none 0 0,[],[]) ?_ (.m6 rfl rfl rfl rfl rfl rfl) (Sk (Sr)) (fun _ h=>h) ?_
 ·exact ⟨Nat.zero_le _,Row.nil _ _⟩
 ·rintro ⟨i,v,pa,css⟩ hI
  refine Jc (Ja (Lq (Ku O O) (Je (Jf (Jc (Jy O (fun h15=> ?_) (fun h15=> ?_)))))))
  ·refine Jp (Jf (Jc (JO (Jc (Ja (Lq (Jb O) (Lq (Jd O) (Je (Jf ?_)))))))))
   try simp only [Bp,Bq] at *
   have hiK:i<K:=by omega
   have hK0:0<K:=by omega
   have hc1:=cutAt_lt (n:=rs.length) (k:=K) (i:=i) hK0 (by omega)
   have hc2:=EB (n:=rs.length) (k:=K) (i:=i+1) hK0 hiK
   have hm1:i*rs.length≤1073741824*1073741824:=Nat.mul_le_mul (by omega) hb
   have hm2:(i+1)*rs.length≤1073741824*1073741824:=Nat.mul_le_mul (by omega) hb
   have hpl:(cutPc rs hid K i).rs.length=cutAt rs.length K (i+1)-cutAt rs.length K i:=by unfold cutPc;simp only [List.length_drop,List.length_take];omega
   have hil:=QE rs hid K i
   refine Gt Mm1 fun hcap=>E7 (cutAt rs.length K i) (cutAt rs.length K (i+1)) Mm1 (by omega) hc2 (JI _ _ [] (.c 0 0 (.c 1 0 (.c 2 0 (.c 3 0 (.c 4 0 (.c 5 0 (.c 6 0 (.c 7 0 (.c 8 0 (.c 9 0 (.c 10 0 (.c 11 0 (.c 12 0 (.c 13 0 (.c 14 0 (.c 15 0 (.c 16 0 (.c 17 0 (.c 18 2 (.c 19 2 (.c 20 0 .nil))))))))))))))))))))) mixed (fun _ _ _ _ h=>h) (Sd (Sr)) (fun _ h=>h) (by kernel_rfl) (by decide) fun ws Z0=>Qe O (Jb O) (Qe O (Jb O) (Qe O (Jb O) (Qe O (Jb O) (Qe O (J7 Un132 O) (Qe O (Jam O O (mul_nat i rs.length (by omega))) (Qe O (Jb O) ?_)))))))
   refine Qe O (Hk O O (by omega) (tdiv_nat (i*rs.length) K (by omega)) (c:=((cutAt rs.length K i:Nat):Int))) (Qe O (Jb O) (Qe O (JZ O O (wr64 (by omega)) (c:=((i+1:Nat):Int))) (Qe O (Jb O) (Qe O (J7 Un132 O) (Qe O (Jam O O (mul_nat (i+1) rs.length (by omega))) (Qe O (Jb O) (Qe O (Hk O O (by omega) (tdiv_nat ((i+1)*rs.length) K (by omega)) (c:=((cutAt rs.length K (i+1):Nat):Int))) (Qe O (X0 (k:=cutAt rs.length K i) (m:=(cutPc rs hid K i).rs.length) (by omega) (by omega) Un132 VX O O O (by omega) (by omega) (by omega)) (Qe O (Jb O) ?_)))))))))
   refine Qe O (JV (.n2 O O) (bd118_0_1Xw28 _ _ _ _)) (Js O O (KP (cs:= [_,_]) Un233 J3 (by decide) (by decide) O O O O (by decide) fun b35=> ?_))
   refine ⟨⟨(Sd2 (Sr)),Mm0⟩,?_⟩
   refine Js O O (KV (news:= [_,_]) Un233 J3 O (by decide) O O hI.2 Jm O O (by omega) (by unfold maxLen;omega) (by decide) (DelAt.perm .z1) fun v36 p36 hr36=> ?_)
   refine ⟨⟨(Sd2 (Sr)),Mm0⟩,?_⟩
   refine Qe O (Jd O) (JJ (JK (J9 (Jf (Vh (xs':=cutPcs rs hid K (i+1)) (u:=cutPc rs hid K i) (cs:=pcC (cutPc rs hid K i).rs hid (cutA A (cutAt rs.length K i) c 1) (c-cutAt rs.length K i)) Mm2 (fun Z w hs=>⟨_,_,O,hs.facts _ Mm1⟩) O (Ja (Lq (JZ O O (wr64 (by omega)) (c:=((i+1:Nat):Int))) (Lq (Jb O) (Je (Ko ?_))))))))))
   refine ⟨(i+1,v36,p36,css++ [pcC (cutPc rs hid K i).rs hid (cutA A (cutAt rs.length K i) c 1) (c-cutAt rs.length K i)]),?_,(.m6 O O O O O O),(Sk (Sd (Sr))),(Jl Mm0 Tt4)⟩
   refine ⟨by show K-(i+1)<K-i;omega,hiK,?_⟩
   have e:(cutPcs rs hid K (i+1)).length=(cutPcs rs hid K i).length+1:=by rw [hil,QE]
   show Row 134 2 v36 (cutPcs rs hid K (i+1)).length _ p36
   rw [e,List.flatten_append];exact hr36
  ·refine Kr (JR (JR (Kg (Jf (Jc ?_)))))
   try simp only [Bp,Bq] at *
   obtain rfl:i=K:=by have:=hI.1;omega
   refine KW (e:=pcD) (xs:=cutPcs rs hid i i) (css:=css) hI.2 .z O Mm0 fun A9 c9 e9=> ?_
   cases e9
   refine Ja (Lq (Jb O) (Lq (Jd O) (Je (Jf (Jn ?_)))))
   refine ⟨_,[],[_],fun Z w hs=> .tmp O .nil,?_,fun Z w hs=>hs.out (Sr) (Jl Mm0 Tt2)⟩
   by_cases hz:rs.length=0
   ·have h1:rs= [] :=List.length_eq_zero_iff.1 hz
    have h2:i=0:=by omega
    subst h2
    exact ⟨_,_,_,O,O,O,(fun p hp=>by simp [cutPcs] at hp),by rw [h1];rfl⟩
   ·obtain ⟨k1,k2⟩:=GI (rs:=rs) (hid:=hid) (k:=i) (by omega) (by omega) hh i (Nat.le_refl _)
    exact ⟨_,_,_,O,O,O,k1,by rw [k2,cutAt_last (by omega),List.take_length]⟩
theorem Zv (A:Option Addr) (c:Nat) (ps:List Pc) (hok:PcOk ps) (hb:(pcsRow ps).length≤1073741824):Sp Tryz.prog 154 [.slice A ps.length c] [] [RdF pcD A c ps] (PcsP (pcsRow ps)):=by
 have hpl:=hok.len
 refine Sp.of (n:=49) ⟨_,Tryz.func154,O,O,O,O⟩ (Nat.le_of_ble_eq_true O) fun Ps As=>Jc (Ja (Lq (Jd O) (Je (Jf (Jc (Ja (Lq (Jd O) (Je (Jf (Jc (Jc (Ja (Lq (Jd O) (Je (Jf (JO (KE (Kf (A:=RepsF pcD [] []) (fun Z w _=> .nil) ?_))))))))))))))))))
 refine Ki (α:=Nat×List Pc×Value×Part×List (List Value)) (fun (i,os,v,p,css)=>ps.length-i)
  (fun (i,os,v,p,css)=> [(0, .slice A ps.length c),(3,v),(4, .int .i64 i)])
  (fun (i,os,v,p,css)=>(p::Ps))
  (fun (i,os,v,p,css)=>(RepsF pcD os css::RdF pcD A c ps::As))
  (fun (i,os,v,p,css)=>EvI ps i os v p css)
  (0,[], .slice none 0 0,[],[]) ?_ (.m3 rfl rfl rfl) (Sk (Sr)) (fun _ h=>h) ?_
 ·exact ⟨Nat.zero_le _,Row.nil _ _,(fun p hp=>by cases hp),rfl⟩
 ·rintro ⟨i,os,v,pa,css⟩ hI
  refine Jc (Jc (Ja (Lq (Jb O) (Lq (Jb O) (Lq (J7 Un233 O) (Lq (Ku O O) (Je (Jf (Jy O (fun h10=> ?_) (fun h10=> ?_))))))))))
  ·refine Jp (Jf (JO (Jc ?_)))
   try simp only [Bp,Bq] at *
   have hiL:i<ps.length:=by omega
   refine Kh (k:=i) Mm1 (List.getElem?_eq_getElem hiL) (pc_open _) fun bi qi yi ei=> ?_
   cases ei
   refine Ja (Lq (Jd O) (Je (Jf (Jc (Ja (Lq (Jb O) (Lq (Jd O) (Je (Jf (Jc (JO (KE ?_))))))))))))
   refine Ki (α:=Nat×List Int×Value×Part) (fun (k,run,w,p)=>ps.length-k)
    (fun (k,run,w,p)=> [(0, .slice (some ⟨bi,qi,none⟩) ps.length c),(3,v),(4, .int .i64 i),(5,w),(6, .int .i64 k)])
    (fun (k,run,w,p)=>(p::pa::Ps))
    (fun (k,run,w,p)=>(FzA bi (qi+i*2) (pcC ps[i].rs ps[i].hid yi.1 yi.2)::RdF runeD yi.1 yi.2 ps[i].rs::RepsF pcD os css::RdF pcD (some ⟨bi,qi,none⟩) c ps::As))
    (fun (k,run,w,p)=>EvJ ps i k run ps[i].hid∧Row 21 1 w run.length (ints .i32 run) p)
    (i,[], .slice none 0 0,[]) ?_ (.m5 rfl rfl rfl rfl rfl) (Sk2 (Sr)) (fun _ h=>h) ?_
   ·exact ⟨⟨Nat.le_refl _,by omega,by rw [List.drop_eq_nil_of_le (by rw [List.length_take];omega)];rfl⟩,Row.nil _ _⟩
   ·rintro ⟨k,run,w,pr⟩ ⟨hJ,hR⟩
    have hkle:=hJ.le
    refine Jc (Jc ?_)
    by_cases hkL:k<ps.length
    ·refine Gs (k:=k) Mm3 (List.getElem?_eq_getElem hkL) (pc_open _) fun yk=> ?_
     refine JI _ _ [] (.c 0 0 (.c 1 0 (.c 2 0 (.c 3 0 (.c 4 0 (.c 5 0 (.c 6 0 (.c 7 0 (.c 8 0 (.c 9 0 (.c 10 0 (.c 11 0 (.c 12 0 (.c 13 0 (.c 14 0 (.c 15 0 (.c 16 0 .nil))))))))))))))))) mixed (fun _ _ _ _ h=>h) (Sk2 (Sr)) (fun _ h=>h) (by kernel_rfl) (by decide) fun ws Z0=>Qe O (Jb O) (Qe O (Jb O) (Qe O (J7 Un233 O) (Qe O (Ku O O) (Qe O (Jb O) (Kl O O O O (by simpa using hkL) (Jb O) (by decide) (Kl O O O O (by simpa using hkL) (Jb O) (by decide) (Kl O O O O (by simpa using hkL) (Kc Un233 J3 O O (by omega) (by omega)) (by decide) (Kl O O O O (by simpa using hkL) (Jh (o':=_+1) Un134 O ti3 O O) (by decide) ?_))))))))
     refine Kl O O O O (by simpa using hkL) (Ks (j:=1) Un3 O O Mm0 O O) (by decide) (Kl O O O O (by simpa using hkL) (Jb O) (by decide) (Kl O O O O (by simpa using hkL) (Jb O) (by decide) (Kl O O O O (by simpa using hkL) (Kc Un233 J3 O O (by omega) (by omega)) (by decide) (Kl O O O O (by simpa using hkL) (Jh (o':=_+1) Un134 O ti3 O O) (by decide) (Kl O O O O (by simpa using hkL) (Ks (j:=1) Un3 O O Mm2 O O) (by decide) (Kl O O O O (by simpa using hkL) (Ka O O) (by decide) (Qe O (JH O (by simpa using hkL) O) (JJ (JK (Jf ?_))))))))))
     refine Jy O (fun h28=> ?_) (fun h28=> ?_)
     ·refine Jp (Jf (JO (Jc ?_)))
      try simp only [Bp,Bq] at *
      have hJn:=hJ.next hkL h28
      have hJl:=hJn.len
      rw [List.length_append] at hJl
      refine Ja (Lq (Jb O) (Lq (Jb O) (Lq (Jb O) (Lq (Kc Un233 J3 O O (by omega) (by omega)) (Lq (Jh (o':=_+0) Un134 O Yb O O) (Lq (Ks (j:=0) Un132 O O Mm1 O O) (Jg O (YE (e:=runeD) (ys:=(ps[k]).rs) Un132 VX O (by decide) O O hR Mm2 (by omega) (by unfold maxLen;omega) (by decide) (List.Perm.refl _) fun v35 p35 cs35 hr35=>Lq (Jd O) (Je (Jf ?_))))))))))
      refine Jai Mm0 fun hcs=>Ja (Lq (Jb O) (Lq (JZ O O (wr64 (by omega)) (c:=((k+1:Nat):Int))) (Lq (Jd O) (Je (J9 (Ko ?_))))))
      refine ⟨(k+1,run++ps[k].rs,v35,p35),?_,(.m5 O O O O O),(Sk2 (Sr)),Tt4⟩
      refine ⟨by show ps.length-(k+1)<ps.length-k;omega,hJn,?_⟩
      rw [List.length_append,KX,←hcs];exact hr35
     ·refine Kr (JR (JR (Kg (Jf (Jc ?_)))))
      try simp only [Bp,Bq] at *
      have hik:i<k:=by
       rcases Nat.lt_or_ge i k with h | h
       ·exact h
       ·exfalso
        have e:k=i:=by have:=hJ.ik;omega
        first | (exact hkL (by omega)) | (subst e;exact h28 rfl)
      have hJl:=hJ.len
      have hIl:=hI.len
      refine Kf (A:=RepsF runeD run (run.map fun x=> [Value.int .i32 x])) (fun Z w _=>ints_reps _ _ Z w) (KW (e:=runeD) (xs:=run) (css:=run.map fun x=> [Value.int .i32 x]) (by rw [ints_flat];exact hR) .z O Mm0 fun A9 c9 e9=> ?_)
      cases e9
      refine Ja (Lq (Jb O) (Lq (Jb O) (Lq (Jb O) (Lq (Jb O) (Lq (Kc Un233 J3 O O (by omega) (by omega)) (Lq (Jh (o':=_+1) Un134 O ti3 O O) (Lq (Ks (j:=1) Un3 O O Mm5 O O) (Jg O (Jo (Ee A9 c9 run ps[i].hid (by omega) (hok _ (List.getElem_mem hiL)).2) (.n2 O O) (by decide) (Jl Mm0 Jx) fun _ _ _ q9=>?_)))))))))
      obtain ⟨A0,c0,qs,rfl,rfl,rfl,hqok,hqs⟩:=q9
      have hql:=hqok.len
      rw [hqs,Ju] at hql
      refine Jg O (YE (e:=pcD) (ys:=qs) Un233 J3 O (by decide) O O hI.row Mm0 (by omega) (by unfold maxLen;omega) (by decide) (List.Perm.refl _) fun v46 p46 cs46 hr46=>Lq (Jd O) (Je (Jf (Gr Mm9 Mm0 (Ja (Lq (Jb O) (Lq (Jd O) (Je (J9 (Ko ?_))))))))))
      refine ⟨(k,os++qs,v46,p46,css++cs46),?_,(.m3 O O O),(Sk (Sr)),(Jl Mm0 Tt11)⟩
      refine ⟨by show ps.length-k<ps.length-i;omega,hJ.le,by rw [List.length_append,List.flatten_append];exact hr46,PcOk.append.2 ⟨hI.ok,hqok⟩,?_⟩
      rw [KQ,hqs,hI.eq,hJ.done]
    ·refine JI _ _ [] (.c 0 0 (.c 1 0 (.c 2 0 (.c 3 0 (.c 4 0 (.c 5 0 (.c 6 0 (.c 7 0 (.c 8 0 (.c 9 0 (.c 10 0 (.c 11 0 (.c 12 0 (.c 13 0 (.c 14 0 (.c 15 0 (.c 16 0 .nil))))))))))))))))) mixed (fun _ _ _ _ h=>h) (Sk2 (Sr)) (fun _ h=>h) (by kernel_rfl) (by decide) fun ws Z0=>Qe O (Jb O) (Qe O (Jb O) (Qe O (J7 Un233 O) (Qe O (Ku O O) (Qe O (Jb O) (KR O O O O (by simpa using hkL) (by decide) (KR O O O O (by simpa using hkL) (by decide) (KR O O O O (by simpa using hkL) (by decide) (KR O O O O (by simpa using hkL) (by decide) ?_))))))))
     refine KR O O O O (by simpa using hkL) (by decide) (KR O O O O (by simpa using hkL) (by decide) (KR O O O O (by simpa using hkL) (by decide) (KR O O O O (by simpa using hkL) (by decide) (KR O O O O (by simpa using hkL) (by decide) (KR O O O O (by simpa using hkL) (by decide) (KR O O O O (by simpa using hkL) (by decide) (Qe O (JA O (by simpa using hkL) O) (JJ (JK (Jf (Jz O O (Kr (JR (JR (Kg (Jf (Jc ?_)))))))))))))))))
     try simp only [Bp,Bq] at *
     have hik:i<k:=by
      rcases Nat.lt_or_ge i k with h | h
      ·exact h
      ·exfalso
       have e:k=i:=by have:=hJ.ik;omega
       first | (exact hkL (by omega)) | (subst e;exact h28 rfl)
     have hJl:=hJ.len
     have hIl:=hI.len
     refine Kf (A:=RepsF runeD run (run.map fun x=> [Value.int .i32 x])) (fun Z w _=>ints_reps _ _ Z w) (KW (e:=runeD) (xs:=run) (css:=run.map fun x=> [Value.int .i32 x]) (by rw [ints_flat];exact hR) .z O Mm0 fun A9 c9 e9=> ?_)
     cases e9
     refine Ja (Lq (Jb O) (Lq (Jb O) (Lq (Jb O) (Lq (Jb O) (Lq (Kc Un233 J3 O O (by omega) (by omega)) (Lq (Jh (o':=_+1) Un134 O ti3 O O) (Lq (Ks (j:=1) Un3 O O Mm3 O O) (Jg O (Jo (Ee A9 c9 run ps[i].hid (by omega) (hok _ (List.getElem_mem hiL)).2) (.n2 O O) (by decide) (Jl Mm0 Jx) fun _ _ _ q9=>?_)))))))))
     obtain ⟨A0,c0,qs,rfl,rfl,rfl,hqok,hqs⟩:=q9
     have hql:=hqok.len
     rw [hqs,Ju] at hql
     refine Jg O (YE (e:=pcD) (ys:=qs) Un233 J3 O (by decide) O O hI.row Mm0 (by omega) (by unfold maxLen;omega) (by decide) (List.Perm.refl _) fun v46 p46 cs46 hr46=>Lq (Jd O) (Je (Jf (Gr Mm7 Mm0 (Ja (Lq (Jb O) (Lq (Jd O) (Je (J9 (Ko ?_))))))))))
     refine ⟨(k,os++qs,v46,p46,css++cs46),?_,(.m3 O O O),(Sk (Sr)),(Jl Mm0 Tt9)⟩
     refine ⟨by show ps.length-k<ps.length-i;omega,hJ.le,by rw [List.length_append,List.flatten_append];exact hr46,PcOk.append.2 ⟨hI.ok,hqok⟩,?_⟩
     rw [KQ,hqs,hI.eq,hJ.done]
  ·refine Kr (JR (JR (Kg (Jf (Jc ?_)))))
   try simp only [Bp,Bq] at *
   have hfin:i=ps.length:=by have:=hI.le;omega
   refine KW (e:=pcD) (xs:=os) (css:=css) hI.row .z O Mm0 fun A8 c8 e8=> ?_
   cases e8
   refine Ja (Lq (Jb O) (Lq (Jd O) (Je (Jf (Jn ?_)))))
   refine ⟨_,[],[_],fun Z w hs=> .tmp O .nil,?_,fun Z w hs=>hs.out (Sr) (Jl Mm0 Tt2)⟩
   exact ⟨_,_,_,O,O,O,hI.ok,by rw [hI.eq,hfin,List.take_length]⟩
theorem PcOk.take {ps:List Pc} (h:PcOk ps) (k:Nat):PcOk (ps.take k):=fun p hp=>h p (List.mem_of_mem_take hp)
theorem PcOk.drop {ps:List Pc} (h:PcOk ps) (k:Nat):PcOk (ps.drop k):=fun p hp=>h p (List.mem_of_mem_drop hp)
theorem HI {ps:List Pc} {k:Nat} (hk:k<ps.length):pcsRow ps=pcsRow (ps.take k)++(cellsOf ps[k].rs ps[k].hid++pcsRow (ps.drop (k+1))):=by
 conv=>lhs;rw [←List.take_append_drop k ps,List.drop_eq_getElem_cons hk]
 rw [KQ,Vv]
theorem build_n (N:Nat): ∀(A:Option Addr) (c:Nat) (ps:List Pc) (hok:PcOk ps) (hb:(pcsRow ps).length≤1073741824),ps.length≤N→Sp Tryz.prog 141 [.slice A ps.length c] [] [RdF pcD A c ps] (NP (pcsRow ps)):=by
 induction N using Nat.strongRecOn
 rename_i N ih
 intro A c ps hok hb hN
 have hpl:=hok.len
 obtain ⟨k0,hk0⟩: ∃k0:Nat,k0=ps.length / 2:=⟨_,rfl⟩
 refine Sp.of (n:=24) ⟨_,Tryz.func141,O,O,O,O⟩ (Nat.le_of_ble_eq_true O) fun Ps As=>Jc (Ja (Lq (Jd O) (Je (Jf (Jc (Jc (Ja (Lq (Jb O) (Lq (J7 Un233 O) (Lq (Ka O O) (Je (Jf (Jy O (fun h6=> ?_) (fun h6=> ?_))))))))))))))
 ·refine Jc (Kf (A:=TrF none .nil) (fun _ _ _=>O) (Ja (Lq (Jd O) (Je (Jf (Jn (Jr ?_)))))))
  refine ⟨_,[],[_],fun Z w hs=> .tmp O .nil,?_,fun Z w hs=>hs.out (Sr) (fun _ h=>h)⟩
  try simp only [Bp,Bq] at *
  have hz:ps= [] :=List.length_eq_zero_iff.1 (by omega)
  exact ⟨_,_,O,O,O,wnilT,by rw [hz];rfl⟩
 ·refine Jp (Jf (Jc (Ja (Lq (Jb O) (Lq (J7 Un233 O) (Lq (Hk O O (by decide) (by rw [hk0];exact tdiv_nat ps.length 2 (by omega)) (c:=(k0:Int))) (Lq (Jd O) (Je (Jf (Jc ?_))))))))))
  try simp only [Bp,Bq] at *
  have hkl:k0<ps.length:=by omega
  have r0:=HI hkl
  have e0:=congrArg List.length r0
  simp only [List.length_append,Ju] at e0
  have ht1:(ps.take k0).length=k0:=by rw [List.length_take];omega
  have hd1:(ps.drop (k0+1)).length=ps.length-(k0+1):=by rw [List.length_drop]
  refine Gt Mm0 fun hcap=>Kh (k:=k0) Mm0 (List.getElem?_eq_getElem hkl) (pc_open _) fun bk qk yk ek=> ?_
  cases ek
  refine V4 k0 Mm2 (by omega) (V3 (k0+1) Mm3 (by omega) (JI _ _ [] (.c 0 0 (.c 1 0 (.c 2 0 (.c 4 0 (.c 5 0 (.c 6 0 (.c 7 0 (.c 8 0 (.c 9 0 (.c 10 0 (.c 11 0 (.c 3 2 (.c 12 2 (.c 13 2 (.c 14 0 .nil))))))))))))))) mixed (fun _ _ _ _ h=>h) (Sr) (fun _ h=>h) (by kernel_rfl) (by decide) fun ws Z0=>Qe O (Jb O) (Qe O (Jb O) (Qe O (Vs (m:=(ps.take k0).length) (by omega) Un233 J3 O O (by omega) (by omega)) (Qe O (Jb O) (Qe O (Jb O) (Qe O (Kc Un233 J3 O O (by omega) (by omega)) (Qe O (Kq (k:=0) (vs:= [_,_]) Un134 O J3 O Mm2 O O O) ?_))))))))
  refine Qe O (Jb O) (Qe O (Jb O) (Qe O (JZ O O (wr64 (by omega)) (c:=((k0+1:Nat):Int))) (Qe O (Vr (j:=k0+1) (m:=(ps.drop (k0+1)).length) (by omega) (by omega) Un233 J3 O O (by omega) (by omega)) (Js O O (Jo (ih (ps.take k0).length (by omega) (cutA (some ⟨bk,qk,none⟩) 0 c 2) c (ps.take k0) (hok.take k0) (by omega) (Nat.le_refl _)) (.n1 O) (by decide) (Jl Mm2 Jx) fun _ _ _ q9=>?_)))))
  obtain ⟨T1,t1,rfl,rfl,rfl,wt1,r1⟩:=q9
  have e1:=congrArg List.length r1
  refine ⟨⟨(Sr),Mm1⟩,?_⟩
  refine Js O O (Jo (ih (ps.drop (k0+1)).length (by omega) (cutA (some ⟨bk,qk,none⟩) (k0+1) c 2) (c-(k0+1)) (ps.drop (k0+1)) (hok.drop (k0+1)) (by omega) (Nat.le_refl _)) (.n1 O) (by decide) (Jl Mm2 Jx) fun _ _ _ q9=>?_)
  obtain ⟨T2,t2,rfl,rfl,rfl,wt2,r2⟩:=q9
  have e2:=congrArg List.length r2
  refine ⟨⟨(Sr),Mm2⟩,?_⟩
  refine Js O O (Jo (knot_r T1 T2 yk.1 yk.2 t1 t2 (ps[k0]).rs (ps[k0]).hid wt1 wt2 (hok _ (List.getElem_mem hkl)).1 (hok _ (List.getElem_mem hkl)).2 (by omega)) (.n3 O O O) (by decide) (Jl Mm1 (Jl Mm0 (Jl Mm6 Jx))) fun _ _ _ q9=>?_)
  obtain ⟨T3,t3,rfl,rfl,rfl,wt3,r3⟩:=q9
  have e3:=congrArg List.length r3
  simp only [List.length_append,Ju,Tr.row,List.length_nil,List.length_take,List.length_drop] at e3
  refine ⟨⟨(Sr),Mm3⟩,?_⟩
  refine Qe O (Jd O) (JJ (JK (Jf (JL [(2,_)] (.m1 O) (Jn ?_)))))
  refine ⟨_,[],[_],fun Z w hs=> .tmp O .nil,?_,fun Z w hs=>hs.out (Sr) (Jl Mm0 Tt8)⟩
  exact ⟨_,_,O,O,O,wt3,by rw [r0];simp only [r1,r2,r3,List.append_assoc]⟩
theorem build_r (A:Option Addr) (c:Nat) (ps:List Pc) (hok:PcOk ps) (hb:(pcsRow ps).length≤1073741824):Sp Tryz.prog 141 [.slice A ps.length c] [] [RdF pcD A c ps] (NP (pcsRow ps)):=build_n _ A c ps hok hb (Nat.le_refl _)
theorem Row.single {T:TypeId} {sz b:Nat} {cs:List Value} (hl:cs.length=sz):Row T sz (.slice (some ⟨b,0,none⟩) 1 1) 1 cs [(b,JD cs T)] :=
 ⟨by rw [hl,Nat.one_mul], .inr ⟨b,1,[],rfl,by simp,by simp [hl],Nat.le_refl _,by simp [maxLen]⟩⟩
structure MeL (X:List Ce) (j:Nat) (t:Tr) (S:List Pc) (v:Value) (p:Part) (css:List (List Value)):Prop where
 le:j≤2
 wf:Wf t
 ok:PcOk S
 eq:t.row++pcsRow S=X
 row:Row 134 2 v S.length css.flatten p
structure MeR (X:List Ce) (l:Tr) (j:Nat) (t:Tr) (S:List Pc) (v:Value) (p:Part) (css:List (List Value)):Prop where
 le:j≤2
 wf:Wf t
 ok:PcOk S
 eq:l.row++(pcsRow S++t.row)=X
 row:Row 134 2 v S.length css.flatten p
structure MeJ (X:List Ce) (qs:List Pc) (i:Nat) (t:Tr):Prop where
 le:i≤qs.length
 wf:Wf t
 eq:t.row=X++pcsRow (qs.take i)
theorem mend_r (Al Ar:Option Addr) (l r:Tr) (wl:Wf l) (wr:Wf r) (hb:l.row.length+r.row.length≤1073741824):Sp Tryz.prog 140 [.pointer Al, .pointer Ar] [] [TrF Al l,TrF Ar r] (NP (l.row++r.row)):=by
 refine Sp.of (n:=67) ⟨_,Tryz.func140,O,O,O,O⟩ (Nat.le_of_ble_eq_true O) fun Ps As=>Kf (A:=TrF none .nil) (fun _ _ _=>O) (Jc (Ja (Lq (Jd O) (Je (Jf (Jc (Ja (Lq (Jd O) (Je (Jf (Jc (Jc (Ja (Lq (Jb O) (Je (Jf (JO (KE ?_))))))))))))))))))
 refine Kf (A:=RepsF pcD [] []) (fun Z w _=> .nil) ?_
 refine Ki (α:=Nat×Option Addr×Tr×Value×Part×List Pc×List (List Value)) (fun (j,A,t,v,p,S,css)=>2-j)
  (fun (j,A,t,v,p,S,css)=> [(0, .pointer A),(1, .pointer Ar),(5,v),(14, .int .i64 j)])
  (fun (j,A,t,v,p,S,css)=>(p::Ps))
  (fun (j,A,t,v,p,S,css)=>(TrF A t::RepsF pcD S css::TrF none .nil::TrF Al l::TrF Ar r::As))
  (fun (j,A,t,v,p,S,css)=>MeL l.row j t S v p css)
  (0,Al,l, .slice none 0 0,[],[],[]) ?_ (.m4 rfl rfl rfl rfl) (Sk (Sr)) (Jl Mm2 (fun _ h=>h)) ?_
 ·exact ⟨Nat.zero_le _,wl,(fun p hp=>by cases hp),by simp [pcsRow],Row.nil _ _⟩
 ·rintro ⟨j,AL,tL,v,pa,S,css⟩ hI
  have wtL:=hI.wf
  have eI:=congrArg List.length hI.eq
  simp only [List.length_append] at eI
  have okl:=hI.ok.len
  refine Jc (Ja (Lq (Ku O O) (Je (Jf (Jc (Jy O (fun h15=> ?_) (fun h15=> ?_)))))))
  ·have hj2:j<2:=by simp only [decide_eq_true_eq] at h15;omega
   refine Jp (Jf (Jc (JO (Jc ?_))))
   by_cases hztL:tL= .nil
   ·rw [hztL]
    refine VH Mm0 fun e=> ?_
    subst e
    refine Ja (Lq (Jb O) (Lq (QA Un126 O O (by simp)) (Je (Jf (Jz O O (Jp (J9 (Jf (Ja (Lq (JZ O O (wr64 (by omega)) (c:=((j+1:Nat):Int))) (Lq (Jb O) (Je (Ko ?_)))))))))))))
    refine ⟨(j+1,none, .nil,v,pa,S,css),?_,(.m4 O O O O),(Sk (Sr)),(fun _ h=>h)⟩
    exact ⟨by show 2-(j+1)<2-j;omega,by omega,wnilT,hI.ok,by rw [←hztL];exact hI.eq,hI.row⟩
   ·refine Vf Mm0 hztL fun _ e=> ?_
    subst e
    refine Ja (Lq (Jb O) (Lq (QA Un126 O O (by simp)) (Je (Jf (JQ O O (Jc (Ja (Lq (Jb O) (Jg O (Jo (popLast_r _ tL wtL hztL (by omega)) (.n1 O) (by decide) (Jl Mm0 Jx) fun _ _ _ q9=>?_))))))))))
    obtain ⟨A1,t1,s1,k1,C1,d1,rfl,rfl,rfl,wt1,n1,h1,r1⟩:=q9
    have e1:=congrArg List.length r1
    simp only [List.length_append,Ju] at e1
    have g1:=List.length_pos_iff.2 n1
    refine Lq (Jb O) (Lq (Jk (vs:= [_,_]) O O) (Lq (Jk (vs:= [_,_]) O O) (Jg O (Jv (cs:= [_,_]) J3 O (by decide) fun b7=>Lq (Jd O) (Jg O (Jq (cs':= [_,_]) (vs:= [_,_]) J3 O O O O O (Nat.le_of_ble_eq_true O) .z (Je (Jf (KW (e:=pcD) (xs:=S) (css:=css) hI.row .z1 O Mm3 fun A6 c6 e6=> ?_)))))))))
    cases e6
    refine Ja (Lq (Jb O) (Lq (Jw (vs:= [_,_]) Un134 O J3 O Jm O O) (Jg O (KP (cs:= [_,_]) Un233 J3 (by decide) (by decide) O O O O (by decide) fun b25=>Lq (Jb O) (Jg O (YE (e:=pcD) (ys:=S) Un233 J3 O (by decide) O O (Row.single O) Mm0 (by omega) (by unfold maxLen;omega) (by decide) (List.Perm.refl _) fun v27 p27 cs27 hr27=>Lq (Jd O) (Lq (Jd O) (Je (J9 (Jf (Kf (A:=RepsF pcD (⟨s1,k1⟩::S) (pcC s1 k1 C1 d1::cs27)) (fun Z w hs=> .cons ⟨_,_,O,hs.facts _ Mm3⟩ (hs.facts _ Mm0)) ?_)))))))))))
    refine Ja (Lq (JZ O O (wr64 (by omega)) (c:=((j+1:Nat):Int))) (Lq (Jb O) (Je (Ko ?_))))
    refine ⟨(j+1,A1,t1,v27,p27,⟨s1,k1⟩::S,pcC s1 k1 C1 d1::cs27),?_,(.m4 O O O O),(Sk (Sd (Sr))),(Jl Mm3 (Jl Mm0 Tt7))⟩
    refine ⟨by show 2-(j+1)<2-j;omega,by omega,wt1,fun p hp=> ?_,by rw [Vv,←List.append_assoc,←r1];exact hI.eq,?_⟩
    ·rcases List.mem_cons.1 hp with rfl | hp
     ·exact ⟨n1,h1⟩
     ·exact hI.ok p hp
    ·rw [List.length_cons,Nat.add_comm,List.flatten_cons];exact hr27
  ·refine Kr (JR (JR (Kg (Jf (Jc (Jc (Ja (Lq (Jb O) (Je (Jf (JO ?_)))))))))))
   have hL:=hI
   clear hI
   have wtL:=hL.wf
   refine Ki (α:=Nat×Option Addr×Tr×Value×Part×List Pc×List (List Value)) (fun (j,A,t,v,p,S,css)=>2-j)
    (fun (j,A,t,v,p,S,css)=> [(1, .pointer A),(0, .pointer AL),(5,v),(29, .int .i64 j)])
    (fun (j,A,t,v,p,S,css)=>(p::Ps))
    (fun (j,A,t,v,p,S,css)=>(TrF A t::RepsF pcD S css::TrF AL tL::TrF none .nil::TrF Al l::TrF Ar r::As))
    (fun (j,A,t,v,p,S,css)=>MeR (l.row++r.row) tL j t S v p css)
    (0,Ar,r,v,pa,S,css) ?_ (.m4 rfl rfl rfl rfl) (Sk (Sr)) (Jl Mm4 (Jl Mm1 (Jl Mm0 Tt2))) ?_
   ·exact ⟨Nat.zero_le _,wr,hL.ok,by rw [←List.append_assoc,hL.eq],hL.row⟩
   ·rintro ⟨j,AR,tR,v,pa,S,css⟩ hI
    have wtR:=hI.wf
    have eI:=congrArg List.length hI.eq
    simp only [List.length_append] at eI
    have okl:=hI.ok.len
    refine Jc (Ja (Lq (Ku O O) (Je (Jf (Jc (Jy O (fun h30=> ?_) (fun h30=> ?_)))))))
    ·have hj2:j<2:=by simp only [decide_eq_true_eq] at h30;omega
     refine Jp (Jf (Jc (JO (Jc ?_))))
     by_cases hztR:tR= .nil
     ·rw [hztR]
      refine VH Mm0 fun e=> ?_
      subst e
      refine Ja (Lq (Jb O) (Lq (QA Un126 O O (by simp)) (Je (Jf (Jz O O (Jp (J9 (Jf (Ja (Lq (JZ O O (wr64 (by omega)) (c:=((j+1:Nat):Int))) (Lq (Jb O) (Je (Ko ?_)))))))))))))
      refine ⟨(j+1,none, .nil,v,pa,S,css),?_,(.m4 O O O O),(Sk (Sr)),(fun _ h=>h)⟩
      exact ⟨by show 2-(j+1)<2-j;omega,by omega,wnilT,hI.ok,by rw [←hztR];exact hI.eq,hI.row⟩
     ·refine Vf Mm0 hztR fun _ e=> ?_
      subst e
      refine Ja (Lq (Jb O) (Lq (QA Un126 O O (by simp)) (Je (Jf (JQ O O (Jc (Ja (Lq (Jb O) (Jg O (Jo (popFirst_r _ tR wtR hztR (by omega)) (.n1 O) (by decide) (Jl Mm0 Jx) fun _ _ _ q9=>?_))))))))))
      obtain ⟨A2,t2,s2,k2,C2,d2,rfl,rfl,rfl,wt2,n2,h2,r2⟩:=q9
      have e2:=congrArg List.length r2
      simp only [List.length_append,Ju] at e2
      have g2:=List.length_pos_iff.2 n2
      refine Lq (Jb O) (Lq (Jk (vs:= [_,_]) O O) (Lq (Jk (vs:= [_,_]) O O) (Jg O (Jv (cs:= [_,_]) J3 O (by decide) fun b8=>Jg O (Jq (cs':= [_,_]) (vs:= [_,_]) J3 O O O O O (Nat.le_of_ble_eq_true O) .z (Lq (Jd O) (Je (Jf (Ja (Lq (Jb O) (Lq (Jb O) (Lq (Jw (vs:= [_,_]) Un134 O J3 O Jm O O) ?_))))))))))))
      refine Jg O (KP (cs:= [_,_]) Un233 J3 (by decide) (by decide) O O O O (by decide) fun b41=>Jg O (KV (news:= [_,_]) Un233 J3 O (by decide) O O hI.row Jm O O (by omega) (by unfold maxLen;omega) (by decide) (DelAt.perm .z2) fun v42 p42 hr42=>Lq (Jd O) (Lq (Jd O) (Je (J9 (Jf (Vh (u:=(⟨s2,k2⟩:Pc)) (cs:=pcC s2 k2 C2 d2) Mm3 (fun Z w hs=>⟨_,_,O,hs.facts _ Mm1⟩) O (Ja (Lq (JZ O O (wr64 (by omega)) (c:=((j+1:Nat):Int))) (Lq (Jb O) (Je (Ko ?_))))))))))))
      refine ⟨(j+1,A2,t2,v42,p42,S++ [⟨s2,k2⟩],css++ [pcC s2 k2 C2 d2]),?_,(.m4 O O O O),(Sk (Sd2 (Sr))),(Jl Mm1 (Jl Mm0 Tt5))⟩
      refine ⟨by show 2-(j+1)<2-j;omega,by omega,wt2,PcOk.append.2 ⟨hI.ok,PcOk.one n2 h2⟩,?_,?_⟩
      ·rw [KQ,Qq,List.append_assoc,←r2];exact hI.eq
      ·rw [List.length_append,List.flatten_append];exact hr42
    ·refine Kr (JR (JR (Kg (Jf (Jc (Jc (KW (e:=pcD) (xs:=S) (css:=css) hI.row .z O Mm1 fun A14 c14 e14=> ?_)))))))
     cases e14
     refine Ja (Lq (Jb O) (Jg O (Jo (Zv A14 c14 S hI.ok (by omega)) (.n1 O) (by decide) (Jl Mm0 Jx) fun _ _ _ q9=>?_)))
     obtain ⟨Aq,cq,qs,rfl,rfl,rfl,hqok,hqs⟩:=q9
     have eq0:=congrArg List.length hqs
     have hql:=hqok.len
     refine Lq (J7 Un233 O) (Lq (Jb O) (Je (Jf (JO ?_))))
     refine Ki (α:=Nat×Option Addr×Tr) (fun (i,A,t)=>qs.length-i)
      (fun (i,A,t)=> [(0, .pointer A),(1, .pointer AR),(45, .slice Aq qs.length cq),(46, .int .i64 qs.length),(47, .int .i64 i)])
      (fun (i,A,t)=>Ps)
      (fun (i,A,t)=>(TrF A t::RdF pcD Aq cq qs::TrF AR tR::TrF none .nil::TrF Al l::TrF Ar r::As))
      (fun (i,A,t)=>MeJ tL.row qs i t)
      (0,AL,tL) ?_ (.m5 rfl rfl rfl rfl rfl) (Sr) (Jl Mm4 (Jl Mm0 (Jl Mm2 Tt5))) ?_
     ·exact ⟨Nat.zero_le _,wtL,by simp [pcsRow]⟩
     ·rintro ⟨i,AJ,tJ⟩ hJ
      have wtJ:=hJ.wf
      refine Jc (Ja (Lq (Ku O O) (Je (Jf (Jc (Jy O (fun h48=> ?_) (fun h48=> ?_)))))))
      ·refine Jp (Jf (Jc (JO (Jc ?_))))
       try simp only [Bp,Bq] at *
       have hiq:i<qs.length:=by omega
       have hsub:=QY qs 0 i
       have hsub2:=QY qs 0 (i+1)
       rw [List.drop_zero] at hsub hsub2
       have ht1:qs.take (i+1)=qs.take i++ [qs[i]] :=by rw [List.take_succ_eq_append_getElem hiq]
       rw [ht1,KQ,Qq,List.length_append,Ju] at hsub2
       have eJ:=congrArg List.length hJ.eq
       rw [List.length_append] at eJ
       refine Kh (k:=i) Mm1 (List.getElem?_eq_getElem hiq) (pc_open _) fun bk qk yk ek=> ?_
       cases ek
       refine Ja (Lq (Kc Un233 J3 O O (by omega) (by omega)) (Lq (Kq (k:=0) (vs:= [_,_]) Un134 O J3 O Mm0 O O O) (Jg O (Jv (cs:= [_,_]) J3 O (by decide) fun b11=>Jg O (Jq (cs':= [_,_]) (vs:= [_,_]) J3 O O O O O (Nat.le_of_ble_eq_true O) .z (Je (Jf (Ja (Lq (Jb O) (Lq (Jw (vs:= [_,_]) Un134 O J3 O Jm O O) ?_))))))))))
       refine Jg O (Jo (join_r AJ none yk.1 yk.2 tJ Tr.nil (qs[i]).rs (qs[i]).hid wtJ wnilT (hqok _ (List.getElem_mem hiq)).1 (hqok _ (List.getElem_mem hiq)).2 (by simp only [Tr.row,List.length_nil];omega)) (.n3 O O O) (by decide) (Jl Mm2 (Jl Mm5 (Jl Mm1 Jx))) fun _ _ _ q9=>?_)
       obtain ⟨T3,t3,rfl,rfl,rfl,wt3,r3⟩:=q9
       have e3:=congrArg List.length r3
       simp only [List.length_append,Ju,Tr.row,List.length_nil,List.length_take,List.length_drop] at e3
       refine Lq (Jd O) (Je (J9 (Jf (Ja (Lq (JZ O O (wr64 (by omega)) (c:=((i+1:Nat):Int))) (Lq (Jb O) (Je (Ko ?_))))))))
       refine ⟨(i+1,T3,t3),?_,(.m5 O O O O O),(Sd (Sr)),(Jl Mm0 Tt4)⟩
       exact ⟨by show qs.length-(i+1)<qs.length-i;omega,hiq,wt3,by rw [r3,hJ.eq,ht1,KQ,Qq];simp [Tr.row]⟩
      ·refine Kr (JR (JR (Kg (Jf (Jc (Jc ?_))))))
       try simp only [Bp,Bq] at *
       have hfin:i=qs.length:=by have:=hJ.le;omega
       have rJ:tJ.row++tR.row=l.row++r.row:=by rw [hJ.eq,hfin,List.take_length,hqs,List.append_assoc];exact hI.eq
       have eJ:=congrArg List.length rJ
       simp only [List.length_append] at eJ
       by_cases hztR:tR= .nil
       ·rw [hztR]
        refine VH Mm2 fun e=> ?_
        subst e
        refine Ja (Lq (Jb O) (Lq (KK Un126 O O (by simp)) (Je (Jf (JQ O O (Jc (Ja (Lq (Jb O) (Lq (Jd O) (Je (Jf (Jn (Jr ?_)))))))))))))
        refine ⟨_,[],[_],fun Z w hs=> .tmp O .nil,?_,fun Z w hs=>hs.out (Sr) (Jl Mm0 Tt4)⟩
        exact ⟨_,_,O,O,O,wtJ,by rw [←rJ,hztR];simp [Tr.row]⟩
       ·refine Vf Mm2 hztR fun _ e=> ?_
        subst e
        refine Ja (Lq (Jb O) (Lq (KK Un126 O O (by simp)) (Je (Jf (Jz O O (Jp (Jf (Jc (Ja (Lq (Jb O) (Jg O (Jo (popFirst_r _ tR wtR hztR (by omega)) (.n1 O) (by decide) (Jl Mm2 Jx) fun _ _ _ q9=>?_))))))))))))
        obtain ⟨A4,t4,s4,k4,C4,d4,rfl,rfl,rfl,wt4,n4,h4,r4⟩:=q9
        have e4:=congrArg List.length r4
        simp only [List.length_append,Ju] at e4
        have g4:=List.length_pos_iff.2 n4
        refine Lq (Jb O) (Lq (Jk (vs:= [_,_]) O O) (Lq (Jk (vs:= [_,_]) O O) (Jg O (Jv (cs:= [_,_]) J3 O (by decide) fun b12=>Jg O (Jq (cs':= [_,_]) (vs:= [_,_]) J3 O O O O O (Nat.le_of_ble_eq_true O) .z (Lq (Jd O) (Je (Jf (Jc (Ja (Lq (Jb O) (Lq (Jw (vs:= [_,_]) Un134 O J3 O Jm O O) (Lq (Jb O) ?_)))))))))))))
        refine Jg O (Jo (join_r AJ A4 C4 d4 tJ t4 s4 k4 wtJ wt4 n4 h4 (by omega)) (.n3 O O O) (by decide) (Jl Mm2 (Jl Mm0 (Jl Mm1 Jx))) fun _ _ _ q9=>?_)
        obtain ⟨T5,t5,rfl,rfl,rfl,wt5,r5⟩:=q9
        have e5:=congrArg List.length r5
        simp only [List.length_append,Ju,Tr.row,List.length_nil,List.length_take,List.length_drop] at e5
        refine Lq (Jd O) (Je (Jf (Jn ?_)))
        refine ⟨_,[],[_],fun Z w hs=> .tmp O .nil,?_,fun Z w hs=>hs.out (Sd (Sr)) (Jl Mm0 Tt7)⟩
        exact ⟨_,_,O,O,O,wt5,by rw [r5,←rJ,r4]⟩
theorem bd115Xw32 (w:World):(Instr.build 128 #[]).run Tryz.prog w= .ok (.agg #[.pointer none]) w:=by kernel_rfl
theorem Jav:Sp Tryz.prog 37 [] [] [] (fun v Lo fs=> ∃b:Nat,v= .pointer (some ⟨b,0,none⟩)∧Lo= [rpP b none] ∧fs= []):=by
 refine Sp.of (n:=3) ⟨_,Tryz.func37,O,O,O,O⟩ (Nat.le_of_ble_eq_true O) fun Ps As=>Jc (Ja (Lq (Jd O) (Je (Jf (Jc (Ja (Lq (JV .nil (bd115Xw32)) (Jg O (J1 (cs:= [_]) O O (by decide) fun b2=>Lq (Jd O) (Je (Jf (Jn ?_))))))))))))
 refine ⟨_,[_],[],fun Z w hs=> .tmp O .nil,?_,fun Z w hs=>hs.out (Sk (Sr)) (fun _ h=>h)⟩
 exact ⟨_,O,O,O⟩
theorem fd112_0Xw32 (x0:Int) (x1:Int) (x2:Int) (x3:Int) (x4:Int) (x5:Int) (w:World):(Instr.field 138 (.agg #[.int .i64 x0, .int .i64 x1, .int .i64 x2, .int .i64 x3, .int .i64 x4, .int .i64 x5]) 0).run Tryz.prog w= .ok (.int .i64 x0) w:=by kernel_rfl
theorem Qc (b:Nat) (A:Option Addr) (t:Tr) (wt:Wf t):Sp Tryz.prog 51 [.pointer (some ⟨b,0,none⟩)] [rpP b A] [TrF A t] (fun v Lo fs=>v= .int .i64 t.row.length∧Lo= [rpP b A] ∧fs= []):=by
 refine Sp.of (n:=9) ⟨_,Tryz.func51,O,O,O,O⟩ (Nat.le_of_ble_eq_true O) fun Ps As=>Jc (Ja (Lq (Jd O) (Je (Jf (Jc (Ja (Lq (Jb O) (Lq (JB O) (Lq (Jh (o':=0) Un128 O YX O O) (Lq (Jj Un126 O O Jm O) (Jg O (Jo (YD A t) (.n1 O) (by decide) (Jl Mm0 Jx) fun _ _ _ q9=>?_))))))))))))
 obtain ⟨rfl,rfl,rfl⟩:=q9
 refine Lq (Yn O (fd112_0Xw32 _ _ _ _ _ _)) (Lq (Jd O) (Je (Jf (Jn ?_))))
 refine ⟨_,[_],[],fun Z w hs=> .tmp O .nil,?_,fun Z w hs=>hs.out (Sk (Sr)) (fun _ h=>h)⟩
 exact ⟨congrArg (Value.int .i64) wt.tot,O,O⟩
theorem counter_0 (x:Int) (h:0≤x∧x≤1048576):Sp Tryz.prog 138 [.int .i64 x] [] [] (Is (.int .i64 0)):=by
 have:=HM x
 rwa [if_neg (by omega),if_neg (by omega)] at this
theorem HG (b:Nat) (A:Option Addr) (t:Tr) (x:Int) (s:ByteArray) (hid:Int) (wt:Wf t) (hx:0≤x∧x≤t.row.length) (hs:s.size≤1073741824) (hu:(utF s).2.2=0) (hne:0<(KH s).length) (hh:0≤hid∧hid≤1048576) (hb:t.row.length+(KH s).length≤1048576):Sp Tryz.prog 120 [.pointer (some ⟨b,0,none⟩), .int .i64 x, .string s, .int .i64 hid] [rpP b A] [barF,TrF A t] (RpP b (t.row.take x.toNat ++(cellsOf (KH s) hid++t.row.drop x.toNat))):=by
 have hru:=Y5 hu
 refine Sp.of (n:=64) ⟨_,Tryz.func120,O,O,O,O⟩ (Nat.le_of_ble_eq_true O) fun Ps As=>Jc (Ja (Lq (Jd O) (Je (Jf (Jc (Jc (Ja (Lq (Jb O) (Lq (Ku O O) (Lq (Jb O) (Lg O O O (by simp;omega) (Jb O) (Lg O O O (by simp;omega) (Jb O) (Kk O O O (by simp;omega) (JX (Qc b A t wt) (.n1 O) (by decide) .z (Jl Mm1 Jx) fun _ _ _ q9=>?_))))))))))))))
 obtain ⟨rfl,rfl,rfl⟩:=q9
 refine Lg O O O (by simp;omega) (Ke O O) (Lq (JA O (by simp;omega) O) (Je (Jf (Jz O (by simp;omega) (Jp (Jf (Jc (Ja (Lq (Jb O) (Jg O (Jo (QF s (by omega)) (.n1 O) (by decide) (Jl Mm0 Jx) fun _ _ _ q9=>?_)))))))))))
 obtain ⟨rfl,rfl,rfl⟩:=q9
 refine Lq (Jb O) (Lq (Jk (vs:= [_,_,_]) O O) (Lq (Jk (vs:= [_,_,_]) O O) (Lq (Jk (vs:= [_,_,_]) O O) (Lq (Jd O) (Lq (Jd O) (Lq (Jd O) (Je (Jf (JL [(11,_),(9,_),(8,_),(0,_),(1,_),(2,_),(3,_)] (.m7 O O O O O O O) (Jc (Jc (Ja ?_))))))))))))
 refine Lq (Jb O) (Lq (Kp O O) (Je (Jf (Jz O (by rw [hu];rfl) (Jp (Jf (Jc (Jc (Ja (Lq (Jb O) (Jg O (Jo (counter_0 hid hh) (.n1 O) (by decide) Jx fun _ _ _ q9=>?_))))))))))))
 obtain ⟨rfl,rfl,rfl⟩:=q9
 refine Lq (Jd O) (Je (Jf (Jc (Ja (Lq (Jb O) (Lq (Kp O O) (Je (Jf (Jz O O (Jp (Jf (Jc (Jc (Ja (Lq (Jb O) (Jg O (JX (Qc b A t wt) (.n1 O) (by decide) .z (Jl Mm1 Jx) fun _ _ _ q9=>?_)))))))))))))))))
 obtain ⟨rfl,rfl,rfl⟩:=q9
 refine Lq (Jb O) (Lq (JZ O O (wr64 (by omega))) (Lq (Ke O O) (Je (Jf (JL [(40,_),(9,_),(8,_),(0,_),(1,_),(2,_),(3,_)] (.m7 O O O O O O O) (Jz O (by simp;omega) (Jp (Jf (Jc (Jc (Ja (Lq (Jb O) (Lq (Ka O O) (Je (Jf ?_)))))))))))))))
 refine Jz O (beq_eq_false_iff_ne.2 (by omega)) (Jp (Jf (Jc (Ja (Lq (Jb O) (Lq (JB O) (Lq (Jh (o':=0) Un128 O YX O O) (Lq (Jj Un126 O O Jm O) (Lq (Jb O) (Jg O (Jo (split_r A t x wt (by omega) (by omega) (by omega)) (.n2 O O) (by decide) (Jl Mm1 Jx) fun _ _ _ q9=>?_)))))))))))
 obtain ⟨A1,t1,E1,q1,rfl,rfl,rfl,wt1,wq1,r1,rq1⟩:=q9
 have e1:=congrArg List.length r1
 have eq1:=congrArg List.length rq1
 simp only [List.length_take,List.length_drop] at e1 eq1
 refine Lq (Jb O) (Lq (Jk (vs:= [_,_]) O O) (Lq (Jk (vs:= [_,_]) O O) (Lq (Jd O) (Lq (Jd O) (Je (Jf (JL [(13,_),(12,_),(8,_),(0,_),(2,_),(3,_)] (.m6 O O O O O O) (Jc (Ja (Lq (Jb O) (Lq (Jb O) ?_)))))))))))
 refine Lq (Jb O) (Jg O (Jo (HF s hs) (.n1 O) (by decide) Jx fun _ _ _ q9=>?_))
 obtain ⟨Ar,cr,rfl,rfl,rfl⟩:=q9
 refine Lq (Jb O) (Jg O (Jo (Ee Ar cr (KH s) hid (by omega) hh) (.n2 O O) (by decide) (Jl Mm0 Jx) fun _ _ _ q9=>?_))
 obtain ⟨Ap,cp,ps,rfl,rfl,rfl,hpk,hps⟩:=q9
 have eps:=congrArg List.length hps
 rw [Ju] at eps
 refine Jg O (Jo (build_r Ap cp ps hpk (by omega)) (.n1 O) (by decide) (Jl Mm0 Jx) fun _ _ _ q9=>?_)
 obtain ⟨T2,t2,rfl,rfl,rfl,wt2,r2⟩:=q9
 have e2:=congrArg List.length r2
 refine Jg O (Jo (mend_r A1 T2 t1 t2 wt1 wt2 (by omega)) (.n2 O O) (by decide) (Jl Mm3 (Jl Mm0 Jx)) fun _ _ _ q9=>?_)
 obtain ⟨T3,t3,rfl,rfl,rfl,wt3,r3⟩:=q9
 have e3:=congrArg List.length r3
 simp only [List.length_append] at e3
 refine Lq (Jb O) (Jg O (Jo (mend_r T3 E1 t3 q1 wt3 wq1 (by omega)) (.n2 O O) (by decide) (Jl Mm0 (Jl Mm5 Jx)) fun _ _ _ q9=>?_))
 obtain ⟨T4,t4,rfl,rfl,rfl,wt4,r4⟩:=q9
 have e4:=congrArg List.length r4
 simp only [List.length_append] at e4
 refine Lq (JB O) (Lq (Jh (o':=0) Un128 O YX O O) (Jg O (JN YX O O O .z .z (Je (Jf (JL [(8,_)] (.m1 O) (Jc (Ja (Lq (Jd O) (Je (Jf (Jn ?_))))))))))))
 refine ⟨_,[_],[_],fun Z w hs=> .tmp O .nil,?_,fun Z w hs=>hs.out (Sk (Sr)) (Jl Mm0 Tt7)⟩
 exact ⟨_,_,O,O,O,wt4,by simp only [r1,r2,r3,r4,rq1,hps,List.append_assoc]⟩
theorem fd112_5Xw32 (x0:Int) (x1:Int) (x2:Int) (x3:Int) (x4:Int) (x5:Int) (w:World):(Instr.field 138 (.agg #[.int .i64 x0, .int .i64 x1, .int .i64 x2, .int .i64 x3, .int .i64 x4, .int .i64 x5]) 5).run Tryz.prog w= .ok (.int .i64 x5) w:=by kernel_rfl
theorem ZB (b:Nat) (A Ar:Option Addr) (cr:Nat) (t:Tr) (rs:List Rg) (wt:Wf t) (hb:t.row.length≤1048576) (ho:BuOk rs 1 t.row) (hne:rs≠ []):Sp Tryz.prog 121 [.pointer (some ⟨b,0,none⟩), .slice Ar rs.length cr, .int .i64 1] [rpP b A] [TrF A t,RdF rgD Ar cr rs] (RpP b (K6 rs 1 t.row)):=by
 have hrs:=(QL ho.ck).1
 refine Sp.of (n:=100) ⟨_,Tryz.func121,O,O,O,O⟩ (Nat.le_of_ble_eq_true O) fun Ps As=>Jc (Ja (Lq (Jd O) (Je (Jf (Jc (Jc ?_))))))
 have hz1:rs.length-1<rs.length:=by have:=List.length_pos_iff.2 hne;omega
 have hlast:=ho.below _ (List.getElem_mem hz1)
 refine Kh (k:=(rs.length-1)) Mm1 (List.getElem?_eq_getElem hz1) (rg_open _) fun b6 q6 y6 e6=> ?_
 cases e6
 refine Ja (Lq (Jb O) (Lq (Kp O O) (Lq (Jb O) (Ln O O O O (Ln O O O O (Lq (JA O O O) (Je (Jf (Jz O O (Jp (Jf (Jc (Jc (Ja (Lq (Jb O) (Jg O (Jo (XI (some ⟨b6,q6,none⟩) cr rs (by omega)) (.n1 O) (by decide) (Jl Mm2 Jx) fun _ _ _ q9=>?_)))))))))))))))))
 obtain ⟨rfl,rfl,rfl⟩:=q9
 refine Lq (Jb O) (Lq (Jk (vs:= [_,_]) O O) (Lq (Jk (vs:= [_,_]) O O) (Lq (Jd O) (Lq (Jd O) (Je (Jf (JL [(8,_),(6,_),(0,_),(1,_),(2,_)] (.m5 O O O O O) (Jc (Ja (Lq (Jb O) (Lq (Kp O O) ?_)))))))))))
 refine Je (Jf (Jz O (by rw [ho.ck];rfl) (Jp (Jf (Jc (Jc (JI _ _ [] (.c 0 0 (.c 1 0 (.c 2 0 (.c 3 0 (.c 4 0 (.c 5 0 (.c 6 0 (.c 7 0 (.c 8 0 (.c 9 0 (.c 10 0 (.c 11 0 (.c 12 2 (.c 13 0 (.c 14 0 .nil))))))))))))))) mixed (fun _ _ _ _ h=>h) (Sk (Sr)) (fun _ h=>h) (by kernel_rfl) (by decide) fun ws Z0=>Qe O (Jb O) (Qe O (J7 Un38 O) (Qe O (Ke O O) (Qe O (Jb O) (Kl O O O O (by simp;omega) (Jb O) (by decide) (Kl O O O O (by simp;omega) (Jb O) (by decide) ?_))))))))))))
 refine Kl O O O O (by simp;omega) (J7 Un38 O) (by decide) (Kl O O O O (by simp;omega) (KS O O (by rw [wr64 (by omega)];omega) (c:=((rs.length-1:Nat):Int))) (by decide) (Kl O O O O (by simp;omega) (Kc Un38 KB O O (by omega) (by omega)) (by decide) (Kl O O O O (by simp;omega) (Jh (o':=_+1) Un143 O ti3 O O) (by decide) (Kl O O O O (by simp;omega) (Ks (j:=1) Un3 O O Mm0 O O) (by decide) (Kl O O O O (by simp;omega) (Jb O) (by decide) (Gq O O O O O (by simp;omega) (JX (Qc b A t wt) (.n1 O) (by decide) .z (Jl Mm2 Jx) fun _ _ _ q9=>?_)))))))
 obtain ⟨rfl,rfl,rfl⟩:=q9
 refine ⟨⟨(Sk (Sr)),Mm0⟩,?_⟩
 refine Kl O O O O (by simp;omega) (Ke O O) (by decide) (Qe O (JH O (by simp;omega) O) (JJ (JK (Jf (JL [(44,_),(6,_),(0,_),(1,_),(2,_)] (.m5 O O O O O) (Jz O (by simp;omega) (Jp (Jf (Jc (Ja (Lq (Jb O) (Lq (JB O) (Lq (Jh (o':=0) Un128 O YX O O) ?_)))))))))))))
 refine Lq (Jj Un126 O O Jm O) (Lq (Jd O) (Je (Jf (Jc (Jc (Ja (Lq (Jb O) (Lq (J7 Un38 O) (Lq (Jb O) (Je (Jf (JO ?_))))))))))))
 refine Ki (α:=Nat×Option Addr×Tr) (fun (i,B,u)=>rs.length-i)
  (fun (i,B,u)=> [(0, .pointer (some ⟨b,0,none⟩)),(2, .int .i64 1),(9, .pointer B),(49, .slice (some ⟨b6,q6,none⟩) rs.length cr),(50, .int .i64 rs.length),(51, .int .i64 i)])
  (fun (i,B,u)=>(rpP b A::Ps))
  (fun (i,B,u)=>(TrF B u::TrF A t::RdF rgD (some ⟨b6,q6,none⟩) cr rs::As))
  (fun (i,B,u)=>BuI rs 1 t.row i u)
  (0,A,t) ?_ (.m6 rfl rfl rfl rfl rfl rfl) (Sk (Sr)) (Jl Mm2 Tt2) ?_
 ·exact ⟨Nat.zero_le _,wt,O⟩
 ·rintro ⟨i,AJ,tJ⟩ hI
  have wtJ:=hI.wf
  refine Jc (Ja (Lq (Ku O O) (Je (Jf (Jc (Jy O (fun h52=> ?_) (fun h52=> ?_)))))))
  ·refine Jp (Jf (Jc (JO (Jc ?_))))
   try simp only [Bp,Bq] at *
   have hil:i<rs.length:=by omega
   have hm:=ho.norm.mem _ (List.getElem_mem hil)
   have hbl:=ho.below _ (List.getElem_mem hil)
   have hrl:=hI.len ho
   have hsl:=hI.slice ho hil
   refine Gs (k:=i) Mm2 (List.getElem?_eq_getElem hil) (rg_open _) fun yk=> ?_
   refine Ja (Lq (Kc Un38 KB O O (by omega) (by omega)) (Lq (Kq (k:=0) (vs:= [_,_]) Un143 O KB O Mm0 O O O) (Jg O (Jv (cs:= [_,_]) KB O (by decide) fun b11=>Jg O (Jq (cs':= [_,_]) (vs:= [_,_]) KB O O O O O (Nat.le_of_ble_eq_true O) .z (Je (Jf (Jc (Ja (Lq (Jb O) (Lq (Jh (o':=0) Un143 O ti3 O O) (Lq (Jj Un3 O O Jm O) (Jg O (Jo (split_r AJ tJ rs[i].lo wtJ (by omega) (by omega) (by omega)) (.n2 O O) (by decide) (Jl Mm1 Jx) fun _ _ _ q9=>?_))))))))))))))
   obtain ⟨A1,t1,E1,q1,rfl,rfl,rfl,wt1,wq1,r1,rq1⟩:=q9
   have e1:=congrArg List.length r1
   have eq1:=congrArg List.length rq1
   simp only [List.length_take,List.length_drop] at e1 eq1
   refine Lq (Jb O) (Lq (Jk (vs:= [_,_]) O O) (Lq (Jk (vs:= [_,_]) O O) (Lq (Jd O) (Lq (Jd O) (Je (Jf (Jc (Ja (Lq (Jb O) (Lq (Jh (o':=1) Un143 O ti3 O O) (Lq (Jj Un3 O O Jm O) (Lq (Jh (o':=0) Un143 O ti3 O O) ?_))))))))))))
   refine Lq (Jj Un3 O O Jm O) (Lq (KS O O (wr64 (by omega))) (Jg O (Jo (split_r E1 q1 (rs[i].hi-rs[i].lo) wq1 (by omega) (by omega) (by omega)) (.n2 O O) (by decide) (Jl Mm1 Jx) fun _ _ _ q9=>?_)))
   obtain ⟨A2,t2,E2,q2,rfl,rfl,rfl,wt2,wq2,r2,rq2⟩:=q9
   have e2:=congrArg List.length r2
   have eq2:=congrArg List.length rq2
   simp only [List.length_take,List.length_drop] at e2 eq2
   refine Lq (Jb O) (Lq (Jk (vs:= [_,_]) O O) (Lq (Jk (vs:= [_,_]) O O) (Lq (Jd O) (Lq (Jd O) (Je (Jf (Jc (Jc ?_))))))))
   have hn2:t2.row≠ [] :=fun e=>by have h1:=congrArg List.length e;rw [List.length_nil] at h1;omega
   obtain ⟨⟨cm,hcm,em⟩,cx,hcx,ex⟩:=wf_mn wt2 hn2
   have hs1:InR (up 1 t2.row):=by rw [r2,rq1];exact hsl
   have hc1:=hs1 _ (mem_up.2 ⟨cm,hcm,rfl⟩)
   have hc2:=hs1 _ (mem_up.2 ⟨cx,hcx,rfl⟩)
   simp only at hc1 hc2
   have hwl:=wf_lift wt2 hs1
   have hlr:=row_lift t2 1
   have hll:(liftF t2 1).row.length=t2.row.length:=by rw [hlr,Qk]
   refine Ja (Lq (Jb O) (Lq (Ku O O) (Lq (Jb O) (Ln O O O O (Ln O O O O (Ln O O O O (Ln O O O O (Lq (JA O O O) (Je (Jf (Jz O O (Jp (Jf (Jc (Jc (Ja ?_))))))))))))))))
   refine Lq (Jb O) (Lq (Ke O O) (Lq (Jb O) (Lg O O O O (Jb O) (Kk O O O O (Jo (YD A2 t2) (.n1 O) (by decide) (Jl Mm0 Jx) fun _ _ _ q9=>?_)))))
   obtain ⟨rfl,rfl,rfl⟩:=q9
   refine Lg O O O O (Yn O (fd112_5Xw32 _ _ _ _ _ _)) (Lg O O O O (Ka O O) (Lq (JH O O O) (Je (Jf (Jz O (by simp;omega) (Jp (Jf (Ja (Lq (Jb O) (Lq (Jb O) (Lq (Jb O) (Jg O (Jo (Ea A2 t2 1 wt2 (by omega)) (.n2 O O) (by decide) (Jl Mm0 Jx) fun _ _ _ q9=>?_)))))))))))))
   obtain ⟨L9,rfl,rfl,rfl⟩:=q9
   obtain ⟨L9t,hL9⟩: ∃z,z=liftF t2 1:=⟨_,rfl⟩
   rw [←hL9] at hwl hlr hll ⊢
   have wL9t:=hwl
   refine Jg O (Jo (mend_r A1 L9 t1 L9t wt1 wL9t (by omega)) (.n2 O O) (by decide) (Jl Mm3 (Jl Mm0 Jx)) fun _ _ _ q9=>?_)
   obtain ⟨T3,t3,rfl,rfl,rfl,wt3,r3⟩:=q9
   have e3:=congrArg List.length r3
   simp only [List.length_append] at e3
   refine Lq (Jb O) (Jg O (Jo (mend_r T3 E2 t3 q2 wt3 wq2 (by omega)) (.n2 O O) (by decide) (Jl Mm0 (Jl Mm3 Jx)) fun _ _ _ q9=>?_))
   obtain ⟨T4,t4,rfl,rfl,rfl,wt4,r4⟩:=q9
   have e4:=congrArg List.length r4
   simp only [List.length_append] at e4
   refine Lq (Jd O) (Je (J9 (Jf (Ja (Lq (JZ O O (wr64 (by omega)) (c:=((i+1:Nat):Int))) (Lq (Jb O) (Je (Ko ?_))))))))
   refine ⟨(i+1,T4,t4),?_,(.m6 O O O O O O),(Sd (Sk (Sr))),(Jl Mm0 Tt9)⟩
   refine ⟨by show rs.length-(i+1)<rs.length-i;omega,hI.next hil wt4 ?_⟩
   have e8:rs[i].lo.toNat +(rs[i].hi-rs[i].lo).toNat=rs[i].hi.toNat:=by omega
   rw [r4,r3,hlr,r1,r2,rq2,rq1,List.drop_drop,e8,List.append_assoc];rfl
  ·refine Kr (JR (JR (Kg (Jf (Jc (Ja (Lq (Jb O) (Lq (Jb O) (Lq (JB O) (Lq (Jh (o':=0) Un128 O YX O O) (Jg O (JN YX O O O .z .z (Je (Jf (Jc (Ja (Lq (Jd O) (Je (Jf (Jn ?_))))))))))))))))))))
   refine ⟨_,[_],[_],fun Z w hs=> .tmp O .nil,?_,fun Z w hs=>hs.out (Sk (Sr)) (fun _ h=>h)⟩
   try simp only [Bp,Bq] at *
   exact ⟨_,_,O,O,O,wtJ,hI.done (by omega)⟩
theorem fd112_3Xw32 (x0:Int) (x1:Int) (x2:Int) (x3:Int) (x4:Int) (x5:Int) (w:World):(Instr.field 138 (.agg #[.int .i64 x0, .int .i64 x1, .int .i64 x2, .int .i64 x3, .int .i64 x4, .int .i64 x5]) 3).run Tryz.prog w= .ok (.int .i64 x3) w:=by kernel_rfl
theorem ZC (b:Nat) (A Ar:Option Addr) (cr:Nat) (t:Tr) (rs:List Rg) (wt:Wf t) (hb:t.row.length≤1048576) (ho:BuOk rs (-1) t.row) (hne:rs≠ []):Sp Tryz.prog 121 [.pointer (some ⟨b,0,none⟩), .slice Ar rs.length cr, .int .i64 (-1)] [rpP b A] [TrF A t,RdF rgD Ar cr rs] (RpP b (K6 rs (-1) t.row)):=by
 have hrs:=(QL ho.ck).1
 refine Sp.of (n:=100) ⟨_,Tryz.func121,O,O,O,O⟩ (Nat.le_of_ble_eq_true O) fun Ps As=>Jc (Ja (Lq (Jd O) (Je (Jf (Jc (Jc ?_))))))
 have hz1:rs.length-1<rs.length:=by have:=List.length_pos_iff.2 hne;omega
 have hlast:=ho.below _ (List.getElem_mem hz1)
 refine Kh (k:=(rs.length-1)) Mm1 (List.getElem?_eq_getElem hz1) (rg_open _) fun b6 q6 y6 e6=> ?_
 cases e6
 refine Ja (Lq (Jb O) (Lq (Kp O O) (Lq (Jb O) (Lg O O O O (Jb O) (Lg O O O O (Kp O O) (Lq (JH O O O) (Je (Jf (Jz O O (Jp (Jf (Jc (Jc (Ja (Lq (Jb O) (Jg O (Jo (XI (some ⟨b6,q6,none⟩) cr rs (by omega)) (.n1 O) (by decide) (Jl Mm2 Jx) fun _ _ _ q9=>?_)))))))))))))))))
 obtain ⟨rfl,rfl,rfl⟩:=q9
 refine Lq (Jb O) (Lq (Jk (vs:= [_,_]) O O) (Lq (Jk (vs:= [_,_]) O O) (Lq (Jd O) (Lq (Jd O) (Je (Jf (JL [(8,_),(6,_),(0,_),(1,_),(2,_)] (.m5 O O O O O) (Jc (Ja (Lq (Jb O) (Lq (Kp O O) ?_)))))))))))
 refine Je (Jf (Jz O (by rw [ho.ck];rfl) (Jp (Jf (Jc (Jc (JI _ _ [] (.c 0 0 (.c 1 0 (.c 2 0 (.c 3 0 (.c 4 0 (.c 5 0 (.c 6 0 (.c 7 0 (.c 8 0 (.c 9 0 (.c 10 0 (.c 11 0 (.c 12 2 (.c 13 0 (.c 14 0 .nil))))))))))))))) mixed (fun _ _ _ _ h=>h) (Sk (Sr)) (fun _ h=>h) (by kernel_rfl) (by decide) fun ws Z0=>Qe O (Jb O) (Qe O (J7 Un38 O) (Qe O (Ke O O) (Qe O (Jb O) (Kl O O O O (by simp;omega) (Jb O) (by decide) (Kl O O O O (by simp;omega) (Jb O) (by decide) ?_))))))))))))
 refine Kl O O O O (by simp;omega) (J7 Un38 O) (by decide) (Kl O O O O (by simp;omega) (KS O O (by rw [wr64 (by omega)];omega) (c:=((rs.length-1:Nat):Int))) (by decide) (Kl O O O O (by simp;omega) (Kc Un38 KB O O (by omega) (by omega)) (by decide) (Kl O O O O (by simp;omega) (Jh (o':=_+1) Un143 O ti3 O O) (by decide) (Kl O O O O (by simp;omega) (Ks (j:=1) Un3 O O Mm0 O O) (by decide) (Kl O O O O (by simp;omega) (Jb O) (by decide) (Gq O O O O O (by simp;omega) (JX (Qc b A t wt) (.n1 O) (by decide) .z (Jl Mm2 Jx) fun _ _ _ q9=>?_)))))))
 obtain ⟨rfl,rfl,rfl⟩:=q9
 refine ⟨⟨(Sk (Sr)),Mm0⟩,?_⟩
 refine Kl O O O O (by simp;omega) (Ke O O) (by decide) (Qe O (JH O (by simp;omega) O) (JJ (JK (Jf (JL [(44,_),(6,_),(0,_),(1,_),(2,_)] (.m5 O O O O O) (Jz O (by simp;omega) (Jp (Jf (Jc (Ja (Lq (Jb O) (Lq (JB O) (Lq (Jh (o':=0) Un128 O YX O O) ?_)))))))))))))
 refine Lq (Jj Un126 O O Jm O) (Lq (Jd O) (Je (Jf (Jc (Jc (Ja (Lq (Jb O) (Lq (J7 Un38 O) (Lq (Jb O) (Je (Jf (JO ?_))))))))))))
 refine Ki (α:=Nat×Option Addr×Tr) (fun (i,B,u)=>rs.length-i)
  (fun (i,B,u)=> [(0, .pointer (some ⟨b,0,none⟩)),(2, .int .i64 (-1)),(9, .pointer B),(49, .slice (some ⟨b6,q6,none⟩) rs.length cr),(50, .int .i64 rs.length),(51, .int .i64 i)])
  (fun (i,B,u)=>(rpP b A::Ps))
  (fun (i,B,u)=>(TrF B u::TrF A t::RdF rgD (some ⟨b6,q6,none⟩) cr rs::As))
  (fun (i,B,u)=>BuI rs (-1) t.row i u)
  (0,A,t) ?_ (.m6 rfl rfl rfl rfl rfl rfl) (Sk (Sr)) (Jl Mm2 Tt2) ?_
 ·exact ⟨Nat.zero_le _,wt,O⟩
 ·rintro ⟨i,AJ,tJ⟩ hI
  have wtJ:=hI.wf
  refine Jc (Ja (Lq (Ku O O) (Je (Jf (Jc (Jy O (fun h52=> ?_) (fun h52=> ?_)))))))
  ·refine Jp (Jf (Jc (JO (Jc ?_))))
   try simp only [Bp,Bq] at *
   have hil:i<rs.length:=by omega
   have hm:=ho.norm.mem _ (List.getElem_mem hil)
   have hbl:=ho.below _ (List.getElem_mem hil)
   have hrl:=hI.len ho
   have hsl:=hI.slice ho hil
   refine Gs (k:=i) Mm2 (List.getElem?_eq_getElem hil) (rg_open _) fun yk=> ?_
   refine Ja (Lq (Kc Un38 KB O O (by omega) (by omega)) (Lq (Kq (k:=0) (vs:= [_,_]) Un143 O KB O Mm0 O O O) (Jg O (Jv (cs:= [_,_]) KB O (by decide) fun b11=>Jg O (Jq (cs':= [_,_]) (vs:= [_,_]) KB O O O O O (Nat.le_of_ble_eq_true O) .z (Je (Jf (Jc (Ja (Lq (Jb O) (Lq (Jh (o':=0) Un143 O ti3 O O) (Lq (Jj Un3 O O Jm O) (Jg O (Jo (split_r AJ tJ rs[i].lo wtJ (by omega) (by omega) (by omega)) (.n2 O O) (by decide) (Jl Mm1 Jx) fun _ _ _ q9=>?_))))))))))))))
   obtain ⟨A1,t1,E1,q1,rfl,rfl,rfl,wt1,wq1,r1,rq1⟩:=q9
   have e1:=congrArg List.length r1
   have eq1:=congrArg List.length rq1
   simp only [List.length_take,List.length_drop] at e1 eq1
   refine Lq (Jb O) (Lq (Jk (vs:= [_,_]) O O) (Lq (Jk (vs:= [_,_]) O O) (Lq (Jd O) (Lq (Jd O) (Je (Jf (Jc (Ja (Lq (Jb O) (Lq (Jh (o':=1) Un143 O ti3 O O) (Lq (Jj Un3 O O Jm O) (Lq (Jh (o':=0) Un143 O ti3 O O) ?_))))))))))))
   refine Lq (Jj Un3 O O Jm O) (Lq (KS O O (wr64 (by omega))) (Jg O (Jo (split_r E1 q1 (rs[i].hi-rs[i].lo) wq1 (by omega) (by omega) (by omega)) (.n2 O O) (by decide) (Jl Mm1 Jx) fun _ _ _ q9=>?_)))
   obtain ⟨A2,t2,E2,q2,rfl,rfl,rfl,wt2,wq2,r2,rq2⟩:=q9
   have e2:=congrArg List.length r2
   have eq2:=congrArg List.length rq2
   simp only [List.length_take,List.length_drop] at e2 eq2
   refine Lq (Jb O) (Lq (Jk (vs:= [_,_]) O O) (Lq (Jk (vs:= [_,_]) O O) (Lq (Jd O) (Lq (Jd O) (Je (Jf (Jc (Jc ?_))))))))
   have hn2:t2.row≠ [] :=fun e=>by have h1:=congrArg List.length e;rw [List.length_nil] at h1;omega
   obtain ⟨⟨cm,hcm,em⟩,cx,hcx,ex⟩:=wf_mn wt2 hn2
   have hs1:InR (up (-1) t2.row):=by rw [r2,rq1];exact hsl
   have hc1:=hs1 _ (mem_up.2 ⟨cm,hcm,rfl⟩)
   have hc2:=hs1 _ (mem_up.2 ⟨cx,hcx,rfl⟩)
   simp only at hc1 hc2
   have hwl:=wf_lift wt2 hs1
   have hlr:=row_lift t2 (-1)
   have hll:(liftF t2 (-1)).row.length=t2.row.length:=by rw [hlr,Qk]
   refine Ja (Lq (Jb O) (Lq (Ku O O) (Lq (Jb O) (Lg O O O O (Jb O) (Kk O O O O (Jo (YD A2 t2) (.n1 O) (by decide) (Jl Mm0 Jx) fun _ _ _ q9=>?_))))))
   obtain ⟨rfl,rfl,rfl⟩:=q9
   refine Lg O O O O (Yn O (fd112_3Xw32 _ _ _ _ _ _)) (Lg O O O O (Ka O O) (Lq (JH O O O) (Je (Jf (Jz O (by simp;omega) (Jp (Jf (Jc (Jc (Ja (Lq (Jb O) (Lq (Ke O O) (Lq (Jb O) (Ln O O O O ?_))))))))))))))
   refine Ln O O O O (Ln O O O O (Ln O O O O (Lq (JA O O O) (Je (Jf (Jz O O (Jp (Jf (Ja (Lq (Jb O) (Lq (Jb O) (Lq (Jb O) (Jg O (Jo (Ea A2 t2 (-1) wt2 (by omega)) (.n2 O O) (by decide) (Jl Mm0 Jx) fun _ _ _ q9=>?_))))))))))))))
   obtain ⟨L9,rfl,rfl,rfl⟩:=q9
   obtain ⟨L9t,hL9⟩: ∃z,z=liftF t2 (-1):=⟨_,rfl⟩
   rw [←hL9] at hwl hlr hll ⊢
   have wL9t:=hwl
   refine Jg O (Jo (mend_r A1 L9 t1 L9t wt1 wL9t (by omega)) (.n2 O O) (by decide) (Jl Mm3 (Jl Mm0 Jx)) fun _ _ _ q9=>?_)
   obtain ⟨T3,t3,rfl,rfl,rfl,wt3,r3⟩:=q9
   have e3:=congrArg List.length r3
   simp only [List.length_append] at e3
   refine Lq (Jb O) (Jg O (Jo (mend_r T3 E2 t3 q2 wt3 wq2 (by omega)) (.n2 O O) (by decide) (Jl Mm0 (Jl Mm3 Jx)) fun _ _ _ q9=>?_))
   obtain ⟨T4,t4,rfl,rfl,rfl,wt4,r4⟩:=q9
   have e4:=congrArg List.length r4
   simp only [List.length_append] at e4
   refine Lq (Jd O) (Je (J9 (Jf (Ja (Lq (JZ O O (wr64 (by omega)) (c:=((i+1:Nat):Int))) (Lq (Jb O) (Je (Ko ?_))))))))
   refine ⟨(i+1,T4,t4),?_,(.m6 O O O O O O),(Sd (Sk (Sr))),(Jl Mm0 Tt9)⟩
   refine ⟨by show rs.length-(i+1)<rs.length-i;omega,hI.next hil wt4 ?_⟩
   have e8:rs[i].lo.toNat +(rs[i].hi-rs[i].lo).toNat=rs[i].hi.toNat:=by omega
   rw [r4,r3,hlr,r1,r2,rq2,rq1,List.drop_drop,e8,List.append_assoc];rfl
  ·refine Kr (JR (JR (Kg (Jf (Jc (Ja (Lq (Jb O) (Lq (Jb O) (Lq (JB O) (Lq (Jh (o':=0) Un128 O YX O O) (Jg O (JN YX O O O .z .z (Je (Jf (Jc (Ja (Lq (Jd O) (Je (Jf (Jn ?_))))))))))))))))))))
   refine ⟨_,[_],[_],fun Z w hs=> .tmp O .nil,?_,fun Z w hs=>hs.out (Sk (Sr)) (fun _ h=>h)⟩
   try simp only [Bp,Bq] at *
   exact ⟨_,_,O,O,O,wtJ,hI.done (by omega)⟩
theorem EffOk.bump {x:GOp} {row:List Ce} (h:EffOk x row) (hb:row.length≤60000) (hr:InR row):(x.kind=2→BuOk x.rs 1 row∧x.rs≠ [])∧(x.kind=3→BuOk x.rs (-1) row∧x.rs≠ []):=by
 have key: ∀k:Int,(x.kind=2∧k=1)∨(x.kind=3∧k= -1)→BuOk x.rs k row∧x.rs≠ [] :=by
  intro k hk
  obtain ⟨h1,h2⟩:=(Yz (xs:=x.rs) (w:=row.length) (by omega)).1 ((check_cov (by omega) (by omega)).1 h.ck).2
  refine ⟨⟨h2.ck (by omega),h2.below,fun q c hq hi=> ?_⟩,h1⟩
  have hc:=hr c (List.mem_of_getElem? hq)
  rcases hk with ⟨hk,rfl⟩ | ⟨hk,rfl⟩
  ·have:=h.up hk q c hq hi;omega
  ·have:=h.dn hk q c hq hi;omega
 exact ⟨fun hk=>key 1 (.inl ⟨hk,O⟩),fun hk=>key (-1) (.inr ⟨hk,O⟩)⟩
theorem Ht (b:Nat) (A Ax:Option Addr) (cx:Nat) (t:Tr) (x:GOp) (wt:Wf t) (hb:t.row.length≤60000) (he:EffOk x t.row) (hs:x.text.size≤1073741824) (hl:x.rs.length≤8796093022208):Sp Tryz.prog 98 [.pointer (some ⟨b,0,none⟩),opV x Ax cx] [rpP b A] [barF,TrF A t,RdF rgD Ax cx x.rs] (RpP b (J6 x t.row)):=by
 obtain ⟨hb2,hb3⟩:=he.bump hb wt.inR
 refine Sp.of (n:=38) ⟨_,Tryz.func98,O,O,O,O⟩ (Nat.le_of_ble_eq_true O) fun Ps As=>Jc (Ja (Jg O (J1 (cs:= [_,_,_,_,_,_,_,_,_]) O O (by decide) fun b3=>Lq (Jd O) (Je (Jf (Jc (Jc (Ja (Lq (Jb O) (Lq (KK Un56 O O (by simp)) (Je (Jf (Jz O O (Jp (Jf (Jc (Jc (Jt .z1 (JI _ _ [] (.c 0 0 (.c 1 0 (.c 2 2 (.c 3 2 (.c 4 0 .nil))))) mixed (fun _ _ _ _ h=>h) (Sk2 (Sr)) (fun _ h=>h) (by kernel_rfl) (by decide) fun ws Z0=> ?_)))))))))))))))))))
 refine Qe O (Jw (vs:= [_,_,_,_,_,_,_,_,_]) Un40 O JF O (Ji (Jm)) O O) (Qe O (Jb O) (Js O O (JX (Qc b A t wt) (.n1 O) (by decide) .z (Jl Mm2 Jx) fun _ _ _ q9=>?_)))
 obtain ⟨rfl,rfl,rfl⟩:=q9
 refine ⟨⟨(Sk2 (Sr)),Mm0⟩,?_⟩
 refine Js O O (Jo (Y9 x Ax cx t.row.length (by omega) hl) (.n2 O O) (by decide) (Jl Mm1 (Jl Mm3 Jx)) fun _ _ _ q9=>?_)
 obtain ⟨rfl,rfl,rfl⟩:=q9
 refine ⟨⟨(Sk2 (Sr)),Mm0⟩,?_⟩
 refine Qe O (Jd O) (JJ (JK (Jf (Jc (Ja (Lq (Jb O) (Lq (Kp O O) (Je (Jf (Jz O (by rw [he.ck];rfl) (Jp (Jf (Jc (Jc (Ja (Lq (Jh (o':=0) Un40 O KI O O) (Lq (Jh (o':=2) Un37 O Yu O O) ?_)))))))))))))))))
 refine Lq (Jj Un35 O O (Ji (Jm)) O) (Je (Jf (JL [(17,_),(4,_),(3,_),(0,_)] (.m4 O O O O) (JO (Jc (Ja (Lq (Ka O O) (Lq (Jd O) (Je (Jf (Jy O (fun h18=> ?_) (fun h18=> ?_))))))))))))
 ·have hk:x.kind=1:=by simpa using h18
  obtain ⟨hu,hn,hat,hw⟩:=Yr.1 ((check_ins hk (by omega)).1 he.ck).2
  have hru:=Y5 hu
  refine Jc (Ja (Lq (Jb O) (Lq (Jh (o':=3) Un40 O ti3 O O) (Lq (Jj Un3 O O (Ji (Jm)) O) (Lq (Jh (o':=4) Un40 O ti9 O O) (Lq (Jj Un9 O O (Ji (Jm)) O) (Jg O (JX (HG b A t x.at_ x.text 0 wt hat hs hu (by omega) (by omega) (by omega)) (.n4 O O O O) (by decide) .z (Jl Mm1 (Jl Mm2 Jx)) fun _ _ _ q9=>?_))))))))
  obtain ⟨A2,t2,rfl,rfl,rfl,wt2,r2⟩:=q9
  refine Lq (Jd O) (Je (Jf (Jn (JM (Jr ?_)))))
  refine ⟨_,[_],[_],fun Z w hs=> .tmp O .nil,?_,fun Z w hs=>hs.out (Sk (Sd (Sr))) (Jl Mm0 Tt2)⟩
  exact ⟨_,_,O,O,O,wt2,by rw [r2];unfold J6;rw [if_pos hk]⟩
 ·refine Jc (Ja (Lq (Ka O O) (Lq (Jd O) (Je (Jf (Jy O (fun h26=> ?_) (fun h26=> ?_)))))))
  ·have hk:x.kind=2:=by simpa using h26
   refine Jc (Ja (Lq (Jb O) (Lq (Jh (o':=5) Un40 O Yd O O) (Lq (Jj Un38 O O (Ji (Jm)) O) (Jg O (JX (ZB b A Ax cx t x.rs wt (by omega) (hb2 hk).1 (hb2 hk).2) (.n3 O O O) (by decide) .z (Jl Mm2 (Jl Mm3 Jx)) fun _ _ _ q9=>?_))))))
   obtain ⟨A2,t2,rfl,rfl,rfl,wt2,r2⟩:=q9
   refine Lq (Jd O) (Je (Jf (Jn (JM (Jr ?_)))))
   refine ⟨_,[_],[_],fun Z w hs=> .tmp O .nil,?_,fun Z w hs=>hs.out (Sk (Sd (Sr))) (Jl Mm0 Tt2)⟩
   exact ⟨_,_,O,O,O,wt2,by rw [r2];unfold J6;rw [if_neg (by omega),if_pos hk]⟩
  ·refine Jc (Ja (Lq (Ka O O) (Lq (Jd O) (Je (Jf (Jy O (fun h32=> ?_) (fun h32=> ?_)))))))
   ·have hk:x.kind=3:=by simpa using h32
    refine Jc (Ja (Lq (Jb O) (Lq (Jh (o':=5) Un40 O Yd O O) (Lq (Jj Un38 O O (Ji (Jm)) O) (Jg O (JX (ZC b A Ax cx t x.rs wt (by omega) (hb3 hk).1 (hb3 hk).2) (.n3 O O O) (by decide) .z (Jl Mm2 (Jl Mm3 Jx)) fun _ _ _ q9=>?_))))))
    obtain ⟨A2,t2,rfl,rfl,rfl,wt2,r2⟩:=q9
    refine Lq (Jd O) (Je (Jf (JL [(4,_)] (.m1 O) (Jn (JM (Jr ?_))))))
    refine ⟨_,[_],[_],fun Z w hs=> .tmp O .nil,?_,fun Z w hs=>hs.out (Sk (Sd (Sr))) (Jl Mm0 Tt2)⟩
    exact ⟨_,_,O,O,O,wt2,by rw [r2];unfold J6;rw [if_neg (by omega),if_neg (by omega),if_pos hk]⟩
   ·exfalso
    have:=he.kind
    simp at h18 h26 h32
    omega
end Go.Proofs.YthkkklphanidjaaGreatDoor
