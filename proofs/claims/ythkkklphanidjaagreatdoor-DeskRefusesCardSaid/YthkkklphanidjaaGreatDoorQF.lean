/- Part of the proof that this claim's law answers true, whatever its arguments. Condition: the laid variables hold what their initialisers lay (the card ties that to the program's text). -/
import Derived.Test.YthkkklphanidjaaGreatDoorQE
set_option maxRecDepth 10000
set_option linter.unusedVariables false
set_option linter.unusedSimpArgs false
open Go.Proofs.Tryz renaming underlying1→Un1,underlying3→Un3,underlying4→Un4,underlying9→Un9,underlying20→Un20,underlying21→Un21,underlying23→Un23,underlying24→Un24,underlying26→Un26,underlying27→Un27,underlying29→Un29,underlying34→Un34,underlying35→Un35,underlying37→Un37,underlying38→Un38,underlying40→Un40,underlying42→Un42,underlying43→Un43,underlying44→Un44,underlying45→Un45,underlying47→Un47,underlying54→Un54,underlying55→Un55,underlying56→Un56,underlying58→Un58,underlying61→Un61,underlying63→Un63,underlying65→Un65,underlying86→Un86,underlying92→Un92,underlying114→Un114,underlying117→Un117,underlying121→Un121,underlying123→Un123,underlying125→Un125,underlying126→Un126,underlying128→Un128,underlying132→Un132,underlying134→Un134,underlying138→Un138,underlying143→Un143,underlying144→Un144,underlying149→Un149,underlying152→Un152,underlying153→Un153,underlying155→Un155,underlying161→Un161,underlying165→Un165,underlying169→Un169,underlying185→Un185,underlying186→Un186,underlying188→Un188,underlying194→Un194,underlying199→Un199,underlying233→Un233
namespace Go.Proofs.YthkkklphanidjaaGreatDoor
open Go Go.GW
theorem find_n (h m cap:Nat) (A:Option Addr) (H:Hist) (L:List MR) (hr:HR H L) (i0 i1:Int) (hw:J5 H.ents i0 i1=none):Sp Tryz.prog 85 [.pointer (some ⟨h,0,none⟩), .agg #[.int .i64 i0, .int .i64 i1]] [hdP h A H.ops.length cap m H.total,mpP m L,mkP L] [] (fun u Lo fs=>u= .tuple #[.int .i64 0, .int .i64 60] ∧Lo= [hdP h A H.ops.length cap m H.total,mpP m L,mkP L] ∧fs= []):=by
 have hol:=KY H
 have hlen:=hr.len
 have hg:=hr.look0 hw
 refine Sp.of (n:=19) ⟨_,Tryz.func85,O,O,O,O⟩ (Nat.le_of_ble_eq_true O) fun Ps As=>Jc (Ja (Jg O (J1 (cs:= [_,_]) O O (by decide) fun b3=>Lq (Jd O) (Lq (Jd O) (Je (Jf (Jc (JI _ _ [] (.c 0 0 (.c 1 0 (.c 2 0 (.c 3 0 (.c 4 0 (.c 5 0 (.c 6 0 .nil))))))) mixed (fun _ _ _ _ h=>h) (Sk4 (Sr)) (fun _ h=>h) (by kernel_rfl) (by decide) fun ws Z0=>Qe O (Jb O) (Qe O (JB O) (Qe O (Jh (o':=1) Un125 O YY O O) ?_))))))))))
 refine Qe O (Jj Un123 O O (Ji (Jm)) O) (Qe O (Jw (vs:= [_,_]) Un34 O JY O Jm O O) (Qe O (VD keyT hg Un123 Y3 O O (Ji (Ji (Jm)))) (Qe O (Jd O) (JJ (JK (Jf (Jc (Jc (Ja (Lq (Jb O) (Lq (KK Un161 O O (by simp)) (Je (Jf (JL [(14,_),(6,_),(5,_),(4,_)] (.m4 O O O O) ?_))))))))))))))
 refine JQ O O (Jc (Ja (Lq (Jd O) (Lq (Jd O) (Je (Jf (Jn (Jr ?_))))))))
 refine ⟨_,[_,_,_],[],fun Z w hs=> .tmp O (.tmp O .nil),?_,fun Z w hs=>hs.out (Sd (Sk3 (Sr))) Tt1⟩
 exact ⟨O,O,O⟩
theorem edit_n (h m cap:Nat) (A:Option Addr) (H:Hist) (L:List MR) (hr:HR H L) (i0 i1:Int) (hw:J5 H.ents i0 i1=none):Sp Tryz.prog 95 [.pointer (some ⟨h,0,none⟩), .agg #[.int .i64 i0, .int .i64 i1]] [hdP h A H.ops.length cap m H.total,mpP m L,mkP L] [RdF opD A cap H.ops] (fun u Lo fs=>u= .tuple #[.pointer none, .int .i64 60] ∧Lo= [hdP h A H.ops.length cap m H.total,mpP m L,mkP L] ∧fs= []):=by
 have hol:=KY H
 have hlen:=hr.len
 have hg:=hr.look0 hw
 refine Sp.of (n:=29) ⟨_,Tryz.func95,O,O,O,O⟩ (Nat.le_of_ble_eq_true O) fun Ps As=>Jc (Ja (Jg O (J1 (cs:= [_,_]) O O (by decide) fun b3=>Lq (Jd O) (Lq (Jd O) (Je (Jf (Jc (JI _ _ [] (.c 0 0 (.c 1 0 (.c 2 0 (.c 3 0 (.c 4 0 (.c 5 0 (.c 6 0 .nil))))))) mixed (fun _ _ _ _ h=>h) (Sk4 (Sr)) (fun _ h=>h) (by kernel_rfl) (by decide) fun ws Z0=>Qe O (Jb O) (Qe O (JB O) (Qe O (Jh (o':=1) Un125 O YY O O) ?_))))))))))
 refine Qe O (Jj Un123 O O (Ji (Jm)) O) (Qe O (Jw (vs:= [_,_]) Un34 O JY O Jm O O) (Qe O (VD keyT hg Un123 Y3 O O (Ji (Ji (Jm)))) (Qe O (Jd O) (JJ (JK (Jf (Jc (Jc (Ja (Lq (Jb O) (Lq (KK Un161 O O (by simp)) (Je (Jf (JL [(14,_),(6,_),(5,_),(4,_),(0,_)] (.m5 O O O O O) ?_))))))))))))))
 refine JQ O O (Jc (Ja (Lq (Jd O) (Lq (Jd O) (Je (Jf (Jn (Jr ?_))))))))
 refine ⟨_,[_,_,_],[],fun Z w hs=> .tmp O (.tmp O .nil),?_,fun Z w hs=>hs.out (Sd (Sk3 (Sr))) Tt1⟩
 exact ⟨O,O,O⟩
theorem edit_4 (h m cap:Nat) (A:Option Addr) (H:Hist) (L:List MR) (hr:HR H L) (i0 i1:Int) (k:Nat) (hw:J5 H.ents i0 i1=some k) (hk4: ∀e,H.ents[k]? =some e→e.op.kind=4):Sp Tryz.prog 95 [.pointer (some ⟨h,0,none⟩), .agg #[.int .i64 i0, .int .i64 i1]] [hdP h A H.ops.length cap m H.total,mpP m L,mkP L] [RdF opD A cap H.ops] (fun u Lo fs=>u= .tuple #[.pointer none, .int .i64 63] ∧Lo= [hdP h A H.ops.length cap m H.total,mpP m L,mkP L] ∧fs= []):=by
 have hol:=KY H
 have hlen:=hr.len
 obtain ⟨hk,j,x,hc,hn,hj,hm,hg⟩:=hr.look1 hw
 obtain ⟨xm,xb,xA,xc⟩:=x
 obtain rfl:xm=markAt k H.ents[k] :=hm
 refine Sp.of (n:=29) ⟨_,Tryz.func95,O,O,O,O⟩ (Nat.le_of_ble_eq_true O) fun Ps As=>Jc (Ja (Jg O (J1 (cs:= [_,_]) O O (by decide) fun b3=>Lq (Jd O) (Lq (Jd O) (Je (Jf (Jc (JI _ _ [] (.c 0 0 (.c 1 0 (.c 2 0 (.c 3 0 (.c 4 0 (.c 5 0 (.c 6 0 .nil))))))) mixed (fun _ _ _ _ h=>h) (Sk4 (Sr)) (fun _ h=>h) (by kernel_rfl) (by decide) fun ws Z0=>Qe O (Jb O) (Qe O (JB O) (Qe O (Jh (o':=1) Un125 O YY O O) ?_))))))))))
 refine Qe O (Jj Un123 O O (Ji (Jm)) O) (Qe O (Jw (vs:= [_,_]) Un34 O JY O Jm O O) (Qe O (YN keyT hg Un123 Y3 O O (Ji (Ji (Jm)))) (Qe O (Jd O) (JJ (JK (Jf (Jc (Jc (Ja (Lq (Jb O) (Lq (KK Un161 O O (by simp)) (Je (Jf (JL [(14,_),(6,_),(5,_),(4,_),(0,_)] (.m5 O O O O O) ?_))))))))))))))
 refine Jz O O (Jp (Jf (Jc (Jc ?_))))
 have hko:k<H.ops.length:=by omega
 have hop:=QB hk
 refine Kh (k:=k) Mm1 (List.getElem?_eq_getElem hko) (op_open _) fun b4 q4 y4 e4=> ?_
 cases e4
 refine JI _ _ [] (.c 0 0 (.c 1 0 (.c 2 0 (.c 3 0 (.c 4 0 (.c 5 0 (.c 6 0 (.c 7 0 (.c 8 0 (.c 9 0 (.c 10 0 (.c 11 0 (.c 12 0 .nil))))))))))))) mixed (fun _ _ _ _ h=>h) (Sk4 (Sr)) (fun _ h=>h) (by kernel_rfl) (by decide) fun ws Z0=>Qe O (Jb O) (Qe O (JB O) (Qe O (Jh (o':=0) Un125 O YV O O) (Qe O (Jj Un44 O O (Ji (Jm)) O) (Qe O (Jb O) (Qe O (JB O) (Qe O (Jh (o':=0) Un165 O ti3 O O) (Qe O (Jj (v:= .int .i64 k) Un3 O O (Ji (Ji (Ji (ownI (Yq hj))))) O) (Qe O (Kc Un44 JF O O (by omega) (by omega)) ?_))))))))
 refine Qe O (Jh (o':=_+0) Un40 O KI O O) (Qe O (Jh (o':=_+2) Un37 O Yu O O) (Qe O (Ks (j:=2) Un35 O O Mm0 O O) (Qe O (Ka O O) (JJ (JK (Jf (JL [(27,_),(6,_),(5,_),(4,_)] (.m4 O O O O) (JQ O (by simp only [beq_iff_eq];rw [hop];exact hk4 _ (List.getElem?_eq_getElem hk)) ?_))))))))
 refine Jc (Ja (Lq (Jd O) (Lq (Jd O) (Je (Jf (Jn (Jr ?_)))))))
 refine ⟨_,[_,_,_],[],fun Z w hs=> .tmp O (.tmp O .nil),?_,fun Z w hs=>hs.out (Sd (Sk3 (Sr))) Tt4⟩
 exact ⟨O,O,O⟩
theorem bd52Xg7 (w:World):(Instr.build 40 #[]).run Tryz.prog w= .ok (.agg #[.int .i64 0, .int .i64 0, .int .i64 0, .int .i64 0, .string ⟨#[]⟩, .slice none 0 0, .int .i64 0, .int .i64 0, .bool false]) w:=by kernel_rfl
theorem effect_n (h m cap:Nat) (A:Option Addr) (H:Hist) (L:List MR) (hr:HR H L) (i0 i1:Int) (hw:J5 H.ents i0 i1=none) (on:Bool):Sp Tryz.prog 65 [.pointer (some ⟨h,0,none⟩), .agg #[.int .i64 i0, .int .i64 i1], .bool on] [hdP h A H.ops.length cap m H.total,mpP m L,mkP L] [RdF opD A cap H.ops,AllF L nowF] (fun u Lo fs=>u= .tuple #[opV zeroOp none 0, .int .i64 60] ∧Lo= [hdP h A H.ops.length cap m H.total,mpP m L,mkP L] ∧fs= []):=by
 have hol:=KY H
 have hlen:=hr.len
 refine Sp.of (n:=31) ⟨_,Tryz.func65,O,O,O,O⟩ (Nat.le_of_ble_eq_true O) fun Ps As=>Jc (Ja (Jg O (J1 (cs:= [_,_]) O O (by decide) fun b4=>Jg O (Jv (cs:= [_,_,_,_,_,_,_,_,_]) JF O (by decide) fun b6=>Lq (Jd O) (Je (Jf (Jc (Ja (Lq (Jb O) (Lq (Jw (vs:= [_,_]) Un34 O JY O (Ji (Jm)) O O) (Jg O (Ky (edit_n h m cap A H L hr i0 i1 hw) (.n2 O O) (by decide) .z2 .z2 .z2 (Jl Mm0 Jx) fun _ _ _ q9=>?_))))))))))))
 obtain ⟨rfl,rfl,rfl⟩:=q9
 refine Lq (Jb O) (Lq (Jk (vs:= [_,_]) O O) (Lq (Jk (vs:= [_,_]) O O) (Lq (Jd O) (Lq (Jd O) (Je (Jf (JL [(9,_),(8,_),(7,_),(6,_),(0,_),(2,_)] (.m6 O O O O O O) (Jc (Jc (Ja (Lq (Jb O) (Lq (Kp O O) ?_))))))))))))
 refine Je (Jf (JQ O O (Jc (Ja (Lq (JV .nil (bd52Xg7)) (Lq (Jb O) (Jg O (Jq (cs':= [_,_,_,_,_,_,_,_,_]) (vs:= [_,_,_,_,_,_,_,_,_]) JF O O O O O (Nat.le_of_ble_eq_true O) .z3 (Lq (Jd O) (Je (Jf (Jn (Jr ?_)))))))))))))
 refine ⟨_,[_,_,_],[],fun Z w hs=>JS hs Un40 O JF O (Ji (Ji (Ji (Jm)))) O (.tmp O .nil),?_,fun Z w hs=>hs.out (Sk3 (Sd2 (Sr))) (fun _ h=>h)⟩
 exact ⟨O,O,O⟩
theorem effect_4 (h m cap:Nat) (A:Option Addr) (H:Hist) (L:List MR) (hr:HR H L) (i0 i1:Int) (k:Nat) (hw:J5 H.ents i0 i1=some k) (hk4: ∀e,H.ents[k]? =some e→e.op.kind=4) (on:Bool):Sp Tryz.prog 65 [.pointer (some ⟨h,0,none⟩), .agg #[.int .i64 i0, .int .i64 i1], .bool on] [hdP h A H.ops.length cap m H.total,mpP m L,mkP L] [RdF opD A cap H.ops,AllF L nowF] (fun u Lo fs=>u= .tuple #[opV zeroOp none 0, .int .i64 63] ∧Lo= [hdP h A H.ops.length cap m H.total,mpP m L,mkP L] ∧fs= []):=by
 have hol:=KY H
 have hlen:=hr.len
 refine Sp.of (n:=31) ⟨_,Tryz.func65,O,O,O,O⟩ (Nat.le_of_ble_eq_true O) fun Ps As=>Jc (Ja (Jg O (J1 (cs:= [_,_]) O O (by decide) fun b4=>Jg O (Jv (cs:= [_,_,_,_,_,_,_,_,_]) JF O (by decide) fun b6=>Lq (Jd O) (Je (Jf (Jc (Ja (Lq (Jb O) (Lq (Jw (vs:= [_,_]) Un34 O JY O (Ji (Jm)) O O) (Jg O (Ky (edit_4 h m cap A H L hr i0 i1 k hw hk4) (.n2 O O) (by decide) .z2 .z2 .z2 (Jl Mm0 Jx) fun _ _ _ q9=>?_))))))))))))
 obtain ⟨rfl,rfl,rfl⟩:=q9
 refine Lq (Jb O) (Lq (Jk (vs:= [_,_]) O O) (Lq (Jk (vs:= [_,_]) O O) (Lq (Jd O) (Lq (Jd O) (Je (Jf (JL [(9,_),(8,_),(7,_),(6,_),(0,_),(2,_)] (.m6 O O O O O O) (Jc (Jc (Ja (Lq (Jb O) (Lq (Kp O O) ?_))))))))))))
 refine Je (Jf (JQ O O (Jc (Ja (Lq (JV .nil (bd52Xg7)) (Lq (Jb O) (Jg O (Jq (cs':= [_,_,_,_,_,_,_,_,_]) (vs:= [_,_,_,_,_,_,_,_,_]) JF O O O O O (Nat.le_of_ble_eq_true O) .z3 (Lq (Jd O) (Je (Jf (Jn (Jr ?_)))))))))))))
 refine ⟨_,[_,_,_],[],fun Z w hs=>JS hs Un40 O JF O (Ji (Ji (Ji (Jm)))) O (.tmp O .nil),?_,fun Z w hs=>hs.out (Sk3 (Sd2 (Sr))) (fun _ h=>h)⟩
 exact ⟨O,O,O⟩
abbrev chP (b h:Nat):Part:= [(b,JD [.pointer (some ⟨h,0,none⟩)] 55)]
abbrev cbP (b:Nat) (on:Bool):Part:= [(b,JD [.bool on] 4)]
theorem stands_n (h m cap:Nat) (A:Option Addr) (H:Hist) (L:List MR) (hr:HR H L) (bh bo:Nat) (on:Bool) (i0 i1:Int) (hw:J5 H.ents i0 i1=none):Sp Tryz.prog 112 [.agg #[.int .i64 i0, .int .i64 i1], .pointer (some ⟨bh,0,none⟩), .pointer (some ⟨bo,0,none⟩)] [chP bh h,cbP bo on,hdP h A H.ops.length cap m H.total,mpP m L,mkP L] [RdF opD A cap H.ops,AllF L nowF] (fun u Lo fs=>u= .bool (J0 H on (i0,i1))∧Lo= [chP bh h,cbP bo on,hdP h A H.ops.length cap m H.total,mpP m L,mkP L] ∧fs= []):=by
 refine Sp.of (n:=35) ⟨_,Tryz.func112,O,O,O,O⟩ (Nat.le_of_ble_eq_true O) fun Ps As=>Jc (Ja (Jg O (J1 (cs:= [_,_]) O O (by decide) fun b3=>Lq (Jd O) (Je (Jf (Jc (Ja (Lq (Jj Un55 O O (Ji (Jm)) O) (Lq (Jw (vs:= [_,_]) Un34 O JY O Jm O O) (Jg O (Ky (find_n h m cap A H L hr i0 i1 hw) (.n2 O O) (by decide) .z3 .z3 .z3 Jx fun _ _ _ q9=>?_)))))))))))
 obtain ⟨rfl,rfl,rfl⟩:=q9
 refine Lq (Jb O) (Lq (Jk (vs:= [_,_]) O O) (Lq (Jk (vs:= [_,_]) O O) (Lq (Jd O) (Lq (Jd O) (Je (Jf (Jc (Jc (Ja (Lq (Jb O) (Lq (Kp O O) (Je (Jf (JQ O O (Jc (Ja (Lq (Jd O) ?_)))))))))))))))))
 refine Je (Jf (Jn (Jr ?_)))
 refine ⟨_,[_,_,_,_,_],[],fun Z w hs=> .tmp O .nil,?_,fun Z w hs=>(((((hs.pick .z2).pick .z2).pick .z2).pick .z5).pick .z5).out (Sk5 (Sd (Sr))) (fun _ h=>h)⟩
 exact ⟨by rw [XR hw];rfl,O,O⟩
theorem stands_f (h m cap:Nat) (A:Option Addr) (H:Hist) (L:List MR) (hr:HR H L) (bh bo:Nat) (on:Bool) (i0 i1:Int) (k:Nat) (hw:J5 H.ents i0 i1=some k):Sp Tryz.prog 112 [.agg #[.int .i64 i0, .int .i64 i1], .pointer (some ⟨bh,0,none⟩), .pointer (some ⟨bo,0,none⟩)] [chP bh h,cbP bo on,hdP h A H.ops.length cap m H.total,mpP m L,mkP L] [RdF opD A cap H.ops,AllF L nowF] (fun u Lo fs=>u= .bool (J0 H on (i0,i1))∧Lo= [chP bh h,cbP bo on,hdP h A H.ops.length cap m H.total,mpP m L,mkP L] ∧fs= []):=by
 have hol:=KY H
 have hlen:=hr.len
 obtain ⟨hk,hwc,hwn⟩:=KJ hw
 refine Sp.of (n:=35) ⟨_,Tryz.func112,O,O,O,O⟩ (Nat.le_of_ble_eq_true O) fun Ps As=>Jc (Ja (Jg O (J1 (cs:= [_,_]) O O (by decide) fun b3=>Lq (Jd O) (Je (Jf (Jc (Ja (Lq (Jj Un55 O O (Ji (Jm)) O) (Lq (Jw (vs:= [_,_]) Un34 O JY O Jm O O) (Jg O (Ky (Zt h m cap A H L hr i0 i1 k hw) (.n2 O O) (by decide) .z3 .z3 .z3 Jx fun _ _ _ q9=>?_)))))))))))
 obtain ⟨rfl,rfl,rfl⟩:=q9
 refine Lq (Jb O) (Lq (Jk (vs:= [_,_]) O O) (Lq (Jk (vs:= [_,_]) O O) (Lq (Jd O) (Lq (Jd O) (Je (Jf (Jc (Jc (Ja (Lq (Jb O) (Lq (Kp O O) (Je (Jf (Jz O O (Jp (Jf (Jc (Ja (Lq (Jj Un55 O O (Ji (Ji (Ji (Ji (Jm))))) O) ?_)))))))))))))))))))
 refine Lq (Jb O) (Jg O (Ky (VG h m cap A H L hr k) (.n2 O O) (by decide) .z .z .z (Jl Mm0 (Jl Mm1 Jx)) fun _ _ _ q9=>?_))
 obtain ⟨A1,c1,rfl,rfl,rfl⟩:=q9
 rw [Yj hk]
 refine Lq (Jb O) (Lq (Jk (vs:= [_,_]) O O) (Lq (Jk (vs:= [_,_]) O O) (Jg O (Jv (cs:= [_,_,_,_,_,_,_]) YI O (by decide) fun b7=>Jg O (Jq (cs':= [_,_,_,_,_,_,_]) (vs:= [_,_,_,_,_,_,_]) YI O O O O O (Nat.le_of_ble_eq_true O) .z (Lq (Jd O) (Je (Jf (Jc (Ja (Lq (Jb O) (Lq (Ka O O) (Lq (Jb O) ?_)))))))))))))
 refine Lg O O O O (Jh (o':=2) Un117 O Yu O O) (Lg O O O O (Jj Un35 O O Jm O) (Lg O O O O (Kp O O) (Lq (JH O O O) (Lq (Jb O) (JU (t:=29) O (fun g29=> ?_) (fun g29=> ?_))))))
 ·refine Lg O O O g29 (Jh (o':=3) Un117 O ti4 O O) (Lg O O O g29 (Jj Un4 O O Jm O) (Lg O O O g29 (Jj Un4 O O (Ji (Ji (Ji (Ji (Ji (Ji (Jm))))))) O) (Lg O O O g29 (q_beql' Un4 O O) (Lq (JH O g29 O) (Lq (Jd O) (Je (Jf (Jn ?_))))))))
  refine ⟨_,[_,_,_,_,_],[],fun Z w hs=> .tmp O .nil,?_,fun Z w hs=>(((((hs.pick .z3).pick .z3).pick .z3).pick .z6).pick .z6).out (Sk5 (Sd2 (Sr))) Tt1⟩
  refine ⟨congrArg Value.bool ?_,O,O⟩
  rw [QP hw hk]
  by_cases h4:H.ents[k].op.kind=4
  ·have e:(entE H.ents[k]).kind=4:=by unfold entE;rw [if_pos h4];exact h4
   simp_all
  ·have e:entE H.ents[k] =⟨H.ents[k].op.c,H.ents[k].op.n,H.ents[k].op.kind, !H.ents[k].off,H.ents[k].now,0,0⟩:=by unfold entE;rw [if_neg h4]
   simp_all<;>(cases H.ents[k].off<;>cases on<;>rfl)
 ·refine Ln O O O g29 (Ln O O O g29 (Ln O O O g29 (Ln O O O g29 (Lq (JA O g29 O) (Lq (Jd O) (Je (Jf (Jn ?_))))))))
  refine ⟨_,[_,_,_,_,_],[],fun Z w hs=> .tmp O .nil,?_,fun Z w hs=>(((((hs.pick .z3).pick .z3).pick .z3).pick .z6).pick .z6).out (Sk5 (Sd2 (Sr))) Tt1⟩
  refine ⟨congrArg Value.bool ?_,O,O⟩
  rw [QP hw hk]
  by_cases h4:H.ents[k].op.kind=4
  ·have e:(entE H.ents[k]).kind=4:=by unfold entE;rw [if_pos h4];exact h4
   simp_all
  ·have e:entE H.ents[k] =⟨H.ents[k].op.c,H.ents[k].op.n,H.ents[k].op.kind, !H.ents[k].off,H.ents[k].now,0,0⟩:=by unfold entE;rw [if_neg h4]
   simp_all<;>(cases H.ents[k].off<;>cases on<;>rfl)
theorem Za (h m cap:Nat) (A:Option Addr) (H:Hist) (L:List MR) (hr:HR H L) (bh bo:Nat) (on:Bool) (i0 i1:Int):Sp Tryz.prog 112 [.agg #[.int .i64 i0, .int .i64 i1], .pointer (some ⟨bh,0,none⟩), .pointer (some ⟨bo,0,none⟩)] [chP bh h,cbP bo on,hdP h A H.ops.length cap m H.total,mpP m L,mkP L] [RdF opD A cap H.ops,AllF L nowF] (fun u Lo fs=>u= .bool (J0 H on (i0,i1))∧Lo= [chP bh h,cbP bo on,hdP h A H.ops.length cap m H.total,mpP m L,mkP L] ∧fs= []):=by
 cases hw:J5 H.ents i0 i1 with
 | none=>exact stands_n h m cap A H L hr bh bo on i0 i1 hw
 | some k=>exact stands_f h m cap A H L hr bh bo on i0 i1 k hw
theorem Jbe (A1:Option Addr) (c1:Nat) (xs:List Id2) (hl:xs.length≤1000000) (i0 i1:Int):Sp Tryz.prog 107 [.slice A1 xs.length c1, .agg #[.int .i64 i0, .int .i64 i1]] [] [RdF idD A1 c1 xs] (fun v Lo fs=> ∃r:Int,(0≤r↔(i0,i1)∈xs)∧v= .int .i64 r∧Lo= [] ∧fs= []):=by
 refine Sp.of (n:=19) ⟨_,Tryz.func107,O,O,O,O⟩ (Nat.le_of_ble_eq_true O) fun Ps As=>Jc (Ja (Jg O (J1 (cs:= [_,_]) O O (by decide) fun b3=>Lq (Jd O) (Je (Jf (Jc (Jc (Ja (Lq (Jb O) (Lq (J7 Un45 O) (Lq (Jb O) (Je (Jf (JO ?_))))))))))))))
 refine Ki (α:=Nat) (fun k=>xs.length-k)
  (fun k=> [(0, .slice A1 xs.length c1),(3, .pointer (some ⟨b3,0,none⟩)),(7, .int .i64 xs.length),(8, .int .i64 k)])
  (fun k=>([(b3,JD [.int .i64 i0, .int .i64 i1] 34)] ::Ps))
  (fun k=>(RdF idD A1 c1 xs::As))
  (fun k=>k≤xs.length∧(i0,i1)∉xs.take k)
  0 ?_ (.m4 rfl rfl rfl rfl) (Sk (Sr)) (fun _ h=>h) ?_
 ·exact ⟨Nat.zero_le _,by simp⟩
 ·rintro k hI
  have hle:=hI.1
  refine Jc (Ja (Lq (Ku O O) (Je (Jf (Jc (Jy O (fun h9=> ?_) (fun h9=> ?_)))))))
  ·refine Jp (Jf (Jc (JO (Jc (Ja (Lq (Jb O) (Lq (Jd O) (Je (Jf (Jc ?_))))))))))
   try simp only [Bp,Bq] at *
   have hk:k<xs.length:=by omega
   refine Kh (k:=k) Mm0 (List.getElem?_eq_getElem hk) (id_open _) fun b4 q4 y4 e4=> ?_
   cases e4
   refine JI _ _ [] (.c 0 0 (.c 1 0 (.c 2 0 (.c 3 0 (.c 4 0 (.c 5 0 .nil)))))) mixed (fun _ _ _ _ h=>h) (Sk (Sr)) (fun _ h=>h) (by kernel_rfl) (by decide) fun ws Z0=>Qe O (Jw (vs:= [_,_]) Un34 O JY O Jm O O) (Qe O (Jb O) (Qe O (Jb O) (Qe O (Kc Un45 JY O O (by omega) (by omega)) (Qe O (Kq (k:=0) (vs:= [_,_]) Un34 O JY O Mm0 O O O) (Qe O (Qd O O (eq34 _ _ _ _)) (JJ (JK (Jf (Jy O (fun h16=> ?_) (fun h16=> ?_))))))))))
   ·refine Jc (Ja (Lq (Jb O) (Lq (Jd O) (Je (Jf (Jn (JM (Jr (Jr (JM (Jr ?_)))))))))))
    refine ⟨_,[],[],fun Z w hs=> .tmp O .nil,?_,fun Z w hs=>hs.out (Sd (Sr)) Tt2⟩
    refine ⟨k,⟨fun _=> ?_,fun _=>by omega⟩,O,O,O⟩
    have e:(i0,i1)=xs[k] :=by
     have h:=h16
     simp only [Bool.and_eq_true,beq_iff_eq] at h
     exact Prod.ext h.1 h.2
    rw [e];exact List.getElem_mem hk
   ·refine Jp (J9 (Jf (Ja (Lq (JZ O O (wr64 (by omega)) (c:=((k+1:Nat):Int))) (Lq (Jb O) (Je (Ko ?_)))))))
    refine ⟨(k+1),?_,(.m4 O O O O),(Sk (Sr)),Tt2⟩
    refine ⟨by show xs.length-(k+1)<xs.length-k;omega,by omega,?_⟩
    rw [List.take_succ_eq_append_getElem hk,List.mem_append,not_or]
    refine ⟨hI.2,fun hm=> ?_⟩
    have e:=List.mem_singleton.1 hm
    rw [←e] at h16
    simp at h16
  ·refine Kr (JR (JR (Kg (Jf (Jc (Ja (Lq (Jd O) (Je (Jf (Jn ?_))))))))))
   refine ⟨_,[],[],fun Z w hs=> .tmp O .nil,?_,fun Z w hs=>hs.out (Sd (Sr)) (fun _ h=>h)⟩
   simp only [decide_eq_false_iff_not] at h9
   obtain rfl:k=xs.length:=by omega
   have h2:=hI.2
   rw [List.take_length] at h2
   exact ⟨-1,⟨fun h=>by omega,fun h=>absurd h h2⟩,O,O,O⟩
theorem con_f (A1:Option Addr) (c1:Nat) (xs:List Id2) (hl:xs.length≤1000000) (i0 i1:Int):Sp Tryz.prog 79 [.slice A1 xs.length c1, .agg #[.int .i64 i0, .int .i64 i1]] [] [RdF idD A1 c1 xs] (Is (.bool (decide ((i0,i1)∈xs)))):=by
 refine Sp.of (n:=9) ⟨_,Tryz.func79,O,O,O,O⟩ (Nat.le_of_ble_eq_true O) fun Ps As=>Jc (Ja (Jg O (J1 (cs:= [_,_]) O O (by decide) fun b3=>Lq (Jd O) (Je (Jf (Jc (Ja (Lq (Jb O) (Lq (Jw (vs:= [_,_]) Un34 O JY O Jm O O) (Jg O (Jo (Jbe A1 c1 xs hl i0 i1) (.n2 O O) (by decide) (Jl Mm0 Jx) fun _ _ _ q9=>?_)))))))))))
 obtain ⟨r,hr,rfl,rfl,rfl⟩:=q9
 refine Lq (Yl O O) (Lq (Jd O) (Je (Jf (Jn ?_))))
 refine ⟨_,[],[],fun Z w hs=> .tmp O .nil,?_,fun Z w hs=>hs.out (Sd (Sr)) (fun _ h=>h)⟩
 exact ⟨congrArg Value.bool (decide_eq_decide.2 hr),O,O⟩
theorem Jar (v:Value) (p:Part) (xs:List Id2) (hr:Row 34 2 v xs.length (Kb idC xs) p) (hl:xs.length≤1000000) (i0 i1:Int):Sp Tryz.prog 79 [v, .agg #[.int .i64 i0, .int .i64 i1]] [p] [] (fun u Lo fs=>u= .bool (decide ((i0,i1)∈xs))∧Lo= [p] ∧fs= []):=by
 refine (Sp.thawRow (e:=idD) (f:=idC) (res:=Is (.bool (decide ((i0,i1)∈xs)))) (fun _ _ _=>O) hr (fun A c hv=> ?_) (fun _ _ _ h=>h.2.2)).mono ?_
 ·subst hv;exact con_f A c xs hl i0 i1
 ·rintro u Lo fs ⟨Lo',⟨rfl,rfl,_⟩,rfl,rfl⟩
  exact ⟨O,O,O⟩
theorem Jaq (b cap k:Nat) (xs:List Id2) (jk:List Value) (hk:k<xs.length) (hc:xs.length≤cap) (hcm:cap≤maxLen) (hj:(Kb idC xs++jk).length=cap*2) (hl:xs.length≤1000000):Sp Tryz.prog 111 [.slice (some ⟨b,0,none⟩) xs.length cap, .int .i64 k, .int .i64 (k+1:Nat)] [[(b,JD (Kb idC xs++jk) 34)]] [] (fun u Lo fs=> ∃jk',u= .slice (some ⟨b,0,none⟩) (xs.eraseIdx k).length cap∧(Kb idC (xs.eraseIdx k)++jk').length=cap*2∧Lo= [[(b,JD (Kb idC (xs.eraseIdx k)++jk') 34)]] ∧fs= []):=by
 refine Sp.of (n:=33) ⟨_,Tryz.func111,O,O,O,O⟩ (Nat.le_of_ble_eq_true O) fun Ps As=>Jc (Ja (Lq (Jd O) (Je (Jf (Jc (Ja (Lq (Jb O) (Lq (Jb O) (Lq (Jb O) (Lq (Jb O) (Lq (J7 Un45 O) (Lq (Zm Un45 JY O O O O (by omega) (by omega) (by omega) (by omega)) ?_))))))))))))
 refine Je (Jf (Jc (Jc (Ja (Lq (Jb O) (Lq (Jb O) (Lq (Ka O O) (Je (Jf (Jz O (by simp;omega) (Jp (Jf (Jc (Ja (Lq (Jb O) (Lq (J7 Un45 O) (Lq (Jd O) ?_)))))))))))))))))
 refine Je (Jf (Jc (JI _ _ [] (.c 0 0 (.c 1 0 (.c 2 0 (.c 3 0 (.c 4 0 (.c 5 0 (.c 6 2 (.c 7 0 .nil)))))))) mixed (fun _ _ _ _ h=>h) (Sd (Sr)) (fun _ h=>h) (by kernel_rfl) (by decide) fun ws Z0=>Qe O (Jb O) (Qe O (Jb O) (Qe O (Vs (m:=k) (by omega) Un45 JY O O (by omega) (by omega)) (Qe O (Jb O) (Qe O (Jb O) (Qe O (Vr (j:=k+1) (m:=xs.length-(k+1)) (by omega) (by omega) Un45 JY O O (by omega) (by omega)) ?_))))))))
 have hsp:Kb idC xs++jk=Kb idC (xs.take k)++(Kb idC (xs.drop k)++jk):=by rw [←List.append_assoc,←Xr]
 have hj2:=hj
 obtain ⟨ad,had,hadq⟩:=cutA_ex b 0 (k+1) cap 2
 have hcut0:cutA (some ⟨b,0,none⟩) 0 cap 2=some ⟨b,0,none⟩:=by rw [cutA_in (by omega)]
 rw [had,hcut0]
 rw [hsp] at hj2 ⊢
 refine Js O O (Ek (cs:=Kb idC (xs.take k)) (jk:=Kb idC (xs.drop k)++jk) (news:=Kb idC (xs.drop (k+1))) Un45 JY O O (by rw [Qm,List.length_take];omega) hj2 (by omega) hcm (by rw [Qm,List.length_drop]) ?_ (EY _) (by decide) (DelAt.perm .z) fun jk2 hjk2=> ?_)
 ·by_cases hz:xs.length-(k+1)=0
  ·exact .inl hz
  ·refine .inr ⟨0+(k+1)*2,hadq (by omega),fun j u hu=> ?_⟩
   have h1:(Kb idC (xs.take (k+1))).length=(k+1)*2:=by rw [Qm,List.length_take];omega
   have h2:j<(Kb idC (xs.drop (k+1))).length:=by
    rcases Nat.lt_or_ge j (Kb idC (xs.drop (k+1))).length with h | h
    ·exact h
    ·rw [List.getElem?_eq_none h] at hu;cases hu
   rw [←hsp,Xr xs (k+1),List.append_assoc,Nat.zero_add,←h1,List.getElem?_append_right (Nat.le_add_right _ _),Nat.add_sub_cancel_left,List.getElem?_append_left h2]
   exact hu
 refine ⟨⟨(Sd (Sr)),Mm0⟩,?_⟩
 refine Qe O (Jd O) (JJ (JK (Jf (Jc (Ja (Lq (Jb O) (Lq (Jb O) (Lq (J7 Un45 O) (Lq (Jb O) (Lq (Ew (k:=k+(xs.length-(k+1))) (m:=1) (by omega) (by omega) Un45 JY O O O (by omega) (by omega) (by omega) (by omega)) ?_))))))))))
 have hle:k+(xs.length-(k+1))+1=xs.length:=by omega
 refine Jg O (ZM Un45 JY O O O (by omega) (by rw [hjk2];omega) (DelAt.perm .z) fun cs3 hl3 ht3=>Je (Jf (Jc (Ja (Lq (Jb O) (Lq (Jd O) (Je (Jf (Jn ?_)))))))))
 refine ⟨_,[_],[],fun Z w hs=> .tmp O .nil,?_,fun Z w hs=>hs.out (Sk (Sr)) Tt1⟩
 have hel:(xs.eraseIdx k).length=k+(xs.length-(k+1)):=by rw [List.length_eraseIdx_of_lt hk];omega
 have hfe:=Ez xs k
 have hfl:(Kb idC (xs.eraseIdx k)).length=0+(k+(xs.length-(k+1)))*2:=by rw [Qm,hel,Nat.zero_add]
 have e3:Kb idC (xs.eraseIdx k)++cs3.drop (0+(k+(xs.length-(k+1)))*2)=cs3:=by
  have h5:=ht3
  rw [←hfe,←hfl,List.take_left,hfl] at h5
  rw [←h5,List.take_append_drop]
 refine ⟨cs3.drop (0+(k+(xs.length-(k+1)))*2),by rw [hel];rfl,by rw [e3,hl3,hjk2],by rw [e3],O⟩
theorem bd46Xg9 (w:World):(Instr.build 34 #[]).run Tryz.prog w= .ok (.agg #[.int .i64 0, .int .i64 0]) w:=by kernel_rfl
theorem pick_f (h m cap:Nat) (A:Option Addr) (H:Hist) (L:List MR) (hr:HR H L) (bh bo:Nat) (on:Bool) (A1:Option Addr) (c1:Nat) (xs:List Id2) (hl:xs.length≤1000000):Sp Tryz.prog 110 [.slice A1 xs.length c1, .func (.func 112) #[] #[.pointer (some ⟨bh,0,none⟩), .pointer (some ⟨bo,0,none⟩)]] [chP bh h,cbP bo on,hdP h A H.ops.length cap m H.total,mpP m L,mkP L] [RdF idD A1 c1 xs,RdF opD A cap H.ops,AllF L nowF] (fun u Lo fs=>u=pkV (pickF (J0 H on) xs)∧Lo= [chP bh h,cbP bo on,hdP h A H.ops.length cap m H.total,mpP m L,mkP L] ∧fs= []):=by
 refine Sp.of (n:=30) ⟨_,Tryz.func110,O,O,O,O⟩ (Nat.le_of_ble_eq_true O) fun Ps As=>Jc (Ja (Jg O (Jv (cs:= [_,_]) JY O (by decide) fun b4=>Lq (Jd O) (Lq (Jd O) (Je (Jf (Jc (Jc (Ja (Lq (Jb O) (Lq (Jax Un149 O) (Je (Jf (Jz O O (Jp (Jf (Jc (Jc (Ja (Lq (Jb O) ?_))))))))))))))))))))
 refine Lq (J7 Un45 O) (Lq (KS O O (wr64 (by omega))) (Lq (Jd O) (Je (Jf (JO (Jt .z5 (Jt .z5 (Jt .z5 (Jt .z5 (Jt .z5 ?_))))))))))
 refine Ki (α:=Nat) (fun k=>k)
  (fun k=> [(0, .slice A1 xs.length c1),(1, .func (.func 112) #[] #[.pointer (some ⟨bh,0,none⟩), .pointer (some ⟨bo,0,none⟩)]),(4, .pointer (some ⟨b4,0,none⟩)),(7, .int .i64 ((k:Int)-1))])
  (fun k=>(chP bh h::cbP bo on::hdP h A H.ops.length cap m H.total::mpP m L::mkP L:: [(b4,JD [.int .i64 0, .int .i64 0] 34)] ::Ps))
  (fun k=>(RdF idD A1 c1 xs::RdF opD A cap H.ops::AllF L nowF::As))
  (fun k=>k≤xs.length∧ ∀j (hj:j<xs.length),k≤j→J0 H on xs[j] =false)
  xs.length ?_ (.m4 rfl rfl rfl rfl) (Sk6 (Sr)) (fun _ h=>h) ?_
 ·exact ⟨Nat.le_refl _,fun j hj h=>by omega⟩
 ·rintro k hI
  have hle:=hI.1
  refine Jc (Jc (Ja (Lq (Jb O) (Lq (Yl O O) (Je (Jf (Jy O (fun h15=> ?_) (fun h15=> ?_))))))))
  ·obtain ⟨j,rfl⟩: ∃j,k=j+1:=⟨k-1,by simp only [decide_eq_true_eq] at h15;omega⟩
   have hkj:(((j+1:Nat):Int)-1)=(j:Nat):=by omega
   rw [hkj]
   have hj:j<xs.length:=by omega
   refine Jp (Jf (Jc (JO (Jc (Kh (k:=j) Mm0 (List.getElem?_eq_getElem hj) (id_open _) fun b6 q6 y6 e6=> ?_)))))
   cases e6
   refine Jt .z4 (Jt .z4 (Jt .z4 (Jt .z4 (Jt .z4 (Ja (Lq (Jb O) (Lq (Jb O) (Lq (Jb O) (Lq (Kc Un45 JY O O (by omega) (by omega)) ?_)))))))))
   refine Lq (Kq (k:=0) (vs:= [_,_]) Un34 O JY O Mm0 O O O) (Jg O (Qv (caps:= [_,_]) O (Za h m cap A H L hr bh bo on xs[j].1 xs[j].2) (.n1 O) (by decide) (List.Perm.refl _) (Jl Mm2 (Jl Mm3 Jx)) fun u6 Lo fs hres=> ?_))
   obtain ⟨rfl,rfl,rfl⟩:=hres
   refine Je (Jf (Jy O (fun h23=> ?_) (fun h23=> ?_)))
   ·refine Jc (Ja (Lq (Jb O) (Lq (Jb O) (Lq (Kc Un45 JY O O (by omega) (by omega)) (Lq (Kq (k:=0) (vs:= [_,_]) Un34 O JY O Mm0 O O O) (Lq (Jb O) (Jg O (Jq (cs':= [_,_]) (vs:= [_,_]) JY O O O O O (Nat.le_of_ble_eq_true O) .z5 (Lq (Jd O) (Lq (Jd O) (Je (Jf (Jn (JM (Jr (Jr (JM (Jr ?_))))))))))))))))))
    refine ⟨_,[_,_,_,_,_],[],fun Z w hs=>JS hs Un34 O JY O (Ji (Ji (Ji (Ji (Ji (Jm)))))) O (.tmp O (.tmp O .nil)),?_,fun Z w hs=>hs.out (Sk5 (Sd (Sr))) Tt1⟩
    exact ⟨by rw [X5 hj h23 (fun i hi hji=>hI.2 i hi hji)];rfl,O,O⟩
   ·refine Jp (J9 (Jf (Ja (Lq (Jb O) (Lq (KS O O (wr64 (by omega))) (Lq (Jd O) (Je (Ko ?_))))))))
    refine ⟨j,?_,(.m4 O O O O),(Sk6 (Sr)),Tt1⟩
    refine ⟨by show j<j+1;omega,by omega,fun i hi hji=> ?_⟩
    rcases Nat.lt_or_eq_of_le hji with hlt | rfl
    ·exact hI.2 i hi hlt
    ·exact h23
  ·refine Kr (JR (JR (Kg (Jf (Jc (Ja (Lq (JV .nil (bd46Xg9)) (Jg O (Jq (cs':= [_,_]) (vs:= [_,_]) JY O O O O O (Nat.le_of_ble_eq_true O) .z5 (Lq (Jd O) (Lq (Jd O) (Je (Jf (Jn ?_))))))))))))))
   refine ⟨_,[_,_,_,_,_],[],fun Z w hs=>JS hs Un34 O JY O (Ji (Ji (Ji (Ji (Ji (Jm)))))) O (.tmp O (.tmp O .nil)),?_,fun Z w hs=>hs.out (Sk5 (Sd (Sr))) (fun _ h=>h)⟩
   have h0:k=0:=by simp only [decide_eq_false_iff_not] at h15;omega
   subst h0
   exact ⟨by rw [VS fun y hy=>by obtain ⟨i,hi,rfl⟩:=List.mem_iff_getElem.1 hy;exact hI.2 i hi (Nat.zero_le _)];rfl,rfl,rfl⟩
theorem G5 (h m cap:Nat) (A:Option Addr) (H:Hist) (L:List MR) (hr:HR H L) (bh bo:Nat) (on:Bool) (v:Value) (p:Part) (xs:List Id2) (hx:Row 34 2 v xs.length (Kb idC xs) p) (hl:xs.length≤1000000):Sp Tryz.prog 110 [v, .func (.func 112) #[] #[.pointer (some ⟨bh,0,none⟩), .pointer (some ⟨bo,0,none⟩)]] (p:: [chP bh h,cbP bo on,hdP h A H.ops.length cap m H.total,mpP m L,mkP L]) [RdF opD A cap H.ops,AllF L nowF] (fun u Lo fs=>u=pkV (pickF (J0 H on) xs)∧Lo=p:: [chP bh h,cbP bo on,hdP h A H.ops.length cap m H.total,mpP m L,mkP L] ∧fs= []):=by
 refine (Sp.thawRow (e:=idD) (f:=idC) (res:=(fun u Lo fs=>u=pkV (pickF (J0 H on) xs)∧Lo= [chP bh h,cbP bo on,hdP h A H.ops.length cap m H.total,mpP m L,mkP L] ∧fs= [])) (fun _ _ _=>O) hx (fun A2 c2 hv=> ?_) (fun _ _ _ h=>h.2.2)).mono ?_
 ·subst hv;exact pick_f h m cap A H L hr bh bo on A2 c2 xs hl
 ·rintro u Lo fs ⟨Lo',⟨rfl,rfl,_⟩,rfl,rfl⟩
  exact ⟨O,O,O⟩
abbrev stP (s:Nat) (vu vr:Value):Part:= [(s,JD [vu,vr] 92)]
theorem moveu_n (h m cap:Nat) (A:Option Addr) (H:Hist) (L:List MR) (hr:HR H L) (bh bo:Nat) (on:Bool) (s:Nat) (vu vr:Value) (pu pr:Part) (U R:List Id2) (hU:Row 34 2 vu U.length (Kb idC U) pu) (hR:Row 34 2 vr R.length (Kb idC R) pr) (hlU:U.length≤100000) (hlR:R.length≤100000) (hpk:pickF (J0 H on) U=none):Sp Tryz.prog 83 [.pointer (some ⟨s,0,none⟩), .pointer (some ⟨s,1,none⟩), .func (.func 112) #[] #[.pointer (some ⟨bh,0,none⟩), .pointer (some ⟨bo,0,none⟩)]] [stP s vu vr,pu,pr,chP bh h,cbP bo on,hdP h A H.ops.length cap m H.total,mpP m L,mkP L] [RdF opD A cap H.ops,AllF L nowF] (fun u Lo fs=> ∃vu2 pu2 vr2 pr2,Row 34 2 vu2 (upF (J0 H on) U R).2.1.length (Kb idC (upF (J0 H on) U R).2.1) pu2∧Row 34 2 vr2 (upF (J0 H on) U R).2.2.length (Kb idC (upF (J0 H on) U R).2.2) pr2∧u=upV (upF (J0 H on) U R).1∧Lo= [stP s vu2 vr2,pu2,pr2,chP bh h,cbP bo on,hdP h A H.ops.length cap m H.total,mpP m L,mkP L] ∧fs= []):=by
 obtain ⟨Au,cu,rfl⟩:=hU.slice
 obtain ⟨Ar,cr,rfl⟩:=hR.slice
 refine Sp.of (n:=42) ⟨_,Tryz.func83,O,O,O,O⟩ (Nat.le_of_ble_eq_true O) fun Ps As=>Jc (Ja (Jg O (Jv (cs:= [_,_]) JY O (by decide) fun b6=>Lq (Jd O) (Je (Jf (Jc (Ja (Lq (Jb O) (Lq (JB O) (Lq (Jj Un45 O O (Ji (Jm)) O) (Lq (Jb O) (Jg O (JW (G5 h m cap A H L hr bh bo on _ _ U hU (by omega)) (.n2 O O) (by decide) (.n6 .z2 .z3 .z3 .z3 .z3 .z3) (Jl Mm0 (Jl Mm1 Jx)) fun _ _ _ q9=>?_)))))))))))))
 obtain ⟨rfl,rfl,rfl⟩:=q9
 rw [hpk]
 refine Lq (Jb O) (Lq (Jk (vs:= [_,_,_]) O O) (Lq (Jk (vs:= [_,_,_]) O O) (Lq (Jk (vs:= [_,_,_]) O O) (Jg O (Jv (cs:= [_,_]) JY O (by decide) fun b8=>Jg O (Jq (cs':= [_,_]) (vs:= [_,_]) JY O O O O O (Nat.le_of_ble_eq_true O) .z (Lq (Jd O) (Lq (Jd O) (Je (Jf (Jc (Jc (Ja (Lq (Jb O) ?_))))))))))))))
 refine Lq (Kp O O) (Je (Jf (JQ O O (Jc (Ja (Lq (JV .nil (bd46Xg9)) (Lq (Jb O) (Jg O (Jq (cs':= [_,_]) (vs:= [_,_]) JY O O O O O (Nat.le_of_ble_eq_true O) .z7 (Lq (Jd O) (Je (Jf (Jn (Jr ?_))))))))))))))
 refine ⟨_,[_,_,_,_,_,_,_,_],[],fun Z w hs=>JS hs Un34 O JY O (Ji (Ji (Ji (Ji (Ji (Ji (Ji (Jm)))))))) O (.tmp O .nil),?_,fun Z w hs=>((((((((hs.pick .z6).pick .z6).pick .z6).pick .z6).pick .z6).pick .z9).pick .z7).pick .z9).out (Sk8 (Sd2 (Sr))) (fun _ h=>h)⟩
 have e:(upF (J0 H on) U R)=(none,U,R):=by unfold upF;rw [hpk]
 rw [e]
 exact ⟨_,pu,_,pr,hU,hR,O,O,O⟩
theorem ZW (h m cap:Nat) (A:Option Addr) (H:Hist) (L:List MR) (hr:HR H L) (bh bo:Nat) (on:Bool) (s:Nat) (vu vr:Value) (pu pr:Part) (U R:List Id2) (hU:Row 34 2 vu U.length (Kb idC U) pu) (hR:Row 34 2 vr R.length (Kb idC R) pr) (hlU:U.length≤100000) (hlR:R.length≤100000) (k:Nat) (x:Id2) (hpk:pickF (J0 H on) U=some (k,x)):Sp Tryz.prog 83 [.pointer (some ⟨s,0,none⟩), .pointer (some ⟨s,1,none⟩), .func (.func 112) #[] #[.pointer (some ⟨bh,0,none⟩), .pointer (some ⟨bo,0,none⟩)]] [stP s vu vr,pu,pr,chP bh h,cbP bo on,hdP h A H.ops.length cap m H.total,mpP m L,mkP L] [RdF opD A cap H.ops,AllF L nowF] (fun u Lo fs=> ∃vu2 pu2 vr2 pr2,Row 34 2 vu2 (upF (J0 H on) U R).2.1.length (Kb idC (upF (J0 H on) U R).2.1) pu2∧Row 34 2 vr2 (upF (J0 H on) U R).2.2.length (Kb idC (upF (J0 H on) U R).2.2) pr2∧u=upV (upF (J0 H on) U R).1∧Lo= [stP s vu2 vr2,pu2,pr2,chP bh h,cbP bo on,hdP h A H.ops.length cap m H.total,mpP m L,mkP L] ∧fs= []):=by
 obtain ⟨hx1,hx2⟩:=Y8 hpk
 have hk:k<U.length:=by
  rcases Nat.lt_or_ge k U.length with h | h
  ·exact h
  ·rw [List.getElem?_eq_none h] at hx1;cases hx1
 obtain ⟨At,ct,rfl⟩:=hR.slice
 have hf0:=hU
 obtain ⟨hfl,⟨_,h0,_⟩ | ⟨b,cp,jk,rfl,rfl,h1,h2,h3⟩⟩:=hU
 ·omega
 refine Sp.of (n:=42) ⟨_,Tryz.func83,O,O,O,O⟩ (Nat.le_of_ble_eq_true O) fun Ps As=>Jc (Ja (Jg O (Jv (cs:= [_,_]) JY O (by decide) fun b6=>Lq (Jd O) (Je (Jf (Jc (Ja (Lq (Jb O) (Lq (JB O) (Lq (Jj Un45 O O (Ji (Jm)) O) (Lq (Jb O) (Jg O (JW (G5 h m cap A H L hr bh bo on _ _ U hf0 (by omega)) (.n2 O O) (by decide) (.n6 .z2 .z3 .z3 .z3 .z3 .z3) (Jl Mm0 (Jl Mm1 Jx)) fun _ _ _ q9=>?_)))))))))))))
 obtain ⟨rfl,rfl,rfl⟩:=q9
 rw [hpk]
 refine Lq (Jb O) (Lq (Jk (vs:= [_,_,_]) O O) (Lq (Jk (vs:= [_,_,_]) O O) (Lq (Jk (vs:= [_,_,_]) O O) (Jg O (Jv (cs:= [_,_]) JY O (by decide) fun b8=>Jg O (Jq (cs':= [_,_]) (vs:= [_,_]) JY O O O O O (Nat.le_of_ble_eq_true O) .z (Lq (Jd O) (Lq (Jd O) (Je (Jf (Jc (Jc (Ja (Lq (Jb O) ?_))))))))))))))
 refine Lq (Kp O O) (Je (Jf (Jz O O (Jp (Jf (Jc (Ja (Lq (Jb O) (Lq (Jb O) (Lq (JB O) (Lq (Jj Un45 O O (Ji (Ji (Ji (Ji (Ji (Ji (Ji (Ji (Jm))))))))) O) (Lq (Jb O) (Lq (Jb O) (Lq (JZ O O (wr64 (by omega)) (c:=((k+1:Nat):Int))) (Jg O (JX (Jaq b cp k U jk hk h2 h3 h1 (by omega)) (.n3 O O O) (by decide) .z1 Jx fun _ _ _ q9=>?_))))))))))))))))
 obtain ⟨jk2,rfl,hjk2,rfl,rfl⟩:=q9
 refine Lq (JB O) (Jg O (JN Qg O O O .z .z8 (Je (Jf (Jc (JI _ _ [8] (.c 0 0 (.c 1 0 (.c 2 0 (.c 3 0 (.c 4 0 (.c 5 2 (.c 6 2 (.c 7 0 (.c 8 3 .nil))))))))) mixed (fun _ _ _ _ h=>h) (Sk9 (Sd (Sr))) (fun _ h=>h) (by kernel_rfl) (by decide) fun ws Z0=>Qe O (Jb O) (Qe O (Jb O) (Qe O (JB O) (Qe O (Jj Un45 O O (Ji (Ji (Ji (Ji (Ji (Ji (Ji (Ji (Jm))))))))) O) (Qe O (Jw (vs:= [_,_]) Un34 O JY O (Ji (Jm)) O O) ?_))))))))))
 refine Js O O (KP (cs:= [_,_]) Un45 JY (by decide) (by decide) O O O O (by decide) fun b38=> ?_)
 refine ⟨⟨(Sd (Sk9 (Sd (Sr)))),Mm0⟩,?_⟩
 refine Js O O (KV (news:= [_,_]) Un45 JY O (by decide) O O hR Jm O O (by omega) (by unfold maxLen;omega) (by decide) (DelAt.perm .z10) fun v39 p39 hr39=> ?_)
 obtain ⟨As39,cs39,es39⟩:=hr39.slice
 subst es39
 refine ⟨⟨(Sd2 (Sk9 (Sr))),Mm0⟩,?_⟩
 refine Qe O (JB O) (JJ (J2 O O (JN Qg O O O .z1 .z10 (JK (Jf (Jc (Ja (Lq (Jw (vs:= [_,_]) Un34 O JY O (Ji (Ji (Ji (Jm)))) O O) (Jg O (Jq (cs':= [_,_]) (vs:= [_,_]) JY O O O O O (Nat.le_of_ble_eq_true O) .z9 (Lq (Jd O) (Je (Jf (Jn ?_))))))))))))))
 refine ⟨_,[_,_,_,_,_,_,_,_],[],fun Z w hs=>JS hs Un34 O JY O (Ji (Ji (Ji (Ji (Ji (Ji (Ji (Ji (Ji (Jm)))))))))) O (.tmp O .nil),?_,fun Z w hs=>((((((((hs.pick .z8).pick .z8).pick .z8).pick .z8).pick .z8).pick .z5).pick .z7).pick .z10).out (Sk8 (Sd3 (Sr))) Tt1⟩
 have e:(upF (J0 H on) U R)=(some x,U.eraseIdx k,R++ [x]):=by unfold upF;rw [hpk]
 rw [e]
 have hrow1:Row 34 2 (.slice (some ⟨b,0,none⟩) (U.eraseIdx k).length cp) (U.eraseIdx k).length (Kb idC (U.eraseIdx k)) [(b,JD (Kb idC (U.eraseIdx k)++jk2) 34)] :=⟨Qm, .inr ⟨b,cp,jk2,rfl,rfl,hjk2,by rw [List.length_eraseIdx_of_lt hk];omega,h3⟩⟩
 have hrow2:Row 34 2 (.slice As39 (R.length+1) cs39) (R++ [x]).length (Kb idC (R++ [x])) p39:=by rw [YG,VF,List.length_append];exact hr39
 exact ⟨_,_,_,_,hrow1,hrow2,O,O,O⟩
theorem moveu_m (h m cap:Nat) (A:Option Addr) (H:Hist) (L:List MR) (hr:HR H L) (bh bo:Nat) (on:Bool) (s:Nat) (vu vr:Value) (pu pr:Part) (U R:List Id2) (hU:Row 34 2 vu U.length (Kb idC U) pu) (hR:Row 34 2 vr R.length (Kb idC R) pr) (hlU:U.length≤100000) (hlR:R.length≤100000):Sp Tryz.prog 83 [.pointer (some ⟨s,0,none⟩), .pointer (some ⟨s,1,none⟩), .func (.func 112) #[] #[.pointer (some ⟨bh,0,none⟩), .pointer (some ⟨bo,0,none⟩)]] [stP s vu vr,pu,pr,chP bh h,cbP bo on,hdP h A H.ops.length cap m H.total,mpP m L,mkP L] [RdF opD A cap H.ops,AllF L nowF] (fun u Lo fs=> ∃vu2 pu2 vr2 pr2,Row 34 2 vu2 (upF (J0 H on) U R).2.1.length (Kb idC (upF (J0 H on) U R).2.1) pu2∧Row 34 2 vr2 (upF (J0 H on) U R).2.2.length (Kb idC (upF (J0 H on) U R).2.2) pr2∧u=upV (upF (J0 H on) U R).1∧Lo= [stP s vu2 vr2,pu2,pr2,chP bh h,cbP bo on,hdP h A H.ops.length cap m H.total,mpP m L,mkP L] ∧fs= []):=by
 cases hpk:pickF (J0 H on) U with
 | none=>exact moveu_n h m cap A H L hr bh bo on s vu vr pu pr U R hU hR hlU hlR hpk
 | some kx=>exact ZW h m cap A H L hr bh bo on s vu vr pu pr U R hU hR hlU hlR kx.1 kx.2 hpk
theorem mover_n (h m cap:Nat) (A:Option Addr) (H:Hist) (L:List MR) (hr:HR H L) (bh bo:Nat) (on:Bool) (s:Nat) (vu vr:Value) (pu pr:Part) (U R:List Id2) (hU:Row 34 2 vu U.length (Kb idC U) pu) (hR:Row 34 2 vr R.length (Kb idC R) pr) (hlU:U.length≤100000) (hlR:R.length≤100000) (hpk:pickF (J0 H on) R=none):Sp Tryz.prog 83 [.pointer (some ⟨s,1,none⟩), .pointer (some ⟨s,0,none⟩), .func (.func 112) #[] #[.pointer (some ⟨bh,0,none⟩), .pointer (some ⟨bo,0,none⟩)]] [stP s vu vr,pu,pr,chP bh h,cbP bo on,hdP h A H.ops.length cap m H.total,mpP m L,mkP L] [RdF opD A cap H.ops,AllF L nowF] (fun u Lo fs=> ∃vu2 pu2 vr2 pr2,Row 34 2 vu2 (upF (J0 H on) R U).2.2.length (Kb idC (upF (J0 H on) R U).2.2) pu2∧Row 34 2 vr2 (upF (J0 H on) R U).2.1.length (Kb idC (upF (J0 H on) R U).2.1) pr2∧u=upV (upF (J0 H on) R U).1∧Lo= [stP s vu2 vr2,pu2,pr2,chP bh h,cbP bo on,hdP h A H.ops.length cap m H.total,mpP m L,mkP L] ∧fs= []):=by
 obtain ⟨Au,cu,rfl⟩:=hU.slice
 obtain ⟨Ar,cr,rfl⟩:=hR.slice
 refine Sp.of (n:=42) ⟨_,Tryz.func83,O,O,O,O⟩ (Nat.le_of_ble_eq_true O) fun Ps As=>Jc (Ja (Jg O (Jv (cs:= [_,_]) JY O (by decide) fun b6=>Lq (Jd O) (Je (Jf (Jc (Ja (Lq (Jb O) (Lq (JB O) (Lq (Jj Un45 O O (Ji (Jm)) O) (Lq (Jb O) (Jg O (JW (G5 h m cap A H L hr bh bo on _ _ R hR (by omega)) (.n2 O O) (by decide) (.n6 .z3 .z3 .z3 .z3 .z3 .z3) (Jl Mm0 (Jl Mm1 Jx)) fun _ _ _ q9=>?_)))))))))))))
 obtain ⟨rfl,rfl,rfl⟩:=q9
 rw [hpk]
 refine Lq (Jb O) (Lq (Jk (vs:= [_,_,_]) O O) (Lq (Jk (vs:= [_,_,_]) O O) (Lq (Jk (vs:= [_,_,_]) O O) (Jg O (Jv (cs:= [_,_]) JY O (by decide) fun b8=>Jg O (Jq (cs':= [_,_]) (vs:= [_,_]) JY O O O O O (Nat.le_of_ble_eq_true O) .z (Lq (Jd O) (Lq (Jd O) (Je (Jf (Jc (Jc (Ja (Lq (Jb O) ?_))))))))))))))
 refine Lq (Kp O O) (Je (Jf (JQ O O (Jc (Ja (Lq (JV .nil (bd46Xg9)) (Lq (Jb O) (Jg O (Jq (cs':= [_,_]) (vs:= [_,_]) JY O O O O O (Nat.le_of_ble_eq_true O) .z7 (Lq (Jd O) (Je (Jf (Jn (Jr ?_))))))))))))))
 refine ⟨_,[_,_,_,_,_,_,_,_],[],fun Z w hs=>JS hs Un34 O JY O (Ji (Ji (Ji (Ji (Ji (Ji (Ji (Jm)))))))) O (.tmp O .nil),?_,fun Z w hs=>((((((((hs.pick .z6).pick .z6).pick .z6).pick .z6).pick .z6).pick .z6).pick .z9).pick .z9).out (Sk8 (Sd2 (Sr))) (fun _ h=>h)⟩
 have e:(upF (J0 H on) R U)=(none,R,U):=by unfold upF;rw [hpk]
 rw [e]
 exact ⟨_,pu,_,pr,hU,hR,O,O,O⟩
theorem ZX (h m cap:Nat) (A:Option Addr) (H:Hist) (L:List MR) (hr:HR H L) (bh bo:Nat) (on:Bool) (s:Nat) (vu vr:Value) (pu pr:Part) (U R:List Id2) (hU:Row 34 2 vu U.length (Kb idC U) pu) (hR:Row 34 2 vr R.length (Kb idC R) pr) (hlU:U.length≤100000) (hlR:R.length≤100000) (k:Nat) (x:Id2) (hpk:pickF (J0 H on) R=some (k,x)):Sp Tryz.prog 83 [.pointer (some ⟨s,1,none⟩), .pointer (some ⟨s,0,none⟩), .func (.func 112) #[] #[.pointer (some ⟨bh,0,none⟩), .pointer (some ⟨bo,0,none⟩)]] [stP s vu vr,pu,pr,chP bh h,cbP bo on,hdP h A H.ops.length cap m H.total,mpP m L,mkP L] [RdF opD A cap H.ops,AllF L nowF] (fun u Lo fs=> ∃vu2 pu2 vr2 pr2,Row 34 2 vu2 (upF (J0 H on) R U).2.2.length (Kb idC (upF (J0 H on) R U).2.2) pu2∧Row 34 2 vr2 (upF (J0 H on) R U).2.1.length (Kb idC (upF (J0 H on) R U).2.1) pr2∧u=upV (upF (J0 H on) R U).1∧Lo= [stP s vu2 vr2,pu2,pr2,chP bh h,cbP bo on,hdP h A H.ops.length cap m H.total,mpP m L,mkP L] ∧fs= []):=by
 obtain ⟨hx1,hx2⟩:=Y8 hpk
 have hk:k<R.length:=by
  rcases Nat.lt_or_ge k R.length with h | h
  ·exact h
  ·rw [List.getElem?_eq_none h] at hx1;cases hx1
 obtain ⟨At,ct,rfl⟩:=hU.slice
 have hf0:=hR
 obtain ⟨hfl,⟨_,h0,_⟩ | ⟨b,cp,jk,rfl,rfl,h1,h2,h3⟩⟩:=hR
 ·omega
 refine Sp.of (n:=42) ⟨_,Tryz.func83,O,O,O,O⟩ (Nat.le_of_ble_eq_true O) fun Ps As=>Jc (Ja (Jg O (Jv (cs:= [_,_]) JY O (by decide) fun b6=>Lq (Jd O) (Je (Jf (Jc (Ja (Lq (Jb O) (Lq (JB O) (Lq (Jj Un45 O O (Ji (Jm)) O) (Lq (Jb O) (Jg O (JW (G5 h m cap A H L hr bh bo on _ _ R hf0 (by omega)) (.n2 O O) (by decide) (.n6 .z3 .z3 .z3 .z3 .z3 .z3) (Jl Mm0 (Jl Mm1 Jx)) fun _ _ _ q9=>?_)))))))))))))
 obtain ⟨rfl,rfl,rfl⟩:=q9
 rw [hpk]
 refine Lq (Jb O) (Lq (Jk (vs:= [_,_,_]) O O) (Lq (Jk (vs:= [_,_,_]) O O) (Lq (Jk (vs:= [_,_,_]) O O) (Jg O (Jv (cs:= [_,_]) JY O (by decide) fun b8=>Jg O (Jq (cs':= [_,_]) (vs:= [_,_]) JY O O O O O (Nat.le_of_ble_eq_true O) .z (Lq (Jd O) (Lq (Jd O) (Je (Jf (Jc (Jc (Ja (Lq (Jb O) ?_))))))))))))))
 refine Lq (Kp O O) (Je (Jf (Jz O O (Jp (Jf (Jc (Ja (Lq (Jb O) (Lq (Jb O) (Lq (JB O) (Lq (Jj Un45 O O (Ji (Ji (Ji (Ji (Ji (Ji (Ji (Ji (Jm))))))))) O) (Lq (Jb O) (Lq (Jb O) (Lq (JZ O O (wr64 (by omega)) (c:=((k+1:Nat):Int))) (Jg O (JX (Jaq b cp k R jk hk h2 h3 h1 (by omega)) (.n3 O O O) (by decide) .z1 Jx fun _ _ _ q9=>?_))))))))))))))))
 obtain ⟨jk2,rfl,hjk2,rfl,rfl⟩:=q9
 refine Lq (JB O) (Jg O (JN Qg O O O .z1 .z8 (Je (Jf (Jc (JI _ _ [8] (.c 0 0 (.c 1 0 (.c 2 0 (.c 3 0 (.c 4 0 (.c 5 2 (.c 6 2 (.c 7 0 (.c 8 3 .nil))))))))) mixed (fun _ _ _ _ h=>h) (Sk9 (Sd (Sr))) (fun _ h=>h) (by kernel_rfl) (by decide) fun ws Z0=>Qe O (Jb O) (Qe O (Jb O) (Qe O (JB O) (Qe O (Jj Un45 O O (Ji (Ji (Ji (Ji (Ji (Ji (Ji (Ji (Jm))))))))) O) (Qe O (Jw (vs:= [_,_]) Un34 O JY O (Ji (Jm)) O O) ?_))))))))))
 refine Js O O (KP (cs:= [_,_]) Un45 JY (by decide) (by decide) O O O O (by decide) fun b38=> ?_)
 refine ⟨⟨(Sd (Sk9 (Sd (Sr)))),Mm0⟩,?_⟩
 refine Js O O (KV (news:= [_,_]) Un45 JY O (by decide) O O hU Jm O O (by omega) (by unfold maxLen;omega) (by decide) (DelAt.perm .z10) fun v39 p39 hr39=> ?_)
 obtain ⟨As39,cs39,es39⟩:=hr39.slice
 subst es39
 refine ⟨⟨(Sd2 (Sk9 (Sr))),Mm0⟩,?_⟩
 refine Qe O (JB O) (JJ (J2 O O (JN Qg O O O .z .z10 (JK (Jf (Jc (Ja (Lq (Jw (vs:= [_,_]) Un34 O JY O (Ji (Ji (Ji (Jm)))) O O) (Jg O (Jq (cs':= [_,_]) (vs:= [_,_]) JY O O O O O (Nat.le_of_ble_eq_true O) .z9 (Lq (Jd O) (Je (Jf (Jn ?_))))))))))))))
 refine ⟨_,[_,_,_,_,_,_,_,_],[],fun Z w hs=>JS hs Un34 O JY O (Ji (Ji (Ji (Ji (Ji (Ji (Ji (Ji (Ji (Jm)))))))))) O (.tmp O .nil),?_,fun Z w hs=>((((((((hs.pick .z8).pick .z8).pick .z8).pick .z8).pick .z8).pick .z7).pick .z6).pick .z10).out (Sk8 (Sd3 (Sr))) Tt1⟩
 have e:(upF (J0 H on) R U)=(some x,R.eraseIdx k,U++ [x]):=by unfold upF;rw [hpk]
 rw [e]
 have hrow1:Row 34 2 (.slice (some ⟨b,0,none⟩) (R.eraseIdx k).length cp) (R.eraseIdx k).length (Kb idC (R.eraseIdx k)) [(b,JD (Kb idC (R.eraseIdx k)++jk2) 34)] :=⟨Qm, .inr ⟨b,cp,jk2,rfl,rfl,hjk2,by rw [List.length_eraseIdx_of_lt hk];omega,h3⟩⟩
 have hrow2:Row 34 2 (.slice As39 (U.length+1) cs39) (U++ [x]).length (Kb idC (U++ [x])) p39:=by rw [YG,VF,List.length_append];exact hr39
 exact ⟨_,_,_,_,hrow2,hrow1,O,O,O⟩
theorem mover_m (h m cap:Nat) (A:Option Addr) (H:Hist) (L:List MR) (hr:HR H L) (bh bo:Nat) (on:Bool) (s:Nat) (vu vr:Value) (pu pr:Part) (U R:List Id2) (hU:Row 34 2 vu U.length (Kb idC U) pu) (hR:Row 34 2 vr R.length (Kb idC R) pr) (hlU:U.length≤100000) (hlR:R.length≤100000):Sp Tryz.prog 83 [.pointer (some ⟨s,1,none⟩), .pointer (some ⟨s,0,none⟩), .func (.func 112) #[] #[.pointer (some ⟨bh,0,none⟩), .pointer (some ⟨bo,0,none⟩)]] [stP s vu vr,pu,pr,chP bh h,cbP bo on,hdP h A H.ops.length cap m H.total,mpP m L,mkP L] [RdF opD A cap H.ops,AllF L nowF] (fun u Lo fs=> ∃vu2 pu2 vr2 pr2,Row 34 2 vu2 (upF (J0 H on) R U).2.2.length (Kb idC (upF (J0 H on) R U).2.2) pu2∧Row 34 2 vr2 (upF (J0 H on) R U).2.1.length (Kb idC (upF (J0 H on) R U).2.1) pr2∧u=upV (upF (J0 H on) R U).1∧Lo= [stP s vu2 vr2,pu2,pr2,chP bh h,cbP bo on,hdP h A H.ops.length cap m H.total,mpP m L,mkP L] ∧fs= []):=by
 cases hpk:pickF (J0 H on) R with
 | none=>exact mover_n h m cap A H L hr bh bo on s vu vr pu pr U R hU hR hlU hlR hpk
 | some kx=>exact ZX h m cap A H L hr bh bo on s vu vr pu pr U R hU hR hlU hlR kx.1 kx.2 hpk
theorem GB (h:Nat) (on:Bool):Sp Tryz.prog 84 [.pointer (some ⟨h,0,none⟩), .bool on] [] [] (fun u Lo fs=> ∃bh bo:Nat,u= .func (.func 112) #[] #[.pointer (some ⟨bh,0,none⟩), .pointer (some ⟨bo,0,none⟩)] ∧Lo= [chP bh h,cbP bo on] ∧fs= []):=by
 refine Sp.of (n:=6) ⟨_,Tryz.func84,O,O,O,O⟩ (Nat.le_of_ble_eq_true O) fun Ps As=>Jc (Ja (Jg O (J1 (cs:= [_]) O O (by decide) fun b2=>Jg O (J1 (cs:= [_]) O O (by decide) fun b3=>Lq (Jd O) (Je (Jf (Jc (Ja (Lq (QX (.n2 O O)) (Lq (Jd O) (Je (Jf (Jn ?_)))))))))))))
 refine ⟨_,[_,_],[],fun Z w hs=> .tmp O .nil,?_,fun Z w hs=>((hs.pick .z).pick .z1).out (Sk2 (Sr)) (fun _ h=>h)⟩
 exact ⟨b2,b3,O,O,O⟩
theorem XE (h m cap:Nat) (A:Option Addr) (H:Hist) (L:List MR) (hr:HR H L) (s:Nat) (vu vr:Value) (pu pr:Part) (U R:List Id2) (hU:Row 34 2 vu U.length (Kb idC U) pu) (hR:Row 34 2 vr R.length (Kb idC R) pr) (hlU:U.length≤100000) (hlR:R.length≤100000):Sp Tryz.prog 53 [.pointer (some ⟨s,0,none⟩), .pointer (some ⟨h,0,none⟩)] [stP s vu vr,pu,pr,hdP h A H.ops.length cap m H.total,mpP m L,mkP L] [RdF opD A cap H.ops,AllF L nowF] (fun u Lo fs=> ∃vu2 pu2 vr2 pr2,Row 34 2 vu2 (upF (J0 H true) U R).2.1.length (Kb idC (upF (J0 H true) U R).2.1) pu2∧Row 34 2 vr2 (upF (J0 H true) U R).2.2.length (Kb idC (upF (J0 H true) U R).2.2) pr2∧u=upV (upF (J0 H true) U R).1∧Lo= [stP s vu2 vr2,pu2,pr2,hdP h A H.ops.length cap m H.total,mpP m L,mkP L] ∧fs= []):=by
 refine Sp.of (n:=20) ⟨_,Tryz.func53,O,O,O,O⟩ (Nat.le_of_ble_eq_true O) fun Ps As=>Jc (Ja (Jg O (Jv (cs:= [_,_]) JY O (by decide) fun b4=>Lq (Jd O) (Je (Jf (Jc (Jc (Ja (Lq (Jb O) (Lq (KK Un55 O O (by simp)) (Je (Jf (Jz O O (Jp (Jf (Jc (JI _ _ [11] (.c 0 0 (.c 1 0 (.c 2 0 (.c 3 0 (.c 4 0 (.c 5 0 (.c 6 0 (.c 7 2 (.c 8 2 (.c 9 0 (.c 10 0 (.c 11 3 (.c 12 1 .nil))))))))))))) mixed (fun _ _ _ _ h=>h) (Sd4 (Sk3 (Sr))) (fun _ h=>h) (by kernel_rfl) (by decide) fun ws Z0=>Qe O (Jb O) ?_)))))))))))))))))
 refine Qe O (JB O) (Qe O (Jh (o':=0) Un92 O Qg O O) (Qe O (Jb O) (Qe O (JB O) (Qe O (Jh (o':=1) Un92 O Qg O O) (Qe O (Jb O) (Js O O (Jo (GB h true) (.n2 O O) (by decide) Jx fun _ _ _ q9=>?_)))))))
 obtain ⟨bh,bo,rfl,rfl,rfl⟩:=q9
 refine ⟨⟨(Sd6 (Sk3 (Sr))),Mm0⟩,?_⟩
 refine Js O O (JW (moveu_m h m cap A H L hr bh bo true s vu vr pu pr U R hU hR hlU hlR) (.n3 O O O) (by decide) (.n8 .z3 .z3 .z3 .z .z .z1 .z1 .z1) (Jl Mm1 (Jl Mm2 Jx)) fun _ _ _ q9=>?_)
 obtain ⟨vu2,pu2,vr2,pr2,hU2,hR2,rfl,rfl,rfl⟩:=q9
 refine ⟨⟨(Sd5 (Sk3 (Sd (Sr)))),Mm0⟩,?_⟩
 refine Qe O (Jk (vs:= [_,_]) O O) (Qe O (Jk (vs:= [_,_]) O O) (JJ (J2 O O (Jq (cs':= [_,_]) (vs:= [_,_]) JY O O O O O (Nat.le_of_ble_eq_true O) .z8 (YM O (Jd O) (by decide) (JK (Jf (Jn ?_))))))))
 refine ⟨_,[_,_,_,_,_,_],[],fun Z w hs=>JS hs Un34 O JY O (Ji (Ji (Ji (Ji (Ji (Ji (Ji (Ji (Jm))))))))) O (.tmp O .nil),?_,fun Z w hs=>hs.out (Sk3 (Sd2 (Sk3 (Sd (Sr))))) Tt1⟩
 exact ⟨vu2,pu2,vr2,pr2,hU2,hR2,O,O,O⟩
theorem XF (h m cap:Nat) (A:Option Addr) (H:Hist) (L:List MR) (hr:HR H L) (s:Nat) (vu vr:Value) (pu pr:Part) (U R:List Id2) (hU:Row 34 2 vu U.length (Kb idC U) pu) (hR:Row 34 2 vr R.length (Kb idC R) pr) (hlU:U.length≤100000) (hlR:R.length≤100000):Sp Tryz.prog 63 [.pointer (some ⟨s,0,none⟩), .pointer (some ⟨h,0,none⟩)] [stP s vu vr,pu,pr,hdP h A H.ops.length cap m H.total,mpP m L,mkP L] [RdF opD A cap H.ops,AllF L nowF] (fun u Lo fs=> ∃vu2 pu2 vr2 pr2,Row 34 2 vu2 (upF (J0 H false) R U).2.2.length (Kb idC (upF (J0 H false) R U).2.2) pu2∧Row 34 2 vr2 (upF (J0 H false) R U).2.1.length (Kb idC (upF (J0 H false) R U).2.1) pr2∧u=upV (upF (J0 H false) R U).1∧Lo= [stP s vu2 vr2,pu2,pr2,hdP h A H.ops.length cap m H.total,mpP m L,mkP L] ∧fs= []):=by
 refine Sp.of (n:=20) ⟨_,Tryz.func63,O,O,O,O⟩ (Nat.le_of_ble_eq_true O) fun Ps As=>Jc (Ja (Jg O (Jv (cs:= [_,_]) JY O (by decide) fun b4=>Lq (Jd O) (Je (Jf (Jc (Jc (Ja (Lq (Jb O) (Lq (KK Un55 O O (by simp)) (Je (Jf (Jz O O (Jp (Jf (Jc (JI _ _ [11] (.c 0 0 (.c 1 0 (.c 2 0 (.c 3 0 (.c 4 0 (.c 5 0 (.c 6 0 (.c 7 2 (.c 8 2 (.c 9 0 (.c 10 0 (.c 11 3 (.c 12 1 .nil))))))))))))) mixed (fun _ _ _ _ h=>h) (Sd4 (Sk3 (Sr))) (fun _ h=>h) (by kernel_rfl) (by decide) fun ws Z0=>Qe O (Jb O) ?_)))))))))))))))))
 refine Qe O (JB O) (Qe O (Jh (o':=1) Un92 O Qg O O) (Qe O (Jb O) (Qe O (JB O) (Qe O (Jh (o':=0) Un92 O Qg O O) (Qe O (Jb O) (Js O O (Jo (GB h false) (.n2 O O) (by decide) Jx fun _ _ _ q9=>?_)))))))
 obtain ⟨bh,bo,rfl,rfl,rfl⟩:=q9
 refine ⟨⟨(Sd6 (Sk3 (Sr))),Mm0⟩,?_⟩
 refine Js O O (JW (mover_m h m cap A H L hr bh bo false s vu vr pu pr U R hU hR hlU hlR) (.n3 O O O) (by decide) (.n8 .z3 .z3 .z3 .z .z .z1 .z1 .z1) (Jl Mm1 (Jl Mm2 Jx)) fun _ _ _ q9=>?_)
 obtain ⟨vu2,pu2,vr2,pr2,hU2,hR2,rfl,rfl,rfl⟩:=q9
 refine ⟨⟨(Sd5 (Sk3 (Sd (Sr)))),Mm0⟩,?_⟩
 refine Qe O (Jk (vs:= [_,_]) O O) (Qe O (Jk (vs:= [_,_]) O O) (JJ (J2 O O (Jq (cs':= [_,_]) (vs:= [_,_]) JY O O O O O (Nat.le_of_ble_eq_true O) .z8 (YM O (Jd O) (by decide) (JK (Jf (Jn ?_))))))))
 refine ⟨_,[_,_,_,_,_,_],[],fun Z w hs=>JS hs Un34 O JY O (Ji (Ji (Ji (Ji (Ji (Ji (Ji (Ji (Jm))))))))) O (.tmp O .nil),?_,fun Z w hs=>hs.out (Sk3 (Sd2 (Sk3 (Sd (Sr))))) Tt1⟩
 exact ⟨vu2,pu2,vr2,pr2,hU2,hR2,O,O,O⟩
theorem Jap (s:Nat) (vu vr:Value) (pu pr:Part) (U R:List Id2) (hU:Row 34 2 vu U.length (Kb idC U) pu) (hR:Row 34 2 vr R.length (Kb idC R) pr) (hlU:U.length≤1000000) (hlR:R.length≤1000000) (i0 i1:Int) (hi:1≤i0∧i0≤8∧1≤i1∧i1≤1024) (hnU:(i0,i1)∉U) (hnR:(i0,i1)∉R):Sp Tryz.prog 46 [.pointer (some ⟨s,0,none⟩), .agg #[.int .i64 i0, .int .i64 i1]] [stP s vu vr,pu,pr] [] (fun u Lo fs=> ∃vu2 pu2,Row 34 2 vu2 (U++ [(i0,i1)]).length (Kb idC (U++ [(i0,i1)])) pu2∧u= .int .i64 0∧Lo= [stP s vu2 (.slice none 0 0),pu2,[]] ∧fs= []):=by
 obtain ⟨Au,cu,rfl⟩:=hU.slice
 obtain ⟨Ar,cr,rfl⟩:=hR.slice
 refine Sp.of (n:=50) ⟨_,Tryz.func46,O,O,O,O⟩ (Nat.le_of_ble_eq_true O) fun Ps As=>Jc (Ja (Jg O (J1 (cs:= [_,_]) O O (by decide) fun b3=>Lq (Jd O) (Je (Jf (Jc (Jc (Ja (Lq (KL (o':=0) Un34 ti3 O O (by decide) (by decide) O) (Lq (Jj Un3 O O Jm O) (Lq (Ku O O) (Lq (Jb O) (Lg O O O (decide_eq_false (by omega)) (KL (o':=0) Un34 ti3 O O (by decide) (by decide) O) ?_)))))))))))))
 refine Lg O O O (decide_eq_false (by omega)) (Jj Un3 O O Jm O) (Lg O O O (decide_eq_false (by omega)) (Ke O O) (Lq (JA O (decide_eq_false (by omega)) O) (Lq (Jb O) (Lg O O O (decide_eq_false (by omega)) (KL (o':=1) Un34 ti3 O O (by decide) (by decide) O) (Lg O O O (decide_eq_false (by omega)) (Jj Un3 O O Jm O) (Lg O O O (decide_eq_false (by omega)) (Ku O O) (Lq (JA O (decide_eq_false (by omega)) O) (Lq (Jb O) (Lg O O O (decide_eq_false (by omega)) (KL (o':=1) Un34 ti3 O O (by decide) (by decide) O) ?_)))))))))
 refine Lg O O O (decide_eq_false (by omega)) (Jj Un3 O O Jm O) (Lg O O O (decide_eq_false (by omega)) (Ke O O) (Lq (JA O (decide_eq_false (by omega)) O) (Je (Jf (Jz O (decide_eq_false (by omega)) (Jp (Jf (Jc (Jc (JI _ _ [] (.c 0 0 (.c 1 0 (.c 2 0 (.c 3 0 (.c 4 0 (.c 5 2 (.c 6 0 (.c 7 0 (.c 8 0 (.c 9 0 (.c 10 0 (.c 11 0 (.c 12 2 (.c 13 0 .nil)))))))))))))) mixed (fun _ _ _ _ h=>h) (Sk2 (Sd2 (Sr))) (fun _ h=>h) (by kernel_rfl) (by decide) fun ws Z0=>Qe O (Jb O) (Qe O (JB O) (Qe O (Jh (o':=0) Un92 O Qg O O) ?_))))))))))))
 refine Qe O (Jj Un45 O O (Ji (Jm)) O) (Qe O (Jw (vs:= [_,_]) Un34 O JY O Jm O O) (Js O O (JX (Jar _ _ U hU hlU i0 i1) (.n2 O O) (by decide) .z2 Jx fun _ _ _ q9=>?_)))
 obtain ⟨rfl,rfl,rfl⟩:=q9
 rw [decide_eq_false hnU]
 refine ⟨⟨(Sd (Sk2 (Sd (Sr)))),Mm0⟩,?_⟩
 refine Qe O (Jb O) (Kl O O O O O (Jb O) (by decide) (Kl O O O O O (JB O) (by decide) (Kl O O O O O (Jh (o':=1) Un92 O Qg O O) (by decide) (Kl O O O O O (Jj Un45 O O (Ji (Jm)) O) (by decide) (Kl O O O O O (Jw (vs:= [_,_]) Un34 O JY O Jm O O) (by decide) (Gq O O O O O O (JX (Jar _ _ R hR hlR i0 i1) (.n2 O O) (by decide) .z3 Jx fun _ _ _ q9=>?_)))))))
 obtain ⟨rfl,rfl,rfl⟩:=q9
 rw [decide_eq_false hnR]
 refine ⟨⟨(Sd2 (Sk2 (Sr))),Mm0⟩,?_⟩
 refine Qe O (JA O O O) (JJ (JK (Jf (Jz O O (Jp (Jf (Jc (JI _ _ [10] (.c 0 0 (.c 1 0 (.c 2 0 (.c 3 0 (.c 4 0 (.c 5 0 (.c 6 2 (.c 7 2 (.c 8 0 (.c 9 0 (.c 10 3 .nil))))))))))) mixed (fun _ _ _ _ h=>h) (Sk (Sd (Sk2 (Sr)))) (fun _ h=>h) (by kernel_rfl) (by decide) fun ws Z0=>Qe O (Jb O) (Qe O (Jb O) (Qe O (JB O) (Qe O (Jh (o':=0) Un92 O Qg O O) (Qe O (Jj Un45 O O (Ji (Ji (Jm))) O) (Qe O (Jw (vs:= [_,_]) Un34 O JY O (Ji (Jm)) O O) ?_)))))))))))))
 refine Js O O (KP (cs:= [_,_]) Un45 JY (by decide) (by decide) O O O O (by decide) fun b43=> ?_)
 refine ⟨⟨(Sd (Sk (Sd (Sk2 (Sr))))),Mm0⟩,?_⟩
 refine Js O O (KV (news:= [_,_]) Un45 JY O (by decide) O O hU Jm O O (by omega) (by unfold maxLen;omega) (by decide) (DelAt.perm .z2) fun v9 p9 hr9=> ?_)
 obtain ⟨As9,cs9,es9⟩:=hr9.slice
 subst es9
 refine ⟨⟨(Sd2 (Sk3 (Sr))),Mm0⟩,?_⟩
 refine Qe O (JB O) (Qe O (Jh (o':=0) Un92 O Qg O O) (JJ (J2 O O (JN Qg O O O .z .z4 (JK (Jf (Jc (Ja (Lq (Jb O) (Lq (JB O) (Lq (Jh (o':=1) Un92 O Qg O O) (Jg O (JN Qg O O O .z1 .z4 (Je (Jf (Jc ?_))))))))))))))))
 refine KE (Ja (Lq (Jd O) (Je (Jf (Jn ?_)))))
 refine ⟨_,[_,_,_],[],fun Z w hs=> .tmp O .nil,?_,fun Z w hs=>(((hs.pick .z).pick .z1).pick .z5).out (Sk3 (Sd3 (Sr))) Tt2⟩
 have hrow:Row 34 2 (.slice As9 (U.length+1) cs9) (U++ [(i0,i1)]).length (Kb idC (U++ [(i0,i1)])) p9:=by rw [YG,VF,List.length_append];exact hr9
 exact ⟨_,p9,hrow,O,O,O⟩
theorem bd154Xg10 (w:World):(Instr.build 92 #[]).run Tryz.prog w= .ok (.agg #[.slice none 0 0, .slice none 0 0]) w:=by kernel_rfl
theorem Hg:Sp Tryz.prog 12 [] [] [] (fun u Lo fs=> ∃s:Nat,u= .pointer (some ⟨s,0,none⟩)∧Lo= [stP s (.slice none 0 0) (.slice none 0 0)] ∧fs= []):=by
 refine Sp.of (n:=3) ⟨_,Tryz.func12,O,O,O,O⟩ (Nat.le_of_ble_eq_true O) fun Ps As=>Jc (Ja (Lq (Jd O) (Je (Jf (Jc (Ja (Lq (JV .nil (bd154Xg10)) (Jg O (J1 (cs:= [_,_]) O O (by decide) fun b2=>Lq (Jd O) (Je (Jf (Jn ?_))))))))))))
 refine ⟨_,[_],[],fun Z w hs=> .tmp O .nil,?_,fun Z w hs=>hs.out (Sk (Sr)) (fun _ h=>h)⟩
 exact ⟨b2,O,O,O⟩
structure DM where
 d:Nat
 h:Nat
 m:Nat
 b:Nat
 s:Nat
 A:Option Addr
 cap:Nat
 B:Option Addr
 t:Tr
 L:List MR
 vu:Value
 vr:Value
 pu:Part
 pr:Part
structure DS where
 u:Int
 cl:Int
 ce:Int
 op:Int
 H:Hist
 X:List Ce
 got:Nat
 made:Nat
 put:List Int
 gap:Nat
 U:List Id2
 R:List Id2
abbrev dkB (M:DM) (D:DS):Part:=dkP M.d M.h M.b D.u D.cl D.ce D.op D.got D.made D.put D.gap M.s
abbrev Kv (M:DM) (D:DS):List Part:= [dkB M D,hdP M.h M.A D.H.ops.length M.cap M.m D.H.total,mpP M.m M.L,mkP M.L,rpP M.b M.B,stP M.s M.vu M.vr,M.pu,M.pr]
abbrev KT (M:DM) (D:DS):List Fact:= [RdF opD M.A M.cap D.H.ops,AllF M.L nowF,TrF M.B M.t]
structure DkOk (M:DM) (D:DS):Prop where
 hr:HR D.H M.L
 wt:Wf M.t
 row:M.t.row=D.X
 hU:Row 34 2 M.vu D.U.length (Kb idC D.U) M.pu
 hR:Row 34 2 M.vr D.R.length (Kb idC D.R) M.pr
 di:DI D.H.ops.length D.H D.X
 us:1≤D.u∧D.u≤8
 pl:D.put.length=9
 p0: ∀x∈D.put,0≤x∧x≤4096
 lm:D.ce≤4096∧D.op≤1024∧1≤D.cl∧D.cl≤8
 gp:D.gap≤D.X.length
 rc:D.got≤D.H.ops.length
 md:D.made≤1024
 sl:D.U.length+D.R.length≤D.made
theorem DkOk.xl {M:DM} {D:DS} (ok:DkOk M D):D.X.length≤60000:=by
 have h1:=ok.di.row
 have h2:=ok.di.tot0
 omega
theorem DkOk.tl {M:DM} {D:DS} (ok:DkOk M D):M.t.row.length≤60000:=by rw [ok.row];exact ok.xl
theorem DkOk.n {M:DM} {D:DS} (ok:DkOk M D):D.H.ents.length=D.H.ops.length:=ok.di.len
def DkR (M:DM) (D:DS) (u:Value):Value→List Part→List Fact→Prop:=fun v Lo fs=> ∃M2:DM,M2.d=M.d∧DkOk M2 D∧v=u∧Lo=Kv M2 D∧fs=KT M2 D
structure Beh (X:List Ce) (p k:Nat):Prop where
 le:k≤X.length
 ct:J8 (X.take k)=p
 z:p=0→k=0
 at_:0<p→ ∃r,X[k-1]? =some (r,0)
def mkH (D:DS) (o:GOp):Hist:=(putF D.H D.H.ops.length o).1
def mkE (D:DS) (o:GOp):GOp:=(putF D.H D.H.ops.length o).2.1
structure MkD (D:DS) (o:GOp):Prop where
 tk:TkD D.H D.X D.H.ops.length D.H.ops.length o (mkH D o) (mkE D o)
 ops:(mkH D o).ops=D.H.ops++ [o]
 len:(J6 (mkE D o) D.X).length=D.X.length+(JC o).toNat
 di:DI (D.H.ops.length+1) (mkH D o) (J6 (mkE D o) D.X)
def putA (D:DS) (c:Int):Int:=D.put.getD c.toNat 0
def insO (D:DS) (k:Nat) (text:ByteArray):GOp:= { zeroOp with c:=D.u,n:=D.made+1,kind:=1,at_:=k,text:=text }
def insD (D:DS) (k:Nat) (text:ByteArray):DS:= { D with H:=mkH D (insO D k text),X:=J6 (mkE D (insO D k text)) D.X,made:=D.made+1,put:=D.put.set D.u.toNat (putA D D.u+(utF text).1),gap:=k+(utF text).1.toNat,U:=D.U++ [(D.u,(D.made:Int)+1)],R:= [] }
def hideO (D:DS) (rs:List Rg):GOp:= { zeroOp with c:=D.u,n:=D.made+1,kind:=2,rs:=rs }
def hideD (D:DS) (rs:List Rg) (k:Nat):DS:= { D with H:=mkH D (hideO D rs),X:=J6 (mkE D (hideO D rs)) D.X,made:=D.made+1,gap:=k,U:=D.U++ [(D.u,(D.made:Int)+1)],R:= [] }
def statO (D:DS) (id:Id2) (on:Bool):GOp:= { zeroOp with c:=D.u,n:=D.made+1,kind:=4,tc:=id.1,tn:=id.2,on:=on }
def turnGap (gap:Nat) (e:GEn) (on:Bool):Nat:=match e.rs,e.rs.getLast? with
 | r::_,some l=>if (on==(e.kind==1))=true then l.hi.toNat else r.lo.toNat
 | _,_=>gap
def statD (D:DS) (id:Id2) (on:Bool) (j:Nat):DS:= { D with H:=mkH D (statO D id on),X:=J6 (mkE D (statO D id on)) D.X,made:=D.made+1,gap:=turnGap D.gap (entryF (mkH D (statO D id on)) j).1 on }
def YR (D:DS) (o:GOp):DS:= { D with H:=(putF D.H D.got o).1,X:=J6 (putF D.H D.got o).2.1 D.X,got:=D.got+1,put:=D.put.set o.c.toNat (putA D o.c+JC o),gap:=if (putF D.H D.got o).2.1.kind=1∧(putF D.H D.got o).2.1.at_<D.gap then D.gap+(JC (putF D.H D.got o).2.1).toNat else D.gap }
theorem Beh.zero (X:List Ce):Beh X 0 0:=⟨Nat.zero_le _,by simp [J8],fun _=>rfl,fun h=>absurd h (Nat.lt_irrefl _)⟩
theorem Pth.beh {X:List Ce} {p k:Nat} (h:Pth X p k) (hp:p<J8 X):Beh X (p+1) (k+1):=by
 obtain ⟨r,hr⟩:=h.at_ hp
 have hk:k<X.length:=by
  rcases Nat.lt_or_ge k X.length with h | h
  ·exact h
  ·rw [List.getElem?_eq_none h] at hr;cases hr
 have e:=List.getElem?_eq_getElem hk
 rw [e] at hr
 refine ⟨hk,?_,fun h=>by omega,fun _=>⟨r,by rw [Nat.add_sub_cancel,e,hr]⟩⟩
 rw [List.take_succ_eq_append_getElem hk,Km,h.ct,Option.some.inj hr]
 rfl
theorem behind_0 (M:DM) (D:DS) (ok:DkOk M D) (p:Nat) (hp:p=0):Sp Tryz.prog 49 [.pointer (some ⟨M.d,0,none⟩), .int .i64 p] [dkB M D,rpP M.b M.B] [TrF M.B M.t] (fun v Lo fs=> ∃k:Nat,Beh D.X p k∧v= .int .i64 k∧Lo= [dkB M D,rpP M.b M.B] ∧fs= []):=by
 have hvl:=Kn M.t.row
 have hwt:=ok.wt
 have htl:=ok.tl
 have hrow:=ok.row
 have hpl:=ok.pl
 refine Sp.of (n:=22) ⟨_,Tryz.func49,O,O,O,O⟩ (Nat.le_of_ble_eq_true O) fun Ps As=>Jc (Ja (Lq (Jd O) (Je (Jf (Jc (Jc (Ja (Lq (Jb O) (Lq (Ka O O) (Je (Jf (JQ O (by simp;omega) (Jc (Ja (Lq (Jd O) ?_)))))))))))))))
 refine Je (Jf (Jn (Jr ?_)))
 refine ⟨_,[_,_],[],fun Z w hs=> .tmp O .nil,?_,fun Z w hs=>hs.out (Sk2 (Sr)) (fun _ h=>h)⟩
 subst hp
 exact ⟨0,Beh.zero _,O,O,O⟩
theorem behind_1 (M:DM) (D:DS) (ok:DkOk M D) (q p:Nat) (hq:p=q+1) (hp:p≤J8 D.X):Sp Tryz.prog 49 [.pointer (some ⟨M.d,0,none⟩), .int .i64 p] [dkB M D,rpP M.b M.B] [TrF M.B M.t] (fun v Lo fs=> ∃k:Nat,Beh D.X p k∧v= .int .i64 k∧Lo= [dkB M D,rpP M.b M.B] ∧fs= []):=by
 have hvl:=Kn M.t.row
 have hwt:=ok.wt
 have htl:=ok.tl
 have hrow:=ok.row
 have hpl:=ok.pl
 have hvx:J8 M.t.row=J8 D.X:=by rw [hrow]
 refine Sp.of (n:=22) ⟨_,Tryz.func49,O,O,O,O⟩ (Nat.le_of_ble_eq_true O) fun Ps As=>Jc (Ja (Lq (Jd O) (Je (Jf (Jc (Jc (Ja (Lq (Jb O) (Lq (Ka O O) (Je (Jf (Jz O (by simp;omega) (Jp (Jf (Jc (Ja (Lq (Jb O) ?_)))))))))))))))))
 refine Lq (JB O) (Lq (Jh (o':=0) Un65 O Ym O O) (Lq (Jh (o':=1) Un58 O Gu O O) (Lq (Jj Un56 O O Jm O) (Lq (Jb O) (Lq (KS O O (by rw [wr64 (by omega)];omega) (c:=((q:Nat):Int))) (Jg O (JX (totalOf_g M.b M.B M.t hwt (by omega) q (by omega)) (.n2 O O) (by decide) .z1 (Jl Mm0 Jx) fun _ _ _ q9=>?_)))))))
 obtain ⟨k,hk,rfl,rfl,rfl⟩:=q9
 have hkl:=hk.le
 refine Lq (Jb O) (Lq (Jk (vs:= [_,_]) O O) (Lq (Jk (vs:= [_,_]) O O) (Lq (Jd O) (Lq (Jd O) (Je (Jf (Jc (Ja (Lq (Jb O) (Lq (JZ O O (wr64 (by omega)) (c:=((k+1:Nat):Int))) (Lq (Jd O) (Je (Jf (Jn ?_))))))))))))))
 refine ⟨_,[_,_],[],fun Z w hs=> .tmp O .nil,?_,fun Z w hs=>((hs.pick .z).pick .z1).out (Sk2 (Sr)) (fun _ h=>h)⟩
 rw [hrow] at hk
 exact ⟨k+1,by subst hq;exact hk.beh (by omega),O,O,O⟩
theorem EI (M:DM) (D:DS) (ok:DkOk M D) (p:Nat) (hp:p≤J8 D.X):Sp Tryz.prog 49 [.pointer (some ⟨M.d,0,none⟩), .int .i64 p] [dkB M D,rpP M.b M.B] [TrF M.B M.t] (fun v Lo fs=> ∃k:Nat,Beh D.X p k∧v= .int .i64 k∧Lo= [dkB M D,rpP M.b M.B] ∧fs= []):=by
 cases p with
 | zero=>exact behind_0 M D ok 0 rfl
 | succ q=>exact behind_1 M D ok q (q+1) rfl hp
theorem dkl17 {a b u cl ce op rec made x y:Value} {put:List Int} (h:put.length=9):17<(a::b::u::cl::ce::op::rec::made::(ints .i64 put++ [x,y])).length:=by
 have:(ints .i64 put).length=9:=by unfold ints;rw [List.length_map];exact h
 simp [this]
def gapD (D:DS) (k:Nat):DS:= { D with gap:=k }
theorem DkOk.gap {M:DM} {D:DS} (ok:DkOk M D) {k:Nat} (h:k≤D.X.length):DkOk M (gapD D k):=⟨ok.hr,ok.wt,ok.row,ok.hU,ok.hR,ok.di,ok.us,ok.pl,ok.p0,ok.lm,h,ok.rc,ok.md,ok.sl⟩
theorem move_0 (M:DM) (D:DS) (ok:DkOk M D) (p:Nat) (hp:p≤J8 D.X):Sp Tryz.prog 27 [.pointer (some ⟨M.d,0,none⟩), .int .i64 p] (Kv M D) (barF::KT M D) (fun v Lo fs=> ∃k,Beh D.X p k∧DkOk M (gapD D k)∧v= .nilIface∧Lo=Kv M (gapD D k)∧fs= []):=by
 have hvl:=Kn M.t.row
 have hwt:=ok.wt
 have htl:=ok.tl
 have hrow:=ok.row
 have hpl:=ok.pl
 refine Sp.ofD (n:=15) ⟨_,Tryz.func27,O,O,O,O⟩ (Nat.le_of_ble_eq_true O) fun Ps As=>Ja (Jg O (Jv (cs:= [_]) Ye O (by decide) fun b4=>Je ?_))
 refine ⟨O,_,_,_,_,_,catch_Move b4,DefReg.mk (.n1 O) (by decide),?_⟩
 refine Jc (Ja (JG (Jb O) (dl O) (JG (Jb O) (dl O) (Jg O (J4 (place_0 M.d M.h M.b _ _ _ _ _ _ _ _ _ M.B M.t hwt _ p (by rw [hrow];omega)) (.n3 O O O) (by first | exact dl O | decide) .z1 .z4 (Jl Mm3 Jx) fun _ _ _ q9=>?_)))))
 obtain ⟨rfl,rfl,rfl⟩:=q9
 refine Je (Jf (Jc (Ja (JG (Jb O) (dl O) (JG (Jb O) (dl O) (JG (Jb O) (dl O) (Jg O (J4 (EI M D ok p hp) (.n2 O O) (by first | exact dl O | decide) .z .z (Jl Mm3 Jx) fun _ _ _ q9=>?_))))))))
 obtain ⟨k,hk,rfl,rfl,rfl⟩:=q9
 refine JG (JB O) (dl O) (JG (Jh (o':=17) Un65 O ti3 O O) (dl O) (Jg O (K8 ti3 O O O (dkl17 hpl) .z ?_)))
 rw [dkset17 hpl]
 refine Je (Jf (Jc (Ja (Jg O (JN Ye O O O .z .z2 (Je (Jf (Jn ?_))))))))
 refine ⟨_,[_,_,_,_,_,_,_,_],[],fun Z w hs=>Kj hs Un29 O O (Ji (Ji (Jm))) O .nil,?_,fun Z w hs=>((((((((hs.pick .z8).pick .z8).pick .z8).pick .z4).pick .z8).pick .z8).pick .z8).pick .z7).out (Sk8 (Sd (Sr))) (fun _ h=>h)⟩
 exact ⟨k,hk,ok.gap hk.le,O,O,O⟩
theorem X9 (put:List Int):(ints .i64 put).length=put.length:=by unfold ints;rw [List.length_map]
theorem dkput {a b u cl ce op rec made x y:Value} {put:List Int} {c:Nat} (h:put.length=9) (hc:c<9):(a::b::u::cl::ce::op::rec::made::(ints .i64 put++ [x,y]))[8+c]? =some (.int .i64 (put.getD c 0)):=by
 have e:(a::b::u::cl::ce::op::rec::made::(ints .i64 put++ [x,y]))[8+c]? =(ints .i64 put++ [x,y])[c]? :=by rw [Nat.add_comm];rfl
 rw [e,List.getElem?_append_left (by rw [X9];omega)]
 unfold ints
 rw [List.getElem?_map,List.getD_eq_getElem?_getD,List.getElem?_eq_getElem (by omega)];rfl
theorem dklc {a b u cl ce op rec made x y:Value} {put:List Int} {c:Nat} (h:put.length=9) (hc:c<9):8+c<(a::b::u::cl::ce::op::rec::made::(ints .i64 put++ [x,y])).length:=by
 have:=X9 put
 simp [this];omega
theorem dksetc {a b u cl ce op rec made x y:Value} {put:List Int} {c:Nat} {v:Int} (h:put.length=9) (hc:c<9):(a::b::u::cl::ce::op::rec::made::(ints .i64 put++ [x,y])).set (8+c) (.int .i64 v)=a::b::u::cl::ce::op::rec::made::(ints .i64 (put.set c v)++ [x,y]):=by
 have e:(a::b::u::cl::ce::op::rec::made::(ints .i64 put++ [x,y])).set (8+c) (.int .i64 v)=a::b::u::cl::ce::op::rec::made::(ints .i64 put++ [x,y]).set c (.int .i64 v):=by rw [Nat.add_comm];rfl
 rw [e,List.set_append_left _ _ (by rw [X9];omega)]
 unfold ints;rw [List.map_set]
theorem DkOk.mk_ {M M2:DM} {D D2:DS} (ok:DkOk M D) (hr:HR D2.H M2.L) (wt:Wf M2.t) (row:M2.t.row=D2.X) (hU:Row 34 2 M2.vu D2.U.length (Kb idC D2.U) M2.pu) (hR:Row 34 2 M2.vr D2.R.length (Kb idC D2.R) M2.pr) (di:DI D2.H.ops.length D2.H D2.X) (us:D2.u=D.u) (lm:D2.ce=D.ce∧D2.op=D.op∧D2.cl=D.cl) (pl:D2.put.length=9) (p0: ∀x∈D2.put,0≤x∧x≤4096) (gp:D2.gap≤D2.X.length) (rc:D2.got≤D2.H.ops.length) (md:D2.made≤1024) (sl:D2.U.length+D2.R.length≤D2.made):DkOk M2 D2:=
 ⟨hr,wt,row,hU,hR,di,us ▸ ok.us,pl,p0,by rw [lm.1,lm.2.1,lm.2.2];exact ok.lm,gp,rc,md,sl⟩
theorem V0 {D:DS} {c:Nat} {v:Int} (h0: ∀x∈D.put,0≤x∧x≤4096) (hv:0≤v∧v≤4096): ∀x∈D.put.set c v,0≤x∧x≤4096:=fun x hx=>by
 rcases List.mem_or_eq_of_mem_set hx with hx | rfl
 ·exact h0 x hx
 ·exact hv
theorem bd49_1Xg12 (x1_:Int) (w:World):(Instr.build 37 #[(1, .int .i64 x1_)]).run Tryz.prog w= .ok (.agg #[.int .i64 0, .int .i64 0, .int .i64 x1_]) w:=by kernel_rfl
theorem bd52_0_1_2Xg12 (x0_0a0:Int) (x0_0a1:Int) (x0_1:Int) (x1_:Int) (x2_:ByteArray) (w:World):(Instr.build 40 #[(0, .agg #[.int .i64 x0_0a0, .int .i64 x0_0a1, .int .i64 x0_1]),(1, .int .i64 x1_),(2, .string x2_)]).run Tryz.prog w= .ok (.agg #[.int .i64 x0_0a0, .int .i64 x0_0a1, .int .i64 x0_1, .int .i64 x1_, .string x2_, .slice none 0 0, .int .i64 0, .int .i64 0, .bool false]) w:=by kernel_rfl
theorem insert_0 (M:DM) (D:DS) (ok:DkOk M D) (p:Nat) (hp:p≤J8 D.X) (text:ByteArray) (hts:text.size≤1048576) (hu:(utF text).2.2=0) (hu1:1≤(utF text).1∧(utF text).1≤256) (hmd:(D.made:Int)<D.op) (hce:putA D D.u+(utF text).1≤D.ce) (hmk: ∀k,Pth D.X p k→MkD D (insO D k text)) (hnU:(D.u,(D.made:Int)+1)∉D.U) (hnR:(D.u,(D.made:Int)+1)∉D.R):Sp Tryz.prog 13 [.pointer (some ⟨M.d,0,none⟩), .int .i64 p, .string text] (Kv M D) (barF::KT M D) (fun v Lo fs=> ∃(k:Nat) (M2:DM),Pth D.X p k∧M2.d=M.d∧DkOk M2 (insD D k text)∧v= .tuple #[opV (insO D k text) none 0, .nilIface] ∧Lo=Kv M2 (insD D k text)∧fs=KT M2 (insD D k text)):=by
 have hvl:=Kn M.t.row
 have hwt:=ok.wt
 have htl:=ok.tl
 have hrow:=ok.row
 have hpl:=ok.pl
 have hr:=ok.hr
 have hdi:=ok.di
 have hus:=ok.us
 have hlm:=ok.lm
 have hmd2:=ok.md
 have hsl:=ok.sl
 have hxl:=ok.xl
 have hpu:0≤putA D D.u∧putA D D.u≤4096:=by
  unfold putA
  rw [List.getD_eq_getElem?_getD,List.getElem?_eq_getElem (by omega)]
  exact ok.p0 _ (List.getElem_mem _)
 refine Sp.ofD (n:=105) ⟨_,Tryz.func13,O,O,O,O⟩ (Nat.le_of_ble_eq_true O) fun Ps As=>Ja (Jg O (Jv (cs:= [_,_,_,_,_,_,_,_,_]) JF O (by decide) fun b6=>Jg O (Jv (cs:= [_]) Ye O (by decide) fun b7=>Je ?_)))
 refine ⟨O,_,_,_,_,_,catch_Insert b6 b7,DefReg.mk (.n2 O O) (by decide),?_⟩
 refine Jc (Ja (JG (Jb O) (dl O) (JG (Jb O) (dl O) (Jg O (J4 (place_0 M.d M.h M.b _ _ _ _ _ _ _ _ _ M.B M.t hwt _ p (by rw [hrow];omega)) (.n3 O O O) (by first | exact dl O | decide) .z2 .z5 (Jl Mm3 Jx) fun _ _ _ q9=>?_)))))
 obtain ⟨rfl,rfl,rfl⟩:=q9
 refine Je (Jf (Jc (Ja (JG (Jb O) (dl O) (Jg O (Jo (QF text (by omega)) (.n1 O) (by first | exact dl O | decide) (Jl Mm0 Jx) fun _ _ _ q9=>?_))))))
 obtain ⟨rfl,rfl,rfl⟩:=q9
 rw [hu]
 refine JG (Jb O) (dl O) (JG (Jk (vs:= [_,_,_]) O O) (dl O) (JG (Jk (vs:= [_,_,_]) O O) (dl O) (JG (Jk (vs:= [_,_,_]) O O) (dl O) (JG (Jd O) (dl O) (JG (Jd O) (dl O) (JG (Jd O) (dl O) (Je (Jf (Jc (Ja (JG (Jb O) (dl O) (JG (Jb O) (dl O) ?_))))))))))))
 refine Jg O (Jo (give_0 _ _) (.n3 O O O) (by first | exact dl O | decide) Jx fun _ _ _ q9=>?_)
 obtain ⟨rfl,rfl,rfl⟩:=q9
 refine Je (Jf (Jc (JO (Jc (Ja (JG (Jb O) (dl O) (JG (Ka O O) (dl O) (JG (Jd O) (dl O) (Je (Jf (Jz O (by simp;omega) (Jc (Ja (JG (Jb O) (dl O) (JG (Ke O O) (dl O) (JG (Jd O) (dl O) ?_))))))))))))))))
 refine Je (Jf (Jz O (by simp;omega) (Jp (J9 (Jf (Jc (Ja (JG (Jb O) (dl O) (JG (Jb O) (dl O) (Jg O (JX (room_0 M.d M.h M.b _ _ _ _ _ _ _ _ _ _ p hmd) (.n3 O O O) (by first | exact dl O | decide) .z Jx fun _ _ _ q9=>?_)))))))))))
 obtain ⟨rfl,rfl,rfl⟩:=q9
 refine Je (Jf (Jc (Jc (K7 (JI _ _ [] (.c 0 0 (.c 1 0 (.c 2 0 (.c 3 0 (.c 4 0 (.c 5 0 (.c 6 0 (.c 7 0 (.c 8 0 (.c 9 0 (.c 10 0 (.c 11 0 (.c 12 0 (.c 13 0 (.c 14 0 (.c 15 0 (.c 16 0 .nil))))))))))))))))) mixed (fun _ _ _ _ h=>h) (Sk10 (Sr)) (fun _ h=>h) (by kernel_rfl) (by first | exact dl O | decide) fun ws Z0=>JE O (Jb O) (dl O) (JE O (Jb O) (dl O) (JE O (JB O) (dl O) (JE O (Jh (o':=2) Un65 O ti3 O O) (dl O) (JE O (Jj Un3 O O Jm O) (dl O) (JE O (JB O) (dl O) ?_))))))))))
 refine JE O (Jh (o':=8) Un65 O XP O O) (dl O) (JE O (KL (o':=8+D.u.toNat) Un63 ti3 O O (by omega) (by omega) (by omega)) (dl O) (JE O (Jj (v:= .int .i64 (D.put.getD D.u.toNat 0)) Un3 O O Jm (dkput hpl (by omega))) (dl O) (JE O (Jb O) (dl O) (JE O (JZ O O (wr64 (by have:=hpu;unfold putA at this;omega))) (dl O) (JE O (Jb O) (dl O) (JE O (JB O) (dl O) (JE O (Jh (o':=3) Un65 O QO O O) (dl O) (JE O (Jh (o':=4) Un23 O ti3 O O) (dl O) (JE O (Jj Un3 O O Jm O) (dl O) ?_)))))))))
 refine JE O (Ke O O) (dl O) (JJ (JK (Jf (Jz O (by simp;exact hce) (Jp (Jf (Jc (Ja (JG (Jb O) (dl O) (JG (JB O) (dl O) (JG (Jh (o':=0) Un65 O Ym O O) (dl O) (JG (Jh (o':=1) Un58 O Gu O O) (dl O) (JG (Jj Un56 O O Jm O) (dl O) ?_)))))))))))))
 refine JG (Jb O) (dl O) (Jg O (JX (totalOf_g M.b M.B M.t hwt (by omega) p (by rw [hrow];exact hp)) (.n2 O O) (by first | exact dl O | decide) .z1 (Jl Mm4 Jx) fun _ _ _ q9=>?_))
 obtain ⟨k,hk,rfl,rfl,rfl⟩:=q9
 rw [hrow] at hk
 replace hmk:=hmk k hk
 have hkl:=hk.le
 refine JG (Jb O) (dl O) (JG (Jk (vs:= [_,_]) O O) (dl O) (JG (Jk (vs:= [_,_]) O O) (dl O) (JG (Jd O) (dl O) (JG (Jd O) (dl O) (Je (Jf (Jc (Ja (JG (Jb O) (dl O) (JG (Jb O) (dl O) (Jg O (Jo (give_0 _ _) (.n3 O O O) (by first | exact dl O | decide) Jx fun _ _ _ q9=>?_))))))))))))
 obtain ⟨rfl,rfl,rfl⟩:=q9
 refine Je (Jf (Jc (Kf (A:=RdF rgD none 0 []) (fun Z w _=>RdS.nil _ Z w) (Ja (JG (Jb O) (dl O) (JG (JV (.n1 O) (bd49_1Xg12 _)) (dl O) (JG (Jb O) (dl O) (JG (Jb O) (dl O) (JG (JV (.n3 O O O) (bd52_0_1_2Xg12 _ _ _ _ _)) (dl O) ?_)))))))))
 refine Jg rfl (JW (G8 M.d M.h M.m M.b _ _ _ _ _ _ _ _ _ D.H M.L M.A M.cap M.B M.t D.H.ops.length D.X { zeroOp with kind:=1,at_:=k,text:=text } none 0 (mkH D (insO D k text)) (mkE D (insO D k text)) hr hwt hrow hdi hmk.tk (by omega)) (.n2 rfl rfl) (by first | exact dl rfl | decide) (.n5 .z1 .z3 .z3 .z3 .z) (Jl Mm2 (Jl Mm3 (Jl Mm4 (Jl Mm5 (Jl Mm0 Jx))))) fun _ _ _ q9=>?_)
 obtain ⟨L2,A2,cap2,B2,t2,rfl,hr2,wt2,hX2,rfl,rfl⟩:=q9
 have hn2:(mkH D (insO D k text)).ops.length=D.H.ops.length+1:=by rw [hmk.ops];simp
 refine Jg O (Jq (cs':= [_,_,_,_,_,_,_,_,_]) (vs:= [_,_,_,_,_,_,_,_,_]) JF O O O O O (Nat.le_of_ble_eq_true O) .z6 (Je (Jf (Jc (K7 (JI _ _ [14] (.c 0 0 (.c 1 0 (.c 2 0 (.c 3 0 (.c 4 0 (.c 5 0 (.c 6 0 (.c 7 0 (.c 8 0 (.c 9 0 (.c 10 0 (.c 11 0 (.c 12 0 (.c 13 0 (.c 14 3 .nil))))))))))))))) mixed (fun _ _ _ _ h=>h) (Sk10 (Sr)) (fun _ h=>h) (by kernel_rfl) (by first | exact dl O | decide) fun ws Z0=>JE O (Jb O) (dl O) (JE O (Jb O) (dl O) (JE O (JB O) (dl O) ?_))))))))
 refine JE O (Jh (o':=2) Un65 O ti3 O O) (dl O) (JE O (Jj Un3 O O Jm O) (dl O) (JE O (JB O) (dl O) (JE O (Jh (o':=8) Un65 O XP O O) (dl O) (JE O (KL (o':=8+D.u.toNat) Un63 ti3 O O (by omega) (by omega) (by omega)) (dl O) (JE O (Jj (v:= .int .i64 (D.put.getD D.u.toNat 0)) Un3 O O Jm (dkput hpl (by omega))) (dl O) (JE O (Jb O) (dl O) (JE O (JZ O O (wr64 (by have:=hpu;unfold putA at this;omega)) (c:=putA D D.u+(utF text).1)) (dl O) (JE O (JB O) (dl O) (JE O (Jh (o':=8) Un65 O XP O O) (dl O) ?_)))))))))
 refine JE O (KL (o':=8+D.u.toNat) Un63 ti3 O O (by omega) (by omega) (by omega)) (dl O) (JJ (J2 O O (K8 ti3 O O O (dklc hpl (by omega)) .z ?_)))
 rw [dksetc hpl (by omega)]
 refine JK (Jf (Jc (K7 (JI _ _ [] (.c 0 0 (.c 1 0 (.c 2 0 (.c 3 0 (.c 4 0 (.c 5 0 (.c 6 0 (.c 7 2 .nil)))))))) mixed (fun _ _ _ _ h=>h) (Sk7 (Sd3 (Sr))) (fun _ h=>h) (by kernel_rfl) (by first | exact dl O | decide) fun ws Z0=>JE O (Jb O) (dl O) (JE O (JB O) (dl O) (JE O (Jh (o':=18) Un65 O EN O O) (dl O) (JE O (Jj Un61 O O Jm (dk18 (by rw [List.length_set];exact hpl))) (dl O) (JE O (Jh (o':=0) Un40 O KI O O) (dl O) ?_))))))))
 refine JE O (Jh (o':=0) Un37 O JY O O) (dl O) (JE O (Jw (vs:= [_,_]) Un34 O JY O (Ji (Ji (Ji (Ji (Ji (Ji (Jm))))))) O O) (dl O) (Js O O (Ky (Jap M.s M.vu M.vr M.pu M.pr D.U D.R ok.hU ok.hR (by omega) (by omega) D.u ((D.made:Int)+1) (by omega) hnU hnR) (.n2 O O) (by first | exact dl O | decide) .z7 .z7 .z7 Jx fun _ _ _ q9=>?_)))
 obtain ⟨vu2,pu2,hU2,rfl,rfl,rfl⟩:=q9
 refine ⟨⟨(Sd3 (Sk7 (Sr))),Mm0⟩,?_⟩
 refine JJ (JK (Jf (Jc (Ja (JG (Jb O) (dl O) (JG (Jb O) (dl O) (JG (Jb O) (dl O) (JG (JZ O O (by rw [wr64 (by omega)];omega) (c:=((k+(utF text).1.toNat:Nat):Int))) (dl O) (JG (JB O) (dl O) (JG (Jh (o':=17) Un65 O ti3 O O) (dl O) (Jg O (K8 ti3 O O O (dkl17 (by rw [List.length_set];exact hpl)) .z3 ?_))))))))))))
 rw [dkset17 (by rw [List.length_set];exact hpl)]
 refine Je (Jf (JL [(7,_),(6,_)] (.m2 O O) (Jc (Ja (JG (Jw (vs:= [_,_,_,_,_,_,_,_,_]) Un40 O JF O (Ji (Ji (Ji (Ji (Ji (Ji (Ji (Ji (Ji (Jm)))))))))) O O) (dl O) (Jg O (Jq (cs':= [_,_,_,_,_,_,_,_,_]) (vs:= [_,_,_,_,_,_,_,_,_]) JF O O O O O (Nat.le_of_ble_eq_true O) .z9 (Jg O (JN Ye O O O .z .z8 (Je (Jf (Jn ?_))))))))))))
 refine ⟨_,[_,_,_,_,_,_,_,_],[_,_,_],fun Z w hs=>JS hs Un40 O JF O (Ji (Ji (Ji (Ji (Ji (Ji (Ji (Ji (Ji (Jm)))))))))) O (Kj hs Un29 O O (Ji (Ji (Ji (Ji (Ji (Ji (Ji (Ji (Jm))))))))) O .nil),?_,fun Z w hs=>((((((((hs.pick .z2).pick .z2).pick .z2).pick .z7).pick .z7).pick .z7).pick .z7).pick .z7).out (Sk8 (Sd2 (Sr))) (Jl Mm2 (Jl Mm3 (Jl Mm4 Tt7)))⟩
 have hw:(JC (insO D k text)).toNat=(utF text).1.toNat:=by unfold JC;rw [if_pos (show (insO D k text).kind=1 from rfl)];rfl
 have hlen:=hmk.len
 have hok2:DkOk ⟨M.d,M.h,M.m,M.b,M.s,A2,cap2,B2,t2,L2,vu2, .slice none 0 0,pu2,[]⟩ (insD D k text):=ok.mk_ hr2 wt2 hX2 hU2 (Row.nil _ _) (by show DI (mkH D (insO D k text)).ops.length _ _;rw [hn2];exact hmk.di) rfl ⟨rfl,rfl,rfl⟩ (by show (D.put.set _ _).length=9;rw [List.length_set];exact hpl) (V0 ok.p0 (by omega)) (by show k+_≤(J6 (mkE D (insO D k text)) D.X).length;omega) (by show D.got≤(mkH D (insO D k text)).ops.length;have:=ok.rc;omega) (by show D.made+1≤1024;omega) (by show (D.U++ [_]).length+0≤D.made+1;simp;omega)
 refine ⟨k,_,hk,?_,hok2,O,O,O⟩
 rfl
theorem bd49_1Xg13 (x1_:Int) (w:World):(Instr.build 37 #[(1, .int .i64 x1_)]).run Tryz.prog w= .ok (.agg #[.int .i64 0, .int .i64 0, .int .i64 x1_]) w:=by kernel_rfl
theorem bd52_0_3Xg13 (x0_0a0:Int) (x0_0a1:Int) (x0_1:Int) (x3_A:Option Addr) (x3_n x3_c:Nat) (w:World):(Instr.build 40 #[(0, .agg #[.int .i64 x0_0a0, .int .i64 x0_0a1, .int .i64 x0_1]),(3, .slice x3_A x3_n x3_c)]).run Tryz.prog w= .ok (.agg #[.int .i64 x0_0a0, .int .i64 x0_0a1, .int .i64 x0_1, .int .i64 0, .string ⟨#[]⟩, .slice x3_A x3_n x3_c, .int .i64 0, .int .i64 0, .bool false]) w:=by kernel_rfl
theorem delete_0 (M:DM) (D:DS) (ok:DkOk M D) (p n:Nat) (hn0:0<n) (hpn:p+n≤J8 D.X) (hmd:(D.made:Int)<D.op) (hmk: ∀xs,VisR p n D.X xs→MkD D (hideO D xs)∧p≤J8 (J6 (mkE D (hideO D xs)) D.X)) (hnU:(D.u,(D.made:Int)+1)∉D.U) (hnR:(D.u,(D.made:Int)+1)∉D.R):Sp Tryz.prog 14 [.pointer (some ⟨M.d,0,none⟩), .int .i64 p, .int .i64 n] (Kv M D) (barF::KT M D) (fun v Lo fs=> ∃(xs:List Rg) (k:Nat) (M2:DM) (A9:Option Addr) (c9:Nat),VisR p n D.X xs∧Beh (J6 (mkE D (hideO D xs)) D.X) p k∧M2.d=M.d∧DkOk M2 (hideD D xs k)∧v= .tuple #[opV (hideO D xs) A9 c9, .nilIface] ∧Lo=Kv M2 (hideD D xs k)∧fs=KT M2 (hideD D xs k)++ [RdF rgD A9 c9 xs]):=by
 have hvl:=Kn M.t.row
 have hwt:=ok.wt
 have htl:=ok.tl
 have hrow:=ok.row
 have hpl:=ok.pl
 have hr:=ok.hr
 have hdi:=ok.di
 have hus:=ok.us
 have hlm:=ok.lm
 have hmd2:=ok.md
 have hsl:=ok.sl
 have hxl:=ok.xl
 have hpu:0≤putA D D.u∧putA D D.u≤4096:=by
  unfold putA
  rw [List.getD_eq_getElem?_getD,List.getElem?_eq_getElem (by omega)]
  exact ok.p0 _ (List.getElem_mem _)
 have hvx:=Kn D.X
 refine Sp.ofD (n:=68) ⟨_,Tryz.func14,O,O,O,O⟩ (Nat.le_of_ble_eq_true O) fun Ps As=>Ja (Jg O (Jv (cs:= [_,_,_,_,_,_,_,_,_]) JF O (by decide) fun b6=>Jg O (Jv (cs:= [_]) Ye O (by decide) fun b7=>Je ?_)))
 refine ⟨O,_,_,_,_,_,catch_Delete b6 b7,DefReg.mk (.n2 O O) (by decide),?_⟩
 refine Jc (Ja (JG (Jb O) (dl O) (JG (Jb O) (dl O) (Jg O (J4 (place_0 M.d M.h M.b _ _ _ _ _ _ _ _ _ M.B M.t hwt _ p (by rw [hrow];omega)) (.n3 O O O) (by first | exact dl O | decide) .z2 .z5 (Jl Mm3 Jx) fun _ _ _ q9=>?_)))))
 obtain ⟨rfl,rfl,rfl⟩:=q9
 refine Je (Jf (Jc (Jc (Ja (JG (Jb O) (dl O) (JG (Jb O) (dl O) (JG (JB O) (dl O) (JG (Jh (o':=0) Un65 O Ym O O) (dl O) (Jg O (J4 (K1 M.d M.h M.b _ _ M.B M.t hwt) (.n1 O) (by first | exact dl O | decide) .z .z (Jl Mm3 Jx) fun _ _ _ q9=>?_))))))))))
 obtain ⟨rfl,rfl,rfl⟩:=q9
 refine JG (Jb O) (dl O) (JG (KS O O (wr64 (by rw [hrow];omega)) (c:=(J8 M.t.row:Int)-p)) (dl O) (Jg O (Jo (KG _ _ _) (.n3 O O O) (by first | exact dl O | decide) Jx fun _ _ _ q9=>?_)))
 obtain ⟨rfl,rfl,rfl⟩:=q9
 refine JG (KC O) (dl O) (Je (Jf (Jz O (by rw [hrow,decide_eq_true (by omega)];rfl) (Jp (Jf (Jc (Jc (Ja (JG (Jb O) (dl O) (JG (Ka O O) (dl O) (Je (Jf (Jz O (by simp;omega) (Jp (Jf (Jc (Ja (JG (Jb O) (dl O) ?_))))))))))))))))))
 refine JG (Jb O) (dl O) (Jg O (JX (room_0 M.d M.h M.b _ _ _ _ _ _ _ _ _ _ p hmd) (.n3 O O O) (by first | exact dl O | decide) .z Jx fun _ _ _ q9=>?_))
 obtain ⟨rfl,rfl,rfl⟩:=q9
 refine Je (Jf (Jc (Ja (JG (Jb O) (dl O) (JG (JB O) (dl O) (JG (Jh (o':=0) Un65 O Ym O O) (dl O) (JG (Jh (o':=1) Un58 O Gu O O) (dl O) (JG (Jj Un56 O O Jm O) (dl O) (JG (Jb O) (dl O) (JG (Jb O) (dl O) (JG (Jb O) (dl O) (JG (JZ O O (wr64 (by omega)) (c:=((p+n:Nat):Int))) (dl O) ?_))))))))))))
 refine Jg O (JX (Hw M.b M.B M.t hwt htl p n (by rw [hrow];exact hpn)) (.n3 O O O) (by first | exact dl O | decide) .z1 (Jl Mm3 Jx) fun _ _ _ q9=>?_)
 obtain ⟨A9,c9,xs,hV,rfl,rfl,rfl⟩:=q9
 rw [hrow] at hV
 obtain ⟨hmk,hp2⟩:=hmk xs hV
 refine JG (Jb O) (dl O) (JG (Jk (vs:= [_,_]) O O) (dl O) (JG (Jk (vs:= [_,_]) O O) (dl O) (JG (Jd O) (dl O) (JG (Jd O) (dl O) (Je (Jf (Jc (Ja (JG (Jb O) (dl O) (JG (Jb O) (dl O) (Jg O (Jo (give_0 _ _) (.n3 O O O) (by first | exact dl O | decide) Jx fun _ _ _ q9=>?_))))))))))))
 obtain ⟨rfl,rfl,rfl⟩:=q9
 refine Je (Jf (Jc (Ja (JG (Jb rfl) (dl rfl) (JG (JV (.n1 rfl) (bd49_1Xg13 _)) (dl rfl) (JG (Jb rfl) (dl rfl) (JG (JV (.n2 rfl rfl) (bd52_0_3Xg13 _ _ _ _ _ _)) (dl rfl) (Jg rfl (JW (G8 M.d M.h M.m M.b _ _ _ _ _ _ _ _ _ D.H M.L M.A M.cap M.B M.t D.H.ops.length D.X { zeroOp with kind:=2,rs:=xs } A9 c9 (mkH D (hideO D xs)) (mkE D (hideO D xs)) hr hwt hrow hdi hmk.tk (by omega)) (.n2 rfl rfl) (by first | exact dl rfl | decide) (.n5 .z1 .z3 .z3 .z3 .z) (Jl Mm1 (Jl Mm2 (Jl Mm3 (Jl Mm4 (Jl Mm0 Jx))))) fun _ _ _ q9=>?_)))))))))
 obtain ⟨L2,A2,cap2,B2,t2,rfl,hr2,wt2,hX2,rfl,rfl⟩:=q9
 have hn2:(mkH D (hideO D xs)).ops.length=D.H.ops.length+1:=by rw [hmk.ops];simp
 refine Jg O (Jq (cs':= [_,_,_,_,_,_,_,_,_]) (vs:= [_,_,_,_,_,_,_,_,_]) JF O O O O O (Nat.le_of_ble_eq_true O) .z6 (Je (Jf (Jc (K7 (JI _ _ [] (.c 0 0 (.c 1 0 (.c 2 0 (.c 3 0 (.c 4 0 (.c 5 0 (.c 6 0 (.c 7 2 .nil)))))))) mixed (fun _ _ _ _ h=>h) (Sk7 (Sd3 (Sr))) (fun _ h=>h) (by kernel_rfl) (by first | exact dl O | decide) fun ws Z0=>JE O (Jb O) (dl O) (JE O (JB O) (dl O) (JE O (Jh (o':=18) Un65 O EN O O) (dl O) ?_))))))))
 refine JE O (Jj Un61 O O Jm (dk18 hpl)) (dl O) (JE O (Jh (o':=0) Un40 O KI O O) (dl O) (JE O (Jh (o':=0) Un37 O JY O O) (dl O) (JE O (Jw (vs:= [_,_]) Un34 O JY O (Ji (Ji (Ji (Ji (Ji (Ji (Jm))))))) O O) (dl O) (Js O O (Ky (Jap M.s M.vu M.vr M.pu M.pr D.U D.R ok.hU ok.hR (by omega) (by omega) D.u ((D.made:Int)+1) (by omega) hnU hnR) (.n2 O O) (by first | exact dl O | decide) .z7 .z7 .z7 Jx fun _ _ _ q9=>?_)))))
 obtain ⟨vu2,pu2,hU2,rfl,rfl,rfl⟩:=q9
 refine ⟨⟨(Sd3 (Sk7 (Sr))),Mm0⟩,?_⟩
 refine JJ (JK (Jf (Jc ?_)))
 have hw:(JC (hideO D xs)).toNat=0:=by unfold JC;rw [if_neg (show ¬(hideO D xs).kind=1 by show ¬(2:Int)=1;decide)];rfl
 have hlen:=hmk.len
 have hgp:=ok.gp
 have hok2:DkOk ⟨M.d,M.h,M.m,M.b,M.s,A2,cap2,B2,t2,L2,vu2, .slice none 0 0,pu2,[]⟩ (hideD D xs D.gap):=ok.mk_ hr2 wt2 hX2 hU2 (Row.nil _ _) (by show DI (mkH D (hideO D xs)).ops.length _ _;rw [hn2];exact hmk.di) rfl ⟨rfl,rfl,rfl⟩ hpl ok.p0 (by show D.gap≤(J6 (mkE D (hideO D xs)) D.X).length;omega) (by show D.got≤(mkH D (hideO D xs)).ops.length;have:=ok.rc;omega) (by show D.made+1≤1024;omega) (by show (D.U++ [_]).length+0≤D.made+1;simp;omega)
 refine Ja (JG (Jb O) (dl O) (JG (Jb O) (dl O) (JG (Jb O) (dl O) (Jg O (J4 (EI _ _ hok2 p hp2) (.n2 O O) (by first | exact dl O | decide) .z3 .z6 (Jl Mm3 Jx) fun _ _ _ q9=>?_)))))
 obtain ⟨k,hk,rfl,rfl,rfl⟩:=q9
 refine JG (JB O) (dl O) (JG (Jh (o':=17) Un65 O ti3 O O) (dl O) (Jg O (K8 ti3 O O O (dkl17 hpl) .z ?_)))
 rw [dkset17 hpl]
 refine Je (Jf (Jc (Ja (JG (Jw (vs:= [_,_,_,_,_,_,_,_,_]) Un40 O JF O (Ji (Ji (Ji (Ji (Ji (Ji (Ji (Ji (Ji (Jm)))))))))) O O) (dl O) (Jg O (Jq (cs':= [_,_,_,_,_,_,_,_,_]) (vs:= [_,_,_,_,_,_,_,_,_]) JF O O O O O (Nat.le_of_ble_eq_true O) .z9 (Jg O (JN Ye O O O .z .z8 (Je (Jf (Jn ?_)))))))))))
 refine ⟨_,[_,_,_,_,_,_,_,_],[_,_,_,_],fun Z w hs=>JS hs Un40 O JF O (Ji (Ji (Ji (Ji (Ji (Ji (Ji (Ji (Ji (Jm)))))))))) O (Kj hs Un29 O O (Ji (Ji (Ji (Ji (Ji (Ji (Ji (Ji (Jm))))))))) O .nil),?_,fun Z w hs=>((((((((hs.pick .z4).pick .z4).pick .z4).pick .z4).pick .z7).pick .z7).pick .z7).pick .z7).out (Sk8 (Sd2 (Sr))) Tt1⟩
 refine ⟨xs,k,_,_,_,hV,hk,?_,hok2.gap hk.le,O,O,O⟩
 rfl
theorem bd49_1Xg14 (x1_:Int) (w:World):(Instr.build 37 #[(1, .int .i64 x1_)]).run Tryz.prog w= .ok (.agg #[.int .i64 0, .int .i64 0, .int .i64 x1_]) w:=by kernel_rfl
theorem bd52_0_4_5Xg14 (x0_0a0:Int) (x0_0a1:Int) (x0_1:Int) (x4_a0:Int) (x4_a1:Int) (x5_:Bool) (w:World):(Instr.build 40 #[(0, .agg #[.int .i64 x0_0a0, .int .i64 x0_0a1, .int .i64 x0_1]),(4, .agg #[.int .i64 x4_a0, .int .i64 x4_a1]),(5, .bool x5_)]).run Tryz.prog w= .ok (.agg #[.int .i64 x0_0a0, .int .i64 x0_0a1, .int .i64 x0_1, .int .i64 0, .string ⟨#[]⟩, .slice none 0 0, .int .i64 x4_a0, .int .i64 x4_a1, .bool x5_]) w:=by kernel_rfl
theorem VA (M:DM) (D:DS) (ok:DkOk M D) (i0 i1:Int) (on:Bool) (j:Nat) (hmd:(D.made:Int)<D.op) (hmk:MkD D (statO D (i0,i1) on)) (hj:j<(mkH D (statO D (i0,i1) on)).ents.length) (hw2:J5 (mkH D (statO D (i0,i1) on)).ents i0 i1=some j) (hne:(entE ((mkH D (statO D (i0,i1) on)).ents[j])).rs≠ []) (hrl:(entE ((mkH D (statO D (i0,i1) on)).ents[j])).rs.length≤100000) (hrs: ∀r∈(entE ((mkH D (statO D (i0,i1) on)).ents[j])).rs,0≤r.lo∧r.lo<r.hi∧r.hi≤(J6 (mkE D (statO D (i0,i1) on)) D.X).length):Sp Tryz.prog 54 [.pointer (some ⟨M.d,0,none⟩), .agg #[.int .i64 i0, .int .i64 i1], .bool on] (Kv M D) (barF::KT M D) (fun v Lo fs=> ∃(M2:DM),M2.d=M.d∧DkOk M2 (statD D (i0,i1) on j)∧v=opV (statO D (i0,i1) on) none 0∧Lo=Kv M2 (statD D (i0,i1) on j)∧fs=KT M2 (statD D (i0,i1) on j)):=by
 have hvl:=Kn M.t.row
 have hwt:=ok.wt
 have htl:=ok.tl
 have hrow:=ok.row
 have hpl:=ok.pl
 have hr:=ok.hr
 have hdi:=ok.di
 have hus:=ok.us
 have hlm:=ok.lm
 have hmd2:=ok.md
 have hsl:=ok.sl
 have hxl:=ok.xl
 have hpu:0≤putA D D.u∧putA D D.u≤4096:=by
  unfold putA
  rw [List.getD_eq_getElem?_getD,List.getElem?_eq_getElem (by omega)]
  exact ok.p0 _ (List.getElem_mem _)
 refine Sp.of (n:=68) ⟨_,Tryz.func54,O,O,O,O⟩ (Nat.le_of_ble_eq_true O) fun Ps As=>Jc (Ja (Jg O (J1 (cs:= [_,_]) O O (by decide) fun b4=>Jg O (Jv (cs:= [_,_,_,_,_,_,_,_,_]) JF O (by decide) fun b6=>Je (Jf (Jc (Kf (A:=RdF rgD none 0 []) (fun Z w _=>RdS.nil _ Z w) (Ja (Lq (Jb O) (Lq (JV (.n1 O) (bd49_1Xg14 _)) (Lq (Jw (vs:= [_,_]) Un34 O JY O (Ji (Jm)) O O) ?_)))))))))))
 refine Lq (Jb rfl) (Lq (JV (.n3 rfl rfl rfl) (bd52_0_4_5Xg14 _ _ _ _ _ _)) (Jg rfl (JW (G8 M.d M.h M.m M.b _ _ _ _ _ _ _ _ _ D.H M.L M.A M.cap M.B M.t D.H.ops.length D.X { zeroOp with kind:=4,tc:=i0,tn:=i1,on:=on } none 0 (mkH D (statO D (i0,i1) on)) (mkE D (statO D (i0,i1) on)) hr hwt hrow hdi hmk.tk (by omega)) (.n2 rfl rfl) (by decide) (.n5 .z2 .z2 .z2 .z2 .z2) (Jl Mm1 (Jl Mm2 (Jl Mm3 (Jl Mm4 (Jl Mm0 Jx))))) fun _ _ _ q9=>?_)))
 obtain ⟨L2,A2,cap2,B2,t2,rfl,hr2,wt2,hX2,rfl,rfl⟩:=q9
 have hn2:(mkH D (statO D (i0,i1) on)).ops.length=D.H.ops.length+1:=by rw [hmk.ops];simp
 refine Jg O (Jv (cs:= [_,_,_,_,_,_,_,_,_]) JF O (by decide) fun b7=>Jg O (Jq (cs':= [_,_,_,_,_,_,_,_,_]) (vs:= [_,_,_,_,_,_,_,_,_]) JF O O O O O (Nat.le_of_ble_eq_true O) .z (Je (Jf (Jc (JI _ _ [] (.c 0 0 (.c 1 0 (.c 2 0 (.c 3 0 (.c 4 0 (.c 5 0 (.c 6 2 (.c 7 0 (.c 8 0 (.c 9 0 (.c 10 0 (.c 11 0 .nil)))))))))))) mixed (fun _ _ _ _ h=>h) (Sk2 (Sd3 (Sk6 (Sr)))) (fun _ h=>h) (by kernel_rfl) (by decide) fun ws Z0=>Qe O (Jb O) (Qe O (JB O) (Qe O (Jh (o':=0) Un65 O Ym O O) ?_))))))))
 refine Qe O (Jh (o':=0) Un58 O Vm O O) (Qe O (Jj Un55 O O (Ji (Jm)) O) (Qe O (Jw (vs:= [_,_]) Un34 O JY O (Ji (Ji (Ji (Ji (Jm))))) O O) (Js O O (Ky (Zt M.h M.m cap2 A2 (mkH D (statO D (i0,i1) on)) L2 hr2 i0 i1 j hw2) (.n2 O O) (by decide) .z2 .z2 .z2 Jx fun _ _ _ q9=>?_))))
 obtain ⟨rfl,rfl,rfl⟩:=q9
 refine ⟨⟨(Sd3 (Sk8 (Sr))),Mm0⟩,?_⟩
 refine Qe O (Jb O) (Qe O (Jk (vs:= [_,_]) O O) (Qe O (Jk (vs:= [_,_]) O O) (Qe O (Jd O) (Qe O (Jd O) (JJ (JK (Jf (Jc (Ja (Lq (Jb O) (Lq (JB O) (Lq (Jh (o':=0) Un65 O Ym O O) ?_))))))))))))
 refine Lq (Jh (o':=0) Un58 O Vm O O) (Lq (Jj Un55 O O (Ji (Ji (Ji (Ji (Jm))))) O) (Lq (Jb O) (Jg O (Ky (VG M.h M.m cap2 A2 (mkH D (statO D (i0,i1) on)) L2 hr2 j) (.n2 O O) (by decide) .z .z .z (Jl Mm1 (Jl Mm2 Jx)) fun _ _ _ q9=>?_))))
 obtain ⟨A1,c1,rfl,rfl,rfl⟩:=q9
 rw [Yj hj]
 generalize hen:entE ((mkH D (statO D (i0,i1) on)).ents[j])=en at hne hrl hrs ⊢
 dsimp only
 refine Lq (Jb O) (Lq (Jk (vs:= [_,_]) O O) (Lq (Jk (vs:= [_,_]) O O) (Jg O (Jv (cs:= [_,_,_,_,_,_,_]) YI O (by decide) fun b10=>Jg O (Jq (cs':= [_,_,_,_,_,_,_]) (vs:= [_,_,_,_,_,_,_]) YI O O O O O (Nat.le_of_ble_eq_true O) .z (Lq (Jd O) (Je (Jf (Jc (Jc (Ja (Lq (Jh (o':=4) Un117 O Yd O O) (Lq (Jj Un38 O O Jm O) (Lq (J7 Un38 O) ?_))))))))))))))
 refine Lq (Jd O) (Je (Jf (Jc (Ja (Lq (Jb O) (Lq (Ke O O) (Je (Jf (JQ O (by have:=List.length_pos_iff.2 hne;simp;omega) (Jc (Ja (Lq (Jb O) (Lq (Jh (o':=2) Un117 O Yu O O) (Lq (Jj Un35 O O Jm O) ?_))))))))))))))
 refine Lq (Ka O O) (Lq (q_beql' Un4 O O) (Je (Jf (Jy O (fun h48=> ?_) (fun h48=> ?_)))))
 ·have hlp:=List.length_pos_iff.2 hne
  have hkl:en.rs.length-1<en.rs.length:=by omega
  have hlast:=hrs _ (List.getElem_mem hkl)
  refine Kh (k:=(en.rs.length-1)) Mm0 (List.getElem?_eq_getElem hkl) (rg_open _) fun b7 q7 y7 e7=> ?_
  cases e7
  refine Ja (Lq (Jb O) (Lq (Jh (o':=4) Un117 O Yd O O) (Lq (Jj Un38 O O Jm O) (Lq (Jb O) (Lq (KS O O (by rw [wr64 (by have:=hlp;omega)];omega) (c:=((en.rs.length-1:Nat):Int))) (Lq (Kc Un38 KB O O (by omega) (by omega)) (Lq (Jh (o':=_+1) Un143 O ti3 O O) (Lq (Ks (j:=1) Un3 O O Mm0 O O) (Lq (JB O) ?_)))))))))
  refine Lq (Jh (o':=17) Un65 O ti3 O O) (Jg O (K8 ti3 O O O (dkl17 hpl) .z5 ?_))
  rw [dkset17 hpl]
  refine Je (Jf (Jc (Ja (Lq (Jw (vs:= [_,_,_,_,_,_,_,_,_]) Un40 O JF O (Ji (Ji (Ji (Ji (Jm))))) O O) (Jg O (Jq (cs':= [_,_,_,_,_,_,_,_,_]) (vs:= [_,_,_,_,_,_,_,_,_]) JF O O O O O (Nat.le_of_ble_eq_true O) .z7 (Je (Jf (Jn ?_)))))))))
  refine ⟨_,[_,_,_,_,_,_,_,_],[_,_,_],fun Z w hs=>JS hs Un40 O JF O (Ji (Ji (Ji (Ji (Ji (Ji (Ji (Jm)))))))) O .nil,?_,fun Z w hs=>((((((((hs.pick .z11).pick .z11).pick .z11).pick .z9).pick .z7).pick .z7).pick .z7).pick .z9).out (Sk8 (Sd4 (Sr))) (Jl Mm3 (Jl Mm4 (Jl Mm5 Tt7)))⟩
  have hg:turnGap D.gap (entryF (mkH D (statO D (i0,i1) on)) j).1 on=(en.rs[en.rs.length-1].hi).toNat:=by
   rw [Yj hj,hen]
   unfold turnGap
   obtain ⟨r0,rest,er⟩:=List.exists_cons_of_ne_nil hne
   have el:en.rs.getLast? =some en.rs[en.rs.length-1] :=by rw [List.getLast?_eq_getElem?,List.getElem?_eq_getElem]
   have e0:en.rs[0] =r0:=by simp only [er,List.getElem_cons_zero]
   rw [el]
   simp only [h48,if_true,er]
   try simp
  have hgt:((turnGap D.gap (entryF (mkH D (statO D (i0,i1) on)) j).1 on:Nat):Int)=en.rs[en.rs.length-1].hi:=by rw [hg];omega
  have hok2:DkOk ⟨M.d,M.h,M.m,M.b,M.s,A2,cap2,B2,t2,L2,M.vu,M.vr,M.pu,M.pr⟩ (statD D (i0,i1) on j):=ok.mk_ hr2 wt2 hX2 ok.hU ok.hR (by show DI (mkH D (statO D (i0,i1) on)).ops.length _ _;rw [hn2];exact hmk.di) rfl ⟨rfl,rfl,rfl⟩ hpl ok.p0 (by show turnGap D.gap (entryF (mkH D (statO D (i0,i1) on)) j).1 on≤(J6 (mkE D (statO D (i0,i1) on)) D.X).length;omega) (by show D.got≤(mkH D (statO D (i0,i1) on)).ops.length;have:=ok.rc;omega) (by show D.made+1≤1024;omega) (by show D.U.length+D.R.length≤D.made+1;omega)
  refine ⟨_,?_,hok2,O,?_,O⟩
  ·rfl
  ·show _=Kv ⟨M.d,M.h,M.m,M.b,M.s,A2,cap2,B2,t2,L2,M.vu,M.vr,M.pu,M.pr⟩ (statD D (i0,i1) on j)
   rw [←hgt]
   rfl
 ·have hlp:=List.length_pos_iff.2 hne
  have hfirst:=hrs _ (List.getElem_mem hlp)
  refine Kh (k:=0) Mm0 (List.getElem?_eq_getElem hlp) (rg_open _) fun b8 q8 y8 e8=> ?_
  cases e8
  refine Ja (Lq (Jb O) (Lq (Jh (o':=4) Un117 O Yd O O) (Lq (Jj Un38 O O Jm O) (Lq (Kc Un38 KB O O (by omega) (by omega)) (Lq (Jh (o':=_+0) Un143 O ti3 O O) (Lq (Ks (j:=0) Un3 O O Mm0 O O) (Lq (JB O) (Lq (Jh (o':=17) Un65 O ti3 O O) (Jg O (K8 ti3 O O O (dkl17 hpl) .z5 ?_))))))))))
  rw [dkset17 hpl]
  refine Je (Jf (Jc (Ja (Lq (Jw (vs:= [_,_,_,_,_,_,_,_,_]) Un40 O JF O (Ji (Ji (Ji (Ji (Jm))))) O O) (Jg O (Jq (cs':= [_,_,_,_,_,_,_,_,_]) (vs:= [_,_,_,_,_,_,_,_,_]) JF O O O O O (Nat.le_of_ble_eq_true O) .z7 (Je (Jf (Jn ?_)))))))))
  refine ⟨_,[_,_,_,_,_,_,_,_],[_,_,_],fun Z w hs=>JS hs Un40 O JF O (Ji (Ji (Ji (Ji (Ji (Ji (Ji (Jm)))))))) O .nil,?_,fun Z w hs=>((((((((hs.pick .z11).pick .z11).pick .z11).pick .z9).pick .z7).pick .z7).pick .z7).pick .z9).out (Sk8 (Sd4 (Sr))) (Jl Mm3 (Jl Mm4 (Jl Mm5 Tt7)))⟩
  have hg:turnGap D.gap (entryF (mkH D (statO D (i0,i1) on)) j).1 on=(en.rs[0].lo).toNat:=by
   rw [Yj hj,hen]
   unfold turnGap
   obtain ⟨r0,rest,er⟩:=List.exists_cons_of_ne_nil hne
   have el:en.rs.getLast? =some en.rs[en.rs.length-1] :=by rw [List.getLast?_eq_getElem?,List.getElem?_eq_getElem]
   have e0:en.rs[0] =r0:=by simp only [er,List.getElem_cons_zero]
   rw [el]
   simp only [h48,Bool.false_eq_true,if_false,er]
   try simp
  have hgt:((turnGap D.gap (entryF (mkH D (statO D (i0,i1) on)) j).1 on:Nat):Int)=en.rs[0].lo:=by rw [hg];omega
  have hok2:DkOk ⟨M.d,M.h,M.m,M.b,M.s,A2,cap2,B2,t2,L2,M.vu,M.vr,M.pu,M.pr⟩ (statD D (i0,i1) on j):=ok.mk_ hr2 wt2 hX2 ok.hU ok.hR (by show DI (mkH D (statO D (i0,i1) on)).ops.length _ _;rw [hn2];exact hmk.di) rfl ⟨rfl,rfl,rfl⟩ hpl ok.p0 (by show turnGap D.gap (entryF (mkH D (statO D (i0,i1) on)) j).1 on≤(J6 (mkE D (statO D (i0,i1) on)) D.X).length;omega) (by show D.got≤(mkH D (statO D (i0,i1) on)).ops.length;have:=ok.rc;omega) (by show D.made+1≤1024;omega) (by show D.U.length+D.R.length≤D.made+1;omega)
  refine ⟨_,?_,hok2,O,?_,O⟩
  ·rfl
  ·show _=Kv ⟨M.d,M.h,M.m,M.b,M.s,A2,cap2,B2,t2,L2,M.vu,M.vr,M.pu,M.pr⟩ (statD D (i0,i1) on j)
   rw [←hgt]
   rfl
theorem effect_y (h m cap:Nat) (A:Option Addr) (H:Hist) (L:List MR) (hr:HR H L) (i0 i1:Int) (k:Nat) (hw:J5 H.ents i0 i1=some k) (hk:k<H.ents.length) (hk4:H.ents[k].op.kind≠4) (on:Bool) (hoff:H.ents[k].off=on):Sp Tryz.prog 65 [.pointer (some ⟨h,0,none⟩), .agg #[.int .i64 i0, .int .i64 i1], .bool on] [hdP h A H.ops.length cap m H.total,mpP m L,mkP L] [RdF opD A cap H.ops,AllF L nowF] (fun u Lo fs=> ∃Ae ce,u= .tuple #[opV (turnF H.ents[k] on) Ae ce, .int .i64 0] ∧Lo= [hdP h A H.ops.length cap m H.total,mpP m L,mkP L] ∧fs= [RdF rgD Ae ce (turnF H.ents[k] on).rs]):=by
 refine (EA h m cap A H L hr i0 i1 k hw (fun e he=>by rw [List.getElem?_eq_getElem hk] at he;rw [←Option.some.inj he];exact hk4) on).mono ?_
 rintro u Lo fs ⟨_,Ae,ce,rfl,⟨_,rfl,rfl⟩ | ⟨hne,_,_⟩⟩
 ·exact ⟨Ae,ce,O,O,O⟩
 ·exact absurd hoff hne
theorem effect_x (h m cap:Nat) (A:Option Addr) (H:Hist) (L:List MR) (hr:HR H L) (i0 i1:Int) (on:Bool) (he:effE H (i0,i1) on≠0):Sp Tryz.prog 65 [.pointer (some ⟨h,0,none⟩), .agg #[.int .i64 i0, .int .i64 i1], .bool on] [hdP h A H.ops.length cap m H.total,mpP m L,mkP L] [RdF opD A cap H.ops,AllF L nowF] (fun u Lo fs=>u= .tuple #[opV zeroOp none 0, .int .i64 (effE H (i0,i1) on)] ∧Lo= [hdP h A H.ops.length cap m H.total,mpP m L,mkP L] ∧fs= []):=by
 cases hw:J5 H.ents i0 i1 with
 | none=>
  have e:effE H (i0,i1) on=60:=by unfold effE;rw [hw]
  rw [e];exact effect_n h m cap A H L hr i0 i1 hw on
 | some k=>
  obtain ⟨hk,_,_⟩:=KJ hw
  have e0:effE H (i0,i1) on=if H.ents[k].op.kind=4 then 63 else if H.ents[k].off=on then 0 else 62:=by unfold effE;rw [hw];simp only [List.getElem?_eq_getElem hk]
  by_cases h4:H.ents[k].op.kind=4
  ·rw [e0,if_pos h4]
   exact effect_4 h m cap A H L hr i0 i1 k hw (fun e he=>by rw [List.getElem?_eq_getElem hk] at he;rw [←Option.some.inj he];exact h4) on
  ·rw [e0,if_neg h4] at he ⊢
   by_cases ho:H.ents[k].off=on
   ·rw [if_pos ho] at he;exact absurd rfl he
   ·rw [if_neg ho]
    refine (EA h m cap A H L hr i0 i1 k hw (fun e he=>by rw [List.getElem?_eq_getElem hk] at he;rw [←Option.some.inj he];exact h4) on).mono ?_
    rintro u Lo fs ⟨_,Ae,ce,rfl,⟨hy,_,_⟩ | ⟨_,rfl,rfl⟩⟩
    ·exact absurd hy ho
    ·exact ⟨O,O,O⟩
structure TuD (D:DS) (i0 i1:Int) (on:Bool) (j:Nat):Prop where
 mkd:MkD D (statO D (i0,i1) on)
 hj:j<(mkH D (statO D (i0,i1) on)).ents.length
 hw:J5 (mkH D (statO D (i0,i1) on)).ents i0 i1=some j
 ne:(entE ((mkH D (statO D (i0,i1) on)).ents[j])).rs≠ []
 rl:(entE ((mkH D (statO D (i0,i1) on)).ents[j])).rs.length≤100000
 rs: ∀r∈(entE ((mkH D (statO D (i0,i1) on)).ents[j])).rs,0≤r.lo∧r.lo<r.hi∧r.hi≤(J6 (mkE D (statO D (i0,i1) on)) D.X).length
def undoD (D:DS):DS:= { D with U:=(upF (J0 D.H true) D.U D.R).2.1,R:=(upF (J0 D.H true) D.U D.R).2.2 }
def redoD (D:DS):DS:= { D with R:=(upF (J0 D.H false) D.R D.U).2.1,U:=(upF (J0 D.H false) D.R D.U).2.2 }
theorem XB (ok:Id2→Bool) (U R:List Id2):(upF ok U R).2.1.length+(upF ok U R).2.2.length=U.length+R.length:=by
 unfold upF
 cases hp:pickF ok U with
 | none=>rfl
 | some kx=>
  obtain ⟨hx,_⟩:=Y8 (ok:=ok) (l:=U) (k:=kx.1) (x:=kx.2) hp
  have hk:kx.1<U.length:=by
   rcases Nat.lt_or_ge kx.1 U.length with h | h
   ·exact h
   ·rw [List.getElem?_eq_none h] at hx;cases hx
  simp only [List.length_eraseIdx_of_lt hk,List.length_append,List.length_cons,List.length_nil]
  omega
theorem El {ok:Id2→Bool} {U R:List Id2} (h:(upF ok U R).1=none):upF ok U R=(none,U,R):=by
 unfold upF at h ⊢
 cases hp:pickF ok U with
 | none=>rfl
 | some kx=>rw [hp] at h;cases h
def RefN (M:DM) (D:DS) (u:Value→Value):Value→List Part→List Fact→Prop:=fun v Lo fs=> ∃(e:Value) (M2:DM),FltV e∧M2.d=M.d∧DkOk M2 D∧v=u e∧Lo=Kv M2 D∧fs=KT M2 D
theorem undo_n (M:DM) (D:DS) (ok:DkOk M D) (hmd:(D.made:Int)<D.op) (hx:(upF (J0 D.H true) D.U D.R).1=none):Sp Tryz.prog 18 [.pointer (some ⟨M.d,0,none⟩)] (Kv M D) (barF::KT M D) (RefN M D fun e=> .tuple #[opV zeroOp none 0,e]):=by
 have hvl:=Kn M.t.row
 have hwt:=ok.wt
 have htl:=ok.tl
 have hrow:=ok.row
 have hpl:=ok.pl
 have hr:=ok.hr
 have hdi:=ok.di
 have hus:=ok.us
 have hlm:=ok.lm
 have hmd2:=ok.md
 have hsl:=ok.sl
 have hxl:=ok.xl
 have hpu:0≤putA D D.u∧putA D D.u≤4096:=by
  unfold putA
  rw [List.getD_eq_getElem?_getD,List.getElem?_eq_getElem (by omega)]
  exact ok.p0 _ (List.getElem_mem _)
 have hlen:=XB (J0 D.H true) D.U D.R
 have hun:=El hx
 refine Sp.ofD (n:=27) ⟨_,Tryz.func18,O,O,O,O⟩ (Nat.le_of_ble_eq_true O) fun Ps As=>Ja (Jg O (Jv (cs:= [_,_,_,_,_,_,_,_,_]) JF O (by decide) fun b2=>Jg O (Jv (cs:= [_]) Ye O (by decide) fun b3=>Je ?_)))
 refine ⟨O,_,_,_,_,_,catch_Undo b2 b3,DefReg.mk (.n2 O O) (by decide),?_⟩
 refine Jc (Ja (JG (Jb O) (dl O) (Jg O (JX (room_0 M.d M.h M.b _ _ _ _ _ _ _ _ _ _ 0 hmd) (.n3 O O O) (by first | exact dl O | decide) .z2 Jx fun _ _ _ q9=>?_))))
 obtain ⟨rfl,rfl,rfl⟩:=q9
 refine Je (Jf (Jc (K7 (JI _ _ [14] (.c 0 0 (.c 1 0 (.c 2 0 (.c 3 0 (.c 4 0 (.c 5 0 (.c 6 0 (.c 7 0 (.c 8 0 (.b (.c 9 2 (.c 10 0 (.c 11 0 (.c 12 1 (.c 13 2 (.c 14 3 (.c 15 1 .nil))))))) (.c 13 2 (.c 9 2 (.c 10 0 (.c 11 0 (.c 12 1 (.c 14 3 (.c 15 1 .nil))))))))))))))))) mixed (fun _ _ _ _ h=>h) (Sk3 (Sd3 (Sk (Sd3 (Sr))))) (fun _ h=>h) (by kernel_rfl) (by first | exact dl O | decide) fun ws Z0=>JE O (Jb O) (dl O) (JE O (JB O) (dl O) (JE O (Jh (o':=18) Un65 O EN O O) (dl O) (JE O (Jj Un61 O O Jm (dk18 hpl)) (dl O) (JE O (Jb O) (dl O) ?_))))))))
 refine JE O (JB O) (dl O) (JE O (Jh (o':=0) Un65 O Ym O O) (dl O) (JE O (Jh (o':=0) Un58 O Vm O O) (dl O) (JE O (Jj Un55 O O Jm O) (dl O) (KN ?_ ?_))))
 ·refine Js O O (JW (XE M.h M.m M.cap M.A D.H M.L hr M.s M.vu M.vr M.pu M.pr D.U D.R ok.hU ok.hR (by omega) (by omega)) (.n2 O O) (by first | exact dl O | decide) (.n6 .z7 .z7 .z7 .z3 .z3 .z3) (Jl Mm2 (Jl Mm3 Jx)) fun _ _ _ q9=>?_)
  obtain ⟨vu2,pu2,vr2,pr2,hU2,hR2,rfl,rfl,rfl⟩:=q9
  rw [hx]
  refine ⟨⟨(Sd6 (Sk4 (Sr))),Mm0⟩,?_⟩
  refine JE O (Jb O) (dl O) (JE O (Jk (vs:= [_,_]) O O) (dl O) (YW O (Jk (vs:= [_,_]) O O) (dl O) (Js O O (Jv (cs:= [_,_]) JY O (by first | exact dl O | decide) fun b4=> ?_))))
  refine ⟨⟨(Sd7 (Sk4 (Sr))),Mm0⟩,?_⟩
  refine JJ (J2 O O (Jq (cs':= [_,_]) (vs:= [_,_]) JY O O O O O (Nat.le_of_ble_eq_true O) .z (YM O (Jd O) (dl O) (JK (Jf (Jc (Ja (JG (Jb O) (dl O) (Jg O (KD (give_e _ _ 70 (by first | exact dl O | decide)) (.n3 O O O) Jx fun _ _ _ q9=>?_))))))))))
  obtain ⟨hv,rfl,rfl⟩:=q9
  refine K9 ?_
  rw [hun] at hU2 hR2
  refine ⟨_,_,_,_,[_,_,_,_,_,_,_,_],[_,_,_],O,hv,⟨_,_,_,_,_,_,_,_,_,_,O⟩,fun Z w hs=>((hs.pick .z8).pick .z9),fun Z w hs=>JS hs Un40 O JF O Jm O (Kj hs Un29 O O (Ji Jm) O .nil),?_,fun Z w hs=>((((((((hs.pick .z5).pick .z5).pick .z5).pick .z10).pick .z9).pick .z9).pick .z9).pick .z10).out (Sk8 (Sd3 (Sr))) (Jl Mm2 (Jl Mm3 (Jl Mm4 Tt1)))⟩
  refine ⟨_,⟨M.d,M.h,M.m,M.b,M.s,M.A,M.cap,M.B,M.t,M.L,vu2,vr2,pu2,pr2⟩,hv,O,ok.mk_ hr hwt hrow hU2 hR2 hdi O ⟨O,O,O⟩ hpl ok.p0 ok.gp ok.rc ok.md ok.sl,O,O,O⟩
 ·refine Js O O (Jv (cs:= [_,_]) JY O (by first | exact dl O | decide) fun b4=> ?_)
  refine ⟨⟨(Sd (Sk3 (Sd3 (Sk (Sd3 (Sr)))))),Mm0⟩,?_⟩
  refine Js O O (JW (XE M.h M.m M.cap M.A D.H M.L hr M.s M.vu M.vr M.pu M.pr D.U D.R ok.hU ok.hR (by omega) (by omega)) (.n2 O O) (by first | exact dl O | decide) (.n6 .z8 .z8 .z8 .z4 .z4 .z4) (Jl Mm2 (Jl Mm3 Jx)) fun _ _ _ q9=>?_)
  obtain ⟨vu2,pu2,vr2,pr2,hU2,hR2,rfl,rfl,rfl⟩:=q9
  rw [hx]
  refine ⟨⟨(Sd7 (Sk4 (Sr))),Mm0⟩,?_⟩
  refine JE O (Jb O) (dl O) (JE O (Jk (vs:= [_,_]) O O) (dl O) (YW O (Jk (vs:= [_,_]) O O) (dl O) (JJ (J2 O O (Jq (cs':= [_,_]) (vs:= [_,_]) JY O O O O O (Nat.le_of_ble_eq_true O) .z6 (YM O (Jd O) (dl O) (JK (Jf (Jc (Ja (JG (Jb O) (dl O) (Jg O (KD (give_e _ _ 70 (by first | exact dl O | decide)) (.n3 O O O) Jx fun _ _ _ q9=>?_)))))))))))))
  obtain ⟨hv,rfl,rfl⟩:=q9
  refine K9 ?_
  rw [hun] at hU2 hR2
  refine ⟨_,_,_,_,[_,_,_,_,_,_,_,_],[_,_,_],O,hv,⟨_,_,_,_,_,_,_,_,_,_,O⟩,fun Z w hs=>((hs.pick .z8).pick .z9),fun Z w hs=>JS hs Un40 O JF O Jm O (Kj hs Un29 O O (Ji Jm) O .nil),?_,fun Z w hs=>((((((((hs.pick .z4).pick .z4).pick .z4).pick .z10).pick .z8).pick .z8).pick .z8).pick .z10).out (Sk8 (Sd3 (Sr))) (Jl Mm2 (Jl Mm3 (Jl Mm4 Tt1)))⟩
  refine ⟨_,⟨M.d,M.h,M.m,M.b,M.s,M.A,M.cap,M.B,M.t,M.L,vu2,vr2,pu2,pr2⟩,hv,O,ok.mk_ hr hwt hrow hU2 hR2 hdi O ⟨O,O,O⟩ hpl ok.p0 ok.gp ok.rc ok.md ok.sl,O,O,O⟩
theorem H1 (M:DM) (D:DS) (ok:DkOk M D) (hmd:(D.made:Int)<D.op) (i0 i1:Int) (j:Nat) (hx:(upF (J0 D.H true) D.U D.R).1=some (i0,i1)) (htu:TuD (undoD D) i0 i1 false j):Sp Tryz.prog 18 [.pointer (some ⟨M.d,0,none⟩)] (Kv M D) (barF::KT M D) (fun v Lo fs=> ∃(M2:DM),M2.d=M.d∧DkOk M2 (statD (undoD D) (i0,i1) false j)∧v= .tuple #[opV (statO (undoD D) (i0,i1) false) none 0, .nilIface] ∧Lo=Kv M2 (statD (undoD D) (i0,i1) false j)∧fs=KT M2 (statD (undoD D) (i0,i1) false j)):=by
 have hvl:=Kn M.t.row
 have hwt:=ok.wt
 have htl:=ok.tl
 have hrow:=ok.row
 have hpl:=ok.pl
 have hr:=ok.hr
 have hdi:=ok.di
 have hus:=ok.us
 have hlm:=ok.lm
 have hmd2:=ok.md
 have hsl:=ok.sl
 have hxl:=ok.xl
 have hpu:0≤putA D D.u∧putA D D.u≤4096:=by
  unfold putA
  rw [List.getD_eq_getElem?_getD,List.getElem?_eq_getElem (by omega)]
  exact ok.p0 _ (List.getElem_mem _)
 have hlen:=XB (J0 D.H true) D.U D.R
 refine Sp.ofD (n:=27) ⟨_,Tryz.func18,O,O,O,O⟩ (Nat.le_of_ble_eq_true O) fun Ps As=>Ja (Jg O (Jv (cs:= [_,_,_,_,_,_,_,_,_]) JF O (by decide) fun b2=>Jg O (Jv (cs:= [_]) Ye O (by decide) fun b3=>Je ?_)))
 refine ⟨O,_,_,_,_,_,catch_Undo b2 b3,DefReg.mk (.n2 O O) (by decide),?_⟩
 refine Jc (Ja (JG (Jb O) (dl O) (Jg O (JX (room_0 M.d M.h M.b _ _ _ _ _ _ _ _ _ _ 0 hmd) (.n3 O O O) (by first | exact dl O | decide) .z2 Jx fun _ _ _ q9=>?_))))
 obtain ⟨rfl,rfl,rfl⟩:=q9
 refine Je (Jf (Jc (K7 (JI _ _ [14] (.c 0 0 (.c 1 0 (.c 2 0 (.c 3 0 (.c 4 0 (.c 5 0 (.c 6 0 (.c 7 0 (.c 8 0 (.b (.c 9 2 (.c 10 0 (.c 11 0 (.c 12 1 (.c 13 2 (.c 14 3 (.c 15 1 .nil))))))) (.c 13 2 (.c 9 2 (.c 10 0 (.c 11 0 (.c 12 1 (.c 14 3 (.c 15 1 .nil))))))))))))))))) mixed (fun _ _ _ _ h=>h) (Sk3 (Sd3 (Sk (Sd3 (Sr))))) (fun _ h=>h) (by kernel_rfl) (by first | exact dl O | decide) fun ws Z0=>JE O (Jb O) (dl O) (JE O (JB O) (dl O) (JE O (Jh (o':=18) Un65 O EN O O) (dl O) (JE O (Jj Un61 O O Jm (dk18 hpl)) (dl O) (JE O (Jb O) (dl O) ?_))))))))
 refine JE O (JB O) (dl O) (JE O (Jh (o':=0) Un65 O Ym O O) (dl O) (JE O (Jh (o':=0) Un58 O Vm O O) (dl O) (JE O (Jj Un55 O O Jm O) (dl O) (KN ?_ ?_))))
 ·refine Js O O (JW (XE M.h M.m M.cap M.A D.H M.L hr M.s M.vu M.vr M.pu M.pr D.U D.R ok.hU ok.hR (by omega) (by omega)) (.n2 O O) (by first | exact dl O | decide) (.n6 .z7 .z7 .z7 .z3 .z3 .z3) (Jl Mm2 (Jl Mm3 Jx)) fun _ _ _ q9=>?_)
  obtain ⟨vu2,pu2,vr2,pr2,hU2,hR2,rfl,rfl,rfl⟩:=q9
  rw [hx]
  refine ⟨⟨(Sd6 (Sk4 (Sr))),Mm0⟩,?_⟩
  refine JE O (Jb O) (dl O) (JE O (Jk (vs:= [_,_]) O O) (dl O) (YW O (Jk (vs:= [_,_]) O O) (dl O) (Js O O (Jv (cs:= [_,_]) JY O (by first | exact dl O | decide) fun b4=> ?_))))
  refine ⟨⟨(Sd7 (Sk4 (Sr))),Mm0⟩,?_⟩
  refine JJ (J2 O O (Jq (cs':= [_,_]) (vs:= [_,_]) JY O O O O O (Nat.le_of_ble_eq_true O) .z (YM O (Jd O) (dl O) (JK (Jf (Jc (Ja (JG (Jb O) (dl O) (Jg O (Jo (give_0 _ _) (.n3 O O O) (by first | exact dl O | decide) Jx fun _ _ _ q9=>?_))))))))))
  obtain ⟨rfl,rfl,rfl⟩:=q9
  refine Je (Jf (Jc (Jt .z3 (Jt .z3 (Jt .z3 (Jt .z10 (Jt .z7 (Jt .z7 (Jt .z7 (Jt .z8 ?_))))))))))
  have hok1:DkOk ⟨M.d,M.h,M.m,M.b,M.s,M.A,M.cap,M.B,M.t,M.L,vu2,vr2,pu2,pr2⟩ (undoD D):=ok.mk_ hr hwt hrow hU2 hR2 hdi rfl ⟨rfl,rfl,rfl⟩ hpl ok.p0 ok.gp ok.rc ok.md (by show (upF (J0 D.H true) D.U D.R).2.1.length+(upF (J0 D.H true) D.U D.R).2.2.length≤D.made;omega)
  refine Ja (JG (Jb O) (dl O) (JG (Jw (vs:= [_,_]) Un34 O JY O (Ji (Ji (Ji (Ji (Ji (Ji (Ji (Ji (Jm))))))))) O O) (dl O) (Jg O (JW (VA ⟨M.d,M.h,M.m,M.b,M.s,M.A,M.cap,M.B,M.t,M.L,vu2,vr2,pu2,pr2⟩ (undoD D) hok1 i0 i1 false j hmd htu.mkd htu.hj htu.hw htu.ne htu.rl htu.rs) (.n3 O O O) (by first | exact dl O | decide) (.n8 .z .z .z .z .z .z .z .z) (Jl Mm1 (Jl Mm2 (Jl Mm3 (Jl Mm4 Jx)))) fun _ _ _ q9=>?_))))
  obtain ⟨M2,hd2,hok2,rfl,rfl,rfl⟩:=q9
  refine Jg O (Jq (cs':= [_,_,_,_,_,_,_,_,_]) (vs:= [_,_,_,_,_,_,_,_,_]) JF O O O O O (Nat.le_of_ble_eq_true O) .z10 (Jg O (JN Ye O O O .z .z9 (Je (Jf (Jn ?_))))))
  refine ⟨_,[_,_,_,_,_,_,_,_],[_,_,_],fun Z w hs=>JS hs Un40 O JF O (Ji (Ji (Ji (Ji (Ji (Ji (Ji (Ji (Ji (Ji (Jm))))))))))) O (Kj hs Un29 O O (Ji (Ji (Ji (Ji (Ji (Ji (Ji (Ji (Ji (Jm)))))))))) O .nil),?_,fun Z w hs=>hs.out (Sk8 (Sd3 (Sr))) (Jl Mm0 (Jl Mm1 (Jl Mm2 Tt4)))⟩
  exact ⟨M2,hd2,hok2,O,O,O⟩
 ·refine Js O O (Jv (cs:= [_,_]) JY O (by first | exact dl O | decide) fun b4=> ?_)
  refine ⟨⟨(Sd (Sk3 (Sd3 (Sk (Sd3 (Sr)))))),Mm0⟩,?_⟩
  refine Js O O (JW (XE M.h M.m M.cap M.A D.H M.L hr M.s M.vu M.vr M.pu M.pr D.U D.R ok.hU ok.hR (by omega) (by omega)) (.n2 O O) (by first | exact dl O | decide) (.n6 .z8 .z8 .z8 .z4 .z4 .z4) (Jl Mm2 (Jl Mm3 Jx)) fun _ _ _ q9=>?_)
  obtain ⟨vu2,pu2,vr2,pr2,hU2,hR2,rfl,rfl,rfl⟩:=q9
  rw [hx]
  refine ⟨⟨(Sd7 (Sk4 (Sr))),Mm0⟩,?_⟩
  refine JE O (Jb O) (dl O) (JE O (Jk (vs:= [_,_]) O O) (dl O) (YW O (Jk (vs:= [_,_]) O O) (dl O) (JJ (J2 O O (Jq (cs':= [_,_]) (vs:= [_,_]) JY O O O O O (Nat.le_of_ble_eq_true O) .z6 (YM O (Jd O) (dl O) (JK (Jf (Jc (Ja (JG (Jb O) (dl O) (Jg O (Jo (give_0 _ _) (.n3 O O O) (by first | exact dl O | decide) Jx fun _ _ _ q9=>?_)))))))))))))
  obtain ⟨rfl,rfl,rfl⟩:=q9
  refine Je (Jf (Jc (Jt .z2 (Jt .z2 (Jt .z2 (Jt .z10 (Jt .z6 (Jt .z6 (Jt .z6 (Jt .z8 ?_))))))))))
  have hok1:DkOk ⟨M.d,M.h,M.m,M.b,M.s,M.A,M.cap,M.B,M.t,M.L,vu2,vr2,pu2,pr2⟩ (undoD D):=ok.mk_ hr hwt hrow hU2 hR2 hdi rfl ⟨rfl,rfl,rfl⟩ hpl ok.p0 ok.gp ok.rc ok.md (by show (upF (J0 D.H true) D.U D.R).2.1.length+(upF (J0 D.H true) D.U D.R).2.2.length≤D.made;omega)
  refine Ja (JG (Jb O) (dl O) (JG (Jw (vs:= [_,_]) Un34 O JY O (Ji (Ji (Ji (Ji (Ji (Ji (Ji (Ji (Jm))))))))) O O) (dl O) (Jg O (JW (VA ⟨M.d,M.h,M.m,M.b,M.s,M.A,M.cap,M.B,M.t,M.L,vu2,vr2,pu2,pr2⟩ (undoD D) hok1 i0 i1 false j hmd htu.mkd htu.hj htu.hw htu.ne htu.rl htu.rs) (.n3 O O O) (by first | exact dl O | decide) (.n8 .z .z .z .z .z .z .z .z) (Jl Mm1 (Jl Mm2 (Jl Mm3 (Jl Mm4 Jx)))) fun _ _ _ q9=>?_))))
  obtain ⟨M2,hd2,hok2,rfl,rfl,rfl⟩:=q9
  refine Jg O (Jq (cs':= [_,_,_,_,_,_,_,_,_]) (vs:= [_,_,_,_,_,_,_,_,_]) JF O O O O O (Nat.le_of_ble_eq_true O) .z10 (Jg O (JN Ye O O O .z .z9 (Je (Jf (Jn ?_))))))
  refine ⟨_,[_,_,_,_,_,_,_,_],[_,_,_],fun Z w hs=>JS hs Un40 O JF O (Ji (Ji (Ji (Ji (Ji (Ji (Ji (Ji (Ji (Ji (Jm))))))))))) O (Kj hs Un29 O O (Ji (Ji (Ji (Ji (Ji (Ji (Ji (Ji (Ji (Jm)))))))))) O .nil),?_,fun Z w hs=>hs.out (Sk8 (Sd3 (Sr))) (Jl Mm0 (Jl Mm1 (Jl Mm2 Tt4)))⟩
  exact ⟨M2,hd2,hok2,O,O,O⟩
theorem redo_n (M:DM) (D:DS) (ok:DkOk M D) (hmd:(D.made:Int)<D.op) (hx:(upF (J0 D.H false) D.R D.U).1=none):Sp Tryz.prog 28 [.pointer (some ⟨M.d,0,none⟩)] (Kv M D) (barF::KT M D) (RefN M D fun e=> .tuple #[opV zeroOp none 0,e]):=by
 have hvl:=Kn M.t.row
 have hwt:=ok.wt
 have htl:=ok.tl
 have hrow:=ok.row
 have hpl:=ok.pl
 have hr:=ok.hr
 have hdi:=ok.di
 have hus:=ok.us
 have hlm:=ok.lm
 have hmd2:=ok.md
 have hsl:=ok.sl
 have hxl:=ok.xl
 have hpu:0≤putA D D.u∧putA D D.u≤4096:=by
  unfold putA
  rw [List.getD_eq_getElem?_getD,List.getElem?_eq_getElem (by omega)]
  exact ok.p0 _ (List.getElem_mem _)
 have hlen:=XB (J0 D.H false) D.R D.U
 have hun:=El hx
 refine Sp.ofD (n:=27) ⟨_,Tryz.func28,O,O,O,O⟩ (Nat.le_of_ble_eq_true O) fun Ps As=>Ja (Jg O (Jv (cs:= [_,_,_,_,_,_,_,_,_]) JF O (by decide) fun b2=>Jg O (Jv (cs:= [_]) Ye O (by decide) fun b3=>Je ?_)))
 refine ⟨O,_,_,_,_,_,catch_Redo b2 b3,DefReg.mk (.n2 O O) (by decide),?_⟩
 refine Jc (Ja (JG (Jb O) (dl O) (Jg O (JX (room_0 M.d M.h M.b _ _ _ _ _ _ _ _ _ _ 0 hmd) (.n3 O O O) (by first | exact dl O | decide) .z2 Jx fun _ _ _ q9=>?_))))
 obtain ⟨rfl,rfl,rfl⟩:=q9
 refine Je (Jf (Jc (K7 (JI _ _ [14] (.c 0 0 (.c 1 0 (.c 2 0 (.c 3 0 (.c 4 0 (.c 5 0 (.c 6 0 (.c 7 0 (.c 8 0 (.b (.c 9 2 (.c 10 0 (.c 11 0 (.c 12 1 (.c 13 2 (.c 14 3 (.c 15 1 .nil))))))) (.c 13 2 (.c 9 2 (.c 10 0 (.c 11 0 (.c 12 1 (.c 14 3 (.c 15 1 .nil))))))))))))))))) mixed (fun _ _ _ _ h=>h) (Sk3 (Sd3 (Sk (Sd3 (Sr))))) (fun _ h=>h) (by kernel_rfl) (by first | exact dl O | decide) fun ws Z0=>JE O (Jb O) (dl O) (JE O (JB O) (dl O) (JE O (Jh (o':=18) Un65 O EN O O) (dl O) (JE O (Jj Un61 O O Jm (dk18 hpl)) (dl O) (JE O (Jb O) (dl O) ?_))))))))
 refine JE O (JB O) (dl O) (JE O (Jh (o':=0) Un65 O Ym O O) (dl O) (JE O (Jh (o':=0) Un58 O Vm O O) (dl O) (JE O (Jj Un55 O O Jm O) (dl O) (KN ?_ ?_))))
 ·refine Js O O (JW (XF M.h M.m M.cap M.A D.H M.L hr M.s M.vu M.vr M.pu M.pr D.U D.R ok.hU ok.hR (by omega) (by omega)) (.n2 O O) (by first | exact dl O | decide) (.n6 .z7 .z7 .z7 .z3 .z3 .z3) (Jl Mm2 (Jl Mm3 Jx)) fun _ _ _ q9=>?_)
  obtain ⟨vu2,pu2,vr2,pr2,hU2,hR2,rfl,rfl,rfl⟩:=q9
  rw [hx]
  refine ⟨⟨(Sd6 (Sk4 (Sr))),Mm0⟩,?_⟩
  refine JE O (Jb O) (dl O) (JE O (Jk (vs:= [_,_]) O O) (dl O) (YW O (Jk (vs:= [_,_]) O O) (dl O) (Js O O (Jv (cs:= [_,_]) JY O (by first | exact dl O | decide) fun b4=> ?_))))
  refine ⟨⟨(Sd7 (Sk4 (Sr))),Mm0⟩,?_⟩
  refine JJ (J2 O O (Jq (cs':= [_,_]) (vs:= [_,_]) JY O O O O O (Nat.le_of_ble_eq_true O) .z (YM O (Jd O) (dl O) (JK (Jf (Jc (Ja (JG (Jb O) (dl O) (Jg O (KD (give_e _ _ 70 (by first | exact dl O | decide)) (.n3 O O O) Jx fun _ _ _ q9=>?_))))))))))
  obtain ⟨hv,rfl,rfl⟩:=q9
  refine K9 ?_
  rw [hun] at hU2 hR2
  refine ⟨_,_,_,_,[_,_,_,_,_,_,_,_],[_,_,_],O,hv,⟨_,_,_,_,_,_,_,_,_,_,O⟩,fun Z w hs=>((hs.pick .z8).pick .z9),fun Z w hs=>JS hs Un40 O JF O Jm O (Kj hs Un29 O O (Ji Jm) O .nil),?_,fun Z w hs=>((((((((hs.pick .z5).pick .z5).pick .z5).pick .z10).pick .z9).pick .z9).pick .z9).pick .z10).out (Sk8 (Sd3 (Sr))) (Jl Mm2 (Jl Mm3 (Jl Mm4 Tt1)))⟩
  refine ⟨_,⟨M.d,M.h,M.m,M.b,M.s,M.A,M.cap,M.B,M.t,M.L,vu2,vr2,pu2,pr2⟩,hv,O,ok.mk_ hr hwt hrow hU2 hR2 hdi O ⟨O,O,O⟩ hpl ok.p0 ok.gp ok.rc ok.md ok.sl,O,O,O⟩
 ·refine Js O O (Jv (cs:= [_,_]) JY O (by first | exact dl O | decide) fun b4=> ?_)
  refine ⟨⟨(Sd (Sk3 (Sd3 (Sk (Sd3 (Sr)))))),Mm0⟩,?_⟩
  refine Js O O (JW (XF M.h M.m M.cap M.A D.H M.L hr M.s M.vu M.vr M.pu M.pr D.U D.R ok.hU ok.hR (by omega) (by omega)) (.n2 O O) (by first | exact dl O | decide) (.n6 .z8 .z8 .z8 .z4 .z4 .z4) (Jl Mm2 (Jl Mm3 Jx)) fun _ _ _ q9=>?_)
  obtain ⟨vu2,pu2,vr2,pr2,hU2,hR2,rfl,rfl,rfl⟩:=q9
  rw [hx]
  refine ⟨⟨(Sd7 (Sk4 (Sr))),Mm0⟩,?_⟩
  refine JE O (Jb O) (dl O) (JE O (Jk (vs:= [_,_]) O O) (dl O) (YW O (Jk (vs:= [_,_]) O O) (dl O) (JJ (J2 O O (Jq (cs':= [_,_]) (vs:= [_,_]) JY O O O O O (Nat.le_of_ble_eq_true O) .z6 (YM O (Jd O) (dl O) (JK (Jf (Jc (Ja (JG (Jb O) (dl O) (Jg O (KD (give_e _ _ 70 (by first | exact dl O | decide)) (.n3 O O O) Jx fun _ _ _ q9=>?_)))))))))))))
  obtain ⟨hv,rfl,rfl⟩:=q9
  refine K9 ?_
  rw [hun] at hU2 hR2
  refine ⟨_,_,_,_,[_,_,_,_,_,_,_,_],[_,_,_],O,hv,⟨_,_,_,_,_,_,_,_,_,_,O⟩,fun Z w hs=>((hs.pick .z8).pick .z9),fun Z w hs=>JS hs Un40 O JF O Jm O (Kj hs Un29 O O (Ji Jm) O .nil),?_,fun Z w hs=>((((((((hs.pick .z4).pick .z4).pick .z4).pick .z10).pick .z8).pick .z8).pick .z8).pick .z10).out (Sk8 (Sd3 (Sr))) (Jl Mm2 (Jl Mm3 (Jl Mm4 Tt1)))⟩
  refine ⟨_,⟨M.d,M.h,M.m,M.b,M.s,M.A,M.cap,M.B,M.t,M.L,vu2,vr2,pu2,pr2⟩,hv,O,ok.mk_ hr hwt hrow hU2 hR2 hdi O ⟨O,O,O⟩ hpl ok.p0 ok.gp ok.rc ok.md ok.sl,O,O,O⟩
theorem Jaw (M:DM) (D:DS) (ok:DkOk M D) (hmd:(D.made:Int)<D.op) (i0 i1:Int) (j:Nat) (hx:(upF (J0 D.H false) D.R D.U).1=some (i0,i1)) (htu:TuD (redoD D) i0 i1 true j):Sp Tryz.prog 28 [.pointer (some ⟨M.d,0,none⟩)] (Kv M D) (barF::KT M D) (fun v Lo fs=> ∃(M2:DM),M2.d=M.d∧DkOk M2 (statD (redoD D) (i0,i1) true j)∧v= .tuple #[opV (statO (redoD D) (i0,i1) true) none 0, .nilIface] ∧Lo=Kv M2 (statD (redoD D) (i0,i1) true j)∧fs=KT M2 (statD (redoD D) (i0,i1) true j)):=by
 have hvl:=Kn M.t.row
 have hwt:=ok.wt
 have htl:=ok.tl
 have hrow:=ok.row
 have hpl:=ok.pl
 have hr:=ok.hr
 have hdi:=ok.di
 have hus:=ok.us
 have hlm:=ok.lm
 have hmd2:=ok.md
 have hsl:=ok.sl
 have hxl:=ok.xl
 have hpu:0≤putA D D.u∧putA D D.u≤4096:=by
  unfold putA
  rw [List.getD_eq_getElem?_getD,List.getElem?_eq_getElem (by omega)]
  exact ok.p0 _ (List.getElem_mem _)
 have hlen:=XB (J0 D.H false) D.R D.U
 refine Sp.ofD (n:=27) ⟨_,Tryz.func28,O,O,O,O⟩ (Nat.le_of_ble_eq_true O) fun Ps As=>Ja (Jg O (Jv (cs:= [_,_,_,_,_,_,_,_,_]) JF O (by decide) fun b2=>Jg O (Jv (cs:= [_]) Ye O (by decide) fun b3=>Je ?_)))
 refine ⟨O,_,_,_,_,_,catch_Redo b2 b3,DefReg.mk (.n2 O O) (by decide),?_⟩
 refine Jc (Ja (JG (Jb O) (dl O) (Jg O (JX (room_0 M.d M.h M.b _ _ _ _ _ _ _ _ _ _ 0 hmd) (.n3 O O O) (by first | exact dl O | decide) .z2 Jx fun _ _ _ q9=>?_))))
 obtain ⟨rfl,rfl,rfl⟩:=q9
 refine Je (Jf (Jc (K7 (JI _ _ [14] (.c 0 0 (.c 1 0 (.c 2 0 (.c 3 0 (.c 4 0 (.c 5 0 (.c 6 0 (.c 7 0 (.c 8 0 (.b (.c 9 2 (.c 10 0 (.c 11 0 (.c 12 1 (.c 13 2 (.c 14 3 (.c 15 1 .nil))))))) (.c 13 2 (.c 9 2 (.c 10 0 (.c 11 0 (.c 12 1 (.c 14 3 (.c 15 1 .nil))))))))))))))))) mixed (fun _ _ _ _ h=>h) (Sk3 (Sd3 (Sk (Sd3 (Sr))))) (fun _ h=>h) (by kernel_rfl) (by first | exact dl O | decide) fun ws Z0=>JE O (Jb O) (dl O) (JE O (JB O) (dl O) (JE O (Jh (o':=18) Un65 O EN O O) (dl O) (JE O (Jj Un61 O O Jm (dk18 hpl)) (dl O) (JE O (Jb O) (dl O) ?_))))))))
 refine JE O (JB O) (dl O) (JE O (Jh (o':=0) Un65 O Ym O O) (dl O) (JE O (Jh (o':=0) Un58 O Vm O O) (dl O) (JE O (Jj Un55 O O Jm O) (dl O) (KN ?_ ?_))))
 ·refine Js O O (JW (XF M.h M.m M.cap M.A D.H M.L hr M.s M.vu M.vr M.pu M.pr D.U D.R ok.hU ok.hR (by omega) (by omega)) (.n2 O O) (by first | exact dl O | decide) (.n6 .z7 .z7 .z7 .z3 .z3 .z3) (Jl Mm2 (Jl Mm3 Jx)) fun _ _ _ q9=>?_)
  obtain ⟨vu2,pu2,vr2,pr2,hU2,hR2,rfl,rfl,rfl⟩:=q9
  rw [hx]
  refine ⟨⟨(Sd6 (Sk4 (Sr))),Mm0⟩,?_⟩
  refine JE O (Jb O) (dl O) (JE O (Jk (vs:= [_,_]) O O) (dl O) (YW O (Jk (vs:= [_,_]) O O) (dl O) (Js O O (Jv (cs:= [_,_]) JY O (by first | exact dl O | decide) fun b4=> ?_))))
  refine ⟨⟨(Sd7 (Sk4 (Sr))),Mm0⟩,?_⟩
  refine JJ (J2 O O (Jq (cs':= [_,_]) (vs:= [_,_]) JY O O O O O (Nat.le_of_ble_eq_true O) .z (YM O (Jd O) (dl O) (JK (Jf (Jc (Ja (JG (Jb O) (dl O) (Jg O (Jo (give_0 _ _) (.n3 O O O) (by first | exact dl O | decide) Jx fun _ _ _ q9=>?_))))))))))
  obtain ⟨rfl,rfl,rfl⟩:=q9
  refine Je (Jf (Jc (Jt .z3 (Jt .z3 (Jt .z3 (Jt .z10 (Jt .z7 (Jt .z7 (Jt .z7 (Jt .z8 ?_))))))))))
  have hok1:DkOk ⟨M.d,M.h,M.m,M.b,M.s,M.A,M.cap,M.B,M.t,M.L,vu2,vr2,pu2,pr2⟩ (redoD D):=ok.mk_ hr hwt hrow hU2 hR2 hdi rfl ⟨rfl,rfl,rfl⟩ hpl ok.p0 ok.gp ok.rc ok.md (by show (upF (J0 D.H false) D.R D.U).2.2.length+(upF (J0 D.H false) D.R D.U).2.1.length≤D.made;omega)
  refine Ja (JG (Jb O) (dl O) (JG (Jw (vs:= [_,_]) Un34 O JY O (Ji (Ji (Ji (Ji (Ji (Ji (Ji (Ji (Jm))))))))) O O) (dl O) (Jg O (JW (VA ⟨M.d,M.h,M.m,M.b,M.s,M.A,M.cap,M.B,M.t,M.L,vu2,vr2,pu2,pr2⟩ (redoD D) hok1 i0 i1 true j hmd htu.mkd htu.hj htu.hw htu.ne htu.rl htu.rs) (.n3 O O O) (by first | exact dl O | decide) (.n8 .z .z .z .z .z .z .z .z) (Jl Mm1 (Jl Mm2 (Jl Mm3 (Jl Mm4 Jx)))) fun _ _ _ q9=>?_))))
  obtain ⟨M2,hd2,hok2,rfl,rfl,rfl⟩:=q9
  refine Jg O (Jq (cs':= [_,_,_,_,_,_,_,_,_]) (vs:= [_,_,_,_,_,_,_,_,_]) JF O O O O O (Nat.le_of_ble_eq_true O) .z10 (Jg O (JN Ye O O O .z .z9 (Je (Jf (Jn ?_))))))
  refine ⟨_,[_,_,_,_,_,_,_,_],[_,_,_],fun Z w hs=>JS hs Un40 O JF O (Ji (Ji (Ji (Ji (Ji (Ji (Ji (Ji (Ji (Ji (Jm))))))))))) O (Kj hs Un29 O O (Ji (Ji (Ji (Ji (Ji (Ji (Ji (Ji (Ji (Jm)))))))))) O .nil),?_,fun Z w hs=>hs.out (Sk8 (Sd3 (Sr))) (Jl Mm0 (Jl Mm1 (Jl Mm2 Tt4)))⟩
  exact ⟨M2,hd2,hok2,O,O,O⟩
 ·refine Js O O (Jv (cs:= [_,_]) JY O (by first | exact dl O | decide) fun b4=> ?_)
  refine ⟨⟨(Sd (Sk3 (Sd3 (Sk (Sd3 (Sr)))))),Mm0⟩,?_⟩
  refine Js O O (JW (XF M.h M.m M.cap M.A D.H M.L hr M.s M.vu M.vr M.pu M.pr D.U D.R ok.hU ok.hR (by omega) (by omega)) (.n2 O O) (by first | exact dl O | decide) (.n6 .z8 .z8 .z8 .z4 .z4 .z4) (Jl Mm2 (Jl Mm3 Jx)) fun _ _ _ q9=>?_)
  obtain ⟨vu2,pu2,vr2,pr2,hU2,hR2,rfl,rfl,rfl⟩:=q9
  rw [hx]
  refine ⟨⟨(Sd7 (Sk4 (Sr))),Mm0⟩,?_⟩
  refine JE O (Jb O) (dl O) (JE O (Jk (vs:= [_,_]) O O) (dl O) (YW O (Jk (vs:= [_,_]) O O) (dl O) (JJ (J2 O O (Jq (cs':= [_,_]) (vs:= [_,_]) JY O O O O O (Nat.le_of_ble_eq_true O) .z6 (YM O (Jd O) (dl O) (JK (Jf (Jc (Ja (JG (Jb O) (dl O) (Jg O (Jo (give_0 _ _) (.n3 O O O) (by first | exact dl O | decide) Jx fun _ _ _ q9=>?_)))))))))))))
  obtain ⟨rfl,rfl,rfl⟩:=q9
  refine Je (Jf (Jc (Jt .z2 (Jt .z2 (Jt .z2 (Jt .z10 (Jt .z6 (Jt .z6 (Jt .z6 (Jt .z8 ?_))))))))))
  have hok1:DkOk ⟨M.d,M.h,M.m,M.b,M.s,M.A,M.cap,M.B,M.t,M.L,vu2,vr2,pu2,pr2⟩ (redoD D):=ok.mk_ hr hwt hrow hU2 hR2 hdi rfl ⟨rfl,rfl,rfl⟩ hpl ok.p0 ok.gp ok.rc ok.md (by show (upF (J0 D.H false) D.R D.U).2.2.length+(upF (J0 D.H false) D.R D.U).2.1.length≤D.made;omega)
  refine Ja (JG (Jb O) (dl O) (JG (Jw (vs:= [_,_]) Un34 O JY O (Ji (Ji (Ji (Ji (Ji (Ji (Ji (Ji (Jm))))))))) O O) (dl O) (Jg O (JW (VA ⟨M.d,M.h,M.m,M.b,M.s,M.A,M.cap,M.B,M.t,M.L,vu2,vr2,pu2,pr2⟩ (redoD D) hok1 i0 i1 true j hmd htu.mkd htu.hj htu.hw htu.ne htu.rl htu.rs) (.n3 O O O) (by first | exact dl O | decide) (.n8 .z .z .z .z .z .z .z .z) (Jl Mm1 (Jl Mm2 (Jl Mm3 (Jl Mm4 Jx)))) fun _ _ _ q9=>?_))))
  obtain ⟨M2,hd2,hok2,rfl,rfl,rfl⟩:=q9
  refine Jg O (Jq (cs':= [_,_,_,_,_,_,_,_,_]) (vs:= [_,_,_,_,_,_,_,_,_]) JF O O O O O (Nat.le_of_ble_eq_true O) .z10 (Jg O (JN Ye O O O .z .z9 (Je (Jf (Jn ?_))))))
  refine ⟨_,[_,_,_,_,_,_,_,_],[_,_,_],fun Z w hs=>JS hs Un40 O JF O (Ji (Ji (Ji (Ji (Ji (Ji (Ji (Ji (Ji (Ji (Jm))))))))))) O (Kj hs Un29 O O (Ji (Ji (Ji (Ji (Ji (Ji (Ji (Ji (Ji (Jm)))))))))) O .nil),?_,fun Z w hs=>hs.out (Sk8 (Sd3 (Sr))) (Jl Mm0 (Jl Mm1 (Jl Mm2 Tt4)))⟩
  exact ⟨M2,hd2,hok2,O,O,O⟩
theorem turn_d (M:DM) (D:DS) (ok:DkOk M D) (hmd:(D.made:Int)<D.op) (i0 i1:Int) (on:Bool) (k j:Nat) (hw:J5 D.H.ents i0 i1=some k) (hk:k<D.H.ents.length) (hk4:D.H.ents[k].op.kind≠4) (hoff:D.H.ents[k].off=on) (htu:TuD D i0 i1 on j):Sp Tryz.prog 29 [.pointer (some ⟨M.d,0,none⟩), .agg #[.int .i64 i0, .int .i64 i1], .bool on] (Kv M D) (barF::KT M D) (fun v Lo fs=> ∃(M2:DM),M2.d=M.d∧DkOk M2 (statD D (i0,i1) on j)∧v= .tuple #[opV (statO D (i0,i1) on) none 0, .nilIface] ∧Lo=Kv M2 (statD D (i0,i1) on j)∧fs=KT M2 (statD D (i0,i1) on j)):=by
 have hvl:=Kn M.t.row
 have hwt:=ok.wt
 have htl:=ok.tl
 have hrow:=ok.row
 have hpl:=ok.pl
 have hr:=ok.hr
 have hdi:=ok.di
 have hus:=ok.us
 have hlm:=ok.lm
 have hmd2:=ok.md
 have hsl:=ok.sl
 have hxl:=ok.xl
 have hpu:0≤putA D D.u∧putA D D.u≤4096:=by
  unfold putA
  rw [List.getD_eq_getElem?_getD,List.getElem?_eq_getElem (by omega)]
  exact ok.p0 _ (List.getElem_mem _)
 refine Sp.ofD (n:=30) ⟨_,Tryz.func29,O,O,O,O⟩ (Nat.le_of_ble_eq_true O) fun Ps As=>Ja (Jg O (J1 (cs:= [_,_]) O O (by decide) fun b4=>Jg O (Jv (cs:= [_,_,_,_,_,_,_,_,_]) JF O (by decide) fun b6=>Jg O (Jv (cs:= [_]) Ye O (by decide) fun b7=>Je ?_))))
 refine ⟨O,_,_,_,_,_,catch_Turn b6 b7,DefReg.mk (.n2 O O) (by decide),?_⟩
 refine Jc (Ja (JG (Jb O) (dl O) (Jg O (JX (room_0 M.d M.h M.b _ _ _ _ _ _ _ _ _ _ 0 hmd) (.n3 O O O) (by first | exact dl O | decide) .z3 Jx fun _ _ _ q9=>?_))))
 obtain ⟨rfl,rfl,rfl⟩:=q9
 refine Je (Jf (Jc (K7 (JI _ _ [12] (.c 0 0 (.c 1 0 (.c 2 0 (.c 3 0 (.c 4 0 (.c 5 0 (.c 6 0 (.b (.c 7 2 (.c 8 0 (.c 9 0 (.c 10 1 (.c 11 2 (.c 12 3 (.c 13 1 .nil))))))) (.c 11 2 (.c 7 2 (.c 8 0 (.c 9 0 (.c 10 1 (.c 12 3 (.c 13 1 .nil))))))))))))))) mixed (fun _ _ _ _ h=>h) (Sk4 (Sd3 (Sk4 (Sr)))) (fun _ h=>h) (by kernel_rfl) (by first | exact dl O | decide) fun ws Z0=>JE O (Jb O) (dl O) (JE O (JB O) (dl O) (JE O (Jh (o':=0) Un65 O Ym O O) (dl O) (JE O (Jh (o':=0) Un58 O Vm O O) (dl O) ?_)))))))
 refine JE O (Jj Un55 O O Jm O) (dl O) (JE O (Jw (vs:= [_,_]) Un34 O JY O (Ji (Ji (Ji (Jm)))) O O) (dl O) (JE O (Jb O) (dl O) (KN ?_ ?_)))
 ·refine Js O O (Ky (effect_y M.h M.m M.cap M.A D.H M.L hr i0 i1 k hw hk hk4 on hoff) (.n3 O O O) (by first | exact dl O | decide) .z4 .z4 .z4 (Jl Mm2 (Jl Mm3 Jx)) fun _ _ _ q9=>?_)
  obtain ⟨Ae,ce,rfl,rfl,rfl⟩:=q9
  refine ⟨⟨(Sd3 (Sk8 (Sr))),Mm1⟩,?_⟩
  refine JE O (Jb O) (dl O) (JE O (Jk (vs:= [_,_]) O O) (dl O) (YW O (Jk (vs:= [_,_]) O O) (dl O) (Js O O (Jv (cs:= [_,_,_,_,_,_,_,_,_]) JF O (by first | exact dl O | decide) fun b8=> ?_))))
  refine ⟨⟨(Sd4 (Sk8 (Sr))),Mm1⟩,?_⟩
  refine JJ (J2 O O (Jq (cs':= [_,_,_,_,_,_,_,_,_]) (vs:= [_,_,_,_,_,_,_,_,_]) JF O O O O O (Nat.le_of_ble_eq_true O) .z (YM O (Jd O) (dl O) (JK (Jf (Jc (Ja (JG (Jb O) (dl O) (Jg O (Jo (give_0 _ _) (.n3 O O O) (by first | exact dl O | decide) Jx fun _ _ _ q9=>?_))))))))))
  obtain ⟨rfl,rfl,rfl⟩:=q9
  refine Je (Jf (Jc (Jt .z11 (Jt .z11 (Jt .z11 (Jt .z11 (Jt .z7 (Jt .z7 (Jt .z7 (Jt .z8 (Ja ?_)))))))))))
  refine JG (Jb O) (dl O) (JG (Jw (vs:= [_,_]) Un34 O JY O (Ji (Ji (Ji (Ji (Ji (Ji (Ji (Ji (Ji (Ji (Ji (Jm)))))))))))) O O) (dl O) (JG (Jb O) (dl O) (Jg O (JW (VA M D ok i0 i1 on j hmd htu.mkd htu.hj htu.hw htu.ne htu.rl htu.rs) (.n3 O O O) (by first | exact dl O | decide) (.n8 .z .z .z .z .z .z .z .z) (Jl Mm2 (Jl Mm3 (Jl Mm4 (Jl Mm5 Jx)))) fun _ _ _ q9=>?_))))
  obtain ⟨M2,hd2,hok2,rfl,rfl,rfl⟩:=q9
  refine Jg O (Jq (cs':= [_,_,_,_,_,_,_,_,_]) (vs:= [_,_,_,_,_,_,_,_,_]) JF O O O O O (Nat.le_of_ble_eq_true O) .z10 (Jg O (JN Ye O O O .z .z9 (Je (Jf (Jn ?_))))))
  refine ⟨_,[_,_,_,_,_,_,_,_],[_,_,_],fun Z w hs=>JS hs Un40 O JF O (Ji (Ji (Ji (Ji (Ji (Ji (Ji (Ji (Ji (Ji (Jm))))))))))) O (Kj hs Un29 O O (Ji (Ji (Ji (Ji (Ji (Ji (Ji (Ji (Ji (Jm)))))))))) O .nil),?_,fun Z w hs=>hs.out (Sk8 (Sd4 (Sr))) (Jl Mm0 (Jl Mm1 (Jl Mm2 Tt5)))⟩
  exact ⟨M2,hd2,hok2,O,O,O⟩
 ·refine Js O O (Jv (cs:= [_,_,_,_,_,_,_,_,_]) JF O (by first | exact dl O | decide) fun b8=> ?_)
  refine ⟨⟨(Sd (Sk4 (Sd3 (Sk4 (Sr))))),Mm0⟩,?_⟩
  refine Js O O (Ky (effect_y M.h M.m M.cap M.A D.H M.L hr i0 i1 k hw hk hk4 on hoff) (.n3 O O O) (by first | exact dl O | decide) .z5 .z5 .z5 (Jl Mm2 (Jl Mm3 Jx)) fun _ _ _ q9=>?_)
  obtain ⟨Ae,ce,rfl,rfl,rfl⟩:=q9
  refine ⟨⟨(Sd4 (Sk8 (Sr))),Mm1⟩,?_⟩
  refine JE O (Jb O) (dl O) (JE O (Jk (vs:= [_,_]) O O) (dl O) (YW O (Jk (vs:= [_,_]) O O) (dl O) (JJ (J2 O O (Jq (cs':= [_,_,_,_,_,_,_,_,_]) (vs:= [_,_,_,_,_,_,_,_,_]) JF O O O O O (Nat.le_of_ble_eq_true O) .z3 (YM O (Jd O) (dl O) (JK (Jf (Jc (Ja (JG (Jb O) (dl O) (Jg O (Jo (give_0 _ _) (.n3 O O O) (by first | exact dl O | decide) Jx fun _ _ _ q9=>?_)))))))))))))
  obtain ⟨rfl,rfl,rfl⟩:=q9
  refine Je (Jf (Jc (Jt .z11 (Jt .z11 (Jt .z11 (Jt .z11 (Jt .z6 (Jt .z6 (Jt .z6 (Jt .z8 (Ja ?_)))))))))))
  refine JG (Jb O) (dl O) (JG (Jw (vs:= [_,_]) Un34 O JY O (Ji (Ji (Ji (Ji (Ji (Ji (Ji (Ji (Ji (Ji (Ji (Jm)))))))))))) O O) (dl O) (JG (Jb O) (dl O) (Jg O (JW (VA M D ok i0 i1 on j hmd htu.mkd htu.hj htu.hw htu.ne htu.rl htu.rs) (.n3 O O O) (by first | exact dl O | decide) (.n8 .z .z .z .z .z .z .z .z) (Jl Mm2 (Jl Mm3 (Jl Mm4 (Jl Mm5 Jx)))) fun _ _ _ q9=>?_))))
  obtain ⟨M2,hd2,hok2,rfl,rfl,rfl⟩:=q9
  refine Jg O (Jq (cs':= [_,_,_,_,_,_,_,_,_]) (vs:= [_,_,_,_,_,_,_,_,_]) JF O O O O O (Nat.le_of_ble_eq_true O) .z10 (Jg O (JN Ye O O O .z .z9 (Je (Jf (Jn ?_))))))
  refine ⟨_,[_,_,_,_,_,_,_,_],[_,_,_],fun Z w hs=>JS hs Un40 O JF O (Ji (Ji (Ji (Ji (Ji (Ji (Ji (Ji (Ji (Ji (Jm))))))))))) O (Kj hs Un29 O O (Ji (Ji (Ji (Ji (Ji (Ji (Ji (Ji (Ji (Jm)))))))))) O .nil),?_,fun Z w hs=>hs.out (Sk8 (Sd4 (Sr))) (Jl Mm0 (Jl Mm1 (Jl Mm2 Tt5)))⟩
  exact ⟨M2,hd2,hok2,O,O,O⟩
theorem Hr (c:Nat) (o:GOp) (A:Option Addr) (k:Nat) (hf:Fit o) (ho:ownF o=0) (hk:o.kind=1) (hc:c≤60000) (hw:0≤JC o∧JC o≤256):Sp Tryz.prog 70 [.int .i64 c,opV o A k] [] [barF,RdF rgD A k o.rs] (Is (.tuple #[.int .i64 (if o.at_<c then c+JC o else c), .int .i64 0])):=by
 have hft:=hf.text
 refine Sp.of (n:=38) ⟨_,Tryz.func70,O,O,O,O⟩ (Nat.le_of_ble_eq_true O) fun Ps As=>Jc (Ja (Jg O (J1 (cs:= [_,_,_,_,_,_,_,_,_]) O O (by decide) fun b3=>Lq (Jd O) (Lq (Jd O) (Je (Jf (Jc (Jc (Ja (Lq (Jw (vs:= [_,_,_,_,_,_,_,_,_]) Un40 O JF O Jm O O) (Jg O (Jo (Jao o A k hf) (.n1 O) (by decide) (Jl Mm0 (Jl Mm1 Jx)) fun _ _ _ q9=>?_))))))))))))
 obtain ⟨rfl,rfl,rfl⟩:=q9
 rw [ho]
 refine Lq (Jd O) (Je (Jf (Jc (Ja (Lq (Jb O) (Lq (Kp O O) (Je (Jf (Jz O O (Jp (Jf (Jc (Jc (Ja (Lq (Jb O) (Lq (Ku O O) (Lq (Jb O) (Lg O O O (decide_eq_false (by omega)) (Jb O) (Lg O O O (decide_eq_false (by omega)) (Ke O O) ?_)))))))))))))))))))
 refine Lq (JA O (decide_eq_false (by omega)) O) (Je (Jf (Jz O (decide_eq_false (by omega)) (Jp (Jf (Jc (Jc (Ja (Lq (Jh (o':=0) Un40 O KI O O) (Lq (Jh (o':=2) Un37 O Yu O O) (Lq (Jj Un35 O O Jm O) (Lq (Kp O O) (Lq (Jb O) (Lg O O O (by simpa using hk) (Jh (o':=3) Un40 O ti3 O O) ?_))))))))))))))
 refine Lg O O O (by simpa using hk) (Jj Un3 O O Jm O) (Lg O O O (by simpa using hk) (Jb O) (Lg O O O (by simpa using hk) (Yl O O) (Lq (JA O (by simpa using hk) O) (Je (Jf (Jy O (fun h27=> ?_) (fun h27=> ?_)))))))
 ·refine Jc (Ja (Lq (Jb O) (Lq (Jd O) (Lq (Jd O) (Je (Jf (Jn (Jr ?_))))))))
  refine ⟨_,[],[],fun Z w hs=> .tmp O (.tmp O .nil),?_,fun Z w hs=>hs.out (Sd (Sr)) (fun _ h=>h)⟩
  exact ⟨by rw [if_neg (by have h:=h27;simp at h;omega)];rfl,O,O⟩
 ·refine Jp (Jf (Jc (Jc (Ja (Lq (Jb O) (Lq (Jw (vs:= [_,_,_,_,_,_,_,_,_]) Un40 O JF O Jm O O) (Jg O (Jo (Yh o A k (by omega)) (.n1 O) (by decide) (Jl Mm0 Jx) fun _ _ _ q9=>?_))))))))
  obtain ⟨rfl,rfl,rfl⟩:=q9
  refine Lq (JZ O O (wr64 (by omega))) (Lq (Ke O O) (Je (Jf (Jz O (decide_eq_false (by omega)) (Jp (Jf (Jc (Ja (Lq (Jb O) (Lq (Jw (vs:= [_,_,_,_,_,_,_,_,_]) Un40 O JF O Jm O O) (Jg O (Jo (Yh o A k (by omega)) (.n1 O) (by decide) (Jl Mm0 Jx) fun _ _ _ q9=>?_))))))))))))
  obtain ⟨rfl,rfl,rfl⟩:=q9
  refine Lq (JZ O O (wr64 (by omega))) (Lq (Jd O) (Lq (Jd O) (Je (Jf (Jn ?_)))))
  refine ⟨_,[],[],fun Z w hs=> .tmp O (.tmp O .nil),?_,fun Z w hs=>hs.out (Sd (Sr)) (fun _ h=>h)⟩
  exact ⟨by rw [if_pos (by have h:=h27;simp at h;omega)];rfl,O,O⟩
theorem ZG (t:TypeId) (x:Value):Sp Tryz.prog 69 [.nilIface, .iface t x] [] [] (Is (.bool false)):=by
 refine Sp.of (n:=42) ⟨_,Tryz.func69,O,O,O,O⟩ (Nat.le_of_ble_eq_true O) fun Ps As=>Jc (Ja (Lq (Jd O) (Je (Jf (Jc (Jc (Ja (Lq (Jb O) (Lq (XZ Un29 O) (Je (Jf (JQ O O (Jc (Ja (Lq (Jd O) (Je (Jf (Jn (Jr ?_)))))))))))))))))))
 refine ⟨_,[],[],fun Z w hs=> .tmp O .nil,?_,fun Z w hs=>hs.out (Sr) (fun _ h=>h)⟩
 exact ⟨O,O,O⟩
structure TaD (D:DS) (o:GOp):Prop where
 tk:TkD D.H D.X D.H.ops.length D.got o (putF D.H D.got o).1 (putF D.H D.got o).2.1
 nl:(putF D.H D.got o).1.ops.length=D.H.ops.length+1
 len:(J6 (putF D.H D.got o).2.1 D.X).length=D.X.length+(JC o).toNat
 wd:(putF D.H D.got o).2.1.kind=1→JC (putF D.H D.got o).2.1=JC o
 w0:0≤JC o∧JC o≤256
 di:DI (D.H.ops.length+1) (putF D.H D.got o).1 (J6 (putF D.H D.got o).2.1 D.X)
theorem take_0 (M:DM) (D:DS) (ok:DkOk M D) (o:GOp) (Ao:Option Addr) (co:Nat) (hcu:o.c≠D.u) (hc:1≤o.c∧o.c≤D.cl) (hn:o.n≤D.op) (hts:o.text.size≤1048576) (hce:putA D o.c+JC o≤D.ce) (hta:TaD D o):Sp Tryz.prog 30 [.pointer (some ⟨M.d,0,none⟩),opV o Ao co] (Kv M D) (barF::KT M D++ [RdF rgD Ao co o.rs]) (DkR M (YR D o) .nilIface):=by
 have hvl:=Kn M.t.row
 have hwt:=ok.wt
 have htl:=ok.tl
 have hrow:=ok.row
 have hpl:=ok.pl
 have hr:=ok.hr
 have hdi:=ok.di
 have hus:=ok.us
 have hlm:=ok.lm
 have hmd2:=ok.md
 have hsl:=ok.sl
 have hxl:=ok.xl
 have hpu:0≤putA D D.u∧putA D D.u≤4096:=by
  unfold putA
  rw [List.getD_eq_getElem?_getD,List.getElem?_eq_getElem (by omega)]
  exact ok.p0 _ (List.getElem_mem _)
 have hgp:=ok.gp
 have hw0:=hta.w0
 have hln:=hta.len
 have hpc:0≤putA D o.c∧putA D o.c≤4096:=by
  unfold putA
  rw [List.getD_eq_getElem?_getD,List.getElem?_eq_getElem (by omega)]
  exact ok.p0 _ (List.getElem_mem _)
 refine Sp.ofD (n:=130) ⟨_,Tryz.func30,O,O,O,O⟩ (Nat.le_of_ble_eq_true O) fun Ps As=>Ja (Jg O (J1 (cs:= [_,_,_,_,_,_,_,_,_]) O O (by decide) fun b3=>Jg O (Jv (cs:= [_]) Ye O (by decide) fun b4=>Je ?_)))
 refine ⟨O,_,_,_,_,_,catch_Take b4,DefReg.mk (.n1 O) (by decide),?_⟩
 refine Jc (K7 (JI _ _ [] (.c 0 0 (.c 1 0 (.c 2 0 (.c 3 0 (.c 4 0 (.c 5 2 (.c 6 0 (.c 7 0 .nil)))))))) mixed (fun _ _ _ _ h=>h) (Sk10 (Sr)) (fun _ h=>h) (by kernel_rfl) (by first | exact dl O | decide) fun ws Z0=>JE O (Jh (o':=0) Un40 O KI O O) (dl O) (JE O (Jh (o':=0) Un37 O JY O O) (dl O) (JE O (KL (o':=0) Un34 ti3 O O (by first | exact dl O | decide) (by first | exact dl O | decide) O) (dl O) (JE O (Jj Un3 O O (Ji (Jm)) O) (dl O) ?_)))))
 refine JE O (Jw (vs:= [_,_,_,_,_,_,_,_,_]) Un40 O JF O (Ji (Jm)) O O) (dl O) (Js O O (Jo (Yh o Ao co (by omega)) (.n1 O) (by first | exact dl O | decide) (Jl Mm1 Jx) fun _ _ _ q9=>?_))
 obtain ⟨rfl,rfl,rfl⟩:=q9
 refine ⟨⟨(Sk10 (Sr)),Mm0⟩,?_⟩
 refine JE O (Jd O) (dl O) (JE O (Jd O) (dl O) (JJ (JK (Jf (Jc (Jc (Ja (JG (Jb O) (dl O) (JG (Jb O) (dl O) (JG (JB O) (dl O) (JG (Jh (o':=2) Un65 O ti3 O O) (dl O) (JG (Jj Un3 O O (Ji (Ji (Jm))) O) (dl O) (JG (Ka O O) (dl O) ?_)))))))))))))
 refine JG (Jb O) (dl O) (Yg O O O (by simpa using hcu) (Jb O) (dl O) (Yg O O O (by simpa using hcu) (Jb O) (dl O) (Yg O O O (by simpa using hcu) (JB O) (dl O) (Yg O O O (by simpa using hcu) (Jh (o':=3) Un65 O QO O O) (dl O) (Yg O O O (by simpa using hcu) (Jh (o':=3) Un23 O ti3 O O) (dl O) (Yg O O O (by simpa using hcu) (Jj Un3 O O (Ji (Ji (Jm))) O) (dl O) (Kk O O O (by simpa using hcu) (Jo (KG _ _ _) (.n3 O O O) (by first | exact dl O | decide) Jx fun _ _ _ q9=>?_))))))))
 obtain ⟨rfl,rfl,rfl⟩:=q9
 refine Yg O O O (by simpa using hcu) (KC O) (dl O) (JG (JA O (by simpa using hcu) O) (dl O) (Je (Jf (Jz O (by rw [decide_eq_true (by omega)];rfl) (Jp (Jf (Jc (Jc (K7 (JI _ _ [] (.c 0 0 (.c 1 0 (.c 2 0 (.c 3 0 (.c 4 0 (.c 5 0 (.c 6 0 (.c 7 0 (.c 8 0 (.c 9 0 .nil)))))))))) mixed (fun _ _ _ _ h=>h) (Sk10 (Sr)) (fun _ h=>h) (by kernel_rfl) (by first | exact dl O | decide) fun ws Z0=>JE O (Jh (o':=0) Un40 O KI O O) (dl O) (JE O (Jh (o':=0) Un37 O JY O O) (dl O) ?_)))))))))))
 refine JE O (KL (o':=1) Un34 ti3 O O (by first | exact dl O | decide) (by first | exact dl O | decide) O) (dl O) (JE O (Jj Un3 O O (Ji (Jm)) O) (dl O) (JE O (Jb O) (dl O) (JE O (JB O) (dl O) (JE O (Jh (o':=3) Un65 O QO O O) (dl O) (JE O (Jh (o':=5) Un23 O ti3 O O) (dl O) (JE O (Jj Un3 O O (Ji (Ji (Jm))) O) (dl O) (JE O (Ke O O) (dl O) (JJ (JK (Jf ?_))))))))))
 refine Jz O (decide_eq_false (by omega)) (Jp (Jf (Jc (Jc (K7 (JI _ _ [] (.c 0 0 (.c 1 0 (.c 2 0 (.c 3 0 (.c 4 0 (.c 5 0 (.c 6 0 (.c 7 0 (.c 8 0 (.c 9 0 (.c 10 0 (.c 11 0 (.c 12 0 (.c 13 0 .nil)))))))))))))) mixed (fun _ _ _ _ h=>h) (Sk10 (Sr)) (fun _ h=>h) (by kernel_rfl) (by first | exact dl O | decide) fun ws Z0=>JE O (Jb O) (dl O) (JE O (Jb O) (dl O) (JE O (JB O) (dl O) (JE O (Jh (o':=8) Un65 O XP O O) (dl O) ?_)))))))))
 refine JE O (KL (o':=8+o.c.toNat) Un63 ti3 O O (by omega) (by omega) (by omega)) (dl O) (JE O (Jj (v:= .int .i64 (D.put.getD o.c.toNat 0)) Un3 O O (Ji (Ji (Jm))) (dkput hpl (by omega))) (dl O) (JE O (Jb O) (dl O) (JE O (JZ O O (wr64 (by have:=hpc;unfold putA at this;omega))) (dl O) (JE O (Jb O) (dl O) (JE O (JB O) (dl O) (JE O (Jh (o':=3) Un65 O QO O O) (dl O) (JE O (Jh (o':=4) Un23 O ti3 O O) (dl O) (JE O (Jj Un3 O O (Ji (Ji (Jm))) O) (dl O) (JE O (Ke O O) (dl O) ?_)))))))))
 refine JJ (JK (Jf (Jz O (decide_eq_false (by exact Int.not_lt.2 hce)) (Jp (Jf (Jc (Jt .z6 (Jt .z6 (Jt .z6 (Jt .z6 (Jt .z6 (K7 ?_))))))))))))
 refine JI _ _ [13] (.c 0 0 (.c 1 0 (.c 2 0 (.c 3 0 (.c 4 0 (.c 5 0 (.c 6 0 (.c 7 0 (.b (.c 8 2 (.c 9 0 (.c 10 0 (.c 11 1 (.c 12 2 (.c 13 3 (.c 14 1 .nil))))))) (.c 12 2 (.c 8 2 (.c 9 0 (.c 10 0 (.c 11 1 (.c 13 3 (.c 14 1 .nil)))))))))))))))) mixed (fun _ _ _ _ h=>h) (Sk (Sd4 (Sk5 (Sr)))) (fun _ h=>h) (by kernel_rfl) (by first | exact dl O | decide) fun ws Z0=>JE O (Jb O) (dl O) (JE O (JB O) (dl O) (JE O (Jh (o':=0) Un65 O Ym O O) (dl O) (JE O (Jb O) (dl O) (JE O (JB O) (dl O) (JE O (Jh (o':=6) Un65 O ti3 O O) (dl O) ?_)))))
 refine JE O (Jj Un3 O O Jm O) (dl O) (JE O (Jw (vs:= [_,_,_,_,_,_,_,_,_]) Un40 O JF O (Ji (Ji (Jm))) O O) (dl O) (KN ?_ ?_))
 ·refine Js O O (JW (XU M.d M.h M.m M.b _ _ D.H M.L M.A M.cap M.B M.t D.H.ops.length D.X D.got o Ao co (putF D.H D.got o).1 (putF D.H D.got o).2.1 hr hwt hrow hdi hta.tk) (.n3 O O O) (by first | exact dl O | decide) (.n5 .z .z .z .z .z) (Jl Mm4 (Jl Mm5 (Jl Mm6 (Jl Mm7 (Jl Mm8 Jx))))) fun _ _ _ q9=>?_)
  obtain ⟨L2,A2,cap2,B2,t2,Ae,ce2,rfl,hr2,wt2,hX2,rfl,rfl⟩:=q9
  refine ⟨⟨(Sk (Sd4 (Sk5 (Sr)))),Mm4⟩,?_⟩
  refine JE O (Jb O) (dl O) (JE O (Jk (vs:= [_,_]) O O) (dl O) (YW O (Jk (vs:= [_,_]) O O) (dl O) (Js O O (Jv (cs:= [_,_,_,_,_,_,_,_,_]) JF O (by first | exact dl O | decide) fun b7=> ?_))))
  refine ⟨⟨(Sd (Sk (Sd4 (Sk5 (Sr))))),Mm4⟩,?_⟩
  refine JJ (J2 O O (Jq (cs':= [_,_,_,_,_,_,_,_,_]) (vs:= [_,_,_,_,_,_,_,_,_]) JF O O O O O (Nat.le_of_ble_eq_true O) .z (YM O (Jd O) (dl O) (JK (Jf (Jc (Ja (Jg O (Jv (cs:= [_]) ZQ O (by first | exact dl O | decide) fun b9=>Je (Jf (Jc (Jc (Ja (JG (Jb O) (dl O) (JG (QH (by rw [Un114];rfl) O) (dl O) (Jg O (Jo (ZG _ _) (.n2 O O) (by first | exact dl O | decide) Jx fun _ _ _ q9=>?_)))))))))))))))))
  obtain ⟨rfl,rfl,rfl⟩:=q9
  refine Je (Jf (Jz O O (Jp (Jf (Jc (Ja (JG (Jb O) (dl O) (JG (JB O) (dl O) (JG (Jh (o':=6) Un65 O ti3 O O) (dl O) (JG (Jj Un3 O O (Ji (Ji (Jm))) O) (dl O) (JG (JZ O O (wr64 (by have:=ok.rc;have:=hdi.le;omega)) (c:=((D.got+1:Nat):Int))) (dl O) (JG (JB O) (dl O) (JG (Jh (o':=6) Un65 O ti3 O O) (dl O) (Jg O (JN ti3 O O O .z6 .z2 (Je (Jf (Jc ?_))))))))))))))))))
  refine K7 (JI _ _ [11] (.c 0 0 (.c 1 0 (.c 2 0 (.c 3 0 (.c 4 0 (.c 5 0 (.c 6 0 (.c 7 0 (.c 8 0 (.c 9 0 (.c 10 0 (.c 11 3 .nil)))))))))))) mixed (fun _ _ _ _ h=>h) (Sk12 (Sr)) (fun _ h=>h) (by kernel_rfl) (by first | exact dl O | decide) fun ws Z0=>JE O (Jb O) (dl O) (JE O (Jb O) (dl O) (JE O (JB O) (dl O) (JE O (Jh (o':=8) Un65 O XP O O) (dl O) (JE O (KL (o':=8+o.c.toNat) Un63 ti3 O O (by omega) (by omega) (by omega)) (dl O) ?_)))))
  refine JE O (Jj (v:= .int .i64 (D.put.getD o.c.toNat 0)) Un3 O O (Ji (Ji (Jm))) (dkput hpl (by omega))) (dl O) (JE O (Jb O) (dl O) (JE O (JZ O O (wr64 (by have:=hpc;unfold putA at this;omega)) (c:=putA D o.c+JC o)) (dl O) (JE O (JB O) (dl O) (JE O (Jh (o':=8) Un65 O XP O O) (dl O) (JE O (KL (o':=8+o.c.toNat) Un63 ti3 O O (by omega) (by omega) (by omega)) (dl O) (JJ (J2 O O (K8 ti3 O O O (dklc hpl (by omega)) .z2 ?_))))))))
  rw [dksetc hpl (by omega)]
  refine JK (Jf (Jc (Jc (Ja (JG (Jh (o':=0) Un40 O KI O O) (dl O) (JG (Jh (o':=2) Un37 O Yu O O) (dl O) (JG (Jj Un35 O O (Ji (Jm)) O) (dl O) (JG (Ka O O) (dl O) (Je (Jf (JL [(117,_),(7,_),(4,_),(0,_)] (.m4 O O O O) (Jy O (fun h117=> ?_) (fun h117=> ?_)))))))))))))
  ·have hek:(putF D.H D.got o).2.1.kind=1:=by simpa using h117
   have heo:=hta.tk.app (by rw [hek];decide)
   have hR:Right D.X.length (putF D.H D.got o).2.1:=⟨heo.ck, .inl hek⟩
   have hown:=hR.own (by omega)
   have hwd:=hta.wd hek
   have hei:=hR.ins hek
   have hxt:=hta.tk.text
   have hxr:=hta.tk.rs
   refine K7 (JI _ _ [12] (.c 0 0 (.c 1 0 (.c 2 0 (.c 3 0 (.c 4 0 (.c 5 0 (.c 6 2 (.c 7 0 (.c 8 0 (.c 9 1 (.c 10 0 (.c 11 0 (.c 12 3 .nil))))))))))))) mixed (fun _ _ _ _ h=>h) (Sk12 (Sr)) (fun _ h=>h) (by kernel_rfl) (by first | exact dl O | decide) fun ws Z0=>JE O (Jb O) (dl O) (JE O (Jb O) (dl O) (JE O (JB O) (dl O) (JE O (Jh (o':=17) Un65 O ti3 O O) (dl O) (JE O (Jj Un3 O O (Ji (Ji (Jm))) (dk17 (by rw [List.length_set];exact hpl))) (dl O) ?_)))))
   refine JE O (Jw (vs:= [_,_,_,_,_,_,_,_,_]) Un40 O JF O (Ji (Jm)) O O) (dl O) (Js O O (Jo (Hr D.gap (putF D.H D.got o).2.1 Ae ce2 ⟨by omega,by omega,by omega,by omega⟩ hown hek (by omega) (by omega)) (.n2 O O) (by first | exact dl O | decide) (Jl Mm10 (Jl Mm2 Jx)) fun _ _ _ q9=>?_))
   obtain ⟨rfl,rfl,rfl⟩:=q9
   refine ⟨⟨(Sk12 (Sr)),Mm0⟩,?_⟩
   refine JE O (Jb O) (dl O) (JE O (Jk (vs:= [_,_]) O O) (dl O) (YW O (Jk (vs:= [_,_]) O O) (dl O) (JE O (JB O) (dl O) (JE O (Jh (o':=17) Un65 O ti3 O O) (dl O) (JJ (J2 O O (K8 ti3 O O O (dkl17 (by rw [List.length_set];exact hpl)) .z2 ?_)))))))
   rw [dkset17 (by rw [List.length_set];exact hpl)]
   refine JK (Jf (Jc (Ja (Jg O (JN Ye O O O .z .z7 (Je (Jf (Jn ?_))))))))
   refine ⟨_,[_,_,_,_,_,_,_,_],[_,_,_],fun Z w hs=>Kj hs Un29 O O (Ji (Ji (Ji (Ji (Ji (Ji (Ji (Jm)))))))) O .nil,?_,fun Z w hs=>hs.out (Sd2 (Sk5 (Sd2 (Sk3 (Sr))))) (Jl Mm3 (Jl Mm4 (Jl Mm5 Tt10)))⟩
   have hgc:((YR D o).gap:Int)=if (putF D.H D.got o).2.1.at_<(D.gap:Int) then (D.gap:Int)+JC (putF D.H D.got o).2.1 else (D.gap:Int):=by
    show (((if (putF D.H D.got o).2.1.kind=1∧(putF D.H D.got o).2.1.at_<D.gap then _ else _):Nat):Int)=_
    by_cases h:(putF D.H D.got o).2.1.at_<(D.gap:Int)
    ·rw [if_pos ⟨hek,h⟩,if_pos h];omega
    ·rw [if_neg (fun h2=>h h2.2),if_neg h]
   have hge:(YR D o).gap≤(J6 (putF D.H D.got o).2.1 D.X).length:=by split at hgc<;>omega
   have hok2:DkOk ⟨M.d,M.h,M.m,M.b,M.s,A2,cap2,B2,t2,L2,M.vu,M.vr,M.pu,M.pr⟩ (YR D o):=ok.mk_ hr2 wt2 hX2 ok.hU ok.hR (by show DI (putF D.H D.got o).1.ops.length _ _;rw [hta.nl];exact hta.di) rfl ⟨rfl,rfl,rfl⟩ (by show (D.put.set _ _).length=9;rw [List.length_set];exact hpl) (V0 ok.p0 (by omega)) hge (by show D.got+1≤(putF D.H D.got o).1.ops.length;have:=ok.rc;have:=hta.nl;omega) ok.md ok.sl
   refine ⟨⟨M.d,M.h,M.m,M.b,M.s,A2,cap2,B2,t2,L2,M.vu,M.vr,M.pu,M.pr⟩,?_,hok2,O,?_,O⟩
   ·rfl
   ·show _=Kv ⟨M.d,M.h,M.m,M.b,M.s,A2,cap2,B2,t2,L2,M.vu,M.vr,M.pu,M.pr⟩ (YR D o)
    unfold Kv dkB
    rw [hgc]
    rfl
  ·have hek: ¬(putF D.H D.got o).2.1.kind=1:=by simpa using h117
   refine Jp (Jf (Jc (Ja (Jg O (JN Ye O O O .z .z7 (Je (Jf (Jn ?_))))))))
   refine ⟨_,[_,_,_,_,_,_,_,_],[_,_,_],fun Z w hs=>Kj hs Un29 O O (Ji (Ji (Ji (Ji (Ji (Ji (Ji (Jm)))))))) O .nil,?_,fun Z w hs=>hs.out (Sd2 (Sk5 (Sd2 (Sk3 (Sr))))) (Jl Mm2 (Jl Mm3 (Jl Mm4 Tt9)))⟩
   have hgc:((YR D o).gap:Int)=D.gap:=by
    show (((if (putF D.H D.got o).2.1.kind=1∧(putF D.H D.got o).2.1.at_<D.gap then _ else _):Nat):Int)=_
    rw [if_neg (fun h2=>hek h2.1)]
   have hge:(YR D o).gap≤(J6 (putF D.H D.got o).2.1 D.X).length:=by omega
   have hok2:DkOk ⟨M.d,M.h,M.m,M.b,M.s,A2,cap2,B2,t2,L2,M.vu,M.vr,M.pu,M.pr⟩ (YR D o):=ok.mk_ hr2 wt2 hX2 ok.hU ok.hR (by show DI (putF D.H D.got o).1.ops.length _ _;rw [hta.nl];exact hta.di) rfl ⟨rfl,rfl,rfl⟩ (by show (D.put.set _ _).length=9;rw [List.length_set];exact hpl) (V0 ok.p0 (by omega)) hge (by show D.got+1≤(putF D.H D.got o).1.ops.length;have:=ok.rc;have:=hta.nl;omega) ok.md ok.sl
   refine ⟨⟨M.d,M.h,M.m,M.b,M.s,A2,cap2,B2,t2,L2,M.vu,M.vr,M.pu,M.pr⟩,?_,hok2,O,?_,O⟩
   ·rfl
   ·show _=Kv ⟨M.d,M.h,M.m,M.b,M.s,A2,cap2,B2,t2,L2,M.vu,M.vr,M.pu,M.pr⟩ (YR D o)
    unfold Kv dkB
    rw [hgc]
    rfl
 ·refine Js O O (Jv (cs:= [_,_,_,_,_,_,_,_,_]) JF O (by first | exact dl O | decide) fun b7=> ?_)
  refine ⟨⟨(Sd (Sk (Sd4 (Sk5 (Sr))))),Mm0⟩,?_⟩
  refine Js O O (JW (XU M.d M.h M.m M.b _ _ D.H M.L M.A M.cap M.B M.t D.H.ops.length D.X D.got o Ao co (putF D.H D.got o).1 (putF D.H D.got o).2.1 hr hwt hrow hdi hta.tk) (.n3 O O O) (by first | exact dl O | decide) (.n5 .z1 .z1 .z1 .z1 .z1) (Jl Mm4 (Jl Mm5 (Jl Mm6 (Jl Mm7 (Jl Mm8 Jx))))) fun _ _ _ q9=>?_)
  obtain ⟨L2,A2,cap2,B2,t2,Ae,ce2,rfl,hr2,wt2,hX2,rfl,rfl⟩:=q9
  refine ⟨⟨(Sk (Sd5 (Sk5 (Sr)))),Mm4⟩,?_⟩
  refine JE O (Jb O) (dl O) (JE O (Jk (vs:= [_,_]) O O) (dl O) (YW O (Jk (vs:= [_,_]) O O) (dl O) (JJ (J2 O O (Jq (cs':= [_,_,_,_,_,_,_,_,_]) (vs:= [_,_,_,_,_,_,_,_,_]) JF O O O O O (Nat.le_of_ble_eq_true O) .z5 (YM O (Jd O) (dl O) (JK (Jf (Jc (Ja (Jg O (Jv (cs:= [_]) ZQ O (by first | exact dl O | decide) fun b9=>Je (Jf (Jc (Jc (Ja (JG (Jb O) (dl O) ?_)))))))))))))))))
  refine JG (QH (by rw [Un114];rfl) O) (dl O) (Jg O (Jo (ZG _ _) (.n2 O O) (by first | exact dl O | decide) Jx fun _ _ _ q9=>?_))
  obtain ⟨rfl,rfl,rfl⟩:=q9
  refine Je (Jf (Jz O O (Jp (Jf (Jc (Ja (JG (Jb O) (dl O) (JG (JB O) (dl O) (JG (Jh (o':=6) Un65 O ti3 O O) (dl O) (JG (Jj Un3 O O (Ji (Jm)) O) (dl O) (JG (JZ O O (wr64 (by have:=ok.rc;have:=hdi.le;omega)) (c:=((D.got+1:Nat):Int))) (dl O) (JG (JB O) (dl O) (JG (Jh (o':=6) Un65 O ti3 O O) (dl O) (Jg O (JN ti3 O O O .z6 .z1 (Je (Jf (Jc ?_))))))))))))))))))
  refine K7 (JI _ _ [11] (.c 0 0 (.c 1 0 (.c 2 0 (.c 3 0 (.c 4 0 (.c 5 0 (.c 6 0 (.c 7 0 (.c 8 0 (.c 9 0 (.c 10 0 (.c 11 3 .nil)))))))))))) mixed (fun _ _ _ _ h=>h) (Sk12 (Sr)) (fun _ h=>h) (by kernel_rfl) (by first | exact dl O | decide) fun ws Z0=>JE O (Jb O) (dl O) (JE O (Jb O) (dl O) (JE O (JB O) (dl O) (JE O (Jh (o':=8) Un65 O XP O O) (dl O) (JE O (KL (o':=8+o.c.toNat) Un63 ti3 O O (by omega) (by omega) (by omega)) (dl O) ?_)))))
  refine JE O (Jj (v:= .int .i64 (D.put.getD o.c.toNat 0)) Un3 O O (Ji (Jm)) (dkput hpl (by omega))) (dl O) (JE O (Jb O) (dl O) (JE O (JZ O O (wr64 (by have:=hpc;unfold putA at this;omega)) (c:=putA D o.c+JC o)) (dl O) (JE O (JB O) (dl O) (JE O (Jh (o':=8) Un65 O XP O O) (dl O) (JE O (KL (o':=8+o.c.toNat) Un63 ti3 O O (by omega) (by omega) (by omega)) (dl O) (JJ (J2 O O (K8 ti3 O O O (dklc hpl (by omega)) .z1 ?_))))))))
  rw [dksetc hpl (by omega)]
  refine JK (Jf (Jc (Jc (Ja (JG (Jh (o':=0) Un40 O KI O O) (dl O) (JG (Jh (o':=2) Un37 O Yu O O) (dl O) (JG (Jj Un35 O O (Ji (Ji (Ji (Ji (Ji (Ji (Jm))))))) O) (dl O) (JG (Ka O O) (dl O) (Je (Jf (JL [(117,_),(7,_),(4,_),(0,_)] (.m4 O O O O) (Jy O (fun h117=> ?_) (fun h117=> ?_)))))))))))))
  ·have hek:(putF D.H D.got o).2.1.kind=1:=by simpa using h117
   have heo:=hta.tk.app (by rw [hek];decide)
   have hR:Right D.X.length (putF D.H D.got o).2.1:=⟨heo.ck, .inl hek⟩
   have hown:=hR.own (by omega)
   have hwd:=hta.wd hek
   have hei:=hR.ins hek
   have hxt:=hta.tk.text
   have hxr:=hta.tk.rs
   refine K7 (JI _ _ [12] (.c 0 0 (.c 1 0 (.c 2 0 (.c 3 0 (.c 4 0 (.c 5 0 (.c 6 2 (.c 7 0 (.c 8 0 (.c 9 1 (.c 10 0 (.c 11 0 (.c 12 3 .nil))))))))))))) mixed (fun _ _ _ _ h=>h) (Sk12 (Sr)) (fun _ h=>h) (by kernel_rfl) (by first | exact dl O | decide) fun ws Z0=>JE O (Jb O) (dl O) (JE O (Jb O) (dl O) (JE O (JB O) (dl O) (JE O (Jh (o':=17) Un65 O ti3 O O) (dl O) (JE O (Jj Un3 O O (Ji (Jm)) (dk17 (by rw [List.length_set];exact hpl))) (dl O) ?_)))))
   refine JE O (Jw (vs:= [_,_,_,_,_,_,_,_,_]) Un40 O JF O (Ji (Ji (Ji (Ji (Ji (Ji (Jm))))))) O O) (dl O) (Js O O (Jo (Hr D.gap (putF D.H D.got o).2.1 Ae ce2 ⟨by omega,by omega,by omega,by omega⟩ hown hek (by omega) (by omega)) (.n2 O O) (by first | exact dl O | decide) (Jl Mm10 (Jl Mm2 Jx)) fun _ _ _ q9=>?_))
   obtain ⟨rfl,rfl,rfl⟩:=q9
   refine ⟨⟨(Sk12 (Sr)),Mm0⟩,?_⟩
   refine JE O (Jb O) (dl O) (JE O (Jk (vs:= [_,_]) O O) (dl O) (YW O (Jk (vs:= [_,_]) O O) (dl O) (JE O (JB O) (dl O) (JE O (Jh (o':=17) Un65 O ti3 O O) (dl O) (JJ (J2 O O (K8 ti3 O O O (dkl17 (by rw [List.length_set];exact hpl)) .z1 ?_)))))))
   rw [dkset17 (by rw [List.length_set];exact hpl)]
   refine JK (Jf (Jc (Ja (Jg O (JN Ye O O O .z .z7 (Je (Jf (Jn ?_))))))))
   refine ⟨_,[_,_,_,_,_,_,_,_],[_,_,_],fun Z w hs=>Kj hs Un29 O O (Ji (Ji (Ji (Ji (Ji (Ji (Ji (Jm)))))))) O .nil,?_,fun Z w hs=>hs.out (Sd (Sk5 (Sd3 (Sk3 (Sr))))) (Jl Mm3 (Jl Mm4 (Jl Mm5 Tt10)))⟩
   have hgc:((YR D o).gap:Int)=if (putF D.H D.got o).2.1.at_<(D.gap:Int) then (D.gap:Int)+JC (putF D.H D.got o).2.1 else (D.gap:Int):=by
    show (((if (putF D.H D.got o).2.1.kind=1∧(putF D.H D.got o).2.1.at_<D.gap then _ else _):Nat):Int)=_
    by_cases h:(putF D.H D.got o).2.1.at_<(D.gap:Int)
    ·rw [if_pos ⟨hek,h⟩,if_pos h];omega
    ·rw [if_neg (fun h2=>h h2.2),if_neg h]
   have hge:(YR D o).gap≤(J6 (putF D.H D.got o).2.1 D.X).length:=by split at hgc<;>omega
   have hok2:DkOk ⟨M.d,M.h,M.m,M.b,M.s,A2,cap2,B2,t2,L2,M.vu,M.vr,M.pu,M.pr⟩ (YR D o):=ok.mk_ hr2 wt2 hX2 ok.hU ok.hR (by show DI (putF D.H D.got o).1.ops.length _ _;rw [hta.nl];exact hta.di) rfl ⟨rfl,rfl,rfl⟩ (by show (D.put.set _ _).length=9;rw [List.length_set];exact hpl) (V0 ok.p0 (by omega)) hge (by show D.got+1≤(putF D.H D.got o).1.ops.length;have:=ok.rc;have:=hta.nl;omega) ok.md ok.sl
   refine ⟨⟨M.d,M.h,M.m,M.b,M.s,A2,cap2,B2,t2,L2,M.vu,M.vr,M.pu,M.pr⟩,?_,hok2,O,?_,O⟩
   ·rfl
   ·show _=Kv ⟨M.d,M.h,M.m,M.b,M.s,A2,cap2,B2,t2,L2,M.vu,M.vr,M.pu,M.pr⟩ (YR D o)
    unfold Kv dkB
    rw [hgc]
    rfl
  ·have hek: ¬(putF D.H D.got o).2.1.kind=1:=by simpa using h117
   refine Jp (Jf (Jc (Ja (Jg O (JN Ye O O O .z .z7 (Je (Jf (Jn ?_))))))))
   refine ⟨_,[_,_,_,_,_,_,_,_],[_,_,_],fun Z w hs=>Kj hs Un29 O O (Ji (Ji (Ji (Ji (Ji (Ji (Ji (Jm)))))))) O .nil,?_,fun Z w hs=>hs.out (Sd (Sk5 (Sd3 (Sk3 (Sr))))) (Jl Mm2 (Jl Mm3 (Jl Mm4 Tt9)))⟩
   have hgc:((YR D o).gap:Int)=D.gap:=by
    show (((if (putF D.H D.got o).2.1.kind=1∧(putF D.H D.got o).2.1.at_<D.gap then _ else _):Nat):Int)=_
    rw [if_neg (fun h2=>hek h2.1)]
   have hge:(YR D o).gap≤(J6 (putF D.H D.got o).2.1 D.X).length:=by omega
   have hok2:DkOk ⟨M.d,M.h,M.m,M.b,M.s,A2,cap2,B2,t2,L2,M.vu,M.vr,M.pu,M.pr⟩ (YR D o):=ok.mk_ hr2 wt2 hX2 ok.hU ok.hR (by show DI (putF D.H D.got o).1.ops.length _ _;rw [hta.nl];exact hta.di) rfl ⟨rfl,rfl,rfl⟩ (by show (D.put.set _ _).length=9;rw [List.length_set];exact hpl) (V0 ok.p0 (by omega)) hge (by show D.got+1≤(putF D.H D.got o).1.ops.length;have:=ok.rc;have:=hta.nl;omega) ok.md ok.sl
   refine ⟨⟨M.d,M.h,M.m,M.b,M.s,A2,cap2,B2,t2,L2,M.vu,M.vr,M.pu,M.pr⟩,?_,hok2,O,?_,O⟩
   ·rfl
   ·show _=Kv ⟨M.d,M.h,M.m,M.b,M.s,A2,cap2,B2,t2,L2,M.vu,M.vr,M.pu,M.pr⟩ (YR D o)
    unfold Kv dkB
    rw [hgc]
    rfl
theorem runCb (bB bR bH bF:Nat):CbOk 91 [.pointer (some ⟨bH,0,none⟩), .pointer (some ⟨bF,0,none⟩), .pointer (some ⟨bB,0,none⟩)] (RunI bB bR bH bF) 2097152:=by
 rintro X q x rs hid A c ⟨ad,v,p,rv,rp,hs,rfl⟩ hne hl
 have h:=(Jba bB bR bH bF (rowF X) ad v p rv rp hs X.length (GY X) (by omega) x rs hid A c (by omega)).flat
 refine h.mono ?_
 rintro u Lo fs ⟨Lo',⟨rfl,rfl,ad',v',p',rv',rp',hs',rfl⟩,rfl⟩
 refine ⟨O,O,_,O,ad',v',p',rv',rp',?_,?_⟩
 ·rw [XW X hid hne];exact hs'
 ·rw [XW X hid hne,X4]
theorem Zf (bB bR bH bF:Nat):RunI bB bR bH bF [] [blP bB none (.slice none 0 0),[],rcP bR (.slice none 0 0),[],hcP bH 0,fcP bF bB bR bH].flatten:=
 ⟨none,_,[],_,[],⟨.inl rfl,Row.nil _ _,Row.nil _ _⟩,rfl⟩
theorem Jau (b:Nat) (A:Option Addr) (t:Tr) (wt:Wf t) (hb:t.row.length≤1048576):Sp Tryz.prog 56 [.pointer (some ⟨b,0,none⟩)] [rpP b A] [TrF A t] (fun v Lo fs=> ∃A' c',v= .slice A' (runsF t.row).length c'∧Lo= [rpP b A] ∧fs= [RdF runD A' c' (runsF t.row)]):=by
 refine Sp.of (n:=17) ⟨_,Tryz.func56,O,O,O,O⟩ (Nat.le_of_ble_eq_true O) fun Ps As=>Jc (Ja (Lq (Jd O) (Je (Jf (Jc (Ja (Jg O (Jv (cs:= [_]) ZR O (by decide) fun b3=>Je (Jf (Jc (Ja (Jg O (Jv (cs:= [_,_]) H8 O (by decide) fun b4=>Je (Jf (Jc (Ja (Jg O (Jv (cs:= [_]) ti3 O (by decide) fun b5=>Jg O (JN ti3 O O O .z .z ?_)))))))))))))))))))
 refine Je (Jf (Jc (Ja (Lq (QX (.n3 O O O)) (Jg O (Jv (cs:= [_]) ti1 O (by decide) fun b6=>Jg O (JN ti1 O O O .z .z (Je (Jf (Jc (Jt .z (Jt .z1 (Jt .z3 (Jt .z3 (KE ?_)))))))))))))))
 refine KE (Jt .z5 (Jt .z5 (Jt .z2 (Jt .z5 (Jt .z4 (Jt .z5 (Jak (Qs:= [blP b4 none (.slice none 0 0),[],rcP b3 (.slice none 0 0),[],hcP b5 0,fcP b6 b4 b3 b5]) (Ja (Lq (Jb O) ?_)))))))))
 refine Lq (JB O) (Lq (Jh (o':=0) Un128 O YX O O) (Lq (Jj Un126 O O (Ji (Jm)) O) (Lq (QX (.n3 O O O)) (Jg O (JX (walk_n 91 _ _ 2097152 (by omega) (runCb b4 b3 b5 b6) t.size A t [] _ wt (Nat.le_refl _) (by simp;omega) (Zf b4 b3 b5 b6)) (.n4 O O O O) (by decide) .z (Jl Mm0 Jx) fun _ _ _ q9=>?_)))))
 obtain ⟨rfl,rfl,q1,rfl,hI1⟩:=q9
 refine Je (Jf (Jc ?_))
 obtain ⟨ad,v,p,rv,rpp,hs,rfl⟩:=hI1
 refine Xf (Qs:= [blP b4 ad v,p,rcP b3 rv,rpp,hcP b5 (rowF ([] ++t.row)).hid,fcP b6 b4 b3 b5]) ?_
 simp only [List.cons_append,List.nil_append] at hs ⊢
 have hB:=GY t.row
 refine Ja (Lq (Jj Un1 O O (Ji (Ji (Ji (Ji (Ji (Jm)))))) O) (Jg O (Qv (caps:= [_,_,_]) O (Hp b4 b3 b5 (rowF t.row) ad v p rv rpp hs hB.by_ (by have:=hB.bl;omega) (by have:=hB.rl;omega)) .nil (by decide) (List.Perm.refl _) Jx fun u6 Lo fs hres=> ?_)))
 obtain ⟨rfl,rfl,rv2,rp2,hr2,rfl⟩:=hres
 refine Je (Jf (Jc ?_))
 obtain ⟨Ar,cr,rfl⟩:=hr2.slice
 refine Kf (A:=RepsF runD (runsF t.row) ((runsF t.row).map runC)) (fun Z w _=>G0 (fun _ _ _=>O) _ Z w) (KW (e:=runD) (xs:=(runsF t.row)) (css:=((runsF t.row).map runC)) hr2 .z2 O Mm0 fun A9 c9 e9=> ?_)
 cases e9
 refine Ja (Lq (Jj Un43 O O (Ji (Jm)) O) (Lq (Jd O) (Je (Jf (Jn ?_)))))
 refine ⟨_,[_],[_],fun Z w hs=> .tmp O .nil,?_,fun Z w hs=>hs.out (Sd4 (Sk (Sr))) (Jl Mm0 Tt2)⟩
 exact ⟨_,_,O,O,O⟩
theorem hops_k (h m cap:Nat) (A:Option Addr) (H:Hist) (L:List MR) (hr:HR H L) (lo hi:Nat) (h1:lo≤hi) (h2:hi≤H.ents.length):Sp Tryz.prog 57 [.pointer (some ⟨h,0,none⟩), .int .i64 lo, .int .i64 hi] [hdP h A H.ops.length cap m H.total,mpP m L,mkP L] [RdF opD A cap H.ops] (fun v Lo fs=> ∃(A':Option Addr) (c':Nat),v= .tuple #[.slice A' ((H.ops.take hi).drop lo).length c', .int .i64 0] ∧Lo= [hdP h A H.ops.length cap m H.total,mpP m L,mkP L] ∧fs= [RdF opD A' c' ((H.ops.take hi).drop lo)]):=by
 refine (Jaz h m cap A H L hr lo hi).mono ?_
 rintro v Lo fs ⟨A',c',rfl,⟨hb,_,_⟩ | ⟨_,rfl,rfl⟩⟩
 ·omega
 ·exact ⟨A',c',O,O,O⟩
theorem ZV (d b:Nat) (cs:List Value) (T:TypeId) (h m cap:Nat) (A:Option Addr) (H:Hist) (L:List MR) (hr:HR H L) (lo hi:Nat) (h1:lo≤hi) (h2:hi≤H.ents.length):Sp Tryz.prog 25 [.pointer (some ⟨d,0,none⟩), .int .i64 lo, .int .i64 hi] [[(d,JD (.pointer (some ⟨h,0,none⟩):: .pointer (some ⟨b,0,none⟩)::cs) T)],hdP h A H.ops.length cap m H.total,mpP m L,mkP L] [RdF opD A cap H.ops] (fun v Lo fs=> ∃(A':Option Addr) (c':Nat),v= .tuple #[.slice A' ((H.ops.take hi).drop lo).length c', .nilIface] ∧Lo= [[(d,JD (.pointer (some ⟨h,0,none⟩):: .pointer (some ⟨b,0,none⟩)::cs) T)],hdP h A H.ops.length cap m H.total,mpP m L,mkP L] ∧fs= [RdF opD A' c' ((H.ops.take hi).drop lo)]):=by
 refine Sp.of (n:=24) ⟨_,Tryz.func25,O,O,O,O⟩ (Nat.le_of_ble_eq_true O) fun Ps As=>Jc (Ja (Lq (Jd O) (Lq (Jd O) (Je (Jf (Jc (Ja (Lq (Jb O) (Lq (JB O) (Lq (Jh (o':=0) Un58 O Vm O O) (Lq (Jj Un55 O O Jm O) (Lq (Jb O) ?_))))))))))))
 refine Lq (Jb O) (Jg O (Ky (hops_k h m cap A H L hr lo hi h1 h2) (.n3 O O O) (by decide) .z1 .z1 .z1 (Jl Mm0 Jx) fun _ _ _ q9=>?_))
 obtain ⟨A9,c9,rfl,rfl,rfl⟩:=q9
 refine Lq (Jb O) (Lq (Jk (vs:= [_,_]) O O) (Lq (Jk (vs:= [_,_]) O O) (Lq (Jd O) (Lq (Jd O) (Je (Jf (Jc (Ja (Lq (Jb O) (Lq (Jb O) (Lq (Jb O) (Jg O (Jo (fault_0 _ _) (.n3 O O O) (by decide) Jx fun _ _ _ q9=>?_)))))))))))))
 obtain ⟨rfl,rfl,rfl⟩:=q9
 refine Lq (Jd O) (Lq (Jd O) (Je (Jf (Jn ?_))))
 refine ⟨_,[_,_,_,_],[_],fun Z w hs=> .tmp O (.tmp O .nil),?_,fun Z w hs=>((((hs.pick .z2).pick .z2).pick .z2).pick .z3).out (Sk4 (Sr)) (fun _ h=>h)⟩
 exact ⟨A9,c9,O,O,O⟩
theorem Yi (d b:Nat) (cs:List Value) (T:TypeId) (h:Nat) (B:Option Addr) (t:Tr) (wt:Wf t):Sp Tryz.prog 17 [.pointer (some ⟨d,0,none⟩)] [[(d,JD (.pointer (some ⟨h,0,none⟩):: .pointer (some ⟨b,0,none⟩)::cs) T)],rpP b B] [TrF B t] (fun v Lo fs=>v= .int .i64 t.row.length∧Lo= [[(d,JD (.pointer (some ⟨h,0,none⟩):: .pointer (some ⟨b,0,none⟩)::cs) T)],rpP b B] ∧fs= []):=by
 refine Sp.of (n:=8) ⟨_,Tryz.func17,O,O,O,O⟩ (Nat.le_of_ble_eq_true O) fun Ps As=>Jc (Ja (Lq (Jd O) (Je (Jf (Jc (Ja (Lq (Jb O) (Lq (JB O) (Lq (Jh (o':=1) Un58 O Gu O O) (Lq (Jj Un56 O O Jm O) (Jg O (JX (Qc b B t wt) (.n1 O) (by decide) .z1 (Jl Mm0 Jx) fun _ _ _ q9=>?_))))))))))))
 obtain ⟨rfl,rfl,rfl⟩:=q9
 refine Lq (Jd O) (Je (Jf (Jn ?_)))
 refine ⟨_,[_,_],[],fun Z w hs=> .tmp O .nil,?_,fun Z w hs=>((hs.pick .z).pick .z1).out (Sk2 (Sr)) (fun _ h=>h)⟩
 exact ⟨O,O,O⟩
theorem XV (d b:Nat) (cs:List Value) (T:TypeId) (h:Nat) (B:Option Addr) (t:Tr) (wt:Wf t) (hb:t.row.length≤1048576):Sp Tryz.prog 20 [.pointer (some ⟨d,0,none⟩)] [[(d,JD (.pointer (some ⟨h,0,none⟩):: .pointer (some ⟨b,0,none⟩)::cs) T)],rpP b B] [TrF B t] (fun v Lo fs=> ∃(A9:Option Addr) (c9:Nat),v= .slice A9 (runsF t.row).length c9∧Lo= [[(d,JD (.pointer (some ⟨h,0,none⟩):: .pointer (some ⟨b,0,none⟩)::cs) T)],rpP b B] ∧fs= [RdF runD A9 c9 (runsF t.row)]):=by
 refine Sp.of (n:=8) ⟨_,Tryz.func20,O,O,O,O⟩ (Nat.le_of_ble_eq_true O) fun Ps As=>Jc (Ja (Lq (Jd O) (Je (Jf (Jc (Ja (Lq (Jb O) (Lq (JB O) (Lq (Jh (o':=1) Un58 O Gu O O) (Lq (Jj Un56 O O Jm O) (Jg O (JX (Jau b B t wt hb) (.n1 O) (by decide) .z1 (Jl Mm0 Jx) fun _ _ _ q9=>?_))))))))))))
 obtain ⟨A9,c9,rfl,rfl,rfl⟩:=q9
 refine Lq (Jd O) (Je (Jf (Jn ?_)))
 refine ⟨_,[_,_],[_],fun Z w hs=> .tmp O .nil,?_,fun Z w hs=>((hs.pick .z).pick .z1).out (Sk2 (Sr)) (fun _ h=>h)⟩
 exact ⟨A9,c9,O,O,O⟩
theorem VU (M:DM) (D:DS) (ok:DkOk M D):Sp Tryz.prog 16 [.pointer (some ⟨M.d,0,none⟩)] (Kv M D) [] (fun v Lo fs=>v= .int .i64 D.gap∧Lo=Kv M D∧fs= []):=by
 have hpl:=ok.pl
 refine Sp.of (n:=7) ⟨_,Tryz.func16,O,O,O,O⟩ (Nat.le_of_ble_eq_true O) fun Ps As=>Jc (Ja (Lq (Jd O) (Je (Jf (Jc (Ja (Lq (Jb O) (Lq (JB O) (Lq (Jh (o':=17) Un65 O ti3 O O) (Lq (Jj Un3 O O Jm (dk17 hpl)) (Lq (Jd O) (Je (Jf (Jn ?_))))))))))))))
 refine ⟨_,[_,_,_,_,_,_,_,_],[],fun Z w hs=> .tmp O .nil,?_,fun Z w hs=>hs.out (Sk8 (Sr)) (fun _ h=>h)⟩
 exact ⟨O,O,O⟩
theorem YC (M:DM) (D:DS) (ok:DkOk M D):Sp Tryz.prog 22 [.pointer (some ⟨M.d,0,none⟩)] (Kv M D) [] (fun v Lo fs=>v= .int .i64 D.got∧Lo=Kv M D∧fs= []):=by
 have hpl:=ok.pl
 refine Sp.of (n:=7) ⟨_,Tryz.func22,O,O,O,O⟩ (Nat.le_of_ble_eq_true O) fun Ps As=>Jc (Ja (Lq (Jd O) (Je (Jf (Jc (Ja (Lq (Jb O) (Lq (JB O) (Lq (Jh (o':=6) Un65 O ti3 O O) (Lq (Jj Un3 O O Jm O) (Lq (Jd O) (Je (Jf (Jn ?_))))))))))))))
 refine ⟨_,[_,_,_,_,_,_,_,_],[],fun Z w hs=> .tmp O .nil,?_,fun Z w hs=>hs.out (Sk8 (Sr)) (fun _ h=>h)⟩
 exact ⟨O,O,O⟩
theorem QJ (M:DM) (D:DS) (ok:DkOk M D):Sp Tryz.prog 19 [.pointer (some ⟨M.d,0,none⟩)] (Kv M D) (barF::KT M D) (fun v Lo fs=>v= .int .i64 (J8 (D.X.take D.gap):Nat)∧Lo=Kv M D∧fs= []):=by
 have hvl:=Kn M.t.row
 have hwt:=ok.wt
 have htl:=ok.tl
 have hrow:=ok.row
 have hpl:=ok.pl
 have hgp:=ok.gp
 refine Sp.of (n:=19) ⟨_,Tryz.func19,O,O,O,O⟩ (Nat.le_of_ble_eq_true O) fun Ps As=>Jc (Ja (Lq (Jd O) (Je (Jf (Jc (JI _ _ [] (.c 0 0 (.c 1 0 (.c 2 0 (.c 3 0 (.c 4 0 (.c 5 0 (.c 6 0 (.c 7 0 (.c 8 0 (.c 9 2 (.c 10 0 (.c 11 0 (.c 12 0 (.c 13 0 (.c 14 0 .nil))))))))))))))) mixed (fun _ _ _ _ h=>h) (Sk4 (Sd (Sk3 (Sr)))) (fun _ h=>h) (by kernel_rfl) (by decide) fun ws Z0=>Qe O (Jb O) (Qe O (JB O) (Qe O (Jh (o':=0) Un65 O Ym O O) (Qe O (Jh (o':=1) Un58 O Gu O O) (Qe O (Jj Un56 O O Jm O) ?_))))))))))
 refine Qe O (Jb O) (Qe O (JB O) (Qe O (Jh (o':=17) Un65 O ti3 O O) (Qe O (Jj Un3 O O Jm (dk17 hpl)) (Js O O (JX (Gv M.b M.B M.t hwt (by omega) D.gap (by rw [hrow];exact hgp)) (.n2 O O) (by decide) .z4 (Jl Mm4 Jx) fun _ _ _ q9=>?_)))))
 obtain ⟨rfl,rfl,rfl⟩:=q9
 refine ⟨⟨(Sd (Sk7 (Sr))),Mm0⟩,?_⟩
 refine Qe O (Jb O) (Qe O (Jk (vs:= [_,_]) O O) (Qe O (Jk (vs:= [_,_]) O O) (Qe O (Jd O) (Qe O (Jd O) (JJ (JK (Jf (Jc (Ja (Lq (Jb O) (Lq (Jd O) (Je (Jf (Jn ?_))))))))))))))
 refine ⟨_,[_,_,_,_,_,_,_,_],[],fun Z w hs=> .tmp O .nil,?_,fun Z w hs=>((((((((hs.pick .z7).pick .z7).pick .z7).pick .z3).pick .z7).pick .z7).pick .z7).pick .z7).out (Sk8 (Sr)) Tt1⟩
 exact ⟨by rw [hrow];rfl,O,O⟩
theorem QZ (M:DM) (D:DS) (ok:DkOk M D):Sp Tryz.prog 21 [.pointer (some ⟨M.d,0,none⟩)] (Kv M D) (barF::KT M D) (fun v Lo fs=> ∃(A':Option Addr) (c':Nat),v= .slice A' (D.H.ops.drop D.got).length c'∧Lo=Kv M D∧fs= [RdF opD A' c' (D.H.ops.drop D.got)]):=by
 have hvl:=Kn M.t.row
 have hwt:=ok.wt
 have htl:=ok.tl
 have hrow:=ok.row
 have hpl:=ok.pl
 have hr:=ok.hr
 have hn:=ok.n
 have hrc:=ok.rc
 refine Sp.of (n:=25) ⟨_,Tryz.func21,O,O,O,O⟩ (Nat.le_of_ble_eq_true O) fun Ps As=>Jc (Ja (Lq (Jd O) (Je (Jf (Jc (JI _ _ [] (.c 0 0 (.c 1 0 (.c 2 0 (.c 3 0 (.c 4 0 (.c 5 0 (.c 6 0 (.c 7 0 (.c 8 0 (.c 9 0 (.c 10 0 (.c 11 0 (.c 12 0 (.c 13 0 (.c 14 2 (.c 15 2 (.c 16 0 (.c 17 0 (.c 18 0 (.c 19 0 (.c 20 0 .nil))))))))))))))))))))) mixed (fun _ _ _ _ h=>h) (Sk (Sd3 (Sk4 (Sr)))) (fun _ h=>h) (by kernel_rfl) (by decide) fun ws Z0=>Qe O (Jb O) (Qe O (JB O) (Qe O (Jh (o':=0) Un65 O Ym O O) (Qe O (Jh (o':=0) Un58 O Vm O O) ?_)))))))))
 refine Qe O (Jj Un55 O O Jm O) (Qe O (Jb O) (Qe O (JB O) (Qe O (Jh (o':=6) Un65 O ti3 O O) (Qe O (Jj Un3 O O Jm O) (Qe O (Jb O) (Qe O (JB O) (Qe O (Jh (o':=0) Un65 O Ym O O) (Qe O (Jh (o':=0) Un58 O Vm O O) (Qe O (Jj Un55 O O Jm O) ?_)))))))))
 refine Js O O (JX (Eb M.h M.m D.H.ops.length M.cap M.A D.H.total) (.n1 O) (by decide) .z1 Jx fun _ _ _ q9=>?_)
 obtain ⟨rfl,rfl,rfl⟩:=q9
 refine ⟨⟨(Sd (Sk (Sd2 (Sk4 (Sr))))),Mm0⟩,?_⟩
 refine Js O O (Ky (hops_k M.h M.m M.cap M.A D.H M.L hr D.got D.H.ops.length hrc (by omega)) (.n3 O O O) (by decide) .z .z1 .z1 (Jl Mm2 Jx) fun _ _ _ q9=>?_)
 obtain ⟨A9,c9,rfl,rfl,rfl⟩:=q9
 rw [List.take_length]
 refine ⟨⟨(Sd3 (Sk5 (Sr))),Mm1⟩,?_⟩
 refine Qe O (Jb O) (Qe O (Jk (vs:= [_,_]) O O) (Qe O (Jk (vs:= [_,_]) O O) (Qe O (Jd O) (Qe O (Jd O) (JJ (JK (Jf (Jc (Ja (Lq (Jb O) (Lq (Jd O) (Je (Jf (Jn ?_))))))))))))))
 refine ⟨_,[_,_,_,_,_,_,_,_],[_],fun Z w hs=> .tmp O .nil,?_,fun Z w hs=>((((((((hs.pick .z7).pick .z7).pick .z7).pick .z7).pick .z6).pick .z6).pick .z6).pick .z7).out (Sk8 (Sr)) (Jl Mm0 Tt2)⟩
 exact ⟨A9,c9,O,O,O⟩
def confD (D:DS):DS:= { D with got:=D.got+1 }
theorem confirm_0 (M:DM) (D:DS) (ok:DkOk M D) (i0 i1:Int) (hg:D.got<D.H.ents.length) (hi0:D.H.ents[D.got].op.c=i0) (hi1:D.H.ents[D.got].op.n=i1):Sp Tryz.prog 32 [.pointer (some ⟨M.d,0,none⟩), .agg #[.int .i64 i0, .int .i64 i1]] (Kv M D) (barF::KT M D) (fun v Lo fs=>DkOk M (confD D)∧v= .nilIface∧Lo=Kv M (confD D)∧fs= []):=by
 have hvl:=Kn M.t.row
 have hwt:=ok.wt
 have htl:=ok.tl
 have hrow:=ok.row
 have hpl:=ok.pl
 have hr:=ok.hr
 have hn:=ok.n
 have hdi:=ok.di
 have hle:=hdi.le
 have hen:(entE D.H.ents[D.got]).c=i0∧(entE D.H.ents[D.got]).n=i1:=by
  unfold entE
  split
  ·exact ⟨hi0,hi1⟩
  ·exact ⟨hi0,hi1⟩
 refine Sp.ofD (n:=43) ⟨_,Tryz.func32,O,O,O,O⟩ (Nat.le_of_ble_eq_true O) fun Ps As=>Ja (Jg O (J1 (cs:= [_,_]) O O (by decide) fun b3=>Jg O (Jv (cs:= [_]) Ye O (by decide) fun b4=>Je ?_)))
 refine ⟨O,_,_,_,_,_,catch_Confirm b4,DefReg.mk (.n1 O) (by decide),?_⟩
 refine Jc (Jc (Jt .z3 (Jt .z3 (K7 (JI _ _ [] (.c 0 0 (.c 1 0 (.c 2 0 (.c 3 0 (.c 4 0 (.c 5 0 (.c 6 0 (.c 7 2 (.c 8 0 .nil))))))))) mixed (fun _ _ _ _ h=>h) (Sk (Sd (Sk8 (Sr)))) (fun _ h=>h) (by kernel_rfl) (by first | exact dl O | decide) fun ws Z0=>JE O (Jb O) (dl O) (JE O (JB O) (dl O) (JE O (Jh (o':=6) Un65 O ti3 O O) (dl O) (JE O (Jj Un3 O O Jm O) (dl O) (JE O (Jb O) (dl O) ?_)))))))))
 refine JE O (JB O) (dl O) (JE O (Jh (o':=0) Un65 O Ym O O) (dl O) (Js O O (J4 (YF M.d M.h M.m M.b D.H.ops.length M.cap _ _ M.A D.H.total) (.n1 O) (by first | exact dl O | decide) .z .z Jx fun _ _ _ q9=>?_)))
 obtain ⟨rfl,rfl,rfl⟩:=q9
 refine ⟨⟨(Sk (Sd (Sk8 (Sr)))),Mm0⟩,?_⟩
 refine JE O (Ka O O) (dl O) (JJ (JK (Jf (Jz O (by simp;omega) (Jp (Jf (Jc (K7 (JI _ _ [14] (.c 0 0 (.c 1 0 (.c 2 0 (.c 3 0 (.c 4 0 (.c 5 0 (.c 6 0 (.c 7 0 (.c 8 0 (.b (.c 9 2 (.c 10 0 (.c 11 0 (.c 12 1 (.c 13 2 (.c 14 3 (.c 15 1 .nil))))))) (.c 13 2 (.c 9 2 (.c 10 0 (.c 11 0 (.c 12 1 (.c 14 3 (.c 15 1 .nil))))))))))))))))) mixed (fun _ _ _ _ h=>h) (Sk (Sd (Sk2 (Sd2 (Sk4 (Sr)))))) (fun _ h=>h) (by kernel_rfl) (by first | exact dl O | decide) fun ws Z0=>JE O (Jb O) (dl O) (JE O (JB O) (dl O) ?_))))))))))
 refine JE O (Jh (o':=0) Un65 O Ym O O) (dl O) (JE O (Jh (o':=0) Un58 O Vm O O) (dl O) (JE O (Jj Un55 O O Jm O) (dl O) (JE O (Jb O) (dl O) (JE O (JB O) (dl O) (JE O (Jh (o':=6) Un65 O ti3 O O) (dl O) (JE O (Jj Un3 O O Jm O) (dl O) (KN ?_ ?_)))))))
 ·refine Js O O (Ky (VG M.h M.m M.cap M.A D.H M.L hr D.got) (.n2 O O) (by first | exact dl O | decide) .z1 .z3 .z3 (Jl Mm3 (Jl Mm4 Jx)) fun _ _ _ q9=>?_)
  obtain ⟨A9,c9,rfl,rfl,rfl⟩:=q9
  rw [Yj hg]
  refine ⟨⟨(Sd3 (Sk7 (Sr))),Mm1⟩,?_⟩
  refine JE O (Jb O) (dl O) (JE O (Jk (vs:= [_,_]) O O) (dl O) (YW O (Jk (vs:= [_,_]) O O) (dl O) (Js O O (Jv (cs:= [_,_,_,_,_,_,_]) YI O (by first | exact dl O | decide) fun b5=> ?_))))
  refine ⟨⟨(Sd4 (Sk7 (Sr))),Mm1⟩,?_⟩
  refine JJ (J2 O O (Jq (cs':= [_,_,_,_,_,_,_]) (vs:= [_,_,_,_,_,_,_]) YI O O O O O (Nat.le_of_ble_eq_true O) .z (YM O (Jd O) (dl O) (JK (Jf (Jc (Jc (Ja (JG (Jh (o':=0) Un117 O JY O O) (dl O) (JG (Jw (vs:= [_,_]) Un34 O JY O Jm O O) (dl O) (JG (Jw (vs:= [_,_]) Un34 O JY O (Ji (Ji (Ji (Ji (Ji (Ji (Jm))))))) O O) (dl O) (JG (Ya O O (eq34 _ _ _ _)) (dl O) (Je (Jf (Jz O (by simp [hen.1,hen.2]) ?_)))))))))))))))
  refine Jp (Jf (Jc (Ja (JG (Jb O) (dl O) (JG (JB O) (dl O) (JG (Jh (o':=6) Un65 O ti3 O O) (dl O) (JG (Jj Un3 O O (Ji (Ji (Ji (Ji (Jm))))) O) (dl O) (JG (JZ O O (wr64 (by omega)) (c:=((D.got+1:Nat):Int))) (dl O) (JG (JB O) (dl O) (JG (Jh (o':=6) Un65 O ti3 O O) (dl O) (Jg O (JN ti3 O O O .z6 .z4 (Je (Jf (Jc (Ja ?_))))))))))))))))
  refine Jg O (JN Ye O O O .z .z5 (Je (Jf (Jn ?_))))
  refine ⟨_,[_,_,_,_,_,_,_,_],[],fun Z w hs=>Kj hs Un29 O O (Ji (Ji (Ji (Ji (Ji (Jm)))))) O .nil,?_,fun Z w hs=>((((((((hs.pick .z10).pick .z10).pick .z10).pick .z10).pick .z7).pick .z7).pick .z7).pick .z8).out (Sk8 (Sd3 (Sr))) Tt3⟩
  exact ⟨⟨ok.hr,ok.wt,ok.row,ok.hU,ok.hR,ok.di,ok.us,ok.pl,ok.p0,ok.lm,ok.gp,by show D.got+1≤D.H.ops.length;omega,ok.md,ok.sl⟩,rfl,rfl,rfl⟩
 ·refine Js O O (Jv (cs:= [_,_,_,_,_,_,_]) YI O (by first | exact dl O | decide) fun b5=> ?_)
  refine ⟨⟨(Sd (Sk (Sd (Sk2 (Sd2 (Sk4 (Sr))))))),Mm0⟩,?_⟩
  refine Js O O (Ky (VG M.h M.m M.cap M.A D.H M.L hr D.got) (.n2 O O) (by first | exact dl O | decide) .z2 .z4 .z4 (Jl Mm3 (Jl Mm4 Jx)) fun _ _ _ q9=>?_)
  obtain ⟨A9,c9,rfl,rfl,rfl⟩:=q9
  rw [Yj hg]
  refine ⟨⟨(Sd4 (Sk7 (Sr))),Mm1⟩,?_⟩
  refine JE O (Jb O) (dl O) (JE O (Jk (vs:= [_,_]) O O) (dl O) (YW O (Jk (vs:= [_,_]) O O) (dl O) (JJ (J2 O O (Jq (cs':= [_,_,_,_,_,_,_]) (vs:= [_,_,_,_,_,_,_]) YI O O O O O (Nat.le_of_ble_eq_true O) .z3 (YM O (Jd O) (dl O) (JK (Jf (Jc (Jc (Ja (JG (Jh (o':=0) Un117 O JY O O) (dl O) (JG (Jw (vs:= [_,_]) Un34 O JY O (Ji (Ji (Ji (Jm)))) O O) (dl O) (JG (Jw (vs:= [_,_]) Un34 O JY O (Ji (Ji (Ji (Ji (Ji (Ji (Jm))))))) O O) (dl O) ?_))))))))))))))
  refine JG (Ya O O (eq34 _ _ _ _)) (dl O) (Je (Jf (Jz O (by simp [hen.1,hen.2]) (Jp (Jf (Jc (Ja (JG (Jb O) (dl O) (JG (JB O) (dl O) (JG (Jh (o':=6) Un65 O ti3 O O) (dl O) (JG (Jj Un3 O O (Ji (Ji (Ji (Ji (Jm))))) O) (dl O) (JG (JZ O O (wr64 (by omega)) (c:=((D.got+1:Nat):Int))) (dl O) (JG (JB O) (dl O) ?_)))))))))))))
  refine JG (Jh (o':=6) Un65 O ti3 O O) (dl O) (Jg O (JN ti3 O O O .z6 .z4 (Je (Jf (Jc (Ja (Jg O (JN Ye O O O .z .z5 (Je (Jf (Jn ?_)))))))))))
  refine ⟨_,[_,_,_,_,_,_,_,_],[],fun Z w hs=>Kj hs Un29 O O (Ji (Ji (Ji (Ji (Ji (Jm)))))) O .nil,?_,fun Z w hs=>((((((((hs.pick .z10).pick .z10).pick .z10).pick .z10).pick .z6).pick .z6).pick .z6).pick .z8).out (Sk8 (Sd3 (Sr))) Tt3⟩
  exact ⟨⟨ok.hr,ok.wt,ok.row,ok.hU,ok.hR,ok.di,ok.us,ok.pl,ok.p0,ok.lm,ok.gp,by show D.got+1≤D.H.ops.length;omega,ok.md,ok.sl⟩,rfl,rfl,rfl⟩
theorem bd36_0_1Xg17 (x0_:Option Addr) (x1_:Option Addr) (w:World):(Instr.build 58 #[(0, .pointer x0_),(1, .pointer x1_)]).run Tryz.prog w= .ok (.agg #[.pointer x0_, .pointer x1_]) w:=by kernel_rfl
theorem Zp:Sp Tryz.prog 11 [] [] [] (fun v Lo fs=> ∃d h m b:Nat,v= .pointer (some ⟨d,0,none⟩)∧Lo= [[(d,JD [.pointer (some ⟨h,0,none⟩), .pointer (some ⟨b,0,none⟩)] 58)],hdP h none 0 0 m 0,mpP m [],mkP [],rpP b none] ∧fs= [RdF opD none 0 [],AllF ([] :List MR) nowF,TrF none .nil]):=by
 refine Sp.of (n:=5) ⟨_,Tryz.func11,O,O,O,O⟩ (Nat.le_of_ble_eq_true O) fun Ps As=>Jc (Ja (Lq (Jd O) (Je (Jf (Jc (Kf (A:=TrF none .nil) (fun Z w _=>O) (Ja (Jg O (Jo (Jbd) .nil (by decide) Jx fun _ _ _ q9=>?_)))))))))
 obtain ⟨h,m,rfl,rfl,rfl⟩:=q9
 refine Jg O (Jo (Jav) .nil (by decide) Jx fun _ _ _ q9=>?_)
 obtain ⟨b,rfl,rfl,rfl⟩:=q9
 refine Lq (JV (.n2 O O) (bd36_0_1Xg17 _ _)) (Jg O (J1 (cs:= [_,_]) O O (by decide) fun b4=>Lq (Jd O) (Je (Jf (Jn ?_)))))
 refine ⟨_,[_,_,_,_,_],[_,_,_],fun Z w hs=> .tmp O .nil,?_,fun Z w hs=>(((((hs.pick .z1).pick .z4).pick .z4).pick .z4).pick .z4).out (Sk5 (Sr)) (fun _ h=>h)⟩
 exact ⟨b4,h,m,b,O,O,O⟩
def zeroD (u cl ce op:Int):DS:=⟨u,cl,ce,op,⟨[],0⟩,[],0,0,List.replicate 9 0,0,[],[]⟩
theorem HR.zero:HR ⟨[],0⟩ [] where
 perm:=List.Perm.refl _
 ids:=List.nodup_nil
 fit:=fun e he=>by cases he
 wid:=fun e he=>by cases he
 now:=fun e he=>by cases he
 len:=Nat.zero_le _
 tot:=by decide
theorem DkOk.zero {u cl ce op:Int} (hu:1≤u∧u≤cl) (hc:cl≤8) (he:ce≤4096) (ho:op≤1024) (d h m b s:Nat):DkOk ⟨d,h,m,b,s,none,0,none, .nil,[], .slice none 0 0, .slice none 0 0,[],[]⟩ (zeroD u cl ce op):=
 ⟨HR.zero,wnilT,rfl,Row.nil _ _,Row.nil _ _,DI.zero,⟨hu.1,by show u≤8;omega⟩,rfl,fun x hx=>by have:=List.eq_of_mem_replicate hx;omega,⟨he,ho,by show 1≤cl;omega,hc⟩,Nat.zero_le _,Nat.zero_le _,Nat.zero_le _,Nat.zero_le _⟩
theorem bd42_0_1_2_7Xg18 (x0_0:Option Addr) (x0_1:Option Addr) (x1_:Int) (x2_0:Int) (x2_1:Int) (x2_2:Int) (x7_:Option Addr) (w:World):(Instr.build 65 #[(0, .agg #[.pointer x0_0, .pointer x0_1]),(1, .int .i64 x1_),(2, .agg #[.int .i64 x2_0, .int .i64 x2_1, .int .i64 x2_2]),(7, .pointer x7_)]).run Tryz.prog w= .ok (.agg #[.pointer x0_0, .pointer x0_1, .int .i64 x1_, .int .i64 x2_0, .int .i64 x2_1, .int .i64 x2_2, .int .i64 0, .int .i64 0, .int .i64 0, .int .i64 0, .int .i64 0, .int .i64 0, .int .i64 0, .int .i64 0, .int .i64 0, .int .i64 0, .int .i64 0, .int .i64 0, .pointer x7_]) w:=by kernel_rfl
theorem Zw (u cl ce op:Int) (hu:1≤u∧u≤cl) (hc:cl≤8) (he:1≤ce∧ce≤4096) (ho:1≤op∧op≤1024):Sp Tryz.prog 4 [.int .i64 u, .agg #[.int .i64 cl, .int .i64 ce, .int .i64 op]] [] [] (fun v Lo fs=> ∃M:DM,v= .tuple #[.pointer (some ⟨M.d,0,none⟩), .nilIface] ∧DkOk M (zeroD u cl ce op)∧Lo=Kv M (zeroD u cl ce op)∧fs=KT M (zeroD u cl ce op)):=by
 refine Sp.of (n:=39) ⟨_,Tryz.func4,O,O,O,O⟩ (Nat.le_of_ble_eq_true O) fun Ps As=>Jc (Ja (Jg O (J1 (cs:= [_,_,_]) O O (by decide) fun b3=>Lq (Jd O) (Lq (Jd O) (Je (Jf (Jc (Jc (Ja (Lq (Jh (o':=0) Un23 O ti3 O O) (Lq (Jj Un3 O O Jm O) (Jg O (Jo (KG _ _ _) (.n3 O O O) (by decide) Jx fun _ _ _ q9=>?_)))))))))))))
 obtain ⟨rfl,rfl,rfl⟩:=q9
 refine Lq (KC O) (Lq (Jb O) (Lg O O O (by rw [decide_eq_true (by omega)];rfl) (Jh (o':=1) Un23 O ti3 O O) (Lg O O O (by rw [decide_eq_true (by omega)];rfl) (Jj Un3 O O Jm O) (Kk O O O (by rw [decide_eq_true (by omega)];rfl) (Jo (KG _ _ _) (.n3 O O O) (by decide) Jx fun _ _ _ q9=>?_)))))
 obtain ⟨rfl,rfl,rfl⟩:=q9
 refine Lg O O O (by rw [decide_eq_true (by omega)];rfl) (KC O) (Lq (JA O (by rw [decide_eq_true (by omega)];rfl) O) (Lq (Jb O) (Lg O O O (by rw [decide_eq_true (by omega)];rfl) (Jh (o':=2) Un23 O ti3 O O) (Lg O O O (by rw [decide_eq_true (by omega)];rfl) (Jj Un3 O O Jm O) (Kk O O O (by rw [decide_eq_true (by omega)];rfl) (Jo (KG _ _ _) (.n3 O O O) (by decide) Jx fun _ _ _ q9=>?_))))))
 obtain ⟨rfl,rfl,rfl⟩:=q9
 refine Lg O O O (by rw [decide_eq_true (by omega)];rfl) (KC O) (Lq (JA O (by rw [decide_eq_true (by omega)];rfl) O) (Je (Jf (Jz O (by rw [decide_eq_true (by omega)];rfl) (Jp (Jf (Jc (Jc (Ja (Lq (Jb O) (Lq (Jh (o':=0) Un23 O ti3 O O) (Lq (Jj Un3 O O Jm O) (Jg O (Jo (KG _ _ _) (.n3 O O O) (by decide) Jx fun _ _ _ q9=>?_))))))))))))))
 obtain ⟨rfl,rfl,rfl⟩:=q9
 refine Lq (KC O) (Je (Jf (Jz O (by rw [decide_eq_true (by omega)];rfl) (Jp (Jf (Jc (KE (KE (JI _ _ [] (.c 3 0 (.c 4 0 (.c 0 2 (.c 1 0 (.b (.c 2 2 (.c 5 2 (.c 6 0 (.c 7 2 (.c 8 0 (.c 9 0 .nil)))))) (.c 5 2 (.c 2 2 (.c 6 0 (.c 7 2 (.c 8 0 (.c 9 0 .nil))))))))))) mixed (fun _ _ _ _ h=>h) (Sk3 (Sr)) (fun _ h=>h) (by kernel_rfl) (by decide) fun ws Z0=>Qe O (Jb O) (Qe O (Jw (vs:= [_,_,_]) Un23 O QO O (Ji (Ji (Jm))) O O) (Js O O (Jo (Zp) .nil (by decide) Jx fun _ _ _ q9=>?_))))))))))))
 obtain ⟨r,h,m,b,rfl,rfl,rfl⟩:=q9
 refine ⟨⟨(Sd5 (Sk3 (Sr))),Mm3⟩,?_⟩
 refine Qe O (JB O) (KN ?_ ?_)
 ·refine Js O O (Vz (Jw (vs:= [_,_]) Un58 O Ym O Jm O O) (by decide) ?_)
  refine ⟨⟨(Sd5 (Sk3 (Sr))),Mm3⟩,?_⟩
  refine Js O O (Jo (Hg) .nil (by decide) Jx fun _ _ _ q9=>?_)
  obtain ⟨s,rfl,rfl,rfl⟩:=q9
  refine ⟨⟨(Sd6 (Sk3 (Sr))),Mm3⟩,?_⟩
  refine Qe O (JV (.n4 O O O O) (bd42_0_1_2_7Xg18 _ _ _ _ _ _ _)) (Js O O (J1 (cs:= [_,_,_,_,_,_,_,_,_,_,_,_,_,_,_,_,_,_,_]) O O (by decide) fun b38=> ?_))
  refine ⟨⟨(Sd7 (Sk3 (Sr))),Mm3⟩,?_⟩
  refine Qe O (Jd O) (Qe O (Jd O) (JJ (JK (Jf (Jn ?_)))))
  refine ⟨_,[_,_,_,_,_,_,_,_],[_,_,_],fun Z w hs=> .tmp O (.tmp O .nil),?_,fun Z w hs=>((((((((hs.pick .z8).pick .z8).pick .z3).pick .z8).pick .z8).pick .z8).pick .z8).pick .z7).out (Sk8 (Sd2 (Sr))) (Jl Mm0 (Jl Mm1 (Jl Mm2 Tt4)))⟩
  exact ⟨⟨b38,h,m,b,s,none,0,none, .nil,[], .slice none 0 0, .slice none 0 0,[],[]⟩,O,DkOk.zero hu hc he.2 ho.2 _ _ _ _ _,O,O⟩
 ·refine Js O O (Jo (Hg) .nil (by decide) Jx fun _ _ _ q9=>?_)
  obtain ⟨s,rfl,rfl,rfl⟩:=q9
  refine ⟨⟨(Sd6 (Sk3 (Sr))),Mm3⟩,?_⟩
  refine Js O O (Vz (Jw (vs:= [_,_]) Un58 O Ym O (Ji (Jm)) O O) (by decide) ?_)
  refine ⟨⟨(Sd6 (Sk3 (Sr))),Mm3⟩,?_⟩
  refine Qe O (JV (.n4 O O O O) (bd42_0_1_2_7Xg18 _ _ _ _ _ _ _)) (Js O O (J1 (cs:= [_,_,_,_,_,_,_,_,_,_,_,_,_,_,_,_,_,_,_]) O O (by decide) fun b38=> ?_))
  refine ⟨⟨(Sd7 (Sk3 (Sr))),Mm3⟩,?_⟩
  refine Qe O (Jd O) (Qe O (Jd O) (JJ (JK (Jf (Jn ?_)))))
  refine ⟨_,[_,_,_,_,_,_,_,_],[_,_,_],fun Z w hs=> .tmp O (.tmp O .nil),?_,fun Z w hs=>((((((((hs.pick .z8).pick .z8).pick .z3).pick .z8).pick .z8).pick .z8).pick .z8).pick .z7).out (Sk8 (Sd2 (Sr))) (Jl Mm0 (Jl Mm1 (Jl Mm2 Tt4)))⟩
  exact ⟨⟨b38,h,m,b,s,none,0,none, .nil,[], .slice none 0 0, .slice none 0 0,[],[]⟩,O,DkOk.zero hu hc he.2 ho.2 _ _ _ _ _,O,O⟩
theorem turn_apply (e:Ent) (on:Bool) (X:List Ce):J6 (turnF e on) X=K6 e.now (if (decide (e.op.kind=2)==on)=true then 1 else -1) X:=by
 unfold J6 turnF
 dsimp only
 by_cases h:(decide (e.op.kind=2)==on)=true
 ·simp only [h,if_true];rfl
 ·simp only [h];rfl
theorem ZP (e:Ent) (on:Bool):(turnF e on).kind=2∨(turnF e on).kind=3:=by unfold turnF;dsimp only;split<;>simp
end Go.Proofs.YthkkklphanidjaaGreatDoor
