/- Part of the proof that this claim's law answers true, whatever its arguments. Condition: the laid variables hold what their initialisers lay (the card ties that to the program's text). -/
import Derived.Test.YthkkklphanidjaaGreatDoorQB
set_option maxRecDepth 10000
set_option linter.unusedVariables false
set_option linter.unusedSimpArgs false
open Go.Proofs.Tryz renaming underlying1→Un1,underlying3→Un3,underlying4→Un4,underlying9→Un9,underlying20→Un20,underlying21→Un21,underlying23→Un23,underlying24→Un24,underlying26→Un26,underlying27→Un27,underlying29→Un29,underlying34→Un34,underlying35→Un35,underlying37→Un37,underlying38→Un38,underlying40→Un40,underlying42→Un42,underlying43→Un43,underlying44→Un44,underlying45→Un45,underlying47→Un47,underlying54→Un54,underlying55→Un55,underlying56→Un56,underlying58→Un58,underlying61→Un61,underlying63→Un63,underlying65→Un65,underlying86→Un86,underlying92→Un92,underlying114→Un114,underlying117→Un117,underlying121→Un121,underlying123→Un123,underlying125→Un125,underlying126→Un126,underlying128→Un128,underlying132→Un132,underlying134→Un134,underlying138→Un138,underlying143→Un143,underlying144→Un144,underlying149→Un149,underlying152→Un152,underlying153→Un153,underlying155→Un155,underlying161→Un161,underlying165→Un165,underlying169→Un169,underlying185→Un185,underlying186→Un186,underlying188→Un188,underlying194→Un194,underlying199→Un199,underlying233→Un233
namespace Go.Proofs.YthkkklphanidjaaGreatDoor
open Go Go.GW
theorem GZ (c n:Int):Sp Tryz.prog 134 [.agg #[.int .i64 c, .int .i64 n]] [] [] (Is (.bool (decide (1≤c∧c≤8∧1≤n∧n≤1024)))):=by
 refine Sp.of (n:=21) ⟨_,Tryz.func134,O,O,O,O⟩ (Nat.le_of_ble_eq_true O) fun Ps As=>Jc (Ja (Jg O (J1 (cs:= [_,_]) O O (by decide) fun b1=>Lq (Jd O) (Je (Jf (Jc (Ja (Lq (KL (o':=0) Un34 ti3 O O (by decide) (by decide) O) (Lq (Jj Un3 O O Jm O) (Lq (Yl O O) (Lq (Jb O) (JU (t:=6) O (fun g6=> ?_) (fun g6=> ?_)))))))))))))
 ·refine Lg O O O g6 (KL (o':=0) Un34 ti3 O O (by decide) (by decide) O) (Lg O O O g6 (Jj Un3 O O Jm O) (Lg O O O g6 (YK O O) (Lq (JH O g6 O) (Lq (Jb O) (JU (t:=11) O (fun g11=> ?_) (fun g11=> ?_))))))
  ·refine Lg O O O g11 (KL (o':=1) Un34 ti3 O O (by decide) (by decide) O) (Lg O O O g11 (Jj Un3 O O Jm O) (Lg O O O g11 (Yl O O) (Lq (JH O g11 O) (Lq (Jb O) (JU (t:=16) O (fun g16=> ?_) (fun g16=> ?_))))))
   ·refine Lg O O O g16 (KL (o':=1) Un34 ti3 O O (by decide) (by decide) O) (Lg O O O g16 (Jj Un3 O O Jm O) (Lg O O O g16 (YK O O) (Lq (JH O g16 O) (Lq (Jd O) (Je (Jf (JL [(2,_)] (.m1 O) (Jn ?_))))))))
    refine ⟨_,[],[],fun Z w hs=> .tmp O .nil,?_,fun Z w hs=>hs.out (Sd (Sr)) (fun _ h=>h)⟩
    try simp only [Bp,Bq] at *
    exact ⟨congrArg Value.bool (by first | exact (decide_eq_true (by omega)).symm | exact (decide_eq_false (by omega)).symm | exact decide_eq_decide.2 (by omega) | (rw [Bool.eq_iff_iff];simp;omega) | (rw [Bool.eq_iff_iff];simp;done)),O,O⟩
   ·refine Ln O O O g16 (Ln O O O g16 (Ln O O O g16 (Lq (JA O g16 O) (Lq (Jd O) (Je (Jf (JL [(2,_)] (.m1 O) (Jn ?_))))))))
    refine ⟨_,[],[],fun Z w hs=> .tmp O .nil,?_,fun Z w hs=>hs.out (Sd (Sr)) (fun _ h=>h)⟩
    try simp only [Bp,Bq] at *
    exact ⟨congrArg Value.bool (by first | exact (decide_eq_true (by omega)).symm | exact (decide_eq_false (by omega)).symm | exact decide_eq_decide.2 (by omega) | (rw [Bool.eq_iff_iff];simp;omega) | (rw [Bool.eq_iff_iff];simp;done)),O,O⟩
  ·refine Ln O O O g11 (Ln O O O g11 (Ln O O O g11 (Lq (JA O g11 O) (Lq (Jb O) (Ln O O O O (Ln O O O O (Ln O O O O (Lq (JA O O O) (Lq (Jd O) ?_)))))))))
   refine Je (Jf (JL [(2,_)] (.m1 O) (Jn ?_)))
   refine ⟨_,[],[],fun Z w hs=> .tmp O .nil,?_,fun Z w hs=>hs.out (Sd (Sr)) (fun _ h=>h)⟩
   try simp only [Bp,Bq] at *
   exact ⟨congrArg Value.bool (by first | exact (decide_eq_true (by omega)).symm | exact (decide_eq_false (by omega)).symm | exact decide_eq_decide.2 (by omega) | (rw [Bool.eq_iff_iff];simp;omega) | (rw [Bool.eq_iff_iff];simp;done)),O,O⟩
 ·refine Ln O O O g6 (Ln O O O g6 (Ln O O O g6 (Lq (JA O g6 O) (Lq (Jb O) (Ln O O O O (Ln O O O O (Ln O O O O (Lq (JA O O O) (Lq (Jb O) ?_)))))))))
  refine Ln O O O O (Ln O O O O (Ln O O O O (Lq (JA O O O) (Lq (Jd O) (Je (Jf (JL [(2,_)] (.m1 O) (Jn ?_))))))))
  refine ⟨_,[],[],fun Z w hs=> .tmp O .nil,?_,fun Z w hs=>hs.out (Sd (Sr)) (fun _ h=>h)⟩
  try simp only [Bp,Bq] at *
  exact ⟨congrArg Value.bool (by first | exact (decide_eq_true (by omega)).symm | exact (decide_eq_false (by omega)).symm | exact decide_eq_decide.2 (by omega) | (rw [Bool.eq_iff_iff];simp;omega) | (rw [Bool.eq_iff_iff];simp;done)),O,O⟩
theorem GD (n:Int):Sp Tryz.prog 148 [.int .i64 n] [] [] (Is (.bool (decide (n<0∨n>1048576)))):=by
 refine Sp.of (n:=9) ⟨_,Tryz.func148,O,O,O,O⟩ (Nat.le_of_ble_eq_true O) fun Ps As=>Jc (Ja (Lq (Jd O) (Je (Jf (Jc (Ja (Lq (Jb O) (Lq (Ku O O) (Lq (Jb O) (JU (t:=5) O (fun g5=> ?_) (fun g5=> ?_)))))))))))
 ·refine Ln O O O g5 (Ln O O O g5 (Lq (JH O g5 O) (Lq (Jd O) (Je (Jf (Jn ?_))))))
  refine ⟨_,[],[],fun Z w hs=> .tmp O .nil,?_,fun Z w hs=>hs.out (Sr) (fun _ h=>h)⟩
  try simp only [Bp,Bq] at *
  exact ⟨congrArg Value.bool (by first | exact (decide_eq_true (by omega)).symm | exact (decide_eq_false (by omega)).symm | exact decide_eq_decide.2 (by omega) | (rw [Bool.eq_iff_iff];simp;omega) | (rw [Bool.eq_iff_iff];simp;done)),O,O⟩
 ·refine Lg O O O g5 (Jb O) (Lg O O O g5 (Ke O O) (Lq (JA O g5 O) (Lq (Jd O) (Je (Jf (Jn ?_))))))
  refine ⟨_,[],[],fun Z w hs=> .tmp O .nil,?_,fun Z w hs=>hs.out (Sr) (fun _ h=>h)⟩
  try simp only [Bp,Bq] at *
  exact ⟨congrArg Value.bool (by first | exact (decide_eq_true (by omega)).symm | exact (decide_eq_false (by omega)).symm | exact decide_eq_decide.2 (by omega) | (rw [Bool.eq_iff_iff];simp;omega) | (rw [Bool.eq_iff_iff];simp;done)),O,O⟩
def bndV (A:Option Addr) (c:Nat) (xs:List Rg):Value:=if xs.length>32768 then .tuple #[.slice none 0 0, .int .i64 21] else .tuple #[.slice A xs.length c, .int .i64 0]
theorem GK (A:Option Addr) (c:Nat) (xs:List Rg):Sp Tryz.prog 150 [.slice A xs.length c] [] [] (Is (bndV A c xs)):=by
 refine Sp.of (n:=8) ⟨_,Tryz.func150,O,O,O,O⟩ (Nat.le_of_ble_eq_true O) fun Ps As=>Jc (Ja (Lq (Jd O) (Lq (Jd O) (Je (Jf (Jc (Jc (Ja (Lq (Jb O) (Lq (J7 Un38 O) (Lq (Ke O O) (Je (Jf (Jy O (fun h6=> ?_) (fun h6=> ?_)))))))))))))))
 ·refine Jc (Ja (Lq (Jd O) (Lq (Jd O) (Je (Jf (Jn (Jr ?_)))))))
  refine ⟨_,[],[],fun Z w hs=> .tmp O (.tmp O .nil),?_,fun Z w hs=>hs.out (Sr) (fun _ h=>h)⟩
  try simp only [Bp,Bq] at *
  unfold bndV
  first | (rw [if_pos (by omega)];exact ⟨rfl,rfl,rfl⟩) | (rw [if_neg (by omega)];exact ⟨rfl,rfl,rfl⟩)
 ·refine Jp (Jf (Jc (Ja (Lq (Jb O) (Lq (Jd O) (Lq (Jd O) (Je (Jf (Jn ?_)))))))))
  refine ⟨_,[],[],fun Z w hs=> .tmp O (.tmp O .nil),?_,fun Z w hs=>hs.out (Sr) (fun _ h=>h)⟩
  try simp only [Bp,Bq] at *
  unfold bndV
  first | (rw [if_pos (by omega)];exact ⟨rfl,rfl,rfl⟩) | (rw [if_neg (by omega)];exact ⟨rfl,rfl,rfl⟩)
theorem bd25Xw1 (w:World):(Instr.build 34 #[]).run Tryz.prog w= .ok (.agg #[.int .i64 0, .int .i64 0]) w:=by kernel_rfl
theorem Z9 (a b:GOp) (Aa Ab:Option Addr) (ca cb:Nat):Sp Tryz.prog 145 [opV a Aa ca,opV b Ab cb] [] [] (Is (.bool (decide (a.c=b.c∧a.n=b.n∧ ¬(a.c=0∧a.n=0))))):=by
 refine Sp.of (n:=19) ⟨_,Tryz.func145,O,O,O,O⟩ (Nat.le_of_ble_eq_true O) fun Ps As=>Jc (Ja (Jg O (J1 (cs:= [_,_,_,_,_,_,_,_,_]) O O (by decide) fun b2=>Jg O (J1 (cs:= [_,_,_,_,_,_,_,_,_]) O O (by decide) fun b3=>Lq (Jd O) (Je (Jf (Jc (Ja (Lq (Jh (o':=0) Un40 O KI O O) (Lq (Jh (o':=0) Un37 O JY O O) (Lq (Jw (vs:= [_,_]) Un34 O JY O (Ji (Jm)) O O) (Lq (Jh (o':=0) Un40 O KI O O) ?_))))))))))))
 refine Lq (Jh (o':=0) Un37 O JY O O) (Lq (Jw (vs:= [_,_]) Un34 O JY O Jm O O) (Lq (Qd O O (eq34 _ _ _ _)) (Lq (Jb O) (JU (t:=12) O (fun g12=> ?_) (fun g12=> ?_)))))
 ·refine Lg O O O g12 (Jh (o':=0) Un40 O KI O O) (Lg O O O g12 (Jh (o':=0) Un37 O JY O O) (Lg O O O g12 (Jw (vs:= [_,_]) Un34 O JY O (Ji (Jm)) O O) (Lg O O O g12 (JV .nil (bd25Xw1)) (Lg O O O g12 (Ya O O (eq34 _ _ _ _)) (Lq (JH O g12 O) (Lq (Jd O) (Je (Jf (JL [(4,_)] (.m1 O) (Jn ?_))))))))))
  refine ⟨_,[],[],fun Z w hs=> .tmp O .nil,?_,fun Z w hs=>hs.out (Sd2 (Sr)) (fun _ h=>h)⟩
  try simp only [Bp,Bq] at *
  exact ⟨congrArg Value.bool (by first | exact (decide_eq_true (by omega)).symm | exact (decide_eq_false (by omega)).symm | exact decide_eq_decide.2 (by omega) | (rw [Bool.eq_iff_iff];simp;omega) | (rw [Bool.eq_iff_iff];simp;done)),O,O⟩
 ·refine Ln O O O g12 (Ln O O O g12 (Ln O O O g12 (Ln O O O g12 (Ln O O O g12 (Lq (JA O g12 O) (Lq (Jd O) (Je (Jf (JL [(4,_)] (.m1 O) (Jn ?_))))))))))
  refine ⟨_,[],[],fun Z w hs=> .tmp O .nil,?_,fun Z w hs=>hs.out (Sd2 (Sr)) (fun _ h=>h)⟩
  try simp only [Bp,Bq] at *
  exact ⟨congrArg Value.bool (by first | exact (decide_eq_true (by omega)).symm | exact (decide_eq_false (by omega)).symm | exact decide_eq_decide.2 (by omega) | (rw [Bool.eq_iff_iff];simp;omega) | (rw [Bool.eq_iff_iff];simp;done)),O,O⟩
theorem Y1 (o:GOp) (A:Option Addr) (c:Nat) (hl:o.rs.length≤8796093022208):Sp Tryz.prog 93 [opV o A c] [] [RdF rgD A c o.rs] (fun v Lo fs=> ∃A' c',v=opV o A' c'∧Lo= [] ∧fs= [RdF rgD A' c' o.rs]):=by
 refine Sp.of (n:=8) ⟨_,Tryz.func93,O,O,O,O⟩ (Nat.le_of_ble_eq_true O) fun Ps As=>Jc (Ja (Jg O (J1 (cs:= [_,_,_,_,_,_,_,_,_]) O O (by decide) fun b1=>Jg O (Jv (cs:= [_,_,_,_,_,_,_,_,_]) JF O (by decide) fun b2=>Je (Jf (Jc (Ja (Lq (Jh (o':=5) Un40 O Yd O O) (Lq (Jj Un38 O O (Ji (Jm)) O) (Gp (Jg O (YE (e:=rgD) (ys:=o.rs) Un38 KB O (by decide) O O (Row.nil _ _) Mm0 (by simp only [Nat.zero_add];omega) (by unfold maxLen;omega) (by decide) (List.Perm.refl _) fun v5 p5 cs5 hr5=>GO (e:=rgD) (css:=cs5) hr5 .z (by simp) Mm0 fun A5 c5 e5=> ?_))))))))))))
 subst e5
 refine Lq (Jh (o':=5) Un40 O Yd O O) (Jg O (JN Yd O O O .z5 .z1 (Je (Jf (Jc (Ja (Lq (Jw (vs:= [_,_,_,_,_,_,_,_,_]) Un40 O JF O (Ji (Jm)) O O) (Jg O (Jq (cs':= [_,_,_,_,_,_,_,_,_]) (vs:= [_,_,_,_,_,_,_,_,_]) JF O O O O O (Nat.le_of_ble_eq_true O) .z (Je (Jf (Jn ?_))))))))))))
 refine ⟨_,[],[RdF rgD A5 c5 o.rs],fun Z w hs=>JS hs Un40 O JF O Jm O .nil,?_,fun Z w hs=>hs.out (Sd2 (Sr)) (Jl Mm0 Tt2)⟩
 exact ⟨A5,c5,O,O,O⟩
theorem add_1 (v:Value) (xs:List Rg) (p:Part) (lo hi:Int) (hr:Row 143 2 v xs.length (rgs xs) p) (h:hi≤lo):Sp Tryz.prog 149 [v, .int .i64 lo, .int .i64 hi] [p] [] (fun v' Lo fs=> ∃p',Row 143 2 v' (addF xs lo hi).length (rgs (addF xs lo hi)) p'∧Lo= [p'] ∧fs= []):=by
 refine Sp.of (n:=46) ⟨_,Tryz.func149,O,O,O,O⟩ (Nat.le_of_ble_eq_true O) fun Ps As=>Jc (Ja (Lq (Jd O) (Je (Jf (Jc (Jc (Ja (Lq (Jb O) (Lq (Jb O) (Lq (Yl O O) (Je (Jf (JQ O (by simpa using h) (Jc (Ja ?_)))))))))))))))
 refine Lq (Jb O) (Lq (Jd O) (Je (Jf (Jn (Jr ?_)))))
 refine ⟨_,[p],[],fun Z w hs=> .tmp O .nil,?_,fun Z w hs=>hs.out (Sk (Sr)) (fun _ h=>h)⟩
 exact ⟨p,by rw [GN h];exact hr,O,O⟩
theorem bd37_0_1Xw3 (x0_:Int) (x1_:Int) (w:World):(Instr.build 143 #[(0, .int .i64 x0_),(1, .int .i64 x1_)]).run Tryz.prog w= .ok (.agg #[.int .i64 x0_, .int .i64 x1_]) w:=by kernel_rfl
theorem add_2 (v:Value) (p:Part) (lo hi:Int) (hr:Row 143 2 v 0 (rgs []) p) (h: ¬hi≤lo):Sp Tryz.prog 149 [v, .int .i64 lo, .int .i64 hi] [p] [] (fun v' Lo fs=> ∃p',Row 143 2 v' (addF [] lo hi).length (rgs (addF [] lo hi)) p'∧Lo= [p'] ∧fs= []):=by
 obtain ⟨A,cap,rfl⟩:=hr.slice
 refine Sp.of (n:=46) ⟨_,Tryz.func149,O,O,O,O⟩ (Nat.le_of_ble_eq_true O) fun Ps As=>Jc (Ja (Lq (Jd O) (Je (Jf (Jc (Jc (Ja (Lq (Jb O) (Lq (Jb O) (Lq (Yl O O) (Je (Jf (Jz O (by simpa using h) (Jp (Jf (Jc (Jc (Ja ?_))))))))))))))))))
 refine Lq (Jb O) (Lq (J7 Un38 O) (Lq (Jd O) (Je (Jf (Jc (Ja (Lq (Jb O) (Lq (Ke O O) (Lq (Jb O) (Ln O O O (by simp) (Ln O O O (by simp) (Ln O O O (by simp) ?_))))))))))))
 refine Ln O O O (by simp) (Ln O O O (by simp) (Ln O O O (by simp) (Ln O O O (by simp) (Ln O O O (by simp) (Lq (JA O (by simp) O) (Je (Jf (JL [(25,_),(7,_),(6,_),(0,_),(1,_),(2,_)] (.m6 O O O O O O) (Jz O O (Jp (Jf (Jc (Ja (Lq (Jb O) ?_))))))))))))))
 refine Lq (Jb O) (Lq (Jb O) (Lq (JV (.n2 O O) (bd37_0_1Xw3 _ _)) (Jg O (KP (cs:= [_,_]) Un38 KB (by decide) (by decide) O O O O (by decide) fun b44=>Jg O (KV (news:= [_,_]) Un38 KB O (by decide) O O hr Jm O O (by omega) (by unfold maxLen;omega) (by decide) (DelAt.perm .z1) fun v45 p45 hr45=>Lq (Jd O) (Je (Jf (Jn ?_))))))))
 refine ⟨_,[p45],[],fun Z w hs=> .tmp O .nil,?_,fun Z w hs=>hs.out (Sk (Sd (Sr))) (fun _ h=>h)⟩
 exact ⟨p45,by rw [Gm h,QV];exact hr45,O,O⟩
theorem add_3 (v:Value) (ys:List Rg) (r:Rg) (p:Part) (lo hi:Int) (hr:Row 143 2 v (ys++ [r]).length (rgs (ys++ [r])) p) (hb:ys.length≤1000000) (h: ¬hi≤lo) (hj:lo≤r.hi):Sp Tryz.prog 149 [v, .int .i64 lo, .int .i64 hi] [p] [] (fun v' Lo fs=> ∃p',Row 143 2 v' (addF (ys++ [r]) lo hi).length (rgs (addF (ys++ [r]) lo hi)) p'∧Lo= [p'] ∧fs= []):=by
 have hn:(ys++ [r]).length=ys.length+1:=by simp
 obtain ⟨hlen,⟨_,h0,_⟩ | ⟨b,cap,jk,rfl,rfl,h1,h2,h3⟩⟩:=hr
 ·omega
 have hcs:(rgs (ys++ [r])++jk).length=((ys++ [r]).length)*2+jk.length:=by rw [List.length_append,hlen]
 have hix:((((ys++ [r]).length:Nat):Int)-1).toNat=ys.length:=by omega
 refine Sp.of (n:=46) ⟨_,Tryz.func149,O,O,O,O⟩ (Nat.le_of_ble_eq_true O) fun Ps As=>Jc (Ja (Lq (Jd O) (Je (Jf (Jc (Jc (Ja (Lq (Jb O) (Lq (Jb O) (Lq (Yl O O) (Je (Jf (Jz O (by simpa using h) (Jp (Jf (Jc (Jc (Ja ?_))))))))))))))))))
 refine Lq (Jb O) (Lq (J7 Un38 O) (Lq (Jd O) (Je (Jf (Jc (Ja (Lq (Jb O) (Lq (Ke O O) (Lq (Jb O) (Lg O O O (by simp) (Jb O) (Lg O O O (by simp) (Jb O) (Lg O O O (by simp) (KS O O (wr64 (by omega))) ?_))))))))))))
 refine Lg O O O (by simp) (Yv Un38 KB O O (by omega) (by omega)) (Lg O O O (by simp) (Jh (o':=_+1) Un143 O ti3 O O) (Lg O O O (by simp) (Jj Un3 O O Jm (by rw [hix];exact rgs_last ys r jk)) (Lg O O O (by simp) (Jb O) (Lg O O O (by simp) (Yl O O) (Lq (JH O (by simp) O) (Je (Jf (JL [(25,_),(7,_),(6,_),(0,_),(1,_),(2,_)] (.m6 O O O O O O) (JQ O (by simpa using hj) (Jc (Ja ?_)))))))))))
 refine Lq (Jb O) (Lq (Jb O) (Lq (KS O O (wr64 (by omega))) (Lq (Jb O) (Lq (Jb O) (Lq (KS O O (wr64 (by omega))) (Lq (Yv Un38 KB O O (by omega) (by omega)) (Lq (Jh (o':=_+1) Un143 O ti3 O O) (Lq (Jj Un3 O O Jm (by rw [hix];exact rgs_last ys r jk)) (Lq (Jb O) ?_)))))))))
 refine Lq (VM O O) (Lq (Yv Un38 KB O O (by omega) (by omega)) (Lq (Jh (o':=_+1) Un143 O ti3 O O) (Jg O (K8 ti3 O O O (by rw [hcs,hix];omega) .z (Je (Jf (JL [(6,_),(0,_),(1,_),(2,_)] (.m4 O O O O) (Jc (Ja (Lq (Jb O) (Lq (Jd O) (Je (Jf (Jn (Jr ?_)))))))))))))))
 refine ⟨_,[_],[],fun Z w hs=> .tmp O .nil,?_,fun Z w hs=>hs.out (Sk (Sr)) (fun _ h=>h)⟩
 refine ⟨_,?_,O,O⟩
 rw [Xe h hj,hix,Hj,show (ys++ [r]).length=(ys++ [(⟨r.lo,max r.hi hi⟩:Rg)]).length from by simp]
 refine ⟨Yy _, .inr ⟨b,cap,jk,O,O,?_,by simpa using h2,h3⟩⟩
 rw [List.length_append,Yy] at h1 ⊢
 simpa using h1
theorem add_4 (v:Value) (ys:List Rg) (r:Rg) (p:Part) (lo hi:Int) (hr:Row 143 2 v (ys++ [r]).length (rgs (ys++ [r])) p) (hb:ys.length≤1000000) (h: ¬hi≤lo) (hj: ¬lo≤r.hi):Sp Tryz.prog 149 [v, .int .i64 lo, .int .i64 hi] [p] [] (fun v' Lo fs=> ∃p',Row 143 2 v' (addF (ys++ [r]) lo hi).length (rgs (addF (ys++ [r]) lo hi)) p'∧Lo= [p'] ∧fs= []):=by
 have hr0:=hr
 have hn:(ys++ [r]).length=ys.length+1:=by simp
 obtain ⟨hlen,⟨_,h0,_⟩ | ⟨b,cap,jk,rfl,rfl,h1,h2,h3⟩⟩:=hr
 ·omega
 have hcs:(rgs (ys++ [r])++jk).length=((ys++ [r]).length)*2+jk.length:=by rw [List.length_append,hlen]
 have hix:((((ys++ [r]).length:Nat):Int)-1).toNat=ys.length:=by omega
 refine Sp.of (n:=46) ⟨_,Tryz.func149,O,O,O,O⟩ (Nat.le_of_ble_eq_true O) fun Ps As=>Jc (Ja (Lq (Jd O) (Je (Jf (Jc (Jc (Ja (Lq (Jb O) (Lq (Jb O) (Lq (Yl O O) (Je (Jf (Jz O (by simpa using h) (Jp (Jf (Jc (Jc (Ja ?_))))))))))))))))))
 refine Lq (Jb O) (Lq (J7 Un38 O) (Lq (Jd O) (Je (Jf (Jc (Ja (Lq (Jb O) (Lq (Ke O O) (Lq (Jb O) (Lg O O O (by simp) (Jb O) (Lg O O O (by simp) (Jb O) (Lg O O O (by simp) (KS O O (wr64 (by omega))) ?_))))))))))))
 refine Lg O O O (by simp) (Yv Un38 KB O O (by omega) (by omega)) (Lg O O O (by simp) (Jh (o':=_+1) Un143 O ti3 O O) (Lg O O O (by simp) (Jj Un3 O O Jm (by rw [hix];exact rgs_last ys r jk)) (Lg O O O (by simp) (Jb O) (Lg O O O (by simp) (Yl O O) (Lq (JH O (by simp) O) (Je (Jf (JL [(25,_),(7,_),(6,_),(0,_),(1,_),(2,_)] (.m6 O O O O O O) (Jz O (by simpa using hj) (Jp (Jf (Jc (Ja ?_)))))))))))))
 refine Lq (Jb O) (Lq (Jb O) (Lq (Jb O) (Lq (JV (.n2 O O) (bd37_0_1Xw3 _ _)) (Jg O (KP (cs:= [_,_]) Un38 KB (by decide) (by decide) O O O O (by decide) fun b44=>Jg O (KV (news:= [_,_]) Un38 KB O (by decide) O O hr0 Jm O O (by omega) (by unfold maxLen;omega) (by decide) (DelAt.perm .z1) fun v45 p45 hr45=>Lq (Jd O) (Je (Jf (Jn ?_)))))))))
 refine ⟨_,[p45],[],fun Z w hs=> .tmp O .nil,?_,fun Z w hs=>hs.out (Sk (Sd (Sr))) (fun _ h=>h)⟩
 exact ⟨p45,by rw [Xd h hj,Qp (ys++ [r]),QV,List.length_append];exact hr45,O,O⟩
theorem GM (v:Value) (xs:List Rg) (p:Part) (lo hi:Int) (hr:Row 143 2 v xs.length (rgs xs) p) (hb:xs.length≤1000000):Sp Tryz.prog 149 [v, .int .i64 lo, .int .i64 hi] [p] [] (fun v' Lo fs=> ∃p',Row 143 2 v' (addF xs lo hi).length (rgs (addF xs lo hi)) p'∧Lo= [p'] ∧fs= []):=by
 by_cases h:hi≤lo
 ·exact add_1 v xs p lo hi hr h
 ·rcases List.eq_nil_or_concat xs with rfl | ⟨ys,r,rfl⟩
  ·exact add_2 v p lo hi hr h
  ·rw [List.concat_eq_append] at *
   have hb':ys.length≤1000000:=by simp at hb;omega
   by_cases hj:lo≤r.hi
   ·exact add_3 v ys r p lo hi hr hb' h hj
   ·exact add_4 v ys r p lo hi hr hb' h hj
theorem bounded_1 (A:Option Addr) (c:Nat) (xs:List Rg) (h:xs.length>32768):Sp Tryz.prog 150 [.slice A xs.length c] [] [] (Is (.tuple #[.slice none 0 0, .int .i64 21])):=by
 have:=GK A c xs
 unfold bndV at this
 rwa [if_pos h] at this
theorem bounded_2 (A:Option Addr) (c:Nat) (xs:List Rg) (h: ¬xs.length>32768):Sp Tryz.prog 150 [.slice A xs.length c] [] [] (Is (.tuple #[.slice A xs.length c, .int .i64 0])):=by
 have:=GK A c xs
 unfold bndV at this
 rwa [if_neg h] at this
theorem XI (A:Option Addr) (c:Nat) (xs:List Rg) (hl:xs.length≤8796093022208):Sp Tryz.prog 144 [.slice A xs.length c] [] [RdF rgD A c xs] (Is (.tuple #[.int .i64 (ckF xs).1, .int .i64 (ckF xs).2])):=by
 refine Sp.of (n:=47) ⟨_,Tryz.func144,O,O,O,O⟩ (Nat.le_of_ble_eq_true O) fun Ps As=>Jc (Ja (Lq (Jd O) (Lq (Jd O) (Je (Jf (Jc (Jc (Ja (Lq (Jb O) (Lq (J7 Un38 O) (Lq (Ke O O) (Je (Jf (Jy O (fun h8=> ?_) (fun h8=> ?_)))))))))))))))
 ·refine Jc (Ja (Lq (Jd O) (Lq (Jd O) (Je (Jf (Jn (Jr ?_)))))))
  refine ⟨_,[],[],fun Z w hs=> .tmp O (.tmp O .nil),?_,fun Z w hs=>hs.out (Sr) (fun _ h=>h)⟩
  try simp only [Bp,Bq] at *
  exact ⟨by unfold ckF;rw [if_pos (by omega)];rfl,O,O⟩
 ·refine Jp (Jf (Jc (Jc (Ja (Lq (Jb O) (Lq (J7 Un38 O) (Lq (Jb O) (Je (Jf (JO ?_))))))))))
  refine Ki (α:=Nat) (fun k=>xs.length-k)
   (fun k=> [(0, .slice A xs.length c),(9, .slice A xs.length c),(10, .int .i64 xs.length),(11, .int .i64 k)])
   (fun k=>Ps)
   (fun k=>(RdF rgD A c xs::As))
   (fun k=>CkI xs k)
   0 ?_ (.m4 rfl rfl rfl rfl) (Sr) (fun _ h=>h) ?_
  ·simp only [decide_eq_false_iff_not] at h8
   exact CkI.zero (by omega)
  ·rintro k hI
   refine Jc (Ja (Lq (Ku O O) (Je (Jf (Jc (Jy O (fun h12=> ?_) (fun h12=> ?_)))))))
   ·refine Jp (Jf (Jc (JO (Jc ?_))))
    have hk:k<xs.length:=by simpa using h12
    refine Kh (k:=k) Mm0 (List.getElem?_eq_getElem hk) (rg_open _) fun b5 q5 y5 e5=> ?_
    cases e5
    refine Ja (Lq (Jb O) (Lq (Kc Un38 KB O O (by omega) (by omega)) (Lq (Kq (k:=0) (vs:= [_,_]) Un143 O KB O Mm0 O O O) (Jg O (Jv (cs:= [_,_]) KB O (by decide) fun b5=>Lq (Jd O) (Jg O (Jq (cs':= [_,_]) (vs:= [_,_]) KB O O O O O (Nat.le_of_ble_eq_true O) .z (Je (Jf (Jc (Jc (Ja (Lq (Jh (o':=0) Un143 O ti3 O O) (Lq (Jj Un3 O O Jm O) ?_))))))))))))))
    refine Lq (Ku O O) (Lq (Jb O) (JU (t:=19) O (fun g19=> ?_) (fun g19=> ?_)))
    ·refine Ln O O O g19 (Ln O O O g19 (Ln O O O g19 (Lq (JH O g19 O) (Lq (Jb O) (Ln O O O O (Ln O O O O (Ln O O O O (Ln O O O O (Ln O O O O ?_)))))))))
     refine Lq (JH O O O) (Je (Jf (JQ O O (Jc (Ja (Lq (Jb O) (Lq (Jd O) (Lq (Jd O) (Je (Jf (Jn (Jr (JM (Jr (Jr (JM (Jr ?_)))))))))))))))))
     refine ⟨_,[],[],fun Z w hs=> .tmp O (.tmp O .nil),?_,fun Z w hs=>hs.out (Sd (Sr)) Tt1⟩
     try simp only [Bp,Bq] at *
     first
      | (have hF:=CkI.bad hI hk (by omega);exact ⟨by rw [hF];rfl,rfl,rfl⟩)
      | (have hF:=CkI.ord hI hk (by omega) (by omega);exact ⟨by rw [hF];rfl,rfl,rfl⟩)
      | (have hF:=CkI.done hI (by omega);exact ⟨by rw [hF];rfl,rfl,rfl⟩)
    ·refine Lg O O O g19 (Jh (o':=1) Un143 O ti3 O O) (Lg O O O g19 (Jj Un3 O O Jm O) (Lg O O O g19 (Ke O O) (Lq (JA O g19 O) (Lq (Jb O) (JU (t:=24) O (fun g24=> ?_) (fun g24=> ?_))))))
     ·refine Ln O O O g24 (Ln O O O g24 (Ln O O O g24 (Ln O O O g24 (Ln O O O g24 (Lq (JH O g24 O) (Je (Jf (JQ O O (Jc (Ja (Lq (Jb O) (Lq (Jd O) (Lq (Jd O) ?_)))))))))))))
      refine Je (Jf (Jn (Jr (JM (Jr (Jr (JM (Jr ?_))))))))
      refine ⟨_,[],[],fun Z w hs=> .tmp O (.tmp O .nil),?_,fun Z w hs=>hs.out (Sd (Sr)) Tt1⟩
      try simp only [Bp,Bq] at *
      first
       | (have hF:=CkI.bad hI hk (by omega);exact ⟨by rw [hF];rfl,rfl,rfl⟩)
       | (have hF:=CkI.ord hI hk (by omega) (by omega);exact ⟨by rw [hF];rfl,rfl,rfl⟩)
       | (have hF:=CkI.done hI (by omega);exact ⟨by rw [hF];rfl,rfl,rfl⟩)
     ·refine Lg O O O g24 (Jh (o':=0) Un143 O ti3 O O) (Lg O O O g24 (Jj Un3 O O Jm O) (Lg O O O g24 (Jh (o':=1) Un143 O ti3 O O) (Lg O O O g24 (Jj Un3 O O Jm O) (Lg O O O g24 (Yl O O) (Lq (JA O g24 O) (Je (Jf (Jy O (fun h30=> ?_) (fun h30=> ?_)))))))))
      ·refine Jc (Ja (Lq (Jb O) (Lq (Jd O) (Lq (Jd O) (Je (Jf (Jn (Jr (JM (Jr (Jr (JM (Jr ?_)))))))))))))
       refine ⟨_,[],[],fun Z w hs=> .tmp O (.tmp O .nil),?_,fun Z w hs=>hs.out (Sd (Sr)) Tt1⟩
       try simp only [Bp,Bq] at *
       first
        | (have hF:=CkI.bad hI hk (by omega);exact ⟨by rw [hF];rfl,rfl,rfl⟩)
        | (have hF:=CkI.ord hI hk (by omega) (by omega);exact ⟨by rw [hF];rfl,rfl,rfl⟩)
        | (have hF:=CkI.done hI (by omega);exact ⟨by rw [hF];rfl,rfl,rfl⟩)
      ·refine Jp (Jf (Jc ?_))
       rcases k with _ | k
       ·refine JI _ _ [] (.c 0 0 (.c 1 0 (.c 2 0 (.c 3 0 (.c 4 0 (.c 5 0 (.c 6 0 (.c 7 0 (.c 8 0 (.c 9 0 (.c 10 0 (.c 11 0 (.c 12 0 .nil))))))))))))) mixed (fun _ _ _ _ h=>h) (Sk (Sr)) (fun _ h=>h) (by kernel_rfl) (by decide) fun ws Z0=>Qe O (Jb O) (Qe O (Ke O O) (Qe O (Jb O) (KR O O O O (by simp) (by decide) (KR O O O O (by simp) (by decide) (KR O O O O (by simp) (by decide) (KR O O O O (by simp) (by decide) (KR O O O O (by simp) (by decide) (KR O O O O (by simp) (by decide) ?_))))))))
        refine KR O O O O (by simp) (by decide) (KR O O O O (by simp) (by decide) (KR O O O O (by simp) (by decide) (Qe O (JA O (by simp) O) (JJ (JK (Jf (Jz O O (Jp (J9 (Jf (Ja (Lq (JZ O O (wr64 (by omega))) (Lq (Jb O) (Je (Ko ?_)))))))))))))))
        refine ⟨0+1,?_,(.m4 O O O O),(Sd (Sr)),Tt2⟩
        try simp only [Bp,Bq] at *
        exact ⟨by omega,by first | exact CkI.first hI hk (by omega) | exact CkI.next hI hk (by omega) (by omega)⟩
       ·refine Kh (k:=k) Mm1 (List.getElem?_eq_getElem (by omega:k<xs.length)) (rg_open _) fun b7 q7 y7 e7=> ?_
        cases e7
        refine JI _ _ [] (.c 0 0 (.c 1 0 (.c 2 0 (.c 3 0 (.c 4 0 (.c 5 0 (.c 6 0 (.c 7 0 (.c 8 0 (.c 9 0 (.c 10 0 (.c 11 0 (.c 12 0 .nil))))))))))))) mixed (fun _ _ _ _ h=>h) (Sk (Sr)) (fun _ h=>h) (by kernel_rfl) (by decide) fun ws Z0=>Qe O (Jb O) (Qe O (Ke O O) (Qe O (Jb O) (Kl O O O O (by first | (simp;done) | (simp;omega)) (Jh (o':=0) Un143 O ti3 O O) (by decide) (Kl O O O O (by first | (simp;done) | (simp;omega)) (Jj Un3 O O Jm O) (by decide) (Kl O O O O (by first | (simp;done) | (simp;omega)) (Jb O) (by decide) (Kl O O O O (by first | (simp;done) | (simp;omega)) (Jb O) (by decide) ?_))))))
        refine Kl O O O O (by first | (simp;done) | (simp;omega)) (KS O O (by rw [wr64 (by omega)];omega) (c:=(k:Int))) (by decide) (Kl O O O O (by first | (simp;done) | (simp;omega)) (Kc Un38 KB O O (by omega) (by omega)) (by decide) (Kl O O O O (by first | (simp;done) | (simp;omega)) (Jh (o':=_+1) Un143 O ti3 O O) (by decide) (Kl O O O O (by first | (simp;done) | (simp;omega)) (Ks (j:=1) Un3 O O Mm0 O O) (by decide) (Kl O O O O (by first | (simp;done) | (simp;omega)) (YK O O) (by decide) (Qe O (JH O (by first | (simp;done) | (simp;omega)) O) (JJ (JK (Jf (Jy O (fun h44=> ?_) (fun h44=> ?_))))))))))
        ·refine Jc (Ja (Lq (Jb O) (Lq (Jd O) (Lq (Jd O) (Je (Jf (Jn (JM (Jr (Jr (JM (Jr ?_))))))))))))
         refine ⟨_,[],[],fun Z w hs=> .tmp O (.tmp O .nil),?_,fun Z w hs=>hs.out (Sd (Sr)) Tt3⟩
         try simp only [Bp,Bq] at *
         first
          | (have hF:=CkI.bad hI hk (by omega);exact ⟨by rw [hF];rfl,rfl,rfl⟩)
          | (have hF:=CkI.ord hI hk (by omega) (by omega);exact ⟨by rw [hF];rfl,rfl,rfl⟩)
          | (have hF:=CkI.done hI (by omega);exact ⟨by rw [hF];rfl,rfl,rfl⟩)
        ·refine Jp (J9 (Jf (Ja (Lq (JZ O O (wr64 (by omega))) (Lq (Jb O) (Je (Ko ?_)))))))
         refine ⟨(k+1)+1,?_,(.m4 O O O O),(Sd (Sr)),Tt3⟩
         try simp only [Bp,Bq] at *
         exact ⟨by omega,by first | exact CkI.first hI hk (by omega) | exact CkI.next hI hk (by omega) (by omega)⟩
   ·refine Kr (JR (JR (Kg (Jf (Jc (Ja (Lq (Jd O) (Lq (Jd O) (Je (Jf (Jn ?_)))))))))))
    refine ⟨_,[],[],fun Z w hs=> .tmp O (.tmp O .nil),?_,fun Z w hs=>hs.out (Sr) (fun _ h=>h)⟩
    try simp only [Bp,Bq] at *
    first
     | (have hF:=CkI.bad hI hk (by omega);exact ⟨by rw [hF];rfl,rfl,rfl⟩)
     | (have hF:=CkI.ord hI hk (by omega) (by omega);exact ⟨by rw [hF];rfl,rfl,rfl⟩)
     | (have hF:=CkI.done hI (by omega);exact ⟨by rw [hF];rfl,rfl,rfl⟩)
def ThrP (xs:List Rg) (at_ n:Int):Value→List Part→List Fact→Prop:=fun v Lo fs=>
 ∃(A':Option Addr) (c':Nat),v= .tuple #[.slice A' (thrF xs at_ n).1.length c', .int .i64 (thrF xs at_ n).2] ∧Lo= [] ∧fs= [RdF rgD A' c' (thrF xs at_ n).1]
theorem V8 (A:Option Addr) (c:Nat) (xs:List Rg) (at_ n:Int) (hl:xs.length≤8796093022208):Sp Tryz.prog 133 [.slice A xs.length c, .int .i64 at_, .int .i64 n] [] [RdF rgD A c xs] (ThrP xs at_ n):=by
 refine Sp.of (n:=78) ⟨_,Tryz.func133,O,O,O,O⟩ (Nat.le_of_ble_eq_true O) fun Ps As=>Jc (Ja (Lq (Jd O) (Lq (Jd O) (Je (Jf (Jc (Jc (Ja (Lq (Jb O) (Jg O (Jo (XI A c xs hl) (.n1 O) (by decide) (Jl Mm0 Jx) fun _ _ _ q9=>?_)))))))))))
 obtain ⟨rfl,rfl,rfl⟩:=q9
 refine Lq (Jb O) (Lq (Jk (vs:= [_,_]) O O) (Lq (Jk (vs:= [_,_]) O O) (Lq (Jd O) (Lq (Jd O) (Je (Jf (Jc (Ja (Lq (Jb O) (Lq (Kp O O) (Je (Jf (JL [(20,_),(9,_),(7,_),(6,_),(0,_),(1,_),(2,_)] (.m7 O O O O O O O) ?_)))))))))))))
 refine Jy O (fun h20=> ?_) (fun h20=> ?_)
 ·refine Jc (Ja (Lq (Jb O) (Lq (Jd O) (Lq (Jd O) (Je (Jf (Jn (Jr ?_))))))))
  refine ⟨_,[],[RdF rgD none 0 []],fun Z w hs=> .tmp O (.tmp O .nil),?_,fun Z w hs=>⟨Z,((hs.subParts (Sr)).subFacts (fun _ h=>h)).addFact (A:=RdF rgD none 0 []) (RdS.nil _ _ _)⟩⟩
  try simp only [Bp,Bq] at *
  have hF:thrF xs at_ n=_:=ZS (by omega)
  exact ⟨none,0,by rw [hF];rfl,O,by rw [hF]⟩
 ·refine Jp (Jf (Jc (Jc (Ja (Lq (Jb O) (Jg O (Jo (GD at_) (.n1 O) (by decide) Jx fun _ _ _ q9=>?_)))))))
  obtain ⟨rfl,rfl,rfl⟩:=q9
  refine Lq (Jb O) (JU (t:=24) O (fun g24=> ?_) (fun g24=> ?_))
  ·refine Ln O O O g24 (Ln O O O g24 (Lq (JH O g24 O) (Je (Jf (JQ O O (Jc (Ja (Lq (Jd O) (Lq (Jd O) (Je (Jf (Jn (Jr ?_)))))))))))))
   refine ⟨_,[],[RdF rgD none 0 []],fun Z w hs=> .tmp O (.tmp O .nil),?_,fun Z w hs=>⟨Z,((hs.subParts (Sr)).subFacts (fun _ h=>h)).addFact (A:=RdF rgD none 0 []) (RdS.nil _ _ _)⟩⟩
   try simp only [Bp,Bq] at *
   have hF:thrF xs at_ n=_:=Em (by omega) (by omega)
   exact ⟨none,0,by rw [hF];rfl,O,by rw [hF]⟩
  ·refine Lg O O O g24 (Jb O) (Kk O O O g24 (Jo (GD n) (.n1 O) (by decide) Jx fun _ _ _ q9=>?_))
   obtain ⟨rfl,rfl,rfl⟩:=q9
   refine Lq (JA O g24 O) (Je (Jf (Jy O (fun h27=> ?_) (fun h27=> ?_))))
   ·refine Jc (Ja (Lq (Jd O) (Lq (Jd O) (Je (Jf (Jn (Jr ?_)))))))
    refine ⟨_,[],[RdF rgD none 0 []],fun Z w hs=> .tmp O (.tmp O .nil),?_,fun Z w hs=>⟨Z,((hs.subParts (Sr)).subFacts (fun _ h=>h)).addFact (A:=RdF rgD none 0 []) (RdS.nil _ _ _)⟩⟩
    try simp only [Bp,Bq] at *
    have hF:thrF xs at_ n=_:=Em (by omega) (by omega)
    exact ⟨none,0,by rw [hF];rfl,O,by rw [hF]⟩
   ·refine Jp (Jf (Jc (Jc (Ja (Lq (Jb O) (Lq (J7 Un38 O) (Lq (Ke O O) (Je (Jf (JL [(30,_),(7,_),(6,_),(0,_),(1,_),(2,_)] (.m6 O O O O O O) (Jy O (fun h30=> ?_) (fun h30=> ?_))))))))))))
    ·refine Jc ?_
     try simp only [Bp,Bq] at *
     have hk0:xs.length-1<xs.length:=by omega
     have hg:=Ef (by omega) hk0
     refine Kh (k:=(xs.length-1)) Mm0 (List.getElem?_eq_getElem hk0) (rg_open _) fun b7 q7 y7 e7=> ?_
     cases e7
     refine Ja (Lq (Jb O) (Lq (Jb O) (Lq (J7 Un38 O) (Lq (KS O O (by rw [wr64 (by omega)];omega) (c:=((xs.length-1:Nat):Int))) (Lq (Kc Un38 KB O O (by omega) (by omega)) (Lq (Jh (o':=_+1) Un143 O ti3 O O) (Lq (Ks (j:=1) Un3 O O Mm0 O O) (Lq (Jd O) (Je (Jf ?_))))))))))
     refine JL [(10,_),(7,_),(6,_),(0,_),(1,_),(2,_)] (.m6 O O O O O O) (Jc (Ja (Lq (Jb O) (Lq (Jb O) (Lq (Ke O O) (Lq (Jb O) (JU (t:=41) O (fun g41=> ?_) (fun g41=> ?_))))))))
     ·refine Lg O O O g41 (Jb O) (Lg O O O g41 (Jb O) (Lg O O O g41 (JZ O O (wr64 (by omega))) (Lg O O O g41 (Ke O O) (Lq (JH O g41 O) (Je (Jf (JL [(46,_),(7,_),(6,_),(0,_),(1,_),(2,_)] (.m6 O O O O O O) (Jy O (fun h46=> ?_) (fun h46=> ?_)))))))))
      ·refine Jc (Ja (Lq (Jd O) (Lq (Jd O) (Je (Jf (Jn (Jr ?_)))))))
       refine ⟨_,[],[RdF rgD none 0 []],fun Z w hs=> .tmp O (.tmp O .nil),?_,fun Z w hs=>⟨Z,((hs.subParts (Sr)).subFacts Tt1).addFact (A:=RdF rgD none 0 []) (RdS.nil _ _ _)⟩⟩
       try simp only [Bp,Bq] at *
       have hF:thrF xs at_ n=_:=HD (by omega) (by omega) (by omega) ⟨by omega,by omega⟩
       exact ⟨none,0,by rw [hF];rfl,O,by rw [hF]⟩
      ·refine Jp (Jf (Jc (Ja (Lq (Jd O) (Je (Jf (Jc (Jc (Ja (Lq (Jb O) (Lq (J7 Un38 O) (Lq (Jb O) (Je (Jf (JO ?_)))))))))))))))
       try simp only [Bp,Bq] at *
       have hC:(ckF xs).2=0:=by omega
       have hl2:=(QL hC).1
       have hOK:thrF xs at_ n=boundF (thrL at_ n [] xs):=by
        first
        | exact XC (by omega) (by omega) hk0 (by omega)
        | (obtain rfl:xs= [] :=List.length_eq_zero_iff.1 (by omega);exact VY (by omega))
       refine KE ?_
       refine Ki (α:=Nat×List Rg×Value×Part) (fun (k,acc,v,p)=>xs.length-k)
        (fun (k,acc,v,p)=> [(1, .int .i64 at_),(2, .int .i64 n),(11,v),(47, .slice (some ⟨b7,q7,none⟩) xs.length c),(48, .int .i64 xs.length),(49, .int .i64 k)])
        (fun (k,acc,v,p)=>p::Ps)
        (fun (k,acc,v,p)=>(RdF rgD (some ⟨b7,q7,none⟩) c xs::As))
        (fun (k,acc,v,p)=>ThI xs at_ n k acc v p)
        (0,[], .slice none 0 0,[]) ?_ (.m6 rfl rfl rfl rfl rfl rfl) (Sk (Sr)) Tt1 ?_
       ·exact ⟨Nat.zero_le _,Row.nil _ _,by simp,O⟩
       ·rintro ⟨k,acc,v,p⟩ hI
        refine Jc (Ja (Lq (Ku O O) (Je (Jf (Jc (Jy O (fun h50=> ?_) (fun h50=> ?_)))))))
        ·refine Jp (Jf (Jc (JO (Jc ?_))))
         have hk:k<xs.length:=by simpa using h50
         have hg2:=Ef hC hk
         refine Kh (k:=k) Mm0 (List.getElem?_eq_getElem hk) (rg_open _) fun b13 q13 y13 e13=> ?_
         cases e13
         refine Ja (Lq (Kc Un38 KB O O (by omega) (by omega)) (Lq (Kq (k:=0) (vs:= [_,_]) Un143 O KB O Mm0 O O O) (Jg O (Jv (cs:= [_,_]) KB O (by decide) fun b13=>Jg O (Jq (cs':= [_,_]) (vs:= [_,_]) KB O O O O O (Nat.le_of_ble_eq_true O) .z (Je (Jf (Jc (Ja (Lq (Jb O) (Lq (Jh (o':=0) Un143 O ti3 O O) (Lq (Jj Un3 O O Jm O) (Lq (Jh (o':=1) Un143 O ti3 O O) ?_)))))))))))))
         refine Lq (Jj Un3 O O Jm O) (Lq (Jb O) (Lq (XY O O) (Jg O (JX (GM v acc p xs[k].lo (min xs[k].hi at_) hI.row (by have:=hI.len;have:=hI.le;omega)) (.n3 O O O) (by decide) .z1 Jx fun va Lo fs hres=> ?_))))
         obtain ⟨pa,hra,rfl,rfl⟩:=hres
         refine Lq (Jd O) (Je (Jf (Ja (Lq (Jb O) (Lq (Jh (o':=0) Un143 O ti3 O O) (Lq (Jj Un3 O O (Ji (Jm)) O) (Lq (Jb O) (Lq (VM O O) (Lq (Jb O) (Lq (JZ O O (wr64 (by omega))) (Lq (Jh (o':=1) Un143 O ti3 O O) ?_)))))))))))
         refine Lq (Jj Un3 O O (Ji (Jm)) O) (Lq (Jb O) (Lq (JZ O O (wr64 (by omega))) (Jg O (JX (GM va (addF acc xs[k].lo (min xs[k].hi at_)) pa (max xs[k].lo at_+n) (xs[k].hi+n) hra (by have:=hI.len;have:=hI.le;have:=Vy acc xs[k].lo (min xs[k].hi at_);omega)) (.n3 O O O) (by decide) .z Jx fun vb Lo fs hres=> ?_))))
         obtain ⟨pb,hrb,rfl,rfl⟩:=hres
         refine Lq (Jd O) (Je (J9 (Jf (Ja (Lq (JZ O O (wr64 (by omega))) (Lq (Jb O) (Je (Ko ?_))))))))
         refine ⟨(k+1,addF (addF acc xs[k].lo (min xs[k].hi at_)) (max xs[k].lo at_+n) (xs[k].hi+n),vb,pb),?_,(.m6 O O O O O O),(Sk (Sd (Sr))),Tt1⟩
         exact ⟨by show xs.length-(k+1)<xs.length-k;omega,hI.next hk hrb⟩
        ·refine Kr (JR (JR (Kg (Jf (Jc ?_)))))
         have hD:=hI.done (by simpa using h50)
         refine Kf (A:=RepsF rgD acc (acc.map rgC)) (fun Z w _=>rgs_reps acc Z w) (KW (e:=rgD) (css:=acc.map rgC) hI.row .z O Mm0 fun Af cf ef=> ?_)
         subst ef
         by_cases hb:acc.length>32768
         ·refine Ja (Lq (Jb O) (Jg O (Jo (bounded_1 Af cf acc hb) (.n1 O) (by decide) Jx fun _ _ _ q9=>?_)))
          obtain ⟨rfl,rfl,rfl⟩:=q9
          refine Lq (Jk (vs:= [_,_]) O O) (Lq (Jk (vs:= [_,_]) O O) (Lq (Jd O) (Lq (Jd O) (Je (Jf (Jn ?_))))))
          refine ⟨_,[],[RdF rgD none 0 []],fun Z w hs=> .tmp O (.tmp O .nil),?_,fun Z w hs=>⟨Z,((hs.subParts (Sr)).subFacts Tt2).addFact (A:=RdF rgD none 0 []) (RdS.nil _ _ _)⟩⟩
          have hF:thrF xs at_ n=([],21):=by rw [hOK,hD];unfold boundF;rw [if_pos hb]
          exact ⟨none,0,by rw [hF];rfl,O,by rw [hF]⟩
         ·refine Ja (Lq (Jb O) (Jg O (Jo (bounded_2 Af cf acc hb) (.n1 O) (by decide) Jx fun _ _ _ q9=>?_)))
          obtain ⟨rfl,rfl,rfl⟩:=q9
          refine Lq (Jk (vs:= [_,_]) O O) (Lq (Jk (vs:= [_,_]) O O) (Lq (Jd O) (Lq (Jd O) (Je (Jf (Jn ?_))))))
          refine ⟨_,[],[RdF rgD Af cf acc],fun Z w hs=> .tmp O (.tmp O .nil),?_,fun Z w hs=>hs.out (Sr) (Jl Mm0 Tt2)⟩
          have hF:thrF xs at_ n=(acc,0):=by rw [hOK,hD];unfold boundF;rw [if_neg hb]
          exact ⟨Af,cf,by rw [hF];rfl,O,by rw [hF]⟩
     ·refine Ln O O O g41 (Ln O O O g41 (Ln O O O g41 (Ln O O O g41 (Lq (JA O g41 O) (Je (Jf (JL [(46,_),(7,_),(6,_),(0,_),(1,_),(2,_)] (.m6 O O O O O O) (Jz O O (Jp (Jf (Jc (Ja (Lq (Jd O) (Je (Jf (Jc (Jc (Ja ?_))))))))))))))))))
      refine Lq (Jb O) (Lq (J7 Un38 O) (Lq (Jb O) (Je (Jf (JO ?_)))))
      try simp only [Bp,Bq] at *
      have hC:(ckF xs).2=0:=by omega
      have hl2:=(QL hC).1
      have hOK:thrF xs at_ n=boundF (thrL at_ n [] xs):=by
       first
       | exact XC (by omega) (by omega) hk0 (by omega)
       | (obtain rfl:xs= [] :=List.length_eq_zero_iff.1 (by omega);exact VY (by omega))
      refine KE ?_
      refine Ki (α:=Nat×List Rg×Value×Part) (fun (k,acc,v,p)=>xs.length-k)
       (fun (k,acc,v,p)=> [(1, .int .i64 at_),(2, .int .i64 n),(11,v),(47, .slice (some ⟨b7,q7,none⟩) xs.length c),(48, .int .i64 xs.length),(49, .int .i64 k)])
       (fun (k,acc,v,p)=>p::Ps)
       (fun (k,acc,v,p)=>(RdF rgD (some ⟨b7,q7,none⟩) c xs::As))
       (fun (k,acc,v,p)=>ThI xs at_ n k acc v p)
       (0,[], .slice none 0 0,[]) ?_ (.m6 rfl rfl rfl rfl rfl rfl) (Sk (Sr)) Tt1 ?_
      ·exact ⟨Nat.zero_le _,Row.nil _ _,by simp,O⟩
      ·rintro ⟨k,acc,v,p⟩ hI
       refine Jc (Ja (Lq (Ku O O) (Je (Jf (Jc (Jy O (fun h50=> ?_) (fun h50=> ?_)))))))
       ·refine Jp (Jf (Jc (JO (Jc ?_))))
        have hk:k<xs.length:=by simpa using h50
        have hg2:=Ef hC hk
        refine Kh (k:=k) Mm0 (List.getElem?_eq_getElem hk) (rg_open _) fun b13 q13 y13 e13=> ?_
        cases e13
        refine Ja (Lq (Kc Un38 KB O O (by omega) (by omega)) (Lq (Kq (k:=0) (vs:= [_,_]) Un143 O KB O Mm0 O O O) (Jg O (Jv (cs:= [_,_]) KB O (by decide) fun b13=>Jg O (Jq (cs':= [_,_]) (vs:= [_,_]) KB O O O O O (Nat.le_of_ble_eq_true O) .z (Je (Jf (Jc (Ja (Lq (Jb O) (Lq (Jh (o':=0) Un143 O ti3 O O) (Lq (Jj Un3 O O Jm O) (Lq (Jh (o':=1) Un143 O ti3 O O) ?_)))))))))))))
        refine Lq (Jj Un3 O O Jm O) (Lq (Jb O) (Lq (XY O O) (Jg O (JX (GM v acc p xs[k].lo (min xs[k].hi at_) hI.row (by have:=hI.len;have:=hI.le;omega)) (.n3 O O O) (by decide) .z1 Jx fun va Lo fs hres=> ?_))))
        obtain ⟨pa,hra,rfl,rfl⟩:=hres
        refine Lq (Jd O) (Je (Jf (Ja (Lq (Jb O) (Lq (Jh (o':=0) Un143 O ti3 O O) (Lq (Jj Un3 O O (Ji (Jm)) O) (Lq (Jb O) (Lq (VM O O) (Lq (Jb O) (Lq (JZ O O (wr64 (by omega))) (Lq (Jh (o':=1) Un143 O ti3 O O) ?_)))))))))))
        refine Lq (Jj Un3 O O (Ji (Jm)) O) (Lq (Jb O) (Lq (JZ O O (wr64 (by omega))) (Jg O (JX (GM va (addF acc xs[k].lo (min xs[k].hi at_)) pa (max xs[k].lo at_+n) (xs[k].hi+n) hra (by have:=hI.len;have:=hI.le;have:=Vy acc xs[k].lo (min xs[k].hi at_);omega)) (.n3 O O O) (by decide) .z Jx fun vb Lo fs hres=> ?_))))
        obtain ⟨pb,hrb,rfl,rfl⟩:=hres
        refine Lq (Jd O) (Je (J9 (Jf (Ja (Lq (JZ O O (wr64 (by omega))) (Lq (Jb O) (Je (Ko ?_))))))))
        refine ⟨(k+1,addF (addF acc xs[k].lo (min xs[k].hi at_)) (max xs[k].lo at_+n) (xs[k].hi+n),vb,pb),?_,(.m6 O O O O O O),(Sk (Sd (Sr))),Tt1⟩
        exact ⟨by show xs.length-(k+1)<xs.length-k;omega,hI.next hk hrb⟩
       ·refine Kr (JR (JR (Kg (Jf (Jc ?_)))))
        have hD:=hI.done (by simpa using h50)
        refine Kf (A:=RepsF rgD acc (acc.map rgC)) (fun Z w _=>rgs_reps acc Z w) (KW (e:=rgD) (css:=acc.map rgC) hI.row .z O Mm0 fun Af cf ef=> ?_)
        subst ef
        by_cases hb:acc.length>32768
        ·refine Ja (Lq (Jb O) (Jg O (Jo (bounded_1 Af cf acc hb) (.n1 O) (by decide) Jx fun _ _ _ q9=>?_)))
         obtain ⟨rfl,rfl,rfl⟩:=q9
         refine Lq (Jk (vs:= [_,_]) O O) (Lq (Jk (vs:= [_,_]) O O) (Lq (Jd O) (Lq (Jd O) (Je (Jf (Jn ?_))))))
         refine ⟨_,[],[RdF rgD none 0 []],fun Z w hs=> .tmp O (.tmp O .nil),?_,fun Z w hs=>⟨Z,((hs.subParts (Sr)).subFacts Tt2).addFact (A:=RdF rgD none 0 []) (RdS.nil _ _ _)⟩⟩
         have hF:thrF xs at_ n=([],21):=by rw [hOK,hD];unfold boundF;rw [if_pos hb]
         exact ⟨none,0,by rw [hF];rfl,O,by rw [hF]⟩
        ·refine Ja (Lq (Jb O) (Jg O (Jo (bounded_2 Af cf acc hb) (.n1 O) (by decide) Jx fun _ _ _ q9=>?_)))
         obtain ⟨rfl,rfl,rfl⟩:=q9
         refine Lq (Jk (vs:= [_,_]) O O) (Lq (Jk (vs:= [_,_]) O O) (Lq (Jd O) (Lq (Jd O) (Je (Jf (Jn ?_))))))
         refine ⟨_,[],[RdF rgD Af cf acc],fun Z w hs=> .tmp O (.tmp O .nil),?_,fun Z w hs=>hs.out (Sr) (Jl Mm0 Tt2)⟩
         have hF:thrF xs at_ n=(acc,0):=by rw [hOK,hD];unfold boundF;rw [if_neg hb]
         exact ⟨Af,cf,by rw [hF];rfl,O,by rw [hF]⟩
    ·refine Jp (Jf (Jc (Ja (Lq (Jd O) (Je (Jf (Jc (Jc (Ja (Lq (Jb O) (Lq (J7 Un38 O) (Lq (Jb O) (Je (Jf (JO ?_)))))))))))))))
     try simp only [Bp,Bq] at *
     have hC:(ckF xs).2=0:=by omega
     have hl2:=(QL hC).1
     have hOK:thrF xs at_ n=boundF (thrL at_ n [] xs):=by
      first
      | exact XC (by omega) (by omega) hk0 (by omega)
      | (obtain rfl:xs= [] :=List.length_eq_zero_iff.1 (by omega);exact VY (by omega))
     refine KE ?_
     refine Ki (α:=Nat×List Rg×Value×Part) (fun (k,acc,v,p)=>xs.length-k)
      (fun (k,acc,v,p)=> [(1, .int .i64 at_),(2, .int .i64 n),(11,v),(47, .slice A xs.length c),(48, .int .i64 xs.length),(49, .int .i64 k)])
      (fun (k,acc,v,p)=>p::Ps)
      (fun (k,acc,v,p)=>(RdF rgD A c xs::As))
      (fun (k,acc,v,p)=>ThI xs at_ n k acc v p)
      (0,[], .slice none 0 0,[]) ?_ (.m6 rfl rfl rfl rfl rfl rfl) (Sk (Sr)) (fun _ h=>h) ?_
     ·exact ⟨Nat.zero_le _,Row.nil _ _,by simp,O⟩
     ·rintro ⟨k,acc,v,p⟩ hI
      refine Jc (Ja (Lq (Ku O O) (Je (Jf (Jc (Jy O (fun h50=> ?_) (fun h50=> ?_)))))))
      ·refine Jp (Jf (Jc (JO (Jc ?_))))
       have hk:k<xs.length:=by simpa using h50
       have hg2:=Ef hC hk
       refine Kh (k:=k) Mm0 (List.getElem?_eq_getElem hk) (rg_open _) fun b13 q13 y13 e13=> ?_
       cases e13
       refine Ja (Lq (Kc Un38 KB O O (by omega) (by omega)) (Lq (Kq (k:=0) (vs:= [_,_]) Un143 O KB O Mm0 O O O) (Jg O (Jv (cs:= [_,_]) KB O (by decide) fun b13=>Jg O (Jq (cs':= [_,_]) (vs:= [_,_]) KB O O O O O (Nat.le_of_ble_eq_true O) .z (Je (Jf (Jc (Ja (Lq (Jb O) (Lq (Jh (o':=0) Un143 O ti3 O O) (Lq (Jj Un3 O O Jm O) (Lq (Jh (o':=1) Un143 O ti3 O O) ?_)))))))))))))
       refine Lq (Jj Un3 O O Jm O) (Lq (Jb O) (Lq (XY O O) (Jg O (JX (GM v acc p xs[k].lo (min xs[k].hi at_) hI.row (by have:=hI.len;have:=hI.le;omega)) (.n3 O O O) (by decide) .z1 Jx fun va Lo fs hres=> ?_))))
       obtain ⟨pa,hra,rfl,rfl⟩:=hres
       refine Lq (Jd O) (Je (Jf (Ja (Lq (Jb O) (Lq (Jh (o':=0) Un143 O ti3 O O) (Lq (Jj Un3 O O (Ji (Jm)) O) (Lq (Jb O) (Lq (VM O O) (Lq (Jb O) (Lq (JZ O O (wr64 (by omega))) (Lq (Jh (o':=1) Un143 O ti3 O O) ?_)))))))))))
       refine Lq (Jj Un3 O O (Ji (Jm)) O) (Lq (Jb O) (Lq (JZ O O (wr64 (by omega))) (Jg O (JX (GM va (addF acc xs[k].lo (min xs[k].hi at_)) pa (max xs[k].lo at_+n) (xs[k].hi+n) hra (by have:=hI.len;have:=hI.le;have:=Vy acc xs[k].lo (min xs[k].hi at_);omega)) (.n3 O O O) (by decide) .z Jx fun vb Lo fs hres=> ?_))))
       obtain ⟨pb,hrb,rfl,rfl⟩:=hres
       refine Lq (Jd O) (Je (J9 (Jf (Ja (Lq (JZ O O (wr64 (by omega))) (Lq (Jb O) (Je (Ko ?_))))))))
       refine ⟨(k+1,addF (addF acc xs[k].lo (min xs[k].hi at_)) (max xs[k].lo at_+n) (xs[k].hi+n),vb,pb),?_,(.m6 O O O O O O),(Sk (Sd (Sr))),Tt1⟩
       exact ⟨by show xs.length-(k+1)<xs.length-k;omega,hI.next hk hrb⟩
      ·refine Kr (JR (JR (Kg (Jf (Jc ?_)))))
       have hD:=hI.done (by simpa using h50)
       refine Kf (A:=RepsF rgD acc (acc.map rgC)) (fun Z w _=>rgs_reps acc Z w) (KW (e:=rgD) (css:=acc.map rgC) hI.row .z O Mm0 fun Af cf ef=> ?_)
       subst ef
       by_cases hb:acc.length>32768
       ·refine Ja (Lq (Jb O) (Jg O (Jo (bounded_1 Af cf acc hb) (.n1 O) (by decide) Jx fun _ _ _ q9=>?_)))
        obtain ⟨rfl,rfl,rfl⟩:=q9
        refine Lq (Jk (vs:= [_,_]) O O) (Lq (Jk (vs:= [_,_]) O O) (Lq (Jd O) (Lq (Jd O) (Je (Jf (Jn ?_))))))
        refine ⟨_,[],[RdF rgD none 0 []],fun Z w hs=> .tmp O (.tmp O .nil),?_,fun Z w hs=>⟨Z,((hs.subParts (Sr)).subFacts Tt2).addFact (A:=RdF rgD none 0 []) (RdS.nil _ _ _)⟩⟩
        have hF:thrF xs at_ n=([],21):=by rw [hOK,hD];unfold boundF;rw [if_pos hb]
        exact ⟨none,0,by rw [hF];rfl,O,by rw [hF]⟩
       ·refine Ja (Lq (Jb O) (Jg O (Jo (bounded_2 Af cf acc hb) (.n1 O) (by decide) Jx fun _ _ _ q9=>?_)))
        obtain ⟨rfl,rfl,rfl⟩:=q9
        refine Lq (Jk (vs:= [_,_]) O O) (Lq (Jk (vs:= [_,_]) O O) (Lq (Jd O) (Lq (Jd O) (Je (Jf (Jn ?_))))))
        refine ⟨_,[],[RdF rgD Af cf acc],fun Z w hs=> .tmp O (.tmp O .nil),?_,fun Z w hs=>hs.out (Sr) (Jl Mm0 Tt2)⟩
        have hF:thrF xs at_ n=(acc,0):=by rw [hOK,hD];unfold boundF;rw [if_neg hb]
        exact ⟨Af,cf,by rw [hF];rfl,O,by rw [hF]⟩
theorem Zn (s t:ByteArray):Sp Tryz.prog 125 [.string s, .string t] [] [] (Is (.bool (prefF s t))):=by
 refine Sp.of (n:=18) ⟨_,Tryz.func125,O,O,O,O⟩ (Nat.le_of_ble_eq_true O) fun Ps As=>Jc (Ja (Lq (Jd O) (Je (Jf (Jc (Ja (Lq (Jb O) (Lq (EV Un9 O) (Lq (Jb O) (Lq (EV Un9 O) (Lq (Yl O O) (Lq (Jb O) ?_))))))))))))
 refine JU (t:=10) O (fun g10=> ?_) (fun g10=> ?_)
 ·refine Lg O O O g10 (Jb O) (Lg O O O g10 (Jb O) (Lg O O O g10 (EV Un9 O) (Lg O O O g10 (ES Un9 O O (by omega) (by simpa using g10)) (Lg O O O g10 (Jb O) (Lg O O O g10 (ET O O) (Lq (JH O g10 O) (Lq (Jd O) (Je (Jf (JL [(4,_)] (.m1 O) ?_))))))))))
  refine Jn ?_
  refine ⟨_,[],[],fun Z w hs=> .tmp O .nil,?_,fun Z w hs=>hs.out (Sr) (fun _ h=>h)⟩
  exact ⟨by unfold prefF;simp at g10;simp [tup,g10] <;>omega,O,O⟩
 ·refine Ln O O O g10 (Ln O O O g10 (Ln O O O g10 (Ln O O O g10 (Ln O O O g10 (Ln O O O g10 (Lq (JA O g10 O) (Lq (Jd O) (Je (Jf (JL [(4,_)] (.m1 O) ?_))))))))))
  refine Jn ?_
  refine ⟨_,[],[],fun Z w hs=> .tmp O .nil,?_,fun Z w hs=>hs.out (Sr) (fun _ h=>h)⟩
  exact ⟨by unfold prefF;simp at g10;simp [tup,g10] <;>omega,O,O⟩
theorem HE (s t:ByteArray):Sp Tryz.prog 105 [.string s, .string t] [] [] (Is (.bool (prefF s t))):=by
 refine Sp.of (n:=8) ⟨_,Tryz.func105,O,O,O,O⟩ (Nat.le_of_ble_eq_true O) fun Ps As=>Jc (Ja (Lq (Jd O) (Je (Jf (Jc (Ja (Lq (Jb O) (Lq (Jb O) (Jg O (Jo (Zn s t) (.n2 O O) (by decide) Jx fun _ _ _ q9=>?_))))))))))
 obtain ⟨rfl,rfl,rfl⟩:=q9
 refine Lq (Jd O) (Je (Jf (Jn ?_)))
 refine ⟨_,[],[],fun Z w hs=> .tmp O .nil,?_,fun Z w hs=>hs.out (Sr) (fun _ h=>h)⟩
 exact ⟨O,O,O⟩
theorem ZF (s:ByteArray) (p:Nat) (c:Int) (hp:p≤s.size):Sp Tryz.prog 74 [.string s, .int .i64 p, .int .i32 c] [] [] (Is (.bool (begF s p c))):=by
 refine Sp.of (n:=15) ⟨_,Tryz.func74,O,O,O,O⟩ (Nat.le_of_ble_eq_true O) fun Ps As=>Jc (Ja (Lq (Jd O) (Je (Jf (Jc (Ja (Lq (Jb O) (Lq (Kp O O) (Lq (Jb O) (JU (t:=9) O (fun g9=> ?_) (fun g9=> ?_)))))))))))
 ·refine Ln O O O g9 (Ln O O O g9 (Ln O O O g9 (Ln O O O g9 (Lq (JH O g9 O) (Lq (Jd O) (Je (Jf (Jn ?_))))))))
  refine ⟨_,[],[],fun Z w hs=> .tmp O .nil,?_,fun Z w hs=>hs.out (Sr) (fun _ h=>h)⟩
  exact ⟨by unfold begF;simp at g9;simp [tup,g9],O,O⟩
 ·refine Lg O O O g9 (Jb O) (Lg O O O g9 (Jb O) (Lg O O O g9 (ER Un9 O O (by omega) (by omega)) (Kk O O O g9 (Jo (HE (s.extract p s.size) fffd) (.n2 O O) (by decide) Jx fun _ _ _ q9=>?_))))
  obtain ⟨rfl,rfl,rfl⟩:=q9
  refine Lq (JA O g9 O) (Lq (Jd O) (Je (Jf (Jn ?_))))
  refine ⟨_,[],[],fun Z w hs=> .tmp O .nil,?_,fun Z w hs=>hs.out (Sr) (fun _ h=>h)⟩
  exact ⟨by unfold begF;simp at g9;simp [tup,g9],O,O⟩
def LetI (c:Int) (k:Nat):Prop:=k≤5∧ ∀(j:Nat) (h:j<barL.length),j<k→ ¬(barL[j].1≤c∧c≤barL[j].2)
theorem LetI.hit {c:Int} {k:Nat} (hk:k<barL.length) (h:barL[k].1≤c∧c≤barL[k].2):letF c=false:=by
 unfold letF
 have:(barL.all fun b=> !(decide (b.1≤c) && decide (c≤b.2)))=false:=by
  rw [List.all_eq_false]
  exact ⟨_,List.getElem_mem hk,by simp [h]⟩
 rw [this];rfl
theorem LetI.next {c:Int} {k:Nat} (h:LetI c k) (hk:k<barL.length) (hn: ¬(barL[k].1≤c∧c≤barL[k].2)):LetI c (k+1):=by
 refine ⟨hk,fun j hj hjk=> ?_⟩
 by_cases e:j=k
 ·subst e;exact hn
 ·exact h.2 j hj (by omega)
theorem LetI.done {c:Int} {k:Nat} (h:LetI c k) (hk: ¬(k:Int)<5):letF c=decide (c % 65536<65534):=by
 unfold letF
 have:(barL.all fun b=> !(decide (b.1≤c) && decide (c≤b.2)))=true:=by
  rw [List.all_eq_true]
  intro b hb
  obtain ⟨j,hj,rfl⟩:=List.mem_iff_getElem.1 hb
  have hj5:j<5:=hj
  have:=h.2 j hj (by omega)
  simpa [-not_and,Decidable.not_and_iff_not_or_not] using this
 rw [this];rfl
theorem ZY (c:Int):Sp Tryz.prog 75 [.int .i32 c] [] [barF] (Is (.bool (letF c))):=by
 refine Sp.of (n:=23) ⟨_,Tryz.func75,O,O,O,O⟩ (Nat.le_of_ble_eq_true O) fun Ps As=>Jc (Ja (Lq (Jd O) (Je (Jf (Jc (Jc (Ja (Lq (Kq (k:=0) (vs:=barC) Un186 O Ja8 O Mm0 O O O) (Lq (Jb O) (Je (Jf (JO ?_))))))))))))
 refine Ki (α:=Nat) (fun k=>5-k)
  (fun k=> [(0, .int .i32 c),(5, .agg barC.toArray),(6, .int .i64 k)])
  (fun k=>Ps)
  (fun k=>(barF::As))
  (fun k=>LetI c k)
  0 ?_ (.m3 rfl rfl rfl) (Sr) (fun _ h=>h) ?_
 ·exact ⟨Nat.zero_le _,fun j hj hjk=>absurd hjk (by omega)⟩
 ·rintro k hI
  refine Jc (Ja (Lq (Ku O O) (Je (Jf (Jc (Jy O (fun h7=> ?_) (fun h7=> ?_)))))))
  ·refine Jp (Jf (Jc (JO (Jc ?_))))
   try simp only [Bp,Bq] at *
   have hk:k<barL.length:=by show k<5;omega
   refine Ja (Lq (Zk Un186 Un185 O H7 O O (by omega) (by omega) (Ja5 k hk)) (Jg O (Jv (cs:= [_,_]) H7 O (by decide) fun b4=>Jg O (Jq (cs':= [_,_]) (vs:= [_,_]) H7 O O O O O (Nat.le_of_ble_eq_true O) .z (Je (Jf (Jc (Ja (Lq (Jh (o':=0) Un185 O VX O O) (Lq (Jj Un21 O O Jm O) (Lq (Jb O) (Lq (YK O O) (Lq (Jb O) ?_)))))))))))))
   refine JU (t:=13) O (fun g13=> ?_) (fun g13=> ?_)
   ·refine Lg O O O g13 (Jb O) (Lg O O O g13 (Jh (o':=1) Un185 O VX O O) (Lg O O O g13 (Jj Un21 O O Jm O) (Lg O O O g13 (YK O O) (Lq (JH O g13 O) (Je (Jf (Jy O (fun h18=> ?_) (fun h18=> ?_))))))))
    ·refine Jc (Ja (Lq (Jd O) (Je (Jf (Jn (JM (Jr (Jr (JM (Jr ?_))))))))))
     refine ⟨_,[],[],fun Z w hs=> .tmp O .nil,?_,fun Z w hs=>hs.out (Sd (Sr)) (fun _ h=>h)⟩
     try simp only [Bp,Bq] at *
     first
      | exact ⟨by rw [hI.done (by omega)];rfl,rfl,rfl⟩
      | exact ⟨by rw [LetI.hit hk (by omega)];rfl,rfl,rfl⟩
    ·refine Jp (J9 (Jf (Ja (Lq (JZ O O (wr64 (by omega))) (Lq (Jb O) (Je (Ko ?_)))))))
     refine ⟨k+1,?_,(.m3 O O O),(Sd (Sr)),(fun _ h=>h)⟩
     try simp only [Bp,Bq] at *
     exact ⟨by omega,hI.next hk (by omega)⟩
   ·refine Ln O O O g13 (Ln O O O g13 (Ln O O O g13 (Ln O O O g13 (Lq (JA O g13 O) (Je (Jf (Jz O O (Jp (J9 (Jf (Ja (Lq (JZ O O (wr64 (by omega))) (Lq (Jb O) (Je (Ko ?_)))))))))))))))
    refine ⟨k+1,?_,(.m3 O O O),(Sd (Sr)),(fun _ h=>h)⟩
    try simp only [Bp,Bq] at *
    exact ⟨by omega,hI.next hk (by omega)⟩
  ·refine Kr (JR (JR (Kg (Jf (Jc (Ja (Lq (Jb O) (Lq (Vj O O (i32_and65535 _)) (Lq (Ku O O) (Lq (Jd O) (Je (Jf (Jn ?_)))))))))))))
   refine ⟨_,[],[],fun Z w hs=> .tmp O .nil,?_,fun Z w hs=>hs.out (Sr) (fun _ h=>h)⟩
   try simp only [Bp,Bq] at *
   first
    | exact ⟨by rw [hI.done (by omega)];rfl,rfl,rfl⟩
    | exact ⟨by rw [LetI.hit hk (by omega)];rfl,rfl,rfl⟩
structure UtI (s:ByteArray) (p k:Nat):Prop where
 le:p≤s.size
 kp:k≤p
 eq:utF s=utAt s p k
theorem QF (s:ByteArray) (hs:s.size≤4611686018427387904):Sp Tryz.prog 41 [.string s] [] [barF] (Is (.tuple #[.int .i64 (utF s).1, .int .i64 (utF s).2.1, .int .i64 (utF s).2.2])):=by
 refine Sp.of (n:=27) ⟨_,Tryz.func41,O,O,O,O⟩ (Nat.le_of_ble_eq_true O) fun Ps As=>Jc (Ja (Lq (Jd O) (Lq (Jd O) (Lq (Jd O) (Je (Jf (Jc (Ja (Lq (Jd O) (Je (Jf (Jc (Jc (Ja (Lq (Jb O) (Jg O (GR Un9 O (by decide) fun b9=> ?_)))))))))))))))))
 refine Je (Jf (JO ?_))
 refine Ki (α:=Nat×Nat) (fun (p,k)=>s.size-p)
  (fun (p,k)=> [(0, .string s),(9, .pointer (some ⟨b9,0,none⟩)),(5, .int .i64 k)])
  (fun (p,k)=>([(b9, .stringIter s p)] ::Ps))
  (fun (p,k)=>(barF::As))
  (fun (p,k)=>UtI s p k)
  (0,0) ?_ (.m3 rfl rfl rfl) (Sk (Sr)) (fun _ h=>h) ?_
 ·exact ⟨Nat.zero_le _,Nat.le_refl _,O⟩
 ·rintro ⟨p,k⟩ hI
  have hle:=hI.le
  have hkp:=hI.kp
  refine Jc ?_
  by_cases hp:p<s.size
  ·refine Ja (Jg O (GS O hp .z (by decide) (Lq (Jk (vs:= [_,_,_]) O O) (Je (Jf (Jc (JQ O O (Jp (Jf (JO (Jc (Ja (Lq (Jk (vs:= [_,_,_]) O O) (Lq (Jk (vs:= [_,_,_]) O O) (Lq (Jd O) (Lq (Jd O) (Je (Jf (Jc (Jc (Ja ?_)))))))))))))))))))))
   refine Lq (Jb O) (Lq (Jb O) (Lq (Jb O) (Jg O (Jo (ZF s p (Utf8.decode s p).1 (by omega)) (.n3 O O O) (by decide) Jx fun _ _ _ q9=>?_))))
   obtain ⟨rfl,rfl,rfl⟩:=q9
   refine Lq (KC O) (Je (Jf (Jy O (fun h18=> ?_) (fun h18=> ?_))))
   ·refine Jc (Ja (Lq (Jb O) (Lq (Jd O) (Lq (Jd O) (Lq (Jd O) (Je (Jf (Jn (Jr (JM (Jr (JM (Jr ?_)))))))))))))
    refine ⟨_,[],[],fun Z w hs=> .tmp O (.tmp O (.tmp O .nil)),?_,fun Z w hs=>hs.out (Sd (Sr)) (fun _ h=>h)⟩
    first
     | (have hF:=hI.eq.trans (utAt_end hp);exact ⟨by rw [hF];rfl,rfl,rfl⟩)
     | (have hF:=hI.eq.trans (utAt_utf8 hp (by simp_all));exact ⟨by rw [hF];rfl,rfl,rfl⟩)
     | (have hF:=hI.eq.trans (utAt_rune hp (by simp_all) (by simp_all));exact ⟨by rw [hF];rfl,rfl,rfl⟩)
   ·refine Jp (Jf (Jc (Jc (Ja (Lq (Jb O) (Jg O (Jo (ZY (Utf8.decode s p).1) (.n1 O) (by decide) (Jl Mm0 Jx) fun _ _ _ q9=>?_)))))))
    obtain ⟨rfl,rfl,rfl⟩:=q9
    refine Lq (KC O) (Je (Jf (Jy O (fun h22=> ?_) (fun h22=> ?_))))
    ·refine Jc (Ja (Lq (Jb O) (Lq (Jd O) (Lq (Jd O) (Lq (Jd O) (Je (Jf (Jn (Jr (JM (Jr (JM (Jr ?_)))))))))))))
     refine ⟨_,[],[],fun Z w hs=> .tmp O (.tmp O (.tmp O .nil)),?_,fun Z w hs=>hs.out (Sd (Sr)) (fun _ h=>h)⟩
     first
      | (have hF:=hI.eq.trans (utAt_end hp);exact ⟨by rw [hF];rfl,rfl,rfl⟩)
      | (have hF:=hI.eq.trans (utAt_utf8 hp (by simp_all));exact ⟨by rw [hF];rfl,rfl,rfl⟩)
      | (have hF:=hI.eq.trans (utAt_rune hp (by simp_all) (by simp_all));exact ⟨by rw [hF];rfl,rfl,rfl⟩)
    ·refine Jp (Jf (Ja (Lq (Jb O) (Lq (JZ O O (wr64 (by omega)) (c:=((k+1:Nat):Int))) (Lq (Jd O) (Je (J9 (Ko ?_))))))))
     have hd:=decode_pos s p
     have hd2:=decode_leP hp
     refine ⟨(p+(Utf8.decode s p).2,k+1),?_,(.m3 O O O),(Sk (Sr)),(fun _ h=>h)⟩
     try simp only [Bp,Bq] at *
     exact ⟨by show s.size-(p+(Utf8.decode s p).2)<s.size-p;omega,by show p+(Utf8.decode s p).2≤s.size;exact hd2,by show k+1≤p+(Utf8.decode s p).2;omega,by rw [hI.eq,utAt_next hp (by simp_all) (by simp_all)]⟩
  ·refine Ja (Jg O (GT O Jm hp (by decide) (Lq (Jk (vs:= [_]) O O) (Je (Jf (Jc (Jz O O (Kr (JR (JR (Kg (Jf (Jc (Ja (Lq (Jb O) (Lq (Jd O) (Lq (Jd O) (Lq (Jd O) (Je (Jf (Jn ?_)))))))))))))))))))))
   refine ⟨_,[],[],fun Z w hs=> .tmp O (.tmp O (.tmp O .nil)),?_,fun Z w hs=>hs.out (Sd (Sr)) (fun _ h=>h)⟩
   first
    | (have hF:=hI.eq.trans (utAt_end hp);exact ⟨by rw [hF];rfl,rfl,rfl⟩)
    | (have hF:=hI.eq.trans (utAt_utf8 hp (by simp_all));exact ⟨by rw [hF];rfl,rfl,rfl⟩)
    | (have hF:=hI.eq.trans (utAt_rune hp (by simp_all) (by simp_all));exact ⟨by rw [hF];rfl,rfl,rfl⟩)
theorem Yh (o:GOp) (A:Option Addr) (c:Nat) (hs:o.text.size≤4611686018427387904):Sp Tryz.prog 67 [opV o A c] [] [barF] (Is (.int .i64 (JC o))):=by
 refine Sp.of (n:=18) ⟨_,Tryz.func67,O,O,O,O⟩ (Nat.le_of_ble_eq_true O) fun Ps As=>Jc (Ja (Jg O (J1 (cs:= [_,_,_,_,_,_,_,_,_]) O O (by decide) fun b1=>Lq (Jd O) (Je (Jf (Jc (Jc (Ja (Lq (Jh (o':=0) Un40 O KI O O) (Lq (Jh (o':=2) Un37 O Yu O O) (Lq (Jj Un35 O O Jm O) (Lq (Kp O O) (Je (Jf ?_))))))))))))))
 refine Jy O (fun h9=> ?_) (fun h9=> ?_)
 ·refine Jc (Ja (Lq (Jd O) (Je (Jf (Jn (Jr ?_))))))
  refine ⟨_,[],[],fun Z w hs=> .tmp O .nil,?_,fun Z w hs=>hs.out (Sd (Sr)) (fun _ h=>h)⟩
  try simp only [Bp,Bq] at *
  exact ⟨congrArg (Value.int .i64) (by unfold JC;first | (simp_all;done) | (simp_all;repeat' split;all_goals omega) | (repeat' split;all_goals first | rfl | omega)),rfl,rfl⟩
 ·refine Jp (Jf (Jc (Ja (Lq (Jh (o':=4) Un40 O ti9 O O) (Lq (Jj Un9 O O Jm O) (Jg O (Jo (QF o.text hs) (.n1 O) (by decide) (Jl Mm0 Jx) fun _ _ _ q9=>?_)))))))
  obtain ⟨rfl,rfl,rfl⟩:=q9
  refine Lq (Jb O) (Lq (Jk (vs:= [_,_,_]) O O) (Lq (Jk (vs:= [_,_,_]) O O) (Lq (Jk (vs:= [_,_,_]) O O) (Lq (Jd O) (Lq (Jd O) (Lq (Jd O) (Je (Jf (JL [(3,_),(2,_)] (.m2 O O) (Jc (Ja ?_)))))))))))
  refine Lq (Jb O) (Lq (Jd O) (Je (Jf (Jn ?_))))
  refine ⟨_,[],[],fun Z w hs=> .tmp O .nil,?_,fun Z w hs=>hs.out (Sd (Sr)) (fun _ h=>h)⟩
  try simp only [Bp,Bq] at *
  exact ⟨congrArg (Value.int .i64) (by unfold JC;first | (simp_all;done) | (simp_all;repeat' split;all_goals omega) | (repeat' split;all_goals first | rfl | omega)),rfl,rfl⟩
theorem bd25Xw8 (w:World):(Instr.build 34 #[]).run Tryz.prog w= .ok (.agg #[.int .i64 0, .int .i64 0]) w:=by kernel_rfl
theorem Hq (o:GOp) (A:Option Addr) (c:Nat):Sp Tryz.prog 135 [opV o A c] [] [] (Is (.bool (extraF o))):=by
 refine Sp.of (n:=56) ⟨_,Tryz.func135,O,O,O,O⟩ (Nat.le_of_ble_eq_true O) fun Ps As=>Jc (Ja (Jg O (J1 (cs:= [_,_,_,_,_,_,_,_,_]) O O (by decide) fun b1=>Lq (Jd O) (Je (Jf (Jc (Ja (Lq (Jh (o':=0) Un40 O KI O O) (Lq (Jh (o':=2) Un37 O Yu O O) (Lq (Jj Un35 O O Jm O) (Lq (Ka O O) (Lq (Jd O) ?_))))))))))))
 refine Je (Jf (Jc (Ja (Lq (Jh (o':=0) Un40 O KI O O) (Lq (Jh (o':=2) Un37 O Yu O O) (Lq (Jj Un35 O O Jm O) (Lq (Ka O O) (Lq (Jb O) (JU (t:=14) O (fun g14=> ?_) (fun g14=> ?_))))))))))
 ·refine Ln O O O g14 (Ln O O O g14 (Ln O O O g14 (Ln O O O g14 (Lq (JH O g14 O) (Lq (Jd O) (Je (Jf (JL [(4,_),(3,_),(2,_),(1,_)] (.m4 O O O O) (Jc (Ja (Lq (Jh (o':=0) Un40 O KI O O) ?_)))))))))))
  refine Lq (Jh (o':=2) Un37 O Yu O O) (Lq (Jj Un35 O O Jm O) (Lq (Ka O O) (Lq (Jd O) (Je (Jf (Jc (Jc (Ja (Lq (Jb O) (Lq (KC O) (Lq (Jb O) (JU (t:=26) O (fun g26=> ?_) (fun g26=> ?_)))))))))))))
  ·refine Lg O O O g26 (Jh (o':=3) Un40 O ti3 O O) (Lg O O O g26 (Jj Un3 O O Jm O) (Lg O O O g26 (Kp O O) (Lg O O O g26 (Jb O) (JU (t:=30) O (fun g30=> ?_) (fun g30=> ?_)))))
   ·refine Ln O O O g30 (Ln O O O g30 (Ln O O O g30 (Lg O O O g26 (JH O g30 O) (Lq (JH O g26 O) (Je (Jf (JL [(35,_),(5,_),(4,_),(2,_),(1,_)] (.m5 O O O O O) (JQ O O (Jc (Ja (Lq (Jd O) (Je (Jf (Jn (Jr ?_)))))))))))))))
    refine ⟨_,[],[],fun Z w hs=> .tmp O .nil,?_,fun Z w hs=>hs.out (Sd (Sr)) (fun _ h=>h)⟩
    try simp only [Bp,Bq] at *
    exact ⟨congrArg (Value.bool) (by unfold extraF;first | (simp_all;done) | (simp_all;repeat' split;all_goals omega) | (repeat' split;all_goals first | rfl | omega)),rfl,rfl⟩
   ·refine Lg O O O g30 (Jh (o':=4) Un40 O ti9 O O) (Lg O O O g30 (Jj Un9 O O Jm O) (Lg O O O g30 (G1 O O) (Lg O O O g26 (JA O g30 O) (Lq (JH O g26 O) (Je (Jf (JL [(35,_),(5,_),(4,_),(2,_),(1,_)] (.m5 O O O O O) (Jy O (fun h35=> ?_) (fun h35=> ?_)))))))))
    ·refine Jc (Ja (Lq (Jd O) (Je (Jf (Jn (Jr ?_))))))
     refine ⟨_,[],[],fun Z w hs=> .tmp O .nil,?_,fun Z w hs=>hs.out (Sd (Sr)) (fun _ h=>h)⟩
     try simp only [Bp,Bq] at *
     exact ⟨congrArg (Value.bool) (by unfold extraF;first | (simp_all;done) | (simp_all;repeat' split;all_goals omega) | (repeat' split;all_goals first | rfl | omega)),rfl,rfl⟩
    ·refine Jp (Jf (Jc (Jc (Ja (Lq (Jb O) (Lq (KC O) (Lq (Jb O) (Ln O O O O (Ln O O O O (Ln O O O O (Ln O O O O (Lq (JA O O O) (Je (Jf (Jz O O (Jp (Jf (Jc (Ja ?_)))))))))))))))))))
     refine Lq (Jb O) (Lq (KC O) (Lq (Jb O) (JU (t:=46) O (fun g46=> ?_) (fun g46=> ?_))))
     ·refine Lg O O O g46 (Jh (o':=6) Un40 O JY O O) (Lg O O O g46 (Jw (vs:= [_,_]) Un34 O JY O Jm O O) (Lg O O O g46 (JV .nil (bd25Xw8)) (Lg O O O g46 (Ya O O (eq34 _ _ _ _)) (Lg O O O g46 (Jb O) (JU (t:=51) O (fun g51=> ?_) (fun g51=> ?_))))))
      ·refine Ln O O O g51 (Ln O O O g51 (Lg O O O g46 (JH O g51 O) (Lq (JH O g46 O) (Lq (Jd O) (Je (Jf (JL [(2,_)] (.m1 O) (Jn ?_))))))))
       refine ⟨_,[],[],fun Z w hs=> .tmp O .nil,?_,fun Z w hs=>hs.out (Sd (Sr)) (fun _ h=>h)⟩
       try simp only [Bp,Bq] at *
       exact ⟨congrArg (Value.bool) (by unfold extraF;first | (simp_all;done) | (simp_all;repeat' split;all_goals omega) | (repeat' split;all_goals first | rfl | omega)),rfl,rfl⟩
      ·refine Lg O O O g51 (Jh (o':=8) Un40 O ti4 O O) (Lg O O O g51 (Jj Un4 O O Jm O) (Lg O O O g46 (JA O g51 O) (Lq (JH O g46 O) (Lq (Jd O) (Je (Jf (JL [(2,_)] (.m1 O) (Jn ?_))))))))
       refine ⟨_,[],[],fun Z w hs=> .tmp O .nil,?_,fun Z w hs=>hs.out (Sd (Sr)) (fun _ h=>h)⟩
       try simp only [Bp,Bq] at *
       exact ⟨congrArg (Value.bool) (by unfold extraF;first | (simp_all;done) | (simp_all;repeat' split;all_goals omega) | (repeat' split;all_goals first | rfl | omega)),rfl,rfl⟩
     ·refine Ln O O O g46 (Ln O O O g46 (Ln O O O g46 (Ln O O O g46 (Ln O O O g46 (Ys O O O (by decide) (Ys O O O (by decide) (Ln O O O g46 (Lq (JA O g46 O) (Lq (Jd O) ?_)))))))))
      refine Je (Jf (JL [(2,_)] (.m1 O) (Jn ?_)))
      refine ⟨_,[],[],fun Z w hs=> .tmp O .nil,?_,fun Z w hs=>hs.out (Sd (Sr)) (fun _ h=>h)⟩
      try simp only [Bp,Bq] at *
      exact ⟨congrArg (Value.bool) (by unfold extraF;first | (simp_all;done) | (simp_all;repeat' split;all_goals omega) | (repeat' split;all_goals first | rfl | omega)),rfl,rfl⟩
  ·refine Ln O O O g26 (Ln O O O g26 (Ln O O O g26 (Ln O O O g26 (Ys O O O (by decide) (Ys O O O (by decide) (Ys O O O (by decide) (Ln O O O g26 (Lq (JA O g26 O) (Je (Jf ?_))))))))))
   refine JL [(35,_),(5,_),(4,_),(2,_),(1,_)] (.m5 O O O O O) (Jz O O (Jp (Jf (Jc (Jc (Ja (Lq (Jb O) (Lq (KC O) (Lq (Jb O) (Ln O O O O (Ln O O O O (Ln O O O O (Ln O O O O (Lq (JA O O O) ?_))))))))))))))
   refine Je (Jf (Jz O O (Jp (Jf (Jc (Ja (Lq (Jb O) (Lq (KC O) (Lq (Jb O) (JU (t:=46) O (fun g46=> ?_) (fun g46=> ?_)))))))))))
   ·refine Lg O O O g46 (Jh (o':=6) Un40 O JY O O) (Lg O O O g46 (Jw (vs:= [_,_]) Un34 O JY O Jm O O) (Lg O O O g46 (JV .nil (bd25Xw8)) (Lg O O O g46 (Ya O O (eq34 _ _ _ _)) (Lg O O O g46 (Jb O) (JU (t:=51) O (fun g51=> ?_) (fun g51=> ?_))))))
    ·refine Ln O O O g51 (Ln O O O g51 (Lg O O O g46 (JH O g51 O) (Lq (JH O g46 O) (Lq (Jd O) (Je (Jf (JL [(2,_)] (.m1 O) (Jn ?_))))))))
     refine ⟨_,[],[],fun Z w hs=> .tmp O .nil,?_,fun Z w hs=>hs.out (Sd (Sr)) (fun _ h=>h)⟩
     try simp only [Bp,Bq] at *
     exact ⟨congrArg (Value.bool) (by unfold extraF;first | (simp_all;done) | (simp_all;repeat' split;all_goals omega) | (repeat' split;all_goals first | rfl | omega)),rfl,rfl⟩
    ·refine Lg O O O g51 (Jh (o':=8) Un40 O ti4 O O) (Lg O O O g51 (Jj Un4 O O Jm O) (Lg O O O g46 (JA O g51 O) (Lq (JH O g46 O) (Lq (Jd O) (Je (Jf (JL [(2,_)] (.m1 O) (Jn ?_))))))))
     refine ⟨_,[],[],fun Z w hs=> .tmp O .nil,?_,fun Z w hs=>hs.out (Sd (Sr)) (fun _ h=>h)⟩
     try simp only [Bp,Bq] at *
     exact ⟨congrArg (Value.bool) (by unfold extraF;first | (simp_all;done) | (simp_all;repeat' split;all_goals omega) | (repeat' split;all_goals first | rfl | omega)),rfl,rfl⟩
   ·refine Ln O O O g46 (Ln O O O g46 (Ln O O O g46 (Ln O O O g46 (Ln O O O g46 (Ys O O O (by decide) (Ys O O O (by decide) (Ln O O O g46 (Lq (JA O g46 O) (Lq (Jd O) ?_)))))))))
    refine Je (Jf (JL [(2,_)] (.m1 O) (Jn ?_)))
    refine ⟨_,[],[],fun Z w hs=> .tmp O .nil,?_,fun Z w hs=>hs.out (Sd (Sr)) (fun _ h=>h)⟩
    try simp only [Bp,Bq] at *
    exact ⟨congrArg (Value.bool) (by unfold extraF;first | (simp_all;done) | (simp_all;repeat' split;all_goals omega) | (repeat' split;all_goals first | rfl | omega)),rfl,rfl⟩
 ·refine Lg O O O g14 (Jh (o':=0) Un40 O KI O O) (Lg O O O g14 (Jh (o':=2) Un37 O Yu O O) (Lg O O O g14 (Jj Un35 O O Jm O) (Lg O O O g14 (Ka O O) (Lq (JA O g14 O) (Lq (Jd O) (Je (Jf (JL [(4,_),(3,_),(2,_),(1,_)] (.m4 O O O O) (Jc (Ja (Lq (Jh (o':=0) Un40 O KI O O) ?_)))))))))))
  refine Lq (Jh (o':=2) Un37 O Yu O O) (Lq (Jj Un35 O O Jm O) (Lq (Ka O O) (Lq (Jd O) (Je (Jf (Jc (Jc (Ja (Lq (Jb O) (Lq (KC O) (Lq (Jb O) (JU (t:=26) O (fun g26=> ?_) (fun g26=> ?_)))))))))))))
  ·refine Lg O O O g26 (Jh (o':=3) Un40 O ti3 O O) (Lg O O O g26 (Jj Un3 O O Jm O) (Lg O O O g26 (Kp O O) (Lg O O O g26 (Jb O) (JU (t:=30) O (fun g30=> ?_) (fun g30=> ?_)))))
   ·refine Ln O O O g30 (Ln O O O g30 (Ln O O O g30 (Lg O O O g26 (JH O g30 O) (Lq (JH O g26 O) (Je (Jf (JL [(35,_),(5,_),(4,_),(2,_),(1,_)] (.m5 O O O O O) (JQ O O (Jc (Ja (Lq (Jd O) (Je (Jf (Jn (Jr ?_)))))))))))))))
    refine ⟨_,[],[],fun Z w hs=> .tmp O .nil,?_,fun Z w hs=>hs.out (Sd (Sr)) (fun _ h=>h)⟩
    try simp only [Bp,Bq] at *
    exact ⟨congrArg (Value.bool) (by unfold extraF;first | (simp_all;done) | (simp_all;repeat' split;all_goals omega) | (repeat' split;all_goals first | rfl | omega)),rfl,rfl⟩
   ·refine Lg O O O g30 (Jh (o':=4) Un40 O ti9 O O) (Lg O O O g30 (Jj Un9 O O Jm O) (Lg O O O g30 (G1 O O) (Lg O O O g26 (JA O g30 O) (Lq (JH O g26 O) (Je (Jf (JL [(35,_),(5,_),(4,_),(2,_),(1,_)] (.m5 O O O O O) (Jy O (fun h35=> ?_) (fun h35=> ?_)))))))))
    ·refine Jc (Ja (Lq (Jd O) (Je (Jf (Jn (Jr ?_))))))
     refine ⟨_,[],[],fun Z w hs=> .tmp O .nil,?_,fun Z w hs=>hs.out (Sd (Sr)) (fun _ h=>h)⟩
     try simp only [Bp,Bq] at *
     exact ⟨congrArg (Value.bool) (by unfold extraF;first | (simp_all;done) | (simp_all;repeat' split;all_goals omega) | (repeat' split;all_goals first | rfl | omega)),rfl,rfl⟩
    ·refine Jp (Jf (Jc (Jc (Ja (Lq (Jb O) (Lq (KC O) (Lq (Jb O) (JU (t:=38) O (fun g38=> ?_) (fun g38=> ?_)))))))))
     ·refine Lg O O O g38 (Jh (o':=5) Un40 O Yd O O) (Lg O O O g38 (Jj Un38 O O Jm O) (Lg O O O g38 (J7 Un38 O) (Lg O O O g38 (Ke O O) (Lq (JH O g38 O) (Je (Jf (Jy O (fun h43=> ?_) (fun h43=> ?_))))))))
      ·refine Jc (Ja (Lq (Jd O) (Je (Jf (Jn (Jr ?_))))))
       refine ⟨_,[],[],fun Z w hs=> .tmp O .nil,?_,fun Z w hs=>hs.out (Sd (Sr)) (fun _ h=>h)⟩
       try simp only [Bp,Bq] at *
       exact ⟨congrArg (Value.bool) (by unfold extraF;first | (simp_all;done) | (simp_all;repeat' split;all_goals omega) | (repeat' split;all_goals first | rfl | omega)),rfl,rfl⟩
      ·refine Jp (Jf (Jc (Ja (Lq (Jb O) (Lq (KC O) (Lq (Jb O) (JU (t:=46) O (fun g46=> ?_) (fun g46=> ?_))))))))
       ·refine Lg O O O g46 (Jh (o':=6) Un40 O JY O O) (Lg O O O g46 (Jw (vs:= [_,_]) Un34 O JY O Jm O O) (Lg O O O g46 (JV .nil (bd25Xw8)) (Lg O O O g46 (Ya O O (eq34 _ _ _ _)) (Lg O O O g46 (Jb O) (JU (t:=51) O (fun g51=> ?_) (fun g51=> ?_))))))
        ·refine Ln O O O g51 (Ln O O O g51 (Lg O O O g46 (JH O g51 O) (Lq (JH O g46 O) (Lq (Jd O) (Je (Jf (JL [(2,_)] (.m1 O) (Jn ?_))))))))
         refine ⟨_,[],[],fun Z w hs=> .tmp O .nil,?_,fun Z w hs=>hs.out (Sd (Sr)) (fun _ h=>h)⟩
         try simp only [Bp,Bq] at *
         exact ⟨congrArg (Value.bool) (by unfold extraF;first | (simp_all;done) | (simp_all;repeat' split;all_goals omega) | (repeat' split;all_goals first | rfl | omega)),rfl,rfl⟩
        ·refine Lg O O O g51 (Jh (o':=8) Un40 O ti4 O O) (Lg O O O g51 (Jj Un4 O O Jm O) (Lg O O O g46 (JA O g51 O) (Lq (JH O g46 O) (Lq (Jd O) (Je (Jf (JL [(2,_)] (.m1 O) (Jn ?_))))))))
         refine ⟨_,[],[],fun Z w hs=> .tmp O .nil,?_,fun Z w hs=>hs.out (Sd (Sr)) (fun _ h=>h)⟩
         try simp only [Bp,Bq] at *
         exact ⟨congrArg (Value.bool) (by unfold extraF;first | (simp_all;done) | (simp_all;repeat' split;all_goals omega) | (repeat' split;all_goals first | rfl | omega)),rfl,rfl⟩
       ·refine Ln O O O g46 (Ln O O O g46 (Ln O O O g46 (Ln O O O g46 (Ln O O O g46 (Ys O O O (by decide) (Ys O O O (by decide) (Ln O O O g46 (Lq (JA O g46 O) (Lq (Jd O) ?_)))))))))
        refine Je (Jf (JL [(2,_)] (.m1 O) (Jn ?_)))
        refine ⟨_,[],[],fun Z w hs=> .tmp O .nil,?_,fun Z w hs=>hs.out (Sd (Sr)) (fun _ h=>h)⟩
        try simp only [Bp,Bq] at *
        exact ⟨congrArg (Value.bool) (by unfold extraF;first | (simp_all;done) | (simp_all;repeat' split;all_goals omega) | (repeat' split;all_goals first | rfl | omega)),rfl,rfl⟩
     ·refine Ln O O O g38 (Ln O O O g38 (Ln O O O g38 (Ln O O O g38 (Lq (JA O g38 O) (Je (Jf (Jz O O (Jp (Jf (Jc (Ja (Lq (Jb O) (Lq (KC O) (Lq (Jb O) (JU (t:=46) O (fun g46=> ?_) (fun g46=> ?_))))))))))))))))
      ·refine Lg O O O g46 (Jh (o':=6) Un40 O JY O O) (Lg O O O g46 (Jw (vs:= [_,_]) Un34 O JY O Jm O O) (Lg O O O g46 (JV .nil (bd25Xw8)) (Lg O O O g46 (Ya O O (eq34 _ _ _ _)) (Lg O O O g46 (Jb O) (JU (t:=51) O (fun g51=> ?_) (fun g51=> ?_))))))
       ·refine Ln O O O g51 (Ln O O O g51 (Lg O O O g46 (JH O g51 O) (Lq (JH O g46 O) (Lq (Jd O) (Je (Jf (JL [(2,_)] (.m1 O) (Jn ?_))))))))
        refine ⟨_,[],[],fun Z w hs=> .tmp O .nil,?_,fun Z w hs=>hs.out (Sd (Sr)) (fun _ h=>h)⟩
        try simp only [Bp,Bq] at *
        exact ⟨congrArg (Value.bool) (by unfold extraF;first | (simp_all;done) | (simp_all;repeat' split;all_goals omega) | (repeat' split;all_goals first | rfl | omega)),rfl,rfl⟩
       ·refine Lg O O O g51 (Jh (o':=8) Un40 O ti4 O O) (Lg O O O g51 (Jj Un4 O O Jm O) (Lg O O O g46 (JA O g51 O) (Lq (JH O g46 O) (Lq (Jd O) (Je (Jf (JL [(2,_)] (.m1 O) (Jn ?_))))))))
        refine ⟨_,[],[],fun Z w hs=> .tmp O .nil,?_,fun Z w hs=>hs.out (Sd (Sr)) (fun _ h=>h)⟩
        try simp only [Bp,Bq] at *
        exact ⟨congrArg (Value.bool) (by unfold extraF;first | (simp_all;done) | (simp_all;repeat' split;all_goals omega) | (repeat' split;all_goals first | rfl | omega)),rfl,rfl⟩
      ·refine Ln O O O g46 (Ln O O O g46 (Ln O O O g46 (Ln O O O g46 (Ln O O O g46 (Ys O O O (by decide) (Ys O O O (by decide) (Ln O O O g46 (Lq (JA O g46 O) (Lq (Jd O) ?_)))))))))
       refine Je (Jf (JL [(2,_)] (.m1 O) (Jn ?_)))
       refine ⟨_,[],[],fun Z w hs=> .tmp O .nil,?_,fun Z w hs=>hs.out (Sd (Sr)) (fun _ h=>h)⟩
       try simp only [Bp,Bq] at *
       exact ⟨congrArg (Value.bool) (by unfold extraF;first | (simp_all;done) | (simp_all;repeat' split;all_goals omega) | (repeat' split;all_goals first | rfl | omega)),rfl,rfl⟩
  ·refine Ln O O O g26 (Ln O O O g26 (Ln O O O g26 (Ln O O O g26 (Ys O O O (by decide) (Ys O O O (by decide) (Ys O O O (by decide) (Ln O O O g26 (Lq (JA O g26 O) (Je (Jf ?_))))))))))
   refine JL [(35,_),(5,_),(4,_),(2,_),(1,_)] (.m5 O O O O O) (Jz O O (Jp (Jf (Jc (Jc (Ja (Lq (Jb O) (Lq (KC O) (Lq (Jb O) (JU (t:=38) O (fun g38=> ?_) (fun g38=> ?_)))))))))))
   ·refine Lg O O O g38 (Jh (o':=5) Un40 O Yd O O) (Lg O O O g38 (Jj Un38 O O Jm O) (Lg O O O g38 (J7 Un38 O) (Lg O O O g38 (Ke O O) (Lq (JH O g38 O) (Je (Jf (Jy O (fun h43=> ?_) (fun h43=> ?_))))))))
    ·refine Jc (Ja (Lq (Jd O) (Je (Jf (Jn (Jr ?_))))))
     refine ⟨_,[],[],fun Z w hs=> .tmp O .nil,?_,fun Z w hs=>hs.out (Sd (Sr)) (fun _ h=>h)⟩
     try simp only [Bp,Bq] at *
     exact ⟨congrArg (Value.bool) (by unfold extraF;first | (simp_all;done) | (simp_all;repeat' split;all_goals omega) | (repeat' split;all_goals first | rfl | omega)),rfl,rfl⟩
    ·refine Jp (Jf (Jc (Ja (Lq (Jb O) (Lq (KC O) (Lq (Jb O) (JU (t:=46) O (fun g46=> ?_) (fun g46=> ?_))))))))
     ·refine Lg O O O g46 (Jh (o':=6) Un40 O JY O O) (Lg O O O g46 (Jw (vs:= [_,_]) Un34 O JY O Jm O O) (Lg O O O g46 (JV .nil (bd25Xw8)) (Lg O O O g46 (Ya O O (eq34 _ _ _ _)) (Lg O O O g46 (Jb O) (JU (t:=51) O (fun g51=> ?_) (fun g51=> ?_))))))
      ·refine Ln O O O g51 (Ln O O O g51 (Lg O O O g46 (JH O g51 O) (Lq (JH O g46 O) (Lq (Jd O) (Je (Jf (JL [(2,_)] (.m1 O) (Jn ?_))))))))
       refine ⟨_,[],[],fun Z w hs=> .tmp O .nil,?_,fun Z w hs=>hs.out (Sd (Sr)) (fun _ h=>h)⟩
       try simp only [Bp,Bq] at *
       exact ⟨congrArg (Value.bool) (by unfold extraF;first | (simp_all;done) | (simp_all;repeat' split;all_goals omega) | (repeat' split;all_goals first | rfl | omega)),rfl,rfl⟩
      ·refine Lg O O O g51 (Jh (o':=8) Un40 O ti4 O O) (Lg O O O g51 (Jj Un4 O O Jm O) (Lg O O O g46 (JA O g51 O) (Lq (JH O g46 O) (Lq (Jd O) (Je (Jf (JL [(2,_)] (.m1 O) (Jn ?_))))))))
       refine ⟨_,[],[],fun Z w hs=> .tmp O .nil,?_,fun Z w hs=>hs.out (Sd (Sr)) (fun _ h=>h)⟩
       try simp only [Bp,Bq] at *
       exact ⟨congrArg (Value.bool) (by unfold extraF;first | (simp_all;done) | (simp_all;repeat' split;all_goals omega) | (repeat' split;all_goals first | rfl | omega)),rfl,rfl⟩
     ·refine Ln O O O g46 (Ln O O O g46 (Ln O O O g46 (Ln O O O g46 (Ln O O O g46 (Ys O O O (by decide) (Ys O O O (by decide) (Ln O O O g46 (Lq (JA O g46 O) (Lq (Jd O) ?_)))))))))
      refine Je (Jf (JL [(2,_)] (.m1 O) (Jn ?_)))
      refine ⟨_,[],[],fun Z w hs=> .tmp O .nil,?_,fun Z w hs=>hs.out (Sd (Sr)) (fun _ h=>h)⟩
      try simp only [Bp,Bq] at *
      exact ⟨congrArg (Value.bool) (by unfold extraF;first | (simp_all;done) | (simp_all;repeat' split;all_goals omega) | (repeat' split;all_goals first | rfl | omega)),rfl,rfl⟩
   ·refine Ln O O O g38 (Ln O O O g38 (Ln O O O g38 (Ln O O O g38 (Lq (JA O g38 O) (Je (Jf (Jz O O (Jp (Jf (Jc (Ja (Lq (Jb O) (Lq (KC O) (Lq (Jb O) (JU (t:=46) O (fun g46=> ?_) (fun g46=> ?_))))))))))))))))
    ·refine Lg O O O g46 (Jh (o':=6) Un40 O JY O O) (Lg O O O g46 (Jw (vs:= [_,_]) Un34 O JY O Jm O O) (Lg O O O g46 (JV .nil (bd25Xw8)) (Lg O O O g46 (Ya O O (eq34 _ _ _ _)) (Lg O O O g46 (Jb O) (JU (t:=51) O (fun g51=> ?_) (fun g51=> ?_))))))
     ·refine Ln O O O g51 (Ln O O O g51 (Lg O O O g46 (JH O g51 O) (Lq (JH O g46 O) (Lq (Jd O) (Je (Jf (JL [(2,_)] (.m1 O) (Jn ?_))))))))
      refine ⟨_,[],[],fun Z w hs=> .tmp O .nil,?_,fun Z w hs=>hs.out (Sd (Sr)) (fun _ h=>h)⟩
      try simp only [Bp,Bq] at *
      exact ⟨congrArg (Value.bool) (by unfold extraF;first | (simp_all;done) | (simp_all;repeat' split;all_goals omega) | (repeat' split;all_goals first | rfl | omega)),rfl,rfl⟩
     ·refine Lg O O O g51 (Jh (o':=8) Un40 O ti4 O O) (Lg O O O g51 (Jj Un4 O O Jm O) (Lg O O O g46 (JA O g51 O) (Lq (JH O g46 O) (Lq (Jd O) (Je (Jf (JL [(2,_)] (.m1 O) (Jn ?_))))))))
      refine ⟨_,[],[],fun Z w hs=> .tmp O .nil,?_,fun Z w hs=>hs.out (Sd (Sr)) (fun _ h=>h)⟩
      try simp only [Bp,Bq] at *
      exact ⟨congrArg (Value.bool) (by unfold extraF;first | (simp_all;done) | (simp_all;repeat' split;all_goals omega) | (repeat' split;all_goals first | rfl | omega)),rfl,rfl⟩
    ·refine Ln O O O g46 (Ln O O O g46 (Ln O O O g46 (Ln O O O g46 (Ln O O O g46 (Ys O O O (by decide) (Ys O O O (by decide) (Ln O O O g46 (Lq (JA O g46 O) (Lq (Jd O) ?_)))))))))
     refine Je (Jf (JL [(2,_)] (.m1 O) (Jn ?_)))
     refine ⟨_,[],[],fun Z w hs=> .tmp O .nil,?_,fun Z w hs=>hs.out (Sd (Sr)) (fun _ h=>h)⟩
     try simp only [Bp,Bq] at *
     exact ⟨congrArg (Value.bool) (by unfold extraF;first | (simp_all;done) | (simp_all;repeat' split;all_goals omega) | (repeat' split;all_goals first | rfl | omega)),rfl,rfl⟩
theorem Gi (o:GOp) (A:Option Addr) (c:Nat) (total:Int) (hs:o.text.size≤4611686018427387904) (ht:0≤total∧total≤1048576):Sp Tryz.prog 136 [opV o A c, .int .i64 total] [] [barF] (Is (.int .i64 (insF o total))):=by
 refine Sp.of (n:=40) ⟨_,Tryz.func136,O,O,O,O⟩ (Nat.le_of_ble_eq_true O) fun Ps As=>Jc (Ja (Jg O (J1 (cs:= [_,_,_,_,_,_,_,_,_]) O O (by decide) fun b2=>Lq (Jd O) (Je (Jf (Jc (Ja (Lq (Jh (o':=4) Un40 O ti9 O O) (Lq (Jj Un9 O O Jm O) (Jg O (Jo (QF o.text hs) (.n1 O) (by decide) (Jl Mm0 Jx) fun _ _ _ q9=>?_)))))))))))
 obtain ⟨rfl,rfl,rfl⟩:=q9
 refine Lq (Jb O) (Lq (Jk (vs:= [_,_,_]) O O) (Lq (Jk (vs:= [_,_,_]) O O) (Lq (Jk (vs:= [_,_,_]) O O) (Lq (Jd O) (Lq (Jd O) (Lq (Jd O) (Je (Jf (JL [(7,_),(5,_),(4,_),(2,_),(1,_)] (.m5 O O O O O) (Jc (JO (Jc (Ja ?_)))))))))))))
 refine Lq (Jb O) (Lq (Kp O O) (Lq (Jd O) (Je (Jf (Jy O (fun h15=> ?_) (fun h15=> ?_))))))
 ·refine Jc (Ja (Lq (Jb O) (Lq (Jd O) (Je (Jf (Jn (JM (Jr ?_))))))))
  refine ⟨_,[],[],fun Z w hs=> .tmp O .nil,?_,fun Z w hs=>hs.out (Sd (Sr)) (fun _ h=>h)⟩
  try simp only [Bp,Bq] at *
  exact ⟨congrArg (Value.int .i64) (by unfold insF;first | (simp_all;done) | (simp_all;repeat' split;all_goals omega) | (repeat' split;all_goals first | rfl | omega)),rfl,rfl⟩
 ·refine Jc (Ja (Lq (Jb O) (Lq (Ka O O) (Lq (Jd O) (Je (Jf (Jy O (fun h19=> ?_) (fun h19=> ?_))))))))
  ·refine Jc (Ja (Lq (Jd O) (Je (Jf (Jn (JM (Jr ?_)))))))
   refine ⟨_,[],[],fun Z w hs=> .tmp O .nil,?_,fun Z w hs=>hs.out (Sd (Sr)) (fun _ h=>h)⟩
   try simp only [Bp,Bq] at *
   exact ⟨congrArg (Value.int .i64) (by unfold insF;first | (simp_all;done) | (simp_all;repeat' split;all_goals omega) | (repeat' split;all_goals first | rfl | omega)),rfl,rfl⟩
  ·refine Jc (Ja (Lq (Jb O) (Lq (Ke O O) (Lq (Jd O) (Je (Jf (JL [(22,_),(5,_),(4,_),(2,_),(1,_)] (.m5 O O O O O) (Jy O (fun h22=> ?_) (fun h22=> ?_)))))))))
   ·refine Jc (Ja (Lq (Jd O) (Je (Jf (Jn (JM (Jr ?_)))))))
    refine ⟨_,[],[],fun Z w hs=> .tmp O .nil,?_,fun Z w hs=>hs.out (Sd (Sr)) (fun _ h=>h)⟩
    try simp only [Bp,Bq] at *
    exact ⟨congrArg (Value.int .i64) (by unfold insF;first | (simp_all;done) | (simp_all;repeat' split;all_goals omega) | (repeat' split;all_goals first | rfl | omega)),rfl,rfl⟩
   ·refine Jc (Ja (Lq (Jh (o':=3) Un40 O ti3 O O) (Lq (Jj Un3 O O Jm O) (Lq (Ku O O) (Lq (Jb O) (JU (t:=29) O (fun g29=> ?_) (fun g29=> ?_)))))))
    ·refine Ln O O O g29 (Ln O O O g29 (Ln O O O g29 (Ln O O O g29 (Lq (JH O g29 O) (Lq (Jd O) (Je (Jf (JL [(25,_),(5,_),(4,_),(1,_)] (.m4 O O O O) (JQ O O (Jc (Ja (Lq (Jd O) ?_))))))))))))
     refine Je (Jf (Jn (JM (Jr ?_))))
     refine ⟨_,[],[],fun Z w hs=> .tmp O .nil,?_,fun Z w hs=>hs.out (Sd (Sr)) (fun _ h=>h)⟩
     try simp only [Bp,Bq] at *
     exact ⟨congrArg (Value.int .i64) (by unfold insF;first | (simp_all;done) | (simp_all;repeat' split;all_goals omega) | (repeat' split;all_goals first | rfl | omega)),rfl,rfl⟩
    ·refine Lg O O O g29 (Jh (o':=3) Un40 O ti3 O O) (Lg O O O g29 (Jj Un3 O O Jm O) (Lg O O O g29 (Jb O) (Lg O O O g29 (Ke O O) (Lq (JA O g29 O) (Lq (Jd O) (Je (Jf (JL [(25,_),(5,_),(4,_),(1,_)] (.m4 O O O O) (Jy O (fun h25=> ?_) (fun h25=> ?_))))))))))
     ·refine Jc (Ja (Lq (Jd O) (Je (Jf (Jn (JM (Jr ?_)))))))
      refine ⟨_,[],[],fun Z w hs=> .tmp O .nil,?_,fun Z w hs=>hs.out (Sd (Sr)) (fun _ h=>h)⟩
      try simp only [Bp,Bq] at *
      exact ⟨congrArg (Value.int .i64) (by unfold insF;first | (simp_all;done) | (simp_all;repeat' split;all_goals omega) | (repeat' split;all_goals first | rfl | omega)),rfl,rfl⟩
     ·refine Jc ?_
      have hu:=Hc o.text
      try simp only [Bp,Bq] at *
      refine Ja (Lq (Jb O) (Lq (Jb O) (Lq (JZ O O (wr64 (by omega))) (Lq (Ke O O) (Lq (Jd O) (Je (Jf (Jy O (fun h35=> ?_) (fun h35=> ?_)))))))))
      ·refine Jc (Ja (Lq (Jd O) (Je (Jf (Jn (JM (Jr ?_)))))))
       refine ⟨_,[],[],fun Z w hs=> .tmp O .nil,?_,fun Z w hs=>hs.out (Sd (Sr)) (fun _ h=>h)⟩
       try simp only [Bp,Bq] at *
       exact ⟨congrArg (Value.int .i64) (by unfold insF;first | (simp_all;done) | (simp_all;repeat' split;all_goals omega) | (repeat' split;all_goals first | rfl | omega)),rfl,rfl⟩
      ·refine Jp (J9 (Jf (Jc (Ja (Lq (Jd O) (Je (Jf (Jn ?_))))))))
       refine ⟨_,[],[],fun Z w hs=> .tmp O .nil,?_,fun Z w hs=>hs.out (Sd (Sr)) (fun _ h=>h)⟩
       try simp only [Bp,Bq] at *
       exact ⟨congrArg (Value.int .i64) (by unfold insF;first | (simp_all;done) | (simp_all;repeat' split;all_goals omega) | (repeat' split;all_goals first | rfl | omega)),rfl,rfl⟩
theorem VP (A:Option Addr) (c:Nat) (xs:List Rg) (total:Int) (hl:xs.length≤8796093022208):Sp Tryz.prog 137 [.slice A xs.length c, .int .i64 total] [] [RdF rgD A c xs] (Is (.int .i64 (YZ xs total))):=by
 refine Sp.of (n:=27) ⟨_,Tryz.func137,O,O,O,O⟩ (Nat.le_of_ble_eq_true O) fun Ps As=>Jc (Ja (Lq (Jd O) (Je (Jf (Jc (Jc (Ja (Lq (Jb O) (Lq (J7 Un38 O) (Lq (Ka O O) (Je (Jf (Jy O (fun h9=> ?_) (fun h9=> ?_))))))))))))))
 ·refine Jc (Ja (Lq (Jd O) (Je (Jf (Jn (Jr ?_))))))
  refine ⟨_,[],[],fun Z w hs=> .tmp O .nil,?_,fun Z w hs=>hs.out (Sr) (fun _ h=>h)⟩
  try simp only [Bp,Bq] at *
  first
   | exact ⟨by rw [Qx (by omega)];rfl,rfl,rfl⟩
   | exact ⟨by rw [YA hk0 (by omega),if_pos (by omega)];rfl,rfl,rfl⟩
   | exact ⟨by rw [YA hk0 (by omega),if_neg (by omega)];rfl,rfl,rfl⟩
   | exact ⟨by rw [QW (by omega) (by omega)];rfl,rfl,rfl⟩
 ·refine Jp (Jf (Jc (Jc (Ja (Lq (Jb O) (Jg O (Jo (XI A c xs hl) (.n1 O) (by decide) (Jl Mm0 Jx) fun _ _ _ q9=>?_)))))))
  obtain ⟨rfl,rfl,rfl⟩:=q9
  refine Lq (Jb O) (Lq (Jk (vs:= [_,_]) O O) (Lq (Jk (vs:= [_,_]) O O) (Lq (Jd O) (Lq (Jd O) (Je (Jf (Jc (Ja (Lq (Jb O) (Lq (Kp O O) (Je (Jf (JL [(16,_),(6,_),(4,_),(0,_),(1,_)] (.m5 O O O O O) ?_)))))))))))))
  refine Jy O (fun h16=> ?_) (fun h16=> ?_)
  ·refine Jc (Ja (Lq (Jb O) (Lq (Jd O) (Je (Jf (Jn (Jr ?_)))))))
   refine ⟨_,[],[],fun Z w hs=> .tmp O .nil,?_,fun Z w hs=>hs.out (Sr) (fun _ h=>h)⟩
   try simp only [Bp,Bq] at *
   first
    | exact ⟨by rw [Qx (by omega)];rfl,rfl,rfl⟩
    | exact ⟨by rw [YA hk0 (by omega),if_pos (by omega)];rfl,rfl,rfl⟩
    | exact ⟨by rw [YA hk0 (by omega),if_neg (by omega)];rfl,rfl,rfl⟩
    | exact ⟨by rw [QW (by omega) (by omega)];rfl,rfl,rfl⟩
  ·refine Jp (Jf (Jc (Jc ?_)))
   try simp only [Bp,Bq] at *
   have hk0:xs.length-1<xs.length:=by omega
   refine Kh (k:=(xs.length-1)) Mm0 (List.getElem?_eq_getElem hk0) (rg_open _) fun b6 q6 y6 e6=> ?_
   cases e6
   refine Ja (Lq (Jb O) (Lq (Jb O) (Lq (J7 Un38 O) (Lq (KS O O (by rw [wr64 (by omega)];omega) (c:=((xs.length-1:Nat):Int))) (Lq (Kc Un38 KB O O (by omega) (by omega)) (Lq (Jh (o':=_+1) Un143 O ti3 O O) (Lq (Ks (j:=1) Un3 O O Mm0 O O) (Lq (Jb O) (Lq (Ke O O) ?_)))))))))
   refine Je (Jf (JL [(26,_),(4,_)] (.m2 O O) (Jy O (fun h26=> ?_) (fun h26=> ?_))))
   ·refine Jc (Ja (Lq (Jd O) (Je (Jf (Jn (Jr ?_))))))
    refine ⟨_,[],[],fun Z w hs=> .tmp O .nil,?_,fun Z w hs=>hs.out (Sr) Tt1⟩
    try simp only [Bp,Bq] at *
    first
     | exact ⟨by rw [Qx (by omega)];rfl,rfl,rfl⟩
     | exact ⟨by rw [YA hk0 (by omega),if_pos (by omega)];rfl,rfl,rfl⟩
     | exact ⟨by rw [YA hk0 (by omega),if_neg (by omega)];rfl,rfl,rfl⟩
     | exact ⟨by rw [QW (by omega) (by omega)];rfl,rfl,rfl⟩
   ·refine Jp (Jf (Jc (Ja (Lq (Jd O) (Je (Jf (Jn ?_)))))))
    refine ⟨_,[],[],fun Z w hs=> .tmp O .nil,?_,fun Z w hs=>hs.out (Sr) Tt1⟩
    try simp only [Bp,Bq] at *
    first
     | exact ⟨by rw [Qx (by omega)];rfl,rfl,rfl⟩
     | exact ⟨by rw [YA hk0 (by omega),if_pos (by omega)];rfl,rfl,rfl⟩
     | exact ⟨by rw [YA hk0 (by omega),if_neg (by omega)];rfl,rfl,rfl⟩
     | exact ⟨by rw [QW (by omega) (by omega)];rfl,rfl,rfl⟩
theorem Y9 (o:GOp) (A:Option Addr) (c:Nat) (total:Int) (hs:o.text.size≤4611686018427387904) (hl:o.rs.length≤8796093022208):Sp Tryz.prog 119 [opV o A c, .int .i64 total] [] [barF,RdF rgD A c o.rs] (Is (.int .i64 (checkF o total))):=by
 refine Sp.of (n:=65) ⟨_,Tryz.func119,O,O,O,O⟩ (Nat.le_of_ble_eq_true O) fun Ps As=>Jc (Ja (Jg O (J1 (cs:= [_,_,_,_,_,_,_,_,_]) O O (by decide) fun b2=>Lq (Jd O) (Je (Jf (Jc (JO (Jc (Ja (Lq (Jb O) (Lq (Ku O O) (Lq (Jb O) (JU (t:=8) O (fun g8=> ?_) (fun g8=> ?_))))))))))))))
 ·refine Ln O O O g8 (Ln O O O g8 (Lq (JH O g8 O) (Lq (Jd O) (Je (Jf (JQ O O (Jc (Ja (Lq (Jd O) (Je (Jf (Jn (JM (Jr ?_))))))))))))))
  refine ⟨_,[],[],fun Z w hs=> .tmp O .nil,?_,fun Z w hs=>hs.out (Sd (Sr)) (fun _ h=>h)⟩
  try simp only [Bp,Bq] at *
  exact ⟨congrArg (Value.int .i64) (by unfold checkF rightF;simp_all<;>omega),O,O⟩
 ·refine Lg O O O g8 (Jb O) (Lg O O O g8 (Ke O O) (Lq (JA O g8 O) (Lq (Jd O) (Je (Jf (Jy O (fun h5=> ?_) (fun h5=> ?_)))))))
  ·refine Jc (Ja (Lq (Jd O) (Je (Jf (Jn (JM (Jr ?_)))))))
   refine ⟨_,[],[],fun Z w hs=> .tmp O .nil,?_,fun Z w hs=>hs.out (Sd (Sr)) (fun _ h=>h)⟩
   try simp only [Bp,Bq] at *
   exact ⟨congrArg (Value.int .i64) (by unfold checkF rightF;simp_all<;>omega),O,O⟩
  ·refine Jc (Ja (Lq (Jh (o':=0) Un40 O KI O O) (Lq (Jh (o':=2) Un37 O Yu O O) (Lq (Jj Un35 O O Jm O) (Lq (Ku O O) (Lq (Jb O) (JU (t:=17) O (fun g17=> ?_) (fun g17=> ?_))))))))
   ·refine Ln O O O g17 (Ln O O O g17 (Ln O O O g17 (Ln O O O g17 (Lq (JH O g17 O) (Lq (Jd O) (Je (Jf (JL [(12,_),(4,_),(2,_),(1,_)] (.m4 O O O O) (JQ O O (Jc (Ja (Lq (Jd O) ?_))))))))))))
    refine Je (Jf (Jn (JM (Jr ?_))))
    refine ⟨_,[],[],fun Z w hs=> .tmp O .nil,?_,fun Z w hs=>hs.out (Sd (Sr)) (fun _ h=>h)⟩
    try simp only [Bp,Bq] at *
    exact ⟨congrArg (Value.int .i64) (by unfold checkF rightF;simp_all<;>omega),O,O⟩
   ·refine Lg O O O g17 (Jh (o':=0) Un40 O KI O O) (Lg O O O g17 (Jh (o':=2) Un37 O Yu O O) (Lg O O O g17 (Jj Un35 O O Jm O) (Lg O O O g17 (Ke O O) (Lq (JA O g17 O) (Lq (Jd O) (Je (Jf (JL [(12,_),(4,_),(2,_),(1,_)] (.m4 O O O O) (Jy O (fun h12=> ?_) (fun h12=> ?_))))))))))
    ·refine Jc (Ja (Lq (Jd O) (Je (Jf (Jn (JM (Jr ?_)))))))
     refine ⟨_,[],[],fun Z w hs=> .tmp O .nil,?_,fun Z w hs=>hs.out (Sd (Sr)) (fun _ h=>h)⟩
     try simp only [Bp,Bq] at *
     exact ⟨congrArg (Value.int .i64) (by unfold checkF rightF;simp_all<;>omega),O,O⟩
    ·refine Jc (Ja (Lq (Jh (o':=0) Un40 O KI O O) (Lq (Jh (o':=0) Un37 O JY O O) (Lq (Jw (vs:= [_,_]) Un34 O JY O Jm O O) (Lq (JV .nil (bd25Xw8)) (Lq (Ya O O (eq34 _ _ _ _)) (Lq (Jb O) (JU (t:=29) O (fun g29=> ?_) (fun g29=> ?_)))))))))
     ·refine Lg O O O g29 (Jh (o':=0) Un40 O KI O O) (Lg O O O g29 (Jh (o':=0) Un37 O JY O O) (Lg O O O g29 (Jw (vs:= [_,_]) Un34 O JY O Jm O O) (Kk O O O g29 (Jo (GZ o.c o.n) (.n1 O) (by decide) Jx fun _ _ _ q9=>?_))))
      obtain ⟨rfl,rfl,rfl⟩:=q9
      refine Lg O O O g29 (KC O) (Lq (JH O g29 O) (Lq (Jd O) (Je (Jf (JL [(23,_),(4,_),(2,_),(1,_)] (.m4 O O O O) (Jy O (fun h23=> ?_) (fun h23=> ?_)))))))
      ·refine Jc (Ja (Lq (Jd O) (Je (Jf (Jn (JM (Jr ?_)))))))
       refine ⟨_,[],[],fun Z w hs=> .tmp O .nil,?_,fun Z w hs=>hs.out (Sd (Sr)) (fun _ h=>h)⟩
       try simp only [Bp,Bq] at *
       exact ⟨congrArg (Value.int .i64) (by unfold checkF rightF;simp_all<;>omega),O,O⟩
      ·refine Jc (Ja (Lq (Jw (vs:= [_,_,_,_,_,_,_,_,_]) Un40 O JF O Jm O O) (Jg O (Jo (Hq o A c) (.n1 O) (by decide) Jx fun _ _ _ q9=>?_))))
       obtain ⟨rfl,rfl,rfl⟩:=q9
       refine Lq (Jd O) (Je (Jf (Jy O (fun h36=> ?_) (fun h36=> ?_))))
       ·refine Jc (Ja (Lq (Jd O) (Je (Jf (Jn (JM (Jr ?_)))))))
        refine ⟨_,[],[],fun Z w hs=> .tmp O .nil,?_,fun Z w hs=>hs.out (Sd (Sr)) (fun _ h=>h)⟩
        try simp only [Bp,Bq] at *
        exact ⟨congrArg (Value.int .i64) (by unfold checkF rightF;simp_all<;>omega),O,O⟩
       ·refine Jp (J9 (Jf (Jc (Jc (Ja (Lq (Jh (o':=0) Un40 O KI O O) (Lq (Jh (o':=2) Un37 O Yu O O) (Lq (Jj Un35 O O Jm O) (Je (Jf (JO (Jc (Ja (Lq (Ka O O) (Lq (Jd O) (Je (Jf (Jy O (fun h42=> ?_) (fun h42=> ?_)))))))))))))))))))
        ·refine Jc (Ja (Lq (Jw (vs:= [_,_,_,_,_,_,_,_,_]) Un40 O JF O Jm O O) (Lq (Jb O) ?_)))
         try simp only [Bp,Bq] at *
         refine Jg O (Jo (Gi o A c total hs ⟨by omega,by omega⟩) (.n2 O O) (by decide) (Jl Mm0 Jx) fun _ _ _ q9=>?_)
         obtain ⟨rfl,rfl,rfl⟩:=q9
         refine Lq (Jd O) (Je (Jf (JL [(4,_),(2,_),(1,_)] (.m3 O O O) (Jn (JM (Jr ?_))))))
         refine ⟨_,[],[],fun Z w hs=> .tmp O .nil,?_,fun Z w hs=>hs.out (Sd (Sr)) (fun _ h=>h)⟩
         try simp only [Bp,Bq] at *
         exact ⟨congrArg (Value.int .i64) (by unfold checkF rightF;simp_all<;>omega),O,O⟩
        ·refine Jc (Ja (Lq (Ka O O) (Lq (Jd O) (Je (Jf (JL [(47,_),(4,_),(2,_),(1,_)] (.m4 O O O O) (Jy O (fun h47=> ?_) (fun h47=> ?_))))))))
         ·refine Jc (Jc (Ja (Lq (Jh (o':=6) Un40 O JY O O) (Lq (Jw (vs:= [_,_]) Un34 O JY O Jm O O) (Jg O (Jo (GZ o.tc o.tn) (.n1 O) (by decide) Jx fun _ _ _ q9=>?_))))))
          obtain ⟨rfl,rfl,rfl⟩:=q9
          refine Lq (KC O) (Lq (Jb O) (JU (t:=53) O (fun g53=> ?_) (fun g53=> ?_)))
          ·refine Ln O O O g53 (Ln O O O g53 (Ln O O O g53 (Ln O O O g53 (Ln O O O g53 (Ln O O O g53 (Lq (JH O g53 O) (Je (Jf (JL [(60,_),(4,_),(2,_),(1,_)] (.m4 O O O O) (JQ O O (Jc (Ja ?_))))))))))))
           refine Lq (Jd O) (Je (Jf (Jn (Jr (JM (Jr ?_))))))
           refine ⟨_,[],[],fun Z w hs=> .tmp O .nil,?_,fun Z w hs=>hs.out (Sd (Sr)) (fun _ h=>h)⟩
           try simp only [Bp,Bq] at *
           exact ⟨congrArg (Value.int .i64) (by unfold checkF rightF;simp_all<;>omega),O,O⟩
          ·refine Lg O O O g53 (Jh (o':=6) Un40 O JY O O) (Lg O O O g53 (Jw (vs:= [_,_]) Un34 O JY O Jm O O) (Lg O O O g53 (Jh (o':=0) Un40 O KI O O) (Lg O O O g53 (Jh (o':=0) Un37 O JY O O) (Lg O O O g53 (Jw (vs:= [_,_]) Un34 O JY O Jm O O) (Lg O O O g53 (Qd O O (eq34 _ _ _ _)) (Lq (JA O g53 O) (Je (Jf (JL [(60,_),(4,_),(2,_),(1,_)] (.m4 O O O O) (Jy O (fun h60=> ?_) (fun h60=> ?_)))))))))))
           ·refine Jc (Ja (Lq (Jd O) (Je (Jf (Jn (Jr (JM (Jr ?_))))))))
            refine ⟨_,[],[],fun Z w hs=> .tmp O .nil,?_,fun Z w hs=>hs.out (Sd (Sr)) (fun _ h=>h)⟩
            try simp only [Bp,Bq] at *
            exact ⟨congrArg (Value.int .i64) (by unfold checkF rightF;simp_all<;>omega),O,O⟩
           ·refine Jp (Jf (Jc (Ja (Lq (Jd O) (Je (Jf (Jn (JM (Jr ?_)))))))))
            refine ⟨_,[],[],fun Z w hs=> .tmp O .nil,?_,fun Z w hs=>hs.out (Sd (Sr)) (fun _ h=>h)⟩
            try simp only [Bp,Bq] at *
            exact ⟨congrArg (Value.int .i64) (by unfold checkF rightF;simp_all<;>omega),O,O⟩
         ·refine Jp (J9 (Jf (Jc (Ja (Lq (Jh (o':=5) Un40 O Yd O O) (Lq (Jj Un38 O O Jm O) (Lq (Jb O) (Jg O (Jo (VP A c o.rs total hl) (.n2 O O) (by decide) (Jl Mm1 Jx) fun _ _ _ q9=>?_)))))))))
          obtain ⟨rfl,rfl,rfl⟩:=q9
          refine Lq (Jd O) (Je (Jf (Jn ?_)))
          refine ⟨_,[],[],fun Z w hs=> .tmp O .nil,?_,fun Z w hs=>hs.out (Sd (Sr)) (fun _ h=>h)⟩
          try simp only [Bp,Bq] at *
          exact ⟨congrArg (Value.int .i64) (by unfold checkF rightF;simp_all<;>omega),O,O⟩
     ·refine Ln O O O g29 (Ln O O O g29 (Ln O O O g29 (Ln O O O g29 (Ln O O O g29 (Lq (JA O g29 O) (Lq (Jd O) (Je (Jf (JL [(23,_),(4,_),(2,_),(1,_)] (.m4 O O O O) (Jz O O (Jc (Ja ?_))))))))))))
      refine Lq (Jw (vs:= [_,_,_,_,_,_,_,_,_]) Un40 O JF O Jm O O) (Jg O (Jo (Hq o A c) (.n1 O) (by decide) Jx fun _ _ _ q9=>?_))
      obtain ⟨rfl,rfl,rfl⟩:=q9
      refine Lq (Jd O) (Je (Jf (Jy O (fun h36=> ?_) (fun h36=> ?_))))
      ·refine Jc (Ja (Lq (Jd O) (Je (Jf (Jn (JM (Jr ?_)))))))
       refine ⟨_,[],[],fun Z w hs=> .tmp O .nil,?_,fun Z w hs=>hs.out (Sd (Sr)) (fun _ h=>h)⟩
       try simp only [Bp,Bq] at *
       exact ⟨congrArg (Value.int .i64) (by unfold checkF rightF;simp_all<;>omega),O,O⟩
      ·refine Jp (J9 (Jf (Jc (Jc (Ja (Lq (Jh (o':=0) Un40 O KI O O) (Lq (Jh (o':=2) Un37 O Yu O O) (Lq (Jj Un35 O O Jm O) (Je (Jf (JO (Jc (Ja (Lq (Ka O O) (Lq (Jd O) (Je (Jf (Jy O (fun h42=> ?_) (fun h42=> ?_)))))))))))))))))))
       ·refine Jc (Ja (Lq (Jw (vs:= [_,_,_,_,_,_,_,_,_]) Un40 O JF O Jm O O) (Lq (Jb O) ?_)))
        try simp only [Bp,Bq] at *
        refine Jg O (Jo (Gi o A c total hs ⟨by omega,by omega⟩) (.n2 O O) (by decide) (Jl Mm0 Jx) fun _ _ _ q9=>?_)
        obtain ⟨rfl,rfl,rfl⟩:=q9
        refine Lq (Jd O) (Je (Jf (JL [(4,_),(2,_),(1,_)] (.m3 O O O) (Jn (JM (Jr ?_))))))
        refine ⟨_,[],[],fun Z w hs=> .tmp O .nil,?_,fun Z w hs=>hs.out (Sd (Sr)) (fun _ h=>h)⟩
        try simp only [Bp,Bq] at *
        exact ⟨congrArg (Value.int .i64) (by unfold checkF rightF;simp_all<;>omega),O,O⟩
       ·refine Jc (Ja (Lq (Ka O O) (Lq (Jd O) (Je (Jf (JL [(47,_),(4,_),(2,_),(1,_)] (.m4 O O O O) (Jy O (fun h47=> ?_) (fun h47=> ?_))))))))
        ·refine Jc (Jc (Ja (Lq (Jh (o':=6) Un40 O JY O O) (Lq (Jw (vs:= [_,_]) Un34 O JY O Jm O O) (Jg O (Jo (GZ o.tc o.tn) (.n1 O) (by decide) Jx fun _ _ _ q9=>?_))))))
         obtain ⟨rfl,rfl,rfl⟩:=q9
         refine Lq (KC O) (Lq (Jb O) (JU (t:=53) O (fun g53=> ?_) (fun g53=> ?_)))
         ·refine Ln O O O g53 (Ln O O O g53 (Ln O O O g53 (Ln O O O g53 (Ln O O O g53 (Ln O O O g53 (Lq (JH O g53 O) (Je (Jf (JL [(60,_),(4,_),(2,_),(1,_)] (.m4 O O O O) (JQ O O (Jc (Ja ?_))))))))))))
          refine Lq (Jd O) (Je (Jf (Jn (Jr (JM (Jr ?_))))))
          refine ⟨_,[],[],fun Z w hs=> .tmp O .nil,?_,fun Z w hs=>hs.out (Sd (Sr)) (fun _ h=>h)⟩
          try simp only [Bp,Bq] at *
          exact ⟨congrArg (Value.int .i64) (by unfold checkF rightF;simp_all<;>omega),O,O⟩
         ·refine Lg O O O g53 (Jh (o':=6) Un40 O JY O O) (Lg O O O g53 (Jw (vs:= [_,_]) Un34 O JY O Jm O O) (Lg O O O g53 (Jh (o':=0) Un40 O KI O O) (Lg O O O g53 (Jh (o':=0) Un37 O JY O O) (Lg O O O g53 (Jw (vs:= [_,_]) Un34 O JY O Jm O O) (Lg O O O g53 (Qd O O (eq34 _ _ _ _)) (Lq (JA O g53 O) (Je (Jf (JL [(60,_),(4,_),(2,_),(1,_)] (.m4 O O O O) (Jy O (fun h60=> ?_) (fun h60=> ?_)))))))))))
          ·refine Jc (Ja (Lq (Jd O) (Je (Jf (Jn (Jr (JM (Jr ?_))))))))
           refine ⟨_,[],[],fun Z w hs=> .tmp O .nil,?_,fun Z w hs=>hs.out (Sd (Sr)) (fun _ h=>h)⟩
           try simp only [Bp,Bq] at *
           exact ⟨congrArg (Value.int .i64) (by unfold checkF rightF;simp_all<;>omega),O,O⟩
          ·refine Jp (Jf (Jc (Ja (Lq (Jd O) (Je (Jf (Jn (JM (Jr ?_)))))))))
           refine ⟨_,[],[],fun Z w hs=> .tmp O .nil,?_,fun Z w hs=>hs.out (Sd (Sr)) (fun _ h=>h)⟩
           try simp only [Bp,Bq] at *
           exact ⟨congrArg (Value.int .i64) (by unfold checkF rightF;simp_all<;>omega),O,O⟩
        ·refine Jp (J9 (Jf (Jc (Ja (Lq (Jh (o':=5) Un40 O Yd O O) (Lq (Jj Un38 O O Jm O) (Lq (Jb O) (Jg O (Jo (VP A c o.rs total hl) (.n2 O O) (by decide) (Jl Mm1 Jx) fun _ _ _ q9=>?_)))))))))
         obtain ⟨rfl,rfl,rfl⟩:=q9
         refine Lq (Jd O) (Je (Jf (Jn ?_)))
         refine ⟨_,[],[],fun Z w hs=> .tmp O .nil,?_,fun Z w hs=>hs.out (Sd (Sr)) (fun _ h=>h)⟩
         try simp only [Bp,Bq] at *
         exact ⟨congrArg (Value.int .i64) (by unfold checkF rightF;simp_all<;>omega),O,O⟩
theorem Jao (o:GOp) (A:Option Addr) (c:Nat) (hf:Fit o):Sp Tryz.prog 103 [opV o A c] [] [barF,RdF rgD A c o.rs] (Is (.int .i64 (ownF o))):=by
 refine Sp.of (n:=23) ⟨_,Tryz.func103,O,O,O,O⟩ (Nat.le_of_ble_eq_true O) fun Ps As=>Jc (Ja (Jg O (J1 (cs:= [_,_,_,_,_,_,_,_,_]) O O (by decide) fun b1=>Lq (Jd O) (Je (Jf (Jc (Jc (Ja (Lq (Jh (o':=0) Un40 O KI O O) (Lq (Jh (o':=2) Un37 O Yu O O) (Lq (Jj Un35 O O Jm O) (Lq (Ka O O) (Lq (Jb O) ?_)))))))))))))
 refine JU (t:=7) O (fun g7=> ?_) (fun g7=> ?_)
 ·refine Lg O O O g7 (Jh (o':=3) Un40 O ti3 O O) (Lg O O O g7 (Jj Un3 O O Jm O) (Lg O O O g7 (Yl O O) (Lq (JH O g7 O) (Lq (Jb O) (JU (t:=12) O (fun g12=> ?_) (fun g12=> ?_))))))
  ·refine Lg O O O g12 (Jh (o':=3) Un40 O ti3 O O) (Lg O O O g12 (Jj Un3 O O Jm O) (Lg O O O g12 (YK O O) (Lq (JH O g12 O) (Je (Jf (JL [(16,_),(2,_),(1,_)] (.m3 O O O) (Jy O (fun h16=> ?_) (fun h16=> ?_))))))))
   ·refine Jc (Ja (Lq (Jw (vs:= [_,_,_,_,_,_,_,_,_]) Un40 O JF O Jm O O) (Lq (Jh (o':=3) Un40 O ti3 O O) (Lq (Jj Un3 O O Jm O) (Jg O (Jo (Y9 o A c o.at_ (by have:=hf.text;omega) hf.rs) (.n2 O O) (by decide) (Jl Mm0 (Jl Mm1 Jx)) fun _ _ _ q9=>?_))))))
    obtain ⟨rfl,rfl,rfl⟩:=q9
    refine Lq (Jd O) (Je (Jf (Jn (Jr ?_))))
    refine ⟨_,[],[],fun Z w hs=> .tmp O .nil,?_,fun Z w hs=>hs.out (Sd (Sr)) (fun _ h=>h)⟩
    try simp only [Bp,Bq] at *
    exact ⟨congrArg (Value.int .i64) (by unfold ownF;first | (simp_all;done) | (simp_all;intros;omega) | (simp_all;repeat' split;all_goals omega) | (repeat' split;all_goals first | rfl | omega)),rfl,rfl⟩
   ·refine Jp (Jf (Jc (Ja (Lq (Jw (vs:= [_,_,_,_,_,_,_,_,_]) Un40 O JF O Jm O O) (Jg O (Jo (Y9 o A c 1048576 (by have:=hf.text;omega) hf.rs) (.n2 O O) (by decide) (Jl Mm0 (Jl Mm1 Jx)) fun _ _ _ q9=>?_))))))
    obtain ⟨rfl,rfl,rfl⟩:=q9
    refine Lq (Jd O) (Je (Jf (Jn ?_)))
    refine ⟨_,[],[],fun Z w hs=> .tmp O .nil,?_,fun Z w hs=>hs.out (Sd (Sr)) (fun _ h=>h)⟩
    try simp only [Bp,Bq] at *
    exact ⟨congrArg (Value.int .i64) (by unfold ownF;first | (simp_all;done) | (simp_all;intros;omega) | (simp_all;repeat' split;all_goals omega) | (repeat' split;all_goals first | rfl | omega)),rfl,rfl⟩
  ·refine Ln O O O g12 (Ln O O O g12 (Ln O O O g12 (Lq (JA O g12 O) (Je (Jf (JL [(16,_),(2,_),(1,_)] (.m3 O O O) (Jz O O (Jp (Jf (Jc (Ja (Lq (Jw (vs:= [_,_,_,_,_,_,_,_,_]) Un40 O JF O Jm O O) (Jg O (Jo (Y9 o A c 1048576 (by have:=hf.text;omega) hf.rs) (.n2 O O) (by decide) (Jl Mm0 (Jl Mm1 Jx)) fun _ _ _ q9=>?_))))))))))))))
   obtain ⟨rfl,rfl,rfl⟩:=q9
   refine Lq (Jd O) (Je (Jf (Jn ?_)))
   refine ⟨_,[],[],fun Z w hs=> .tmp O .nil,?_,fun Z w hs=>hs.out (Sd (Sr)) (fun _ h=>h)⟩
   try simp only [Bp,Bq] at *
   exact ⟨congrArg (Value.int .i64) (by unfold ownF;first | (simp_all;done) | (simp_all;intros;omega) | (simp_all;repeat' split;all_goals omega) | (repeat' split;all_goals first | rfl | omega)),rfl,rfl⟩
 ·refine Ln O O O g7 (Ln O O O g7 (Ln O O O g7 (Lq (JA O g7 O) (Lq (Jb O) (Ln O O O O (Ln O O O O (Ln O O O O (Lq (JA O O O) (Je (Jf ?_))))))))))
  refine JL [(16,_),(2,_),(1,_)] (.m3 O O O) (Jz O O (Jp (Jf (Jc (Ja (Lq (Jw (vs:= [_,_,_,_,_,_,_,_,_]) Un40 O JF O Jm O O) (Jg O (Jo (Y9 o A c 1048576 (by have:=hf.text;omega) hf.rs) (.n2 O O) (by decide) (Jl Mm0 (Jl Mm1 Jx)) fun _ _ _ q9=>?_))))))))
  obtain ⟨rfl,rfl,rfl⟩:=q9
  refine Lq (Jd O) (Je (Jf (Jn ?_)))
  refine ⟨_,[],[],fun Z w hs=> .tmp O .nil,?_,fun Z w hs=>hs.out (Sd (Sr)) (fun _ h=>h)⟩
  try simp only [Bp,Bq] at *
  exact ⟨congrArg (Value.int .i64) (by unfold ownF;first | (simp_all;done) | (simp_all;intros;omega) | (simp_all;repeat' split;all_goals omega) | (repeat' split;all_goals first | rfl | omega)),rfl,rfl⟩
structure OwI (xs:List GOp) (k:Nat):Prop where
 le:k≤xs.length
 eq:ownsF xs=ownsF (xs.drop k)
theorem OwI.next {xs:List GOp} {k:Nat} (h:OwI xs k) (hk:k<xs.length) (h0:ownF xs[k] =0):OwI xs (k+1):=by
 refine ⟨hk,?_⟩
 rw [h.eq,List.drop_eq_getElem_cons hk,ownsF,if_neg (by simpa using h0)]
theorem OwI.bad {xs:List GOp} {k:Nat} (h:OwI xs k) (hk:k<xs.length) (h0:ownF xs[k] ≠0):ownsF xs=ownF xs[k] :=by
 rw [h.eq,List.drop_eq_getElem_cons hk,ownsF,if_pos h0]
theorem OwI.done {xs:List GOp} {k:Nat} (h:OwI xs k) (hk: ¬k<xs.length):ownsF xs=0:=by
 rw [h.eq,List.drop_eq_nil_of_le (by omega)];rfl
theorem Zo (A:Option Addr) (c:Nat) (xs:List GOp) (hf: ∀o∈xs,Fit o) (hl:xs.length≤8796093022208):Sp Tryz.prog 130 [.slice A xs.length c] [] [barF,RdF opD A c xs] (Is (.int .i64 (ownsF xs))):=by
 refine Sp.of (n:=18) ⟨_,Tryz.func130,O,O,O,O⟩ (Nat.le_of_ble_eq_true O) fun Ps As=>Jc (Ja (Lq (Jd O) (Je (Jf (Jc (Jc (Ja (Lq (Jb O) (Lq (J7 Un44 O) (Lq (Jb O) (Je (Jf (JO ?_)))))))))))))
 refine Ki (α:=Nat) (fun k=>xs.length-k)
  (fun k=> [(6, .slice A xs.length c),(7, .int .i64 xs.length),(8, .int .i64 k)])
  (fun k=>Ps)
  (fun k=>(barF::RdF opD A c xs::As))
  (fun k=>OwI xs k)
  0 ?_ (.m3 rfl rfl rfl) (Sr) (fun _ h=>h) ?_
 ·exact ⟨Nat.zero_le _,O⟩
 ·rintro k hI
  refine Jc (Ja (Lq (Ku O O) (Je (Jf (Jc (Jy O (fun h9=> ?_) (fun h9=> ?_)))))))
  ·refine Jp (Jf (Jc (JO (Jc ?_))))
   have hk:k<xs.length:=by simpa using h9
   refine Kh (k:=k) Mm1 (List.getElem?_eq_getElem hk) (op_open _) fun b3 q3 y3 e3=> ?_
   cases e3
   refine Ja (Lq (Kc Un44 JF O O (by omega) (by omega)) (Lq (Kq (k:=0) (vs:= [_,_,_,_,_,_,_,_,_]) Un40 O JF O Mm0 O O O) (Jg O (Jv (cs:= [_,_,_,_,_,_,_,_,_]) JF O (by decide) fun b4=>Jg O (Jq (cs':= [_,_,_,_,_,_,_,_,_]) (vs:= [_,_,_,_,_,_,_,_,_]) JF O O O O O (Nat.le_of_ble_eq_true O) .z (Je (Jf (Jc (Ja (Lq (Jw (vs:= [_,_,_,_,_,_,_,_,_]) Un40 O JF O Jm O O) (Jg O (Jo (Jao xs[k] y3.1 y3.2 (hf _ (List.getElem_mem hk))) (.n1 O) (by decide) (Jl Mm2 (Jl Mm1 Jx)) fun _ _ _ q9=>?_))))))))))))
   obtain ⟨rfl,rfl,rfl⟩:=q9
   refine Lq (Jd O) (Je (Jf (Jc (Ja (Lq (Jb O) (Lq (Kp O O) (Je (Jf (Jy O (fun h15=> ?_) (fun h15=> ?_))))))))))
   ·refine Jc (Ja (Lq (Jb O) (Lq (Jd O) (Je (Jf (Jn (JM (Jr (Jr (JM (Jr ?_)))))))))))
    refine ⟨_,[],[],fun Z w hs=> .tmp O .nil,?_,fun Z w hs=>hs.out (Sd (Sr)) Tt2⟩
    try simp only [Bp,Bq] at *
    first
     | exact ⟨by rw [hI.done (by omega)];rfl,rfl,rfl⟩
     | exact ⟨by rw [hI.bad hk (by omega)];rfl,rfl,rfl⟩
   ·refine Jp (J9 (Jf (Ja (Lq (JZ O O (wr64 (by omega))) (Lq (Jb O) (Je (Ko ?_)))))))
    refine ⟨k+1,?_,(.m3 O O O),(Sd (Sr)),Tt2⟩
    try simp only [Bp,Bq] at *
    exact ⟨by omega,hI.next hk (by omega)⟩
  ·refine Kr (JR (JR (Kg (Jf (Jc (Ja (Lq (Jd O) (Je (Jf (Jn ?_))))))))))
   refine ⟨_,[],[],fun Z w hs=> .tmp O .nil,?_,fun Z w hs=>hs.out (Sr) (fun _ h=>h)⟩
   try simp only [Bp,Bq] at *
   first
    | exact ⟨by rw [hI.done (by omega)];rfl,rfl,rfl⟩
    | exact ⟨by rw [hI.bad hk (by omega)];rfl,rfl,rfl⟩
theorem bd31Xw9 (w:World):(Instr.build 40 #[]).run Tryz.prog w= .ok (.agg #[.int .i64 0, .int .i64 0, .int .i64 0, .int .i64 0, .string ⟨#[]⟩, .slice none 0 0, .int .i64 0, .int .i64 0, .bool false]) w:=by kernel_rfl
theorem Ho (a:GOp) (A:Option Addr) (c:Nat) (at_:Int) (hs:a.text.size≤2305843009213693952) (ha: -4611686018427387904≤at_∧at_≤4611686018427387904):Sp Tryz.prog 146 [opV a A c, .int .i64 at_] [] [barF] (OpP (movedF a at_)):=by
 refine Sp.of (n:=16) ⟨_,Tryz.func146,O,O,O,O⟩ (Nat.le_of_ble_eq_true O) fun Ps As=>Jc (Ja (Jg O (J1 (cs:= [_,_,_,_,_,_,_,_,_]) O O (by decide) fun b2=>Jg O (Jv (cs:= [_,_,_,_,_,_,_,_,_]) JF O (by decide) fun b4=>Lq (Jd O) (Je (Jf (Jc (Jc (Kf (A:=RdF rgD none 0 []) (fun Z w hs=>RdS.nil _ _ _) ?_)))))))))
 have hw:=KF a
 refine Ja (Lq (Jb O) (Lq (Jw (vs:= [_,_,_,_,_,_,_,_,_]) Un40 O JF O (Ji (Jm)) O O) (Jg O (Jo (Yh a A c (by omega)) (.n1 O) (by decide) (Jl Mm1 Jx) fun _ _ _ q9=>?_))))
 obtain ⟨rfl,rfl,rfl⟩:=q9
 refine Lq (JZ O O (wr64 (by omega))) (Lq (Ke O O) (Je (Jf (Jy O (fun h10=> ?_) (fun h10=> ?_)))))
 ·refine Jc (Ja (Lq (JV .nil (bd31Xw9)) (Jg O (Jq (cs':= [_,_,_,_,_,_,_,_,_]) (vs:= [_,_,_,_,_,_,_,_,_]) JF O O O O O (Nat.le_of_ble_eq_true O) .z (Lq (Jd O) (Je (Jf (Jn (Jr ?_)))))))))
  refine ⟨_,[],[RdF rgD none 0 []],fun Z w hs=>JS hs Un40 O JF O Jm O (.tmp O .nil),?_,fun Z w hs=>hs.out (Sd2 (Sr)) (fun _ h=>h)⟩
  try simp only [Bp,Bq] at *
  exact ⟨none,0,by unfold movedF;first | (rw [if_pos (by omega)];rfl) | (rw [if_neg (by omega)];rfl),O,by unfold movedF;first | (rw [if_pos (by omega)];rfl) | (rw [if_neg (by omega)])⟩
 ·refine Jp (Jf (Jc (Ja (Lq (Jb O) (Lq (Jh (o':=3) Un40 O ti3 O O) (Jg O (JN ti3 O O O .z3 .z1 (Je (Jf (Jc (Ja (Lq (Jh (o':=5) Un40 O Yd O O) (Jg O (JN Yd O O O .z5 .z1 (Je (Jf (Jc (Ja (Lq (Jw (vs:= [_,_,_,_,_,_,_,_,_]) Un40 O JF O (Ji (Jm)) O O) (Jg O (Jq (cs':= [_,_,_,_,_,_,_,_,_]) (vs:= [_,_,_,_,_,_,_,_,_]) JF O O O O O (Nat.le_of_ble_eq_true O) .z ?_)))))))))))))))))))))
  refine Lq (Jd O) (Je (Jf (JL [(5,_),(4,_)] (.m2 O O) (Jn ?_))))
  refine ⟨_,[],[RdF rgD none 0 []],fun Z w hs=>JS hs Un40 O JF O Jm O (.tmp O .nil),?_,fun Z w hs=>hs.out (Sd2 (Sr)) (fun _ h=>h)⟩
  try simp only [Bp,Bq] at *
  exact ⟨none,0,by unfold movedF;first | (rw [if_pos (by omega)];rfl) | (rw [if_neg (by omega)];rfl),O,by unfold movedF;first | (rw [if_pos (by omega)];rfl) | (rw [if_neg (by omega)])⟩
theorem Eu (a:GOp) (A A2:Option Addr) (c c2:Nat) (l:List Rg) (e:Int):Sp Tryz.prog 147 [opV a A c, .slice A2 l.length c2, .int .i64 e] [] [RdF rgD A2 c2 l] (OpP (rangedF a l e)):=by
 refine Sp.of (n:=15) ⟨_,Tryz.func147,O,O,O,O⟩ (Nat.le_of_ble_eq_true O) fun Ps As=>Jc (Ja (Jg O (J1 (cs:= [_,_,_,_,_,_,_,_,_]) O O (by decide) fun b3=>Jg O (Jv (cs:= [_,_,_,_,_,_,_,_,_]) JF O (by decide) fun b6=>Lq (Jd O) (Je (Jf (Jc (Jc (Kf (A:=RdF rgD none 0 []) (fun Z w hs=>RdS.nil _ _ _) (Ja (Lq (Jb O) (Lq (Kp O O) ?_))))))))))))
 refine Je (Jf (Jy O (fun h9=> ?_) (fun h9=> ?_)))
 ·refine Jc (Ja (Lq (JV .nil (bd31Xw9)) (Lq (Jb O) (Jg O (Jq (cs':= [_,_,_,_,_,_,_,_,_]) (vs:= [_,_,_,_,_,_,_,_,_]) JF O O O O O (Nat.le_of_ble_eq_true O) .z (Lq (Jd O) (Je (Jf (Jn (Jr ?_))))))))))
  refine ⟨_,[],[RdF rgD none 0 []],fun Z w hs=>JS hs Un40 O JF O Jm O (.tmp O .nil),?_,fun Z w hs=>hs.out (Sd2 (Sr)) (fun _ h=>h)⟩
  try simp only [Bp,Bq] at *
  exact ⟨none,0,by unfold rangedF;rw [if_pos (by omega)];rfl,O,by unfold rangedF;rw [if_pos (by omega)];rfl⟩
 ·refine Jp (Jf (Jc (Ja (Lq (Jb O) (Lq (Jh (o':=5) Un40 O Yd O O) (Jg O (JN Yd O O O .z5 .z1 (Je (Jf (Jc (Ja (Lq (Jw (vs:= [_,_,_,_,_,_,_,_,_]) Un40 O JF O (Ji (Jm)) O O) (Jg O (Jq (cs':= [_,_,_,_,_,_,_,_,_]) (vs:= [_,_,_,_,_,_,_,_,_]) JF O O O O O (Nat.le_of_ble_eq_true O) .z (Lq (Jd O) (Je (Jf (Jn ?_))))))))))))))))))
  refine ⟨_,[],[RdF rgD A2 c2 l],fun Z w hs=>JS hs Un40 O JF O Jm O (.tmp O .nil),?_,fun Z w hs=>hs.out (Sd2 (Sr)) (Jl Mm1 Tt1)⟩
  try simp only [Bp,Bq] at *
  exact ⟨A2,c2,by unfold rangedF;rw [if_neg (by omega)];rfl,O,by unfold rangedF;rw [if_neg (by omega)]⟩
theorem GG (a b:GOp) (Aa Ab:Option Addr) (ca cb:Nat) (earlier:Bool) (ha:Fit a) (hb:Fit b):Sp Tryz.prog 132 [opV a Aa ca,opV b Ab cb, .bool earlier] [] [barF,RdF rgD Aa ca a.rs] (OpP (JT a b earlier)):=by
 refine Sp.of (n:=71) ⟨_,Tryz.func132,O,O,O,O⟩ (Nat.le_of_ble_eq_true O) fun Ps As=>Jc (Ja (Jg O (J1 (cs:= [_,_,_,_,_,_,_,_,_]) O O (by decide) fun b3=>Jg O (J1 (cs:= [_,_,_,_,_,_,_,_,_]) O O (by decide) fun b4=>Jg O (Jv (cs:= [_,_,_,_,_,_,_,_,_]) JF O (by decide) fun b6=>Lq (Jd O) (Je (Jf (Jc (Jc (Kf (A:=RdF rgD none 0 []) (fun Z w hs=>RdS.nil _ _ _) (Ja (Lq (Jw (vs:= [_,_,_,_,_,_,_,_,_]) Un40 O JF O (Ji (Ji (Jm))) O O) ?_))))))))))))
 refine Lq (Jw (vs:= [_,_,_,_,_,_,_,_,_]) Un40 O JF O (Ji (Jm)) O O) (Jg O (Jo (Z9 a b Aa Ab ca cb) (.n2 O O) (by decide) Jx fun _ _ _ q9=>?_))
 obtain ⟨rfl,rfl,rfl⟩:=q9
 refine Je (Jf (Jy O (fun h13=> ?_) (fun h13=> ?_)))
 ·refine Jc (Ja (Lq (JV .nil (bd31Xw9)) (Jg O (Jq (cs':= [_,_,_,_,_,_,_,_,_]) (vs:= [_,_,_,_,_,_,_,_,_]) JF O O O O O (Nat.le_of_ble_eq_true O) .z (Lq (Jd O) (Je (Jf (Jn (Jr ?_)))))))))
  refine ⟨_,[],[RdF rgD none 0 []],fun Z w hs=>JS hs Un40 O JF O Jm O (.tmp O .nil),?_,fun Z w hs=>hs.out (Sd3 (Sr)) (fun _ h=>h)⟩
  try simp only [Bp,Bq] at *
  have hF:JT a b earlier=(zeroOp,50):=by
   unfold JT clashF
   first | exact if_pos ‹_› | (simp_all;done) | (simp_all;omega) | (repeat' split;all_goals first | rfl | omega | (simp_all;done) | (simp_all;omega))
  exact ⟨none,0,by rw [hF];rfl,O,by first | (rw [hF];done) | (rw [hF];rfl)⟩
 ·refine Jp (Jf (Jc (Jc (Ja (Lq (Jh (o':=0) Un40 O KI O O) (Lq (Jh (o':=2) Un37 O Yu O O) (Lq (Jj Un35 O O (Ji (Jm)) O) (Lq (Kp O O) (Je (Jf (JL [(18,_),(7,_),(6,_),(4,_),(3,_),(2,_)] (.m6 O O O O O O) (Jy O (fun h18=> ?_) (fun h18=> ?_)))))))))))))
  ·refine Jc (Ja (Lq (Jw (vs:= [_,_,_,_,_,_,_,_,_]) Un40 O JF O (Ji (Ji (Jm))) O O) (Jg O (Jo (Y1 a Aa ca ha.rs) (.n1 O) (by decide) (Jl Mm2 Jx) fun _ _ _ q9=>?_))))
   obtain ⟨A1,c1,rfl,rfl,rfl⟩:=q9
   refine Jg O (Jq (cs':= [_,_,_,_,_,_,_,_,_]) (vs:= [_,_,_,_,_,_,_,_,_]) JF O O O O O (Nat.le_of_ble_eq_true O) .z (Lq (Jd O) (Je (Jf (Jn (Jr ?_))))))
   refine ⟨_,[],[RdF rgD A1 c1 a.rs],fun Z w hs=>JS hs Un40 O JF O Jm O (.tmp O .nil),?_,fun Z w hs=>hs.out (Sd3 (Sr)) (Jl Mm0 Tt2)⟩
   try simp only [Bp,Bq] at *
   have hF:JT a b earlier=(a,0):=by
    unfold JT clashF
    first | exact if_pos ‹_› | (simp_all;done) | (simp_all;omega) | (repeat' split;all_goals first | rfl | omega | (simp_all;done) | (simp_all;omega))
   exact ⟨A1,c1,by rw [hF];rfl,O,by first | (rw [hF];done) | (rw [hF];rfl)⟩
  ·refine Jp (Jf (Jc (Ja (Lq (Jw (vs:= [_,_,_,_,_,_,_,_,_]) Un40 O JF O (Ji (Jm)) O O) (Jg O (Jo (Yh b Ab cb (by have:=hb.text;omega)) (.n1 O) (by decide) (Jl Mm1 Jx) fun _ _ _ q9=>?_))))))
   obtain ⟨rfl,rfl,rfl⟩:=q9
   refine Lq (Jd O) (Je (Jf (Jc (Jc (Ja (Lq (Jh (o':=0) Un40 O KI O O) (Lq (Jh (o':=2) Un37 O Yu O O) (Lq (Jj Un35 O O (Ji (Ji (Jm))) O) (Je (Jf (JO (Jc (Ja (Lq (Ka O O) (Lq (Jd O) (Je (Jf (JL [(26,_),(25,_),(8,_),(7,_),(6,_),(4,_),(3,_),(2,_)] (.m8 O O O O O O O O) ?_))))))))))))))))))
   refine Jy O (fun h26=> ?_) (fun h26=> ?_)
   ·refine Jc (Ja (Lq (Jh (o':=3) Un40 O ti3 O O) (Lq (Jj Un3 O O (Ji (Jm)) O) (Lq (Jh (o':=3) Un40 O ti3 O O) (Lq (Jj Un3 O O (Ji (Ji (Jm))) O) (Lq (Ku O O) (Lq (Jb O) (JU (t:=33) O (fun g33=> ?_) (fun g33=> ?_)))))))))
    ·refine Ln O O O g33 (Ln O O O g33 (Ln O O O g33 (Ln O O O g33 (Ln O O O g33 (Ln O O O g33 (Ys O O O (by decide) (Ln O O O g33 (Lq (JH O g33 O) (Je (Jf ?_))))))))))
     refine JL [(42,_),(8,_),(7,_),(6,_),(3,_)] (.m5 O O O O O) (JQ O O (Jc (Ja (Lq (Jw (vs:= [_,_,_,_,_,_,_,_,_]) Un40 O JF O (Ji (Ji (Jm))) O O) (Lq (Jh (o':=3) Un40 O ti3 O O) (Lq (Jj Un3 O O (Ji (Ji (Jm))) O) (Lq (Jb O) (Lq (JZ O O (wr64 (by have:=ha.lo;have:=ha.hi;have:=hb.text;have:=KF b;omega))) (Jg O (Jo (Ho a Aa ca (a.at_+JC b) ha.text (by have:=ha.lo;have:=ha.hi;have:=hb.text;have:=KF b;omega)) (.n2 O O) (by decide) (Jl Mm1 Jx) fun _ _ _ q9=>?_))))))))))
     obtain ⟨A2,c2,rfl,rfl,rfl⟩:=q9
     refine Lq (Jk (vs:= [_,_]) O O) (Lq (Jk (vs:= [_,_]) O O) (Jg O (Jq (cs':= [_,_,_,_,_,_,_,_,_]) (vs:= [_,_,_,_,_,_,_,_,_]) JF O O O O O (Nat.le_of_ble_eq_true O) .z (Lq (Jd O) (Je (Jf (Jn (JM (Jr ?_)))))))))
     refine ⟨_,[],[RdF rgD A2 c2 (movedF a (a.at_+JC b)).1.rs],fun Z w hs=>JS hs Un40 O JF O Jm O (.tmp O .nil),?_,fun Z w hs=>hs.out (Sd3 (Sr)) (Jl Mm0 Tt2)⟩
     try simp only [Bp,Bq] at *
     have hF:JT a b earlier=movedF a (a.at_+JC b):=by
      unfold JT clashF
      first | exact if_pos ‹_› | (simp_all;done) | (simp_all;omega) | (repeat' split;all_goals first | rfl | omega | (simp_all;done) | (simp_all;omega))
     exact ⟨A2,c2,by rw [hF];rfl,O,by first | (rw [hF];done) | (rw [hF];rfl)⟩
    ·refine Lg O O O g33 (Jh (o':=3) Un40 O ti3 O O) (Lg O O O g33 (Jj Un3 O O (Ji (Jm)) O) (Lg O O O g33 (Jh (o':=3) Un40 O ti3 O O) (Lg O O O g33 (Jj Un3 O O (Ji (Ji (Jm))) O) (Lg O O O g33 (Ka O O) (Lg O O O g33 (Jb O) (JU (t:=39) O (fun g39=> ?_) (fun g39=> ?_)))))))
     ·refine Lg O O O g39 (Jb O) (Lg O O O g33 (JH O g39 O) (Lq (JA O g33 O) (Je (Jf (JL [(42,_),(8,_),(7,_),(6,_),(3,_)] (.m5 O O O O O) (Jy O (fun h42=> ?_) (fun h42=> ?_)))))))
      ·refine Jc (Ja (Lq (Jw (vs:= [_,_,_,_,_,_,_,_,_]) Un40 O JF O (Ji (Ji (Jm))) O O) (Lq (Jh (o':=3) Un40 O ti3 O O) (Lq (Jj Un3 O O (Ji (Ji (Jm))) O) (Lq (Jb O) (Lq (JZ O O (wr64 (by have:=ha.lo;have:=ha.hi;have:=hb.text;have:=KF b;omega))) (Jg O (Jo (Ho a Aa ca (a.at_+JC b) ha.text (by have:=ha.lo;have:=ha.hi;have:=hb.text;have:=KF b;omega)) (.n2 O O) (by decide) (Jl Mm1 Jx) fun _ _ _ q9=>?_))))))))
       obtain ⟨A2,c2,rfl,rfl,rfl⟩:=q9
       refine Lq (Jk (vs:= [_,_]) O O) (Lq (Jk (vs:= [_,_]) O O) (Jg O (Jq (cs':= [_,_,_,_,_,_,_,_,_]) (vs:= [_,_,_,_,_,_,_,_,_]) JF O O O O O (Nat.le_of_ble_eq_true O) .z (Lq (Jd O) (Je (Jf (Jn (JM (Jr ?_)))))))))
       refine ⟨_,[],[RdF rgD A2 c2 (movedF a (a.at_+JC b)).1.rs],fun Z w hs=>JS hs Un40 O JF O Jm O (.tmp O .nil),?_,fun Z w hs=>hs.out (Sd3 (Sr)) (Jl Mm0 Tt2)⟩
       try simp only [Bp,Bq] at *
       have hF:JT a b earlier=movedF a (a.at_+JC b):=by
        unfold JT clashF
        first | exact if_pos ‹_› | (simp_all;done) | (simp_all;omega) | (repeat' split;all_goals first | rfl | omega | (simp_all;done) | (simp_all;omega))
       exact ⟨A2,c2,by rw [hF];rfl,O,by first | (rw [hF];done) | (rw [hF];rfl)⟩
      ·refine Jp (J9 (Jf (Jc (Ja (Lq (Jw (vs:= [_,_,_,_,_,_,_,_,_]) Un40 O JF O (Ji (Ji (Jm))) O O) (Jg O (Jo (Y1 a Aa ca ha.rs) (.n1 O) (by decide) (Jl Mm2 Jx) fun _ _ _ q9=>?_)))))))
       obtain ⟨A1,c1,rfl,rfl,rfl⟩:=q9
       refine Jg O (Jq (cs':= [_,_,_,_,_,_,_,_,_]) (vs:= [_,_,_,_,_,_,_,_,_]) JF O O O O O (Nat.le_of_ble_eq_true O) .z (Lq (Jd O) (Je (Jf (Jn ?_)))))
       refine ⟨_,[],[RdF rgD A1 c1 a.rs],fun Z w hs=>JS hs Un40 O JF O Jm O (.tmp O .nil),?_,fun Z w hs=>hs.out (Sd3 (Sr)) (Jl Mm0 Tt2)⟩
       try simp only [Bp,Bq] at *
       have hF:JT a b earlier=(a,0):=by
        unfold JT clashF
        first | exact if_pos ‹_› | (simp_all;done) | (simp_all;omega) | (repeat' split;all_goals first | rfl | omega | (simp_all;done) | (simp_all;omega))
       exact ⟨A1,c1,by rw [hF];rfl,O,by first | (rw [hF];done) | (rw [hF];rfl)⟩
     ·refine Ln O O O g39 (Lg O O O g33 (JA O g39 O) (Lq (JA O g33 O) (Je (Jf (JL [(42,_),(8,_),(7,_),(6,_),(3,_)] (.m5 O O O O O) (Jz O O (Jp (J9 (Jf (Jc (Ja (Lq (Jw (vs:= [_,_,_,_,_,_,_,_,_]) Un40 O JF O (Ji (Ji (Jm))) O O) (Jg O (Jo (Y1 a Aa ca ha.rs) (.n1 O) (by decide) (Jl Mm2 Jx) fun _ _ _ q9=>?_))))))))))))))
      obtain ⟨A1,c1,rfl,rfl,rfl⟩:=q9
      refine Jg O (Jq (cs':= [_,_,_,_,_,_,_,_,_]) (vs:= [_,_,_,_,_,_,_,_,_]) JF O O O O O (Nat.le_of_ble_eq_true O) .z (Lq (Jd O) (Je (Jf (Jn ?_)))))
      refine ⟨_,[],[RdF rgD A1 c1 a.rs],fun Z w hs=>JS hs Un40 O JF O Jm O (.tmp O .nil),?_,fun Z w hs=>hs.out (Sd3 (Sr)) (Jl Mm0 Tt2)⟩
      try simp only [Bp,Bq] at *
      have hF:JT a b earlier=(a,0):=by
       unfold JT clashF
       first | exact if_pos ‹_› | (simp_all;done) | (simp_all;omega) | (repeat' split;all_goals first | rfl | omega | (simp_all;done) | (simp_all;omega))
      exact ⟨A1,c1,by rw [hF];rfl,O,by first | (rw [hF];done) | (rw [hF];rfl)⟩
   ·refine Jc (Jc (Ja (Lq (Ka O O) (Lq (Jd O) (Je (Jf (Jy O (fun h51=> ?_) (fun h51=> ?_))))))))
    ·refine Jp (Jf (JQ O h51 (Jc (Ja (Lq (Jh (o':=5) Un40 O Yd O O) (Lq (Jj Un38 O O (Ji (Ji (Jm))) O) (Lq (Jh (o':=3) Un40 O ti3 O O) (Lq (Jj Un3 O O (Ji (Jm)) O) (Lq (Jb O) (Jg O (Jo (V8 Aa ca a.rs b.at_ (JC b) ha.rs) (.n3 O O O) (by decide) (Jl Mm2 Jx) fun _ _ _ q9=>?_)))))))))))
     obtain ⟨A3,c3,rfl,rfl,rfl⟩:=q9
     refine Lq (Jb O) (Lq (Jk (vs:= [_,_]) O O) (Lq (Jk (vs:= [_,_]) O O) (Lq (Jd O) (Lq (Jd O) (Je (Jf (JL [(10,_),(9,_),(7,_),(6,_),(3,_)] (.m5 O O O O O) (Jc (Ja (Lq (Jw (vs:= [_,_,_,_,_,_,_,_,_]) Un40 O JF O (Ji (Ji (Jm))) O O) (Lq (Jb O) ?_)))))))))))
     refine Lq (Jb O) (Jg O (Jo (Eu a Aa A3 ca c3 (thrF a.rs b.at_ (JC b)).1 (thrF a.rs b.at_ (JC b)).2) (.n3 O O O) (by decide) (Jl Mm0 Jx) fun _ _ _ q9=>?_))
     obtain ⟨A4,c4,rfl,rfl,rfl⟩:=q9
     refine Lq (Jk (vs:= [_,_]) O O) (Lq (Jk (vs:= [_,_]) O O) (Jg O (Jq (cs':= [_,_,_,_,_,_,_,_,_]) (vs:= [_,_,_,_,_,_,_,_,_]) JF O O O O O (Nat.le_of_ble_eq_true O) .z (Lq (Jd O) (Je (Jf (Jn (JM (Jr ?_)))))))))
     refine ⟨_,[],[RdF rgD A4 c4 (rangedF a (thrF a.rs b.at_ (JC b)).1 (thrF a.rs b.at_ (JC b)).2).1.rs],fun Z w hs=>JS hs Un40 O JF O Jm O (.tmp O .nil),?_,fun Z w hs=>hs.out (Sd3 (Sr)) (Jl Mm0 Tt3)⟩
     try simp only [Bp,Bq] at *
     have hF:JT a b earlier=rangedF a (thrF a.rs b.at_ (JC b)).1 (thrF a.rs b.at_ (JC b)).2:=by
      unfold JT clashF
      first | exact if_pos ‹_› | (simp_all;done) | (simp_all;omega) | (repeat' split;all_goals first | rfl | omega | (simp_all;done) | (simp_all;omega))
     exact ⟨A4,c4,by rw [hF];rfl,O,by first | (rw [hF];done) | (rw [hF];rfl)⟩
    ·refine Ja (Lq (Ka O O) (Lq (Jd O) (Je (Jf (Jy O (fun h51=> ?_) (fun h51=> ?_))))))
     ·refine Jc (Ja (Lq (Jh (o':=5) Un40 O Yd O O) (Lq (Jj Un38 O O (Ji (Ji (Jm))) O) (Lq (Jh (o':=3) Un40 O ti3 O O) (Lq (Jj Un3 O O (Ji (Jm)) O) (Lq (Jb O) (Jg O (Jo (V8 Aa ca a.rs b.at_ (JC b) ha.rs) (.n3 O O O) (by decide) (Jl Mm2 Jx) fun _ _ _ q9=>?_))))))))
      obtain ⟨A3,c3,rfl,rfl,rfl⟩:=q9
      refine Lq (Jb O) (Lq (Jk (vs:= [_,_]) O O) (Lq (Jk (vs:= [_,_]) O O) (Lq (Jd O) (Lq (Jd O) (Je (Jf (JL [(10,_),(9,_),(7,_),(6,_),(3,_)] (.m5 O O O O O) (Jc (Ja (Lq (Jw (vs:= [_,_,_,_,_,_,_,_,_]) Un40 O JF O (Ji (Ji (Jm))) O O) (Lq (Jb O) ?_)))))))))))
      refine Lq (Jb O) (Jg O (Jo (Eu a Aa A3 ca c3 (thrF a.rs b.at_ (JC b)).1 (thrF a.rs b.at_ (JC b)).2) (.n3 O O O) (by decide) (Jl Mm0 Jx) fun _ _ _ q9=>?_))
      obtain ⟨A4,c4,rfl,rfl,rfl⟩:=q9
      refine Lq (Jk (vs:= [_,_]) O O) (Lq (Jk (vs:= [_,_]) O O) (Jg O (Jq (cs':= [_,_,_,_,_,_,_,_,_]) (vs:= [_,_,_,_,_,_,_,_,_]) JF O O O O O (Nat.le_of_ble_eq_true O) .z (Lq (Jd O) (Je (Jf (Jn (JM (Jr ?_)))))))))
      refine ⟨_,[],[RdF rgD A4 c4 (rangedF a (thrF a.rs b.at_ (JC b)).1 (thrF a.rs b.at_ (JC b)).2).1.rs],fun Z w hs=>JS hs Un40 O JF O Jm O (.tmp O .nil),?_,fun Z w hs=>hs.out (Sd3 (Sr)) (Jl Mm0 Tt3)⟩
      try simp only [Bp,Bq] at *
      have hF:JT a b earlier=rangedF a (thrF a.rs b.at_ (JC b)).1 (thrF a.rs b.at_ (JC b)).2:=by
       unfold JT clashF
       first | exact if_pos ‹_› | (simp_all;done) | (simp_all;omega) | (repeat' split;all_goals first | rfl | omega | (simp_all;done) | (simp_all;omega))
      exact ⟨A4,c4,by rw [hF];rfl,O,by first | (rw [hF];done) | (rw [hF];rfl)⟩
     ·refine Jp (J9 (Jf (Jc (Ja (Lq (Jw (vs:= [_,_,_,_,_,_,_,_,_]) Un40 O JF O (Ji (Ji (Jm))) O O) (Jg O (Jo (Y1 a Aa ca ha.rs) (.n1 O) (by decide) (Jl Mm2 Jx) fun _ _ _ q9=>?_)))))))
      obtain ⟨A1,c1,rfl,rfl,rfl⟩:=q9
      refine Jg O (Jq (cs':= [_,_,_,_,_,_,_,_,_]) (vs:= [_,_,_,_,_,_,_,_,_]) JF O O O O O (Nat.le_of_ble_eq_true O) .z (Lq (Jd O) (Je (Jf (Jn ?_)))))
      refine ⟨_,[],[RdF rgD A1 c1 a.rs],fun Z w hs=>JS hs Un40 O JF O Jm O (.tmp O .nil),?_,fun Z w hs=>hs.out (Sd3 (Sr)) (Jl Mm0 Tt2)⟩
      try simp only [Bp,Bq] at *
      have hF:JT a b earlier=(a,0):=by
       unfold JT clashF
       first | exact if_pos ‹_› | (simp_all;done) | (simp_all;omega) | (repeat' split;all_goals first | rfl | omega | (simp_all;done) | (simp_all;omega))
      exact ⟨A1,c1,by rw [hF];rfl,O,by first | (rw [hF];done) | (rw [hF];rfl)⟩
theorem EE (A:Option Addr) (c:Nat) (xs:List GOp) (hf: ∀o∈xs,Fit o) (hl:xs.length≤1000000000):Sp Tryz.prog 131 [.slice A xs.length c] [] [RdF opD A c xs] (fun v Lo fs=> ∃p css,RowS 40 9 v xs.length css.flatten p∧Lo= [p] ∧fs= [RepsF opD xs css]):=by
 refine Sp.of (n:=22) ⟨_,Tryz.func131,O,O,O,O⟩ (Nat.le_of_ble_eq_true O) fun Ps As=>Jc (Ja (Lq (Jd O) (Je (Jf (Jc (Ja (Lq (Jb O) (Lq (J7 Un44 O) (Jg O (ZL Un44 JF O O (by omega) (by unfold maxLen;omega) (by decide) fun v0 p0 hr0=>Lq (Jd O) (Je (Jf (Jc (Jc (Ja (Lq (Jb O) ?_))))))))))))))))
 refine Lq (J7 Un44 O) (Lq (Jb O) (Je (Jf (JO (Kf (A:=RepsF opD (xs.take 0) []) (fun Z w hs=>Reps.nil) ?_)))))
 refine Ki (α:=Nat×Value×Part×List (List Value)) (fun (k,v,p,css)=>xs.length-k)
  (fun (k,v,p,css)=> [(9, .slice A xs.length c),(10, .int .i64 xs.length),(11, .int .i64 k),(3,v)])
  (fun (k,v,p,css)=>(p::Ps))
  (fun (k,v,p,css)=>(RepsF opD (xs.take k) css::RdF opD A c xs::As))
  (fun (k,v,p,css)=>k≤xs.length∧RowS 40 9 v k css.flatten p)
  (0,v0,p0,[]) ?_ (.m4 rfl rfl rfl rfl) (Sr) (fun _ h=>h) ?_
 ·exact ⟨Nat.zero_le _,hr0⟩
 ·rintro ⟨k,v,p,css⟩ hI
  have hle:k≤xs.length:=hI.1
  refine Jc (Ja (Lq (Ku O O) (Je (Jf (Jc (Jy O (fun h12=> ?_) (fun h12=> ?_)))))))
  ·refine Jp (Jf (Jc (JO (Jc ?_))))
   have hk:k<xs.length:=by simpa using h12
   refine Kh (k:=k) Mm1 (List.getElem?_eq_getElem hk) (op_open _) fun b4 q4 y4 e4=> ?_
   cases e4
   refine Ja (Lq (Kc Un44 JF O O (by omega) (by omega)) (Lq (Kq (k:=0) (vs:= [_,_,_,_,_,_,_,_,_]) Un40 O JF O Mm0 O O O) (Jg O (Jv (cs:= [_,_,_,_,_,_,_,_,_]) JF O (by decide) fun b5=>Jg O (Jq (cs':= [_,_,_,_,_,_,_,_,_]) (vs:= [_,_,_,_,_,_,_,_,_]) JF O O O O O (Nat.le_of_ble_eq_true O) .z (Je (Jf (Ja (Lq (Jb O) (Lq (Jw (vs:= [_,_,_,_,_,_,_,_,_]) Un40 O JF O Jm O O) (Jg O (Jo (Y1 xs[k] y4.1 y4.2 (hf _ (List.getElem_mem hk)).rs) (.n1 O) (by decide) (Jl Mm1 Jx) fun _ _ _ q9=>?_))))))))))))
   obtain ⟨A1,c1,rfl,rfl,rfl⟩:=q9
   refine Jg O (KP (cs:= [_,_,_,_,_,_,_,_,_]) Un44 JF (by decide) (by decide) O O O O (by decide) fun b18=>Jg O (KV (news:= [_,_,_,_,_,_,_,_,_]) Un44 JF O (by decide) O O hI.2.row Jm O O (by omega) (by unfold maxLen;omega) (by decide) (DelAt.perm .z2) fun v19 p19 hr19=>Lq (Jd O) (Je (J9 (Jf (Vh (u:=xs[k]) (cs:=opC xs[k] A1 c1) Mm3 (fun Z w hs=>⟨A1,c1,O,hs.facts _ Mm0⟩) (List.take_succ_eq_append_getElem hk) (Ja (Lq (JZ O O (wr64 (by omega))) (Lq (Jb O) (Je (Ko ?_)))))))))))
   refine ⟨(k+1,v19,p19,css++ [opC xs[k] A1 c1]),?_,(.m4 O O O O),(Sk (Sd2 (Sr))),(Jl Mm0 Tt5)⟩
   refine ⟨by show xs.length-(k+1)<xs.length-k;omega,by show k+1≤xs.length;omega,?_⟩
   have:=hr19.toS (by omega)
   rw [List.flatten_append,show [opC xs[k] A1 c1].flatten=opC xs[k] A1 c1 from by simp]
   exact this
  ·refine Kr (JR (JR (Kg (Jf (Jc (Ja (Lq (Jb O) (Lq (Jd O) (Je (Jf (Jn ?_)))))))))))
   refine ⟨_,[p],[RepsF opD (xs.take k) css],fun Z w hs=> .tmp O .nil,?_,fun Z w hs=>hs.out (Sk (Sr)) (fun _ h=>h)⟩
   try simp only [Bp,Bq] at *
   obtain rfl:k=xs.length:=by omega
   exact ⟨p,css,hI.2,O,by rw [List.take_length]⟩
theorem Z8 (A B:Option Addr) (c d:Nat) (xs ys:List GOp) (hx: ∀o∈xs,Fit o) (hy: ∀o∈ys,Fit o) (hlx:xs.length≤1000000000) (hly:ys.length≤1000000000):Sp Tryz.prog 116 [.slice A xs.length c, .slice B ys.length d] [] [barF,RdF opD A c xs,RdF opD B d ys] (CrP (crossF xs ys)):=by
 refine Sp.of (n:=71) ⟨_,Tryz.func116,O,O,O,O⟩ (Nat.le_of_ble_eq_true O) fun Ps As=>Jc (Ja (Lq (Jd O) (Lq (Jd O) (Lq (Jd O) (Je (Jf (Jc (Jc (Kf (A:=RdF opD none 0 []) (fun Z w hs=>RdS.nil _ _ _) (Ja (Lq (Jb O) (Jg O (Jo (Zo A c xs hx (by omega)) (.n1 O) (by decide) (Jl Mm1 (Jl Mm2 Jx)) fun _ _ _ q9=>?_)))))))))))))
 obtain ⟨rfl,rfl,rfl⟩:=q9
 refine Lq (Jd O) (Je (Jf (Jc (Ja (Lq (Jb O) (Lq (Kp O O) (Je (Jf (Jy O (fun h14=> ?_) (fun h14=> ?_))))))))))
 ·refine Jc (Ja (Lq (Jb O) (Lq (Jd O) (Lq (Jd O) (Lq (Jd O) (Je (Jf (Jn (Jr ?_)))))))))
  refine ⟨_,[],[RdF opD none 0 [],RdF opD none 0 []],fun Z w hs=> .tmp O (.tmp O (.tmp O .nil)),?_,fun Z w hs=>hs.out (Sr) (Jl Mm0 (Jl Mm0 Tt1))⟩
  try simp only [Bp,Bq] at *
  have hF:crossF xs ys=_:=ED (by omega)
  exact ⟨none,0,none,0,by rw [hF];rfl,O,by rw [hF]⟩
 ·refine Jp (Jf (Jc (Jc (Ja (Lq (Jb O) (Jg O (Jo (Zo B d ys hy (by omega)) (.n1 O) (by decide) (Jl Mm1 (Jl Mm3 Jx)) fun _ _ _ q9=>?_)))))))
  obtain ⟨rfl,rfl,rfl⟩:=q9
  refine Lq (Jd O) (Je (Jf (Jc (Ja (Lq (Jb O) (Lq (Kp O O) (Je (Jf (Jy O (fun h19=> ?_) (fun h19=> ?_))))))))))
  ·refine Jc (Ja (Lq (Jb O) (Lq (Jd O) (Lq (Jd O) (Lq (Jd O) (Je (Jf (JL [(6,_),(5,_),(4,_),(0,_),(1,_)] (.m5 O O O O O) (Jn (Jr ?_))))))))))
   refine ⟨_,[],[RdF opD none 0 [],RdF opD none 0 []],fun Z w hs=> .tmp O (.tmp O (.tmp O .nil)),?_,fun Z w hs=>hs.out (Sr) (Jl Mm0 (Jl Mm0 Tt1))⟩
   try simp only [Bp,Bq] at *
   have hF:crossF xs ys=_:=EC (by omega) (by omega)
   exact ⟨none,0,none,0,by rw [hF];rfl,O,by rw [hF]⟩
  ·refine Jp (Jf (Jc (Ja (Lq (Jb O) (Jg O (Jo (EE A c xs hx hlx) (.n1 O) (by decide) (Jl Mm2 Jx) fun _ _ _ q9=>?_))))))
   obtain ⟨pF0,cssF0,hF0,rfl,rfl⟩:=q9
   refine Lq (Jd O) (Je (Jf (JL [(4,_),(6,_),(5,_),(1,_)] (.m4 O O O O) (Jc (Ja (Lq (Jb O) (Jg O (Jo (EE B d ys hy hly) (.n1 O) (by decide) (Jl Mm4 Jx) fun _ _ _ q9=>?_))))))))
   obtain ⟨pL0,cssL0,hL0,rfl,rfl⟩:=q9
   refine Lq (Jd O) (Je (Jf (Jc (Jc ?_))))
   try simp only [Bp,Bq] at *
   obtain ⟨hF1,bF,cF,jF,rfl,rfl,hF2,hF3,hF4⟩:=hF0
   obtain ⟨hL1,bL,cL,jL,rfl,rfl,hL2,hL3,hL4⟩:=hL0
   refine Ja (Lq (Jb O) (Lq (J7 Un44 O) (Lq (Jb O) (Je (Jf (JO ?_))))))
   refine Ki (α:=Nat×List GOp×List GOp×List (List Value)×List (List Value)) (fun (i,F,L,cssF,cssL)=>ys.length-i)
    (fun (i,F,L,cssF,cssL)=> [(4, .slice (some ⟨bF,0,none⟩) xs.length cF),(5, .slice (some ⟨bL,0,none⟩) ys.length cL),(26, .int .i64 ys.length),(27, .int .i64 i)])
    (fun (i,F,L,cssF,cssL)=>([(bL,JD (cssL.flatten++jL) 40)] :: [(bF,JD (cssF.flatten++jF) 40)] ::Ps))
    (fun (i,F,L,cssF,cssL)=>(RepsF opD L cssL::RepsF opD F cssF::RdF opD none 0 [] ::barF::RdF opD A c xs::RdF opD B d ys::As))
    (fun (i,F,L,cssF,cssL)=>CoI xs ys F L i)
    (0,xs,ys,cssF0,cssL0) ?_ (.m4 rfl rfl rfl rfl) (Sk2 (Sr)) (fun _ h=>h) ?_
   ·exact CoI.zero hx hy
   ·rintro ⟨i,F,L,cssF,cssL⟩ hI
    refine Jc (Ja (Lq (Ku O O) (Je (Jf (Jc (Jy O (fun h28=> ?_) (fun h28=> ?_)))))))
    ·refine Jp (Jf (Jc (JO (Jc (Ja (Lq (Jb O) (Lq (Jd O) (Je (Jf (Jc (Ja (Lq (Jb O) (Lq (J7 Un44 O) (Lq (Jb O) (Je (Jf (JO ?_)))))))))))))))))
     have hi:i<L.length:=by simp only [decide_eq_true_eq] at h28;have:=hI.lenL;omega
     refine Kf (A:=RepsF opD (L.set i L[i]) cssL) (fun Z w hs=>by rw [List.set_getElem_self];exact hs.facts _ Mm0) ?_
     refine Ki (α:=Nat×List GOp×GOp×List (List Value)×List (List Value)) (fun (k,G,l,cssG,cssM)=>xs.length-k)
      (fun (k,G,l,cssG,cssM)=> [(4, .slice (some ⟨bF,0,none⟩) xs.length cF),(5, .slice (some ⟨bL,0,none⟩) ys.length cL),(26, .int .i64 ys.length),(27, .int .i64 i),(7, .int .i64 i),(31, .int .i64 xs.length),(32, .int .i64 k)])
      (fun (k,G,l,cssG,cssM)=>([(bL,JD (cssM.flatten++jL) 40)] :: [(bF,JD (cssG.flatten++jF) 40)] ::Ps))
      (fun (k,G,l,cssG,cssM)=>(RepsF opD (L.set i l) cssM::RepsF opD G cssG::RdF opD none 0 [] ::barF::RdF opD A c xs::RdF opD B d ys::As))
      (fun (k,G,l,cssG,cssM)=>CiI L[i] F G l k)
      (0,F,L[i],cssF,cssL) ?_ (.m7 rfl rfl rfl rfl rfl rfl rfl) (Sk2 (Sr)) (Jl Mm0 Tt2) ?_
     ·exact CiI.zero hI.fitF (hI.fitL _ (List.getElem_mem hi))
     ·rintro ⟨k,G,l,cssG,cssM⟩ hI2
      refine Jc (Ja (Lq (Ku O O) (Je (Jf (Jc (Jy O (fun h33=> ?_) (fun h33=> ?_)))))))
      ·refine Jp (Jf (Jc (JO (Jc (Ja (Lq (Jb O) (Lq (Jd O) (Je (Jf (Jc ?_))))))))))
       have hk:k<G.length:=by simp only [decide_eq_true_eq] at h33;have:=hI.lenF;have:=hI2.len;omega
       have hi2:i<ys.length:=by have:=hI.lenL;omega
       have hk2:k<xs.length:=by have:=hI.lenF;have:=hI2.len;omega
       refine Hu (k:=i) (u:=l) Mm0 (by simp [hi]) (op_open _) fun yl hyl=>Hu (k:=k) Mm2 (List.getElem?_eq_getElem hk) (op_open _) fun yf hyf=> ?_
       refine Vg Mm2 fun hlM hlsM=>Vg Mm3 fun hlG hlsG=> ?_
       rw [List.length_set] at hlM
       refine JI _ _ [11] (.c 0 0 (.c 1 0 (.c 2 0 (.c 3 0 (.c 4 0 (.c 5 0 (.c 6 0 (.c 7 0 (.c 8 4 (.c 9 4 (.c 10 2 (.c 11 3 .nil)))))))))))) mixed (fun _ _ _ _ h=>h) (Sk2 (Sr)) (fun _ h=>h) (by kernel_rfl) (by decide) fun ws Z0=>Qe O (Jb O) (Qe O (Jb O) (Qe O (Yv Un44 JF O O (by omega) (by omega)) (Qe O (Hl (i:=i) Un40 O JF O (by simp) Jm hlsM hyl) (Qe O (Jb O) (Qe O (Jb O) (Qe O (Yv Un44 JF O O (by omega) (by omega)) (Qe O (Hl (i:=k) Un40 O JF O (by simp) (Ji (Jm)) hlsG hyf) ?_)))))))
       refine GP O O (cs1:= [_,_,_,_,_,_,_,_,_]) (cs2:= [_,_,_,_,_,_,_,_,_]) JF O JF O (by decide) (by decide) (by decide) (Sk2 (Sr)) Mm0 fun b9 b10=>Js O O (Jq (cs':= [_,_,_,_,_,_,_,_,_]) (vs:= [_,_,_,_,_,_,_,_,_]) JF O O O O O (Nat.le_of_ble_eq_true O) .z1 ?_)
       refine ⟨⟨(Sd2 (Sk2 (Sr))),Mm0⟩,?_⟩
       refine JJ (J2 O O (Jq (cs':= [_,_,_,_,_,_,_,_,_]) (vs:= [_,_,_,_,_,_,_,_,_]) JF O O O O O (Nat.le_of_ble_eq_true O) .z (JK (Jf (Jc (Jc (Ja (Lq (Jb O) (Lq (Jb O) (Lq (Jw (vs:= [_,_,_,_,_,_,_,_,_]) Un40 O JF O (Ji (Jm)) O O) (Lq (Jw (vs:= [_,_,_,_,_,_,_,_,_]) Un40 O JF O Jm O O) (Jg O (Jo (GG l G[k] yl.1 yf.1 yl.2 yf.2 true hI2.fitl (hI2.fit _ (List.getElem_mem hk))) (.n3 O O O) (by decide) (Jl Mm6 (Jl Mm2 Jx)) fun _ _ _ q9=>?_)))))))))))))
       obtain ⟨A1,c1,rfl,rfl,rfl⟩:=q9
       refine Lq (Jb O) (Lq (Jk (vs:= [_,_]) O O) (Lq (Jk (vs:= [_,_]) O O) (Lq (Yv Un44 JF O O (by omega) (by omega)) (Jg O (GQ (i:=i) (c:=opC (JT l G[k] true).1 A1 c1) JF O (by simp) O O O hlsM (by omega) .z2 (Gn (xs':=L.set i (JT l G[k] true).1) i Mm4 (fun Z w hs=>⟨A1,c1,O,hs.facts _ Mm0⟩) (by rw [List.set_set]) (Lq (Jd O) (Je (Jf (Jc (Ja (Lq (Jb O) (Lq (Kp O O) ?_)))))))))))))
       refine Je (Jf (Jy O (fun h53=> ?_) (fun h53=> ?_)))
       ·refine Jc (Ja (Lq (Jb O) (Lq (Jd O) (Lq (Jd O) (Lq (Jd O) (Je (Jf (Jn (Jr (JM (Jr (Jr (JM (JM (Jr (Jr (JM (Jr ?_))))))))))))))))))
        refine ⟨_,[],[RdF opD none 0 [],RdF opD none 0 []],fun Z w hs=> .tmp O (.tmp O (.tmp O .nil)),?_,fun Z w hs=>hs.out (Sd4 (Sr)) (Jl Mm7 (Jl Mm7 Tt8))⟩
        try simp only [Bp,Bq] at *
        have hF:crossF xs ys=_:=Gf (by omega) (by omega) (hI.err hi (hI2.err1 hk (by omega)))
        exact ⟨none,0,none,0,by rw [hF];rfl,O,by rw [hF]⟩
       ·refine Jp (Jf (Jc (Ja (Lq (Jb O) (Lq (Jb O) (Lq (Jw (vs:= [_,_,_,_,_,_,_,_,_]) Un40 O JF O Jm O O) (Lq (Jw (vs:= [_,_,_,_,_,_,_,_,_]) Un40 O JF O (Ji (Jm)) O O) (Jg O (Jo (GG G[k] l yf.1 yl.1 yf.2 yl.2 false (hI2.fit _ (List.getElem_mem hk)) hI2.fitl) (.n3 O O O) (by decide) (Jl Mm8 (Jl Mm3 Jx)) fun _ _ _ q9=>?_)))))))))
        obtain ⟨A2,c2,rfl,rfl,rfl⟩:=q9
        refine Lq (Jb O) (Lq (Jk (vs:= [_,_]) O O) (Lq (Jk (vs:= [_,_]) O O) (Lq (Yv Un44 JF O O (by omega) (by omega)) (Jg O (GQ (i:=k) (c:=opC (JT G[k] l false).1 A2 c2) JF O (by simp) O O O hlsG (by omega) .z3 (Gn k Mm7 (fun Z w hs=>⟨A2,c2,O,hs.facts _ Mm0⟩) O (Lq (Jd O) (Je (Jf (Jc (Ja (Lq (Jb O) (Lq (Kp O O) ?_)))))))))))))
        refine Je (Jf (Jy O (fun h65=> ?_) (fun h65=> ?_)))
        ·refine Jc (Ja (Lq (Jb O) (Lq (Jd O) (Lq (Jd O) (Lq (Jd O) (Je (Jf (Jn (JM (Jr (Jr (JM (JM (Jr (Jr (JM (Jr ?_)))))))))))))))))
         refine ⟨_,[],[RdF opD none 0 [],RdF opD none 0 []],fun Z w hs=> .tmp O (.tmp O (.tmp O .nil)),?_,fun Z w hs=>hs.out (Sd4 (Sr)) (Jl Mm9 (Jl Mm9 Tt10))⟩
         try simp only [Bp,Bq] at *
         have hF:crossF xs ys=_:=Gf (by omega) (by omega) (hI.err hi (hI2.err2 hk (by omega) (by omega)))
         exact ⟨none,0,none,0,by rw [hF];rfl,O,by rw [hF]⟩
        ·refine Jp (J9 (Jf (Ja (Lq (JZ O O (wr64 (by omega))) (Lq (Jb O) (Je (Ko ?_)))))))
         refine ⟨(k+1,G.set k (JT G[k] l false).1,(JT l G[k] true).1,cssG.set k (opC (JT G[k] l false).1 A2 c2),cssM.set i (opC (JT l G[k] true).1 A1 c1)),?_,(.m7 O O O O O O O),(Sd2 (Sk2 (Sr))),(Jl Mm2 (Jl Mm0 Tt9))⟩
         try simp only [Bp,Bq] at *
         exact ⟨by show xs.length-(k+1)<xs.length-k;omega,hI2.next hk (by omega) (by omega)⟩
      ·refine Kr (JR (JR (Kg (J9 (Jf (Ja (Lq (JZ O O (wr64 (by have:=hI.lenL;omega))) (Lq (Jb O) (Je (Ko ?_))))))))))
       refine ⟨(i+1,G,L.set i l,cssG,cssM),?_,(.m4 O O O O),(Sk2 (Sr)),(fun _ h=>h)⟩
       try simp only [Bp,Bq] at *
       exact ⟨by show ys.length-(i+1)<ys.length-i;omega,hI.next hi (hI2.done (by have:=hI.lenF;have:=hI2.len;omega)) hI2.len hI2.fit hI2.fitl⟩
    ·refine Kr (JR (JR (Kg (Jf (Jc ?_)))))
     try simp only [Bp,Bq] at *
     have hcr:=hI.done (by have:=hI.lenL;omega)
     refine Vg Mm0 fun hlL hlsL=>Vg Mm1 fun hlF hlsF=>KW (e:=opD) (css:=cssL) (xs:=L) (Row.again hL1 hL2 hL3 hL4 (by have:=hI.lenL;omega) hlsL) .z (by have:=hI.lenL;omega) Mm0 fun AL cL' eL=> ?_
     obtain ⟨rfl,_,rfl⟩:=Value.slice.inj eL
     refine KW (e:=opD) (css:=cssF) (xs:=F) (Row.again hF1 hF2 hF3 hF4 (by have:=hI.lenF;omega) hlsF) .z (by have:=hI.lenF;omega) Mm2 fun AF cF' eF=> ?_
     obtain ⟨rfl,_,rfl⟩:=Value.slice.inj eF
     refine Ja (Lq (Jb O) (Lq (Jb O) (Lq (Jd O) (Lq (Jd O) (Lq (Jd O) (Je (Jf (Jn ?_))))))))
     refine ⟨_,[],[RdF opD (some ⟨bF,0,none⟩) cF F,RdF opD (some ⟨bL,0,none⟩) cL L],fun Z w hs=> .tmp O (.tmp O (.tmp O .nil)),?_,fun Z w hs=>hs.out (Sr) (Jl Mm0 (Jl Mm1 Tt5))⟩
     have hF:=Ge (by omega) (by omega) hcr
     exact ⟨some ⟨bF,0,none⟩,cF,some ⟨bL,0,none⟩,cL,by rw [hF,hI.lenF,hI.lenL];rfl,O,by rw [hF]⟩
theorem KY (H:Hist):H.ops.length=H.ents.length:=by simp [Hist.ops]
theorem QB {H:Hist} {k:Nat} (h:k<H.ents.length):H.ops[k]'(by rw [KY];exact h)=H.ents[k].op:=by simp [Hist.ops]
theorem bd97_1Xw12 (x1_:Option Nat) (w:World):(Instr.build 125 #[(1, .map x1_)]).run Tryz.prog w= .ok (.agg #[.slice none 0 0, .map x1_, .int .i64 0]) w:=by kernel_rfl
theorem Jbd:Sp Tryz.prog 36 [] [] [] (fun v Lo fs=> ∃h m,v= .pointer (some ⟨h,0,none⟩)∧Lo= [hdP h none 0 0 m 0,mpP m [],mkP []] ∧fs= [RdF opD none 0 [],AllF ([] :List MR) nowF]):=by
 refine Sp.of (n:=4) ⟨_,Tryz.func36,rfl,rfl,rfl,rfl⟩ (Nat.le_of_ble_eq_true rfl) fun Ps As=>Jc (Ja (Lq (Jd rfl) (Je (Jf (Jc (KE (Kf (A:=AllF ([] :List MR) nowF) (fun Z w hs x hx=>by cases hx) (Kf (A:=RdF opD none 0 []) (fun Z w hs=>RdS.nil _ _ _) (Ja (Jg rfl (E9 (by decide) fun b1=>Lq (JV (.n1 rfl) (bd97_1Xw12 _)) ?_)))))))))))
 refine Jg O (J1 (cs:= [_,_,_]) O O (by decide) fun b3=>Lq (Jd O) (Je (Jf (Jn ?_))))
 refine ⟨_,[_,_,_],[_,_],fun Z w hs=> .tmp O .nil,?_,fun Z w hs=>hs.out (Sk3 (Sr)) (fun _ h=>h)⟩
 exact ⟨b3,b1,O,O,O⟩
theorem Eb (h m len cap:Nat) (A:Option Addr) (total:Int):Sp Tryz.prog 58 [.pointer (some ⟨h,0,none⟩)] [hdP h A len cap m total] [] (fun v Lo fs=>v= .int .i64 len∧Lo= [hdP h A len cap m total] ∧fs= []):=by
 refine Sp.of (n:=8) ⟨_,Tryz.func58,O,O,O,O⟩ (Nat.le_of_ble_eq_true O) fun Ps As=>Jc (Ja (Lq (Jd O) (Je (Jf (Jc (Ja (Lq (Jb O) (Lq (JB O) (Lq (Jh (o':=0) Un125 O YV O O) (Lq (Jj Un44 O O Jm O) (Lq (J7 Un44 O) (Lq (Jd O) ?_))))))))))))
 refine Je (Jf (Jn ?_))
 refine ⟨_,[_],[],fun Z w hs=> .tmp O .nil,?_,fun Z w hs=>hs.out (Sk (Sr)) (fun _ h=>h)⟩
 exact ⟨O,O,O⟩
theorem EJ (h m cap:Nat) (A:Option Addr) (H:Hist) (L:List MR) (hr:HR H L) (i:Nat) (hi:i≤H.ents.length):Sp Tryz.prog 129 [.pointer (some ⟨h,0,none⟩), .int .i64 i] [hdP h A H.ops.length cap m H.total] [barF,RdF opD A cap H.ops] (fun v Lo fs=>v= .int .i64 (K2 H i)∧Lo= [hdP h A H.ops.length cap m H.total] ∧fs= []):=by
 have hol:=KY H
 have hlen:=hr.len
 refine Sp.of (n:=25) ⟨_,Tryz.func129,O,O,O,O⟩ (Nat.le_of_ble_eq_true O) fun Ps As=>Jc (Ja (Lq (Jd O) (Je (Jf (Jc (Ja (Lq (Jd O) (Je (Jf (Jc (Jc (V5 Mm1 fun hcap hcap2=> ?_))))))))))))
 obtain ⟨B,hB⟩: ∃B,B=cutA A 0 cap 9:=⟨_,rfl⟩
 refine Kf (A:=RdF opD B cap (H.ops.take i)) (fun Z w hs=>by rw [hB];exact RdS.cut (lo:=0) (hi:=i) (m:=cap) (hs.facts _ Mm1) (Nat.zero_le _) (by omega) (by omega) (Nat.le_refl _)) (Ja (Lq (Jb O) (Lq (JB O) (Lq (Jh (o':=0) Un125 O YV O O) (Lq (Jj Un44 O O Jm O) (Lq (Jb O) (Lq (Hm Un44 JF O O (by omega) (by omega)) (Lq (J7 Un44 O) (Lq (Jb O) ?_)))))))))
 refine Je (Jf (JO ?_))
 refine Ki (α:=Nat) (fun k=>i-k)
  (fun k=> [(5, .int .i64 (sumW (H.ents.take k))),(13, .slice B i cap),(14, .int .i64 i),(15, .int .i64 k)])
  (fun k=>(hdP h A H.ops.length cap m H.total::Ps))
  (fun k=>(RdF opD B cap (H.ops.take i)::barF::RdF opD A cap H.ops::As))
  (fun k=>k≤i)
  0 ?_ (.m4 rfl (by rw [hB];rfl) rfl rfl) (Sk (Sr)) (fun _ h=>h) ?_
 ·exact Nat.zero_le _
 ·rintro k hI
  refine Jc (Ja (Lq (Ku O O) (Je (Jf (Jc (Jy O (fun h16=> ?_) (fun h16=> ?_)))))))
  ·refine Jp (Jf (Jc (JO (Jc ?_))))
   try simp only [Bp,Bq] at *
   have hk:k<(H.ops.take i).length:=by rw [List.length_take];omega
   have hke:k<H.ents.length:=by rw [List.length_take] at hk;omega
   have hop:(H.ops.take i)[k] =H.ents[k].op:=by rw [List.getElem_take,QB]
   refine Kh (k:=k) Mm0 (List.getElem?_eq_getElem hk) (op_open _) fun b4 q4 y4 e4=> ?_
   cases e4
   refine Ja (Lq (Kc Un44 JF O O (by omega) (by omega)) (Lq (Kq (k:=0) (vs:= [_,_,_,_,_,_,_,_,_]) Un40 O JF O Mm0 O O O) (Jg O (Jv (cs:= [_,_,_,_,_,_,_,_,_]) JF O (by decide) fun b7=>Jg O (Jq (cs':= [_,_,_,_,_,_,_,_,_]) (vs:= [_,_,_,_,_,_,_,_,_]) JF O O O O O (Nat.le_of_ble_eq_true O) .z (Je (Jf (Ja (Lq (Jb O) (Lq (Jw (vs:= [_,_,_,_,_,_,_,_,_]) Un40 O JF O Jm O O) (Jg O (Jo (Yh (H.ops.take i)[k] y4.1 y4.2 (by have:=(hr.fit _ (List.getElem_mem hke)).text;rw [hop];omega)) (.n1 O) (by decide) (Jl Mm3 Jx) fun _ _ _ q9=>?_))))))))))))
   obtain ⟨rfl,rfl,rfl⟩:=q9
   refine Lq (JZ O O (wr64 (by have h1:=He (H.ents.take k) (fun e he=>hr.wid e (List.mem_of_mem_take he));have h2:=hr.wid _ (List.getElem_mem hke);have h3:=KF (H.ops.take i)[k];rw [hop] at h3;rw [hop];rw [List.length_take] at h1;omega))) (Lq (Jd O) (Je (J9 (Jf (Ja (Lq (JZ O O (wr64 (by omega))) (Lq (Jb O) (Je (Ko ?_)))))))))
   have hsum:sumW (H.ents.take k)+JC (H.ops.take i)[k] =sumW (H.ents.take (k+1)):=by
    rw [List.take_succ_eq_append_getElem hke,Xj,hop];simp [sumW]
   refine ⟨k+1,?_,(.m4 (congrArg (fun z=>some (Value.int .i64 z)) hsum) O O O),(Sd (Sk (Sr))),Tt2⟩
   exact ⟨by omega,by omega⟩
  ·refine Kr (JR (JR (Kg (Jf (Jc (Ja (Lq (Jb O) (Lq (Jd O) (Je (Jf (Jn ?_)))))))))))
   try simp only [Bp,Bq] at *
   obtain rfl:k=i:=by omega
   refine ⟨_,[_],[],fun Z w hs=> .tmp O .nil,?_,fun Z w hs=>hs.out (Sk (Sr)) Tt1⟩
   exact ⟨O,O,O⟩
theorem keyT:KeyT Tryz.prog 34:=⟨⟨3,_,_,Un34,Un3,ti3⟩,eq34⟩
theorem bd25Xw13 (w:World):(Instr.build 34 #[]).run Tryz.prog w= .ok (.agg #[.int .i64 0, .int .i64 0]) w:=by kernel_rfl
theorem Ja0 (h m cap:Nat) (A:Option Addr) (H:Hist) (L:List MR) (hr:HR H L) (i:Int) (o:GOp) (Ao:Option Addr) (co:Nat) (ho:Fit o):Sp Tryz.prog 115 [.pointer (some ⟨h,0,none⟩), .int .i64 i,opV o Ao co] [hdP h A H.ops.length cap m H.total,mpP m L,mkP L] [barF,RdF opD A cap H.ops,RdF rgD Ao co o.rs] (HIs (.int .i64 (fitsF H i o)) [hdP h A H.ops.length cap m H.total,mpP m L,mkP L]):=by
 have hol:=KY H
 have hlen:=hr.len
 refine Sp.of (n:=91) ⟨_,Tryz.func115,O,O,O,O⟩ (Nat.le_of_ble_eq_true O) fun Ps As=>Jc (Ja (Jg O (J1 (cs:= [_,_,_,_,_,_,_,_,_]) O O (by decide) fun b5=>Lq (Jd O) (Je (Jf (Jc (Jc (Ja (Lq (Jb O) (Lq (Ku O O) (Lq (Jb O) (JU (t:=11) O (fun g11=> ?_) (fun g11=> ?_)))))))))))))
 ·refine Ln O O O g11 (Ln O O O g11 (Ln O O O g11 (Ln O O O g11 (Ln O O O g11 (Ln O O O g11 (Ln O O O g11 (Lq (JH O g11 O) (Je (Jf (JL [(19,_),(6,_),(5,_),(0,_),(1,_)] (.m5 O O O O O) ?_))))))))))
  refine JQ O O (Jc (Ja (Lq (Jd O) (Je (Jf (Jn (Jr ?_)))))))
  refine ⟨_,[_,_,_],[],fun Z w hs=> .tmp O .nil,?_,fun Z w hs=>hs.out (Sd (Sk3 (Sr))) (fun _ h=>h)⟩
  try simp only [Bp,Bq] at *
  refine ⟨congrArg (Value.int .i64) ?_,O,O⟩
  unfold fitsF fitsT fitsRest
  first | (simp_all;done) | (simp_all;omega) | (repeat' split;all_goals first | rfl | omega | (simp_all;done) | (simp_all;omega))
 ·refine Lg O O O g11 (Jb O) (Lg O O O g11 (Jb O) (Lg O O O g11 (JB O) (Lg O O O g11 (Jh (o':=0) Un125 O YV O O) (Lg O O O g11 (Jj Un44 O O (Ji (Jm)) O) (Lg O O O g11 (J7 Un44 O) (Lg O O O g11 (Ke O O) (Lq (JA O g11 O) (Je (Jf (JL [(19,_),(6,_),(5,_),(0,_),(1,_)] (.m5 O O O O O) ?_))))))))))
  refine Jy O (fun h19=> ?_) (fun h19=> ?_)
  ·refine Jc (Ja (Lq (Jd O) (Je (Jf (Jn (Jr ?_))))))
   refine ⟨_,[_,_,_],[],fun Z w hs=> .tmp O .nil,?_,fun Z w hs=>hs.out (Sd (Sk3 (Sr))) (fun _ h=>h)⟩
   try simp only [Bp,Bq] at *
   refine ⟨congrArg (Value.int .i64) ?_,O,O⟩
   unfold fitsF fitsT fitsRest
   first | (simp_all;done) | (simp_all;omega) | (repeat' split;all_goals first | rfl | omega | (simp_all;done) | (simp_all;omega))
  ·refine Jp (Jf (Jc (Jc ?_)))
   try simp only [Bp,Bq] at *
   obtain ⟨i,rfl⟩: ∃k:Nat,i=(k:Int):=⟨i.toNat,by omega⟩
   refine JI _ _ [] (.c 0 0 (.c 1 0 (.c 2 0 (.c 3 2 (.c 4 2 (.c 5 0 .nil)))))) mixed (fun _ _ _ _ h=>h) (Sk (Sd (Sk2 (Sr)))) (fun _ h=>h) (by kernel_rfl) (by decide) fun ws Z0=>Qe O (Jw (vs:= [_,_,_,_,_,_,_,_,_]) Un40 O JF O Jm O O) (Qe O (Jb O) (Qe O (Jb O) (Js O O (JX (EJ h m cap A H L hr i (by omega)) (.n2 O O) (by decide) .z1 (Jl Mm1 (Jl Mm2 Jx)) fun _ _ _ q9=>?_))))
   obtain ⟨rfl,rfl,rfl⟩:=q9
   refine ⟨⟨(Sd (Sk3 (Sr))),Mm0⟩,?_⟩
   refine Js O O (Jo (Y9 o Ao co (K2 H i) (by have:=ho.text;omega) ho.rs) (.n2 O O) (by decide) (Jl Mm1 (Jl Mm3 Jx)) fun _ _ _ q9=>?_)
   obtain ⟨rfl,rfl,rfl⟩:=q9
   refine ⟨⟨(Sd (Sk3 (Sr))),Mm0⟩,?_⟩
   refine Qe O (Jd O) (JJ (JK (Jf (Jc (Ja (Lq (Jb O) (Lq (Kp O O) (Je (Jf (Jy O (fun h26=> ?_) (fun h26=> ?_)))))))))))
   ·refine Jc (Ja (Lq (Jb O) (Lq (Jd O) (Je (Jf (JL [(6,_),(5,_),(0,_),(1,_)] (.m4 O O O O) (Jn (Jr ?_))))))))
    refine ⟨_,[_,_,_],[],fun Z w hs=> .tmp O .nil,?_,fun Z w hs=>hs.out (Sk (Sd (Sk2 (Sr)))) Tt1⟩
    try simp only [Bp,Bq] at *
    refine ⟨congrArg (Value.int .i64) ?_,O,O⟩
    unfold fitsF fitsT fitsRest
    first | (simp_all;done) | (simp_all;omega) | (repeat' split;all_goals first | rfl | omega | (simp_all;done) | (simp_all;omega))
   ·refine Jp (Jf (Jc (JO (Jc (Ja (Lq (Jh (o':=0) Un40 O KI O O) (Lq (Jh (o':=2) Un37 O Yu O O) (Lq (Jj Un35 O O (Ji (Jm)) O) (Lq (Ka O O) (Lq (Jd O) (Je (Jf (JL [(28,_),(6,_),(5,_),(0,_),(1,_)] (.m5 O O O O O) (Jy O (fun h28=> ?_) (fun h28=> ?_)))))))))))))))
    ·refine Jc (Ja (Lq (Jd O) (Je (Jf (Jn (JM (Jr ?_)))))))
     refine ⟨_,[_,_,_],[],fun Z w hs=> .tmp O .nil,?_,fun Z w hs=>hs.out (Sk (Sd (Sk2 (Sr)))) Tt1⟩
     try simp only [Bp,Bq] at *
     refine ⟨congrArg (Value.int .i64) ?_,O,O⟩
     unfold fitsF fitsT fitsRest
     first | (simp_all;done) | (simp_all;omega) | (repeat' split;all_goals first | rfl | omega | (simp_all;done) | (simp_all;omega))
    ·refine Jc (Ja (Lq (Jh (o':=0) Un40 O KI O O) (Lq (Jh (o':=0) Un37 O JY O O) (Lq (Jw (vs:= [_,_]) Un34 O JY O (Ji (Jm)) O O) (Lq (JV .nil (bd25Xw13)) (Lq (Qd O O (eq34 _ _ _ _)) (Lq (Jd O) (Je (Jf (Jy O (fun h33=> ?_) (fun h33=> ?_)))))))))))
     ·refine Jc (Ja (Lq (Jd O) (Je (Jf (Jn (JM (Jr ?_)))))))
      refine ⟨_,[_,_,_],[],fun Z w hs=> .tmp O .nil,?_,fun Z w hs=>hs.out (Sk (Sd (Sk2 (Sr)))) Tt1⟩
      try simp only [Bp,Bq] at *
      refine ⟨congrArg (Value.int .i64) ?_,O,O⟩
      unfold fitsF fitsT fitsRest
      first | (simp_all;done) | (simp_all;omega) | (repeat' split;all_goals first | rfl | omega | (simp_all;done) | (simp_all;omega))
     ·refine Jc ?_
      cases hwd:J5 H.ents o.c o.n with
      | none=>
       have hgd:=hr.look0 hwd
       refine JI _ _ [] (.c 0 0 (.c 1 0 (.c 2 0 (.c 3 0 (.c 4 0 (.c 5 0 (.c 6 0 (.c 7 0 (.c 8 0 (.c 9 0 .nil)))))))))) mixed (fun _ _ _ _ h=>h) (Sk4 (Sr)) (fun _ h=>h) (by kernel_rfl) (by decide) fun ws Z0=>Qe O (Jb O) (Qe O (JB O) (Qe O (Jh (o':=1) Un125 O YY O O) (Qe O (Jj Un123 O O Jm O) (Qe O (Jh (o':=0) Un40 O KI O O) (Qe O (Jh (o':=0) Un37 O JY O O) (Qe O (Jw (vs:= [_,_]) Un34 O JY O (Ji (Jm)) O O) (Qe O (VD keyT hgd Un123 Y3 O O (Ji (Ji (Jm)))) (Qe O (QA Un161 O O (by simp)) ?_))))))))
       refine Qe O (Jd O) (JJ (JK (Jf (JL [(39,_),(6,_),(5,_),(0,_),(1,_)] (.m5 O O O O O) (Jz O O (Jp (J9 (Jf (Jc (Jc (Ja (Lq (Jh (o':=0) Un40 O KI O O) (Lq (Jh (o':=2) Un37 O Yu O O) (Lq (Jj Un35 O O (Ji (Jm)) O) (Lq (Ka O O) (Je (Jf ?_)))))))))))))))))
       refine Jy O (fun h52=> ?_) (fun h52=> ?_)
       ·refine Jc ?_
        cases hwt:J5 H.ents o.tc o.tn with
        | none=>
         have hgt:=hr.look0 hwt
         refine JI _ _ [] (.c 0 0 (.c 1 0 (.c 2 0 (.c 3 0 (.c 4 0 (.c 5 0 (.c 6 0 (.c 7 0 .nil)))))))) mixed (fun _ _ _ _ h=>h) (Sk4 (Sr)) (fun _ h=>h) (by kernel_rfl) (by decide) fun ws Z0=>Qe O (Jb O) (Qe O (JB O) (Qe O (Jh (o':=1) Un125 O YY O O) (Qe O (Jj Un123 O O Jm O) (Qe O (Jh (o':=6) Un40 O JY O O) (Qe O (Jw (vs:= [_,_]) Un34 O JY O (Ji (Jm)) O O) (Qe O (VD keyT hgt Un123 Y3 O O (Ji (Ji (Jm)))) (Qe O (Jd O) (JJ (JK ?_)))))))))
         refine Jf (JL [(8,_),(6,_),(5,_),(0,_),(1,_)] (.m5 O O O O O) (Jc (Jc (Ja (Lq (Jb O) (Lq (KK Un161 O O (by simp)) (Lq (Jb O) (Ln O O O O (Ln O O O O (Ln O O O O (Ln O O O O ?_)))))))))))
         refine Ln O O O O (Ln O O O O (Lq (JH O O O) (Je (Jf (JL [(69,_),(8,_),(6,_),(5,_),(0,_)] (.m5 O O O O O) (JQ O O (Jc (Ja (Lq (Jd O) (Je (Jf (Jn (Jr (Jr ?_))))))))))))))
         refine ⟨_,[_,_,_],[],fun Z w hs=> .tmp O .nil,?_,fun Z w hs=>hs.out (Sk (Sd (Sk2 (Sr)))) Tt3⟩
         try simp only [Bp,Bq] at *
         refine ⟨congrArg (Value.int .i64) ?_,O,O⟩
         unfold fitsF fitsT fitsRest
         first | (simp_all;done) | (simp_all;omega) | (repeat' split;all_goals first | rfl | omega | (simp_all;done) | (simp_all;omega))
        | some kt=>
         obtain ⟨hkt,jt,xt,hct,hnt,hjt,hmt,hgt⟩:=hr.look1 hwt
         obtain ⟨xmt,xbt,xAt,xct⟩:=xt
         obtain rfl:xmt=markAt kt H.ents[kt] :=hmt
         refine JI _ _ [] (.c 0 0 (.c 1 0 (.c 2 0 (.c 3 0 (.c 4 0 (.c 5 0 (.c 6 0 (.c 7 0 .nil)))))))) mixed (fun _ _ _ _ h=>h) (Sk4 (Sr)) (fun _ h=>h) (by kernel_rfl) (by decide) fun ws Z0=>Qe O (Jb O) (Qe O (JB O) (Qe O (Jh (o':=1) Un125 O YY O O) (Qe O (Jj Un123 O O Jm O) (Qe O (Jh (o':=6) Un40 O JY O O) (Qe O (Jw (vs:= [_,_]) Un34 O JY O (Ji (Jm)) O O) (Qe O (YN keyT hgt Un123 Y3 O O (Ji (Ji (Jm)))) (Qe O (Jd O) (JJ (JK ?_)))))))))
         refine Jf (JL [(8,_),(6,_),(5,_),(0,_),(1,_)] (.m5 O O O O O) (Jc (Jc (Ja (Lq (Jb O) (Lq (KK Un161 O O (by simp)) (Lq (Jb O) (Lg O O O O (Jb O) (Lg O O O O (JB O) (Lg O O O O (Jh (o':=0) Un165 O ti3 O O) (Lg O O O O (Jj (v:= .int .i64 (kt:Int)) Un3 O O (Ji (Ji (Ji (ownI (Yq hjt))))) O) ?_)))))))))))
         refine Lg O O O O (Jb O) (Lg O O O O (Yl O O) (Lq (JA O O O) (Je (Jf (JL [(69,_),(8,_),(6,_),(5,_),(0,_)] (.m5 O O O O O) (Jy O (fun h69=> ?_) (fun h69=> ?_)))))))
         ·refine Jc (Ja (Lq (Jd O) (Je (Jf (Jn (Jr (Jr ?_)))))))
          refine ⟨_,[_,_,_],[],fun Z w hs=> .tmp O .nil,?_,fun Z w hs=>hs.out (Sk (Sd (Sk2 (Sr)))) Tt3⟩
          try simp only [Bp,Bq] at *
          refine ⟨congrArg (Value.int .i64) ?_,O,O⟩
          unfold fitsF fitsT fitsRest
          first | (simp_all;done) | (simp_all;omega) | (repeat' split;all_goals first | rfl | omega | (simp_all;done) | (simp_all;omega))
         ·refine Jp (Jf (Jc ?_))
          have hko:kt<H.ops.length:=by omega
          refine Kh (k:=kt) Mm4 (List.getElem?_eq_getElem hko) (op_open _) fun bo qo yo eo=> ?_
          cases eo
          have hop:=QB hkt
          refine JI _ _ [] (.c 0 0 (.c 1 0 (.c 2 0 (.c 3 0 (.c 4 0 (.c 5 0 (.c 6 0 (.c 7 0 (.c 8 0 (.c 9 0 (.c 10 0 (.c 11 0 (.c 12 0 .nil))))))))))))) mixed (fun _ _ _ _ h=>h) (Sk4 (Sr)) (fun _ h=>h) (by kernel_rfl) (by decide) fun ws Z0=>Qe O (Jb O) (Qe O (JB O) (Qe O (Jh (o':=0) Un125 O YV O O) (Qe O (Jj Un44 O O Jm O) (Qe O (Jb O) (Qe O (JB O) (Qe O (Jh (o':=0) Un165 O ti3 O O) (Qe O (Jj (v:= .int .i64 (kt:Int)) Un3 O O (Ji (Ji (Ji (ownI (Yq hjt))))) O) (Qe O (Kc Un44 JF O O (by omega) (by omega)) ?_))))))))
          refine Qe O (Jh (o':=_+0) Un40 O KI O O) (Qe O (Jh (o':=_+2) Un37 O Yu O O) (Qe O (Ks (j:=2) Un35 O O Mm0 O O) (Qe O (Ka O O) (JJ (JK (Jf (JL [(82,_),(6,_),(5,_),(0,_)] (.m4 O O O O) (Jy O (fun h82=> ?_) (fun h82=> ?_)))))))))
          ·refine Jc (Ja (Lq (Jd O) (Je (Jf (Jn (Jr ?_))))))
           refine ⟨_,[_,_,_],[],fun Z w hs=> .tmp O .nil,?_,fun Z w hs=>hs.out (Sk (Sd (Sk2 (Sr)))) Tt6⟩
           try simp only [Bp,Bq] at *
           refine ⟨congrArg (Value.int .i64) ?_,O,O⟩
           unfold fitsF fitsT fitsRest
           first | (simp_all;done) | (simp_all;omega) | (repeat' split;all_goals first | rfl | omega | (simp_all;done) | (simp_all;omega))
          ·refine Jp (Jf (Jc (Jc (JI _ _ [] (.c 0 0 (.c 1 0 (.c 2 0 (.c 3 0 (.c 4 0 (.c 5 2 (.c 6 0 (.c 7 0 .nil)))))))) mixed (fun _ _ _ _ h=>h) (Sk4 (Sr)) (fun _ h=>h) (by kernel_rfl) (by decide) fun ws Z0=>Qe O (Jb O) (Qe O (JB O) (Qe O (Jh (o':=2) Un125 O ti3 O O) (Qe O (Jj Un3 O O Jm O) (Qe O (Jw (vs:= [_,_,_,_,_,_,_,_,_]) Un40 O JF O (Ji (Jm)) O O) (Js O O (Jo (Yh o Ao co (by have:=ho.text;omega)) (.n1 O) (by decide) (Jl Mm7 Jx) fun _ _ _ q9=>?_))))))))))
           obtain ⟨rfl,rfl,rfl⟩:=q9
           refine ⟨⟨(Sk4 (Sr)),Mm0⟩,?_⟩
           refine Qe O (JZ O O (wr64 (by have:=hr.tot;have:=KF o;have:=ho.text;omega))) (Qe O (Ke O O) (JJ (JK (Jf (Jy O (fun h90=> ?_) (fun h90=> ?_))))))
           ·refine Jc (Ja (Lq (Jd O) (Je (Jf (Jn (Jr ?_))))))
            refine ⟨_,[_,_,_],[],fun Z w hs=> .tmp O .nil,?_,fun Z w hs=>hs.out (Sk (Sd (Sk2 (Sr)))) Tt7⟩
            try simp only [Bp,Bq] at *
            refine ⟨congrArg (Value.int .i64) ?_,O,O⟩
            unfold fitsF fitsT fitsRest
            first | (simp_all;done) | (simp_all;omega) | (repeat' split;all_goals first | rfl | omega | (simp_all;done) | (simp_all;omega))
           ·refine Jp (Jf (Jc (Ja (Lq (Jd O) (Je (Jf (Jn ?_)))))))
            refine ⟨_,[_,_,_],[],fun Z w hs=> .tmp O .nil,?_,fun Z w hs=>hs.out (Sk (Sd (Sk2 (Sr)))) Tt7⟩
            try simp only [Bp,Bq] at *
            refine ⟨congrArg (Value.int .i64) ?_,O,O⟩
            unfold fitsF fitsT fitsRest
            first | (simp_all;done) | (simp_all;omega) | (repeat' split;all_goals first | rfl | omega | (simp_all;done) | (simp_all;omega))
       ·refine Jp (Jf (Jc (Jc (JI _ _ [] (.c 0 0 (.c 1 0 (.c 2 0 (.c 3 0 (.c 4 0 (.c 5 2 (.c 6 0 (.c 7 0 .nil)))))))) mixed (fun _ _ _ _ h=>h) (Sk4 (Sr)) (fun _ h=>h) (by kernel_rfl) (by decide) fun ws Z0=>Qe O (Jb O) (Qe O (JB O) (Qe O (Jh (o':=2) Un125 O ti3 O O) (Qe O (Jj Un3 O O Jm O) (Qe O (Jw (vs:= [_,_,_,_,_,_,_,_,_]) Un40 O JF O (Ji (Jm)) O O) (Js O O (Jo (Yh o Ao co (by have:=ho.text;omega)) (.n1 O) (by decide) (Jl Mm3 Jx) fun _ _ _ q9=>?_))))))))))
        obtain ⟨rfl,rfl,rfl⟩:=q9
        refine ⟨⟨(Sk4 (Sr)),Mm0⟩,?_⟩
        refine Qe O (JZ O O (wr64 (by have:=hr.tot;have:=KF o;have:=ho.text;omega))) (Qe O (Ke O O) (JJ (JK (Jf (JL [(90,_),(6,_)] (.m2 O O) (Jy O (fun h90=> ?_) (fun h90=> ?_)))))))
        ·refine Jc (Ja (Lq (Jd O) (Je (Jf (Jn (Jr ?_))))))
         refine ⟨_,[_,_,_],[],fun Z w hs=> .tmp O .nil,?_,fun Z w hs=>hs.out (Sk (Sd (Sk2 (Sr)))) Tt3⟩
         try simp only [Bp,Bq] at *
         refine ⟨congrArg (Value.int .i64) ?_,O,O⟩
         unfold fitsF fitsT fitsRest
         first | (simp_all;done) | (simp_all;omega) | (repeat' split;all_goals first | rfl | omega | (simp_all;done) | (simp_all;omega))
        ·refine Jp (Jf (Jc (Ja (Lq (Jd O) (Je (Jf (Jn ?_)))))))
         refine ⟨_,[_,_,_],[],fun Z w hs=> .tmp O .nil,?_,fun Z w hs=>hs.out (Sk (Sd (Sk2 (Sr)))) Tt3⟩
         try simp only [Bp,Bq] at *
         refine ⟨congrArg (Value.int .i64) ?_,O,O⟩
         unfold fitsF fitsT fitsRest
         first | (simp_all;done) | (simp_all;omega) | (repeat' split;all_goals first | rfl | omega | (simp_all;done) | (simp_all;omega))
      | some kd=>
       obtain ⟨hkd,jd,xd,hcd,hnd,hjd,hmd,hgd⟩:=hr.look1 hwd
       obtain ⟨xmd,xbd,xAd,xcd⟩:=xd
       obtain rfl:xmd=markAt kd H.ents[kd] :=hmd
       refine JI _ _ [] (.c 0 0 (.c 1 0 (.c 2 0 (.c 3 0 (.c 4 0 (.c 5 0 (.c 6 0 (.c 7 0 (.c 8 0 (.c 9 0 .nil)))))))))) mixed (fun _ _ _ _ h=>h) (Sk4 (Sr)) (fun _ h=>h) (by kernel_rfl) (by decide) fun ws Z0=>Qe O (Jb O) (Qe O (JB O) (Qe O (Jh (o':=1) Un125 O YY O O) (Qe O (Jj Un123 O O Jm O) (Qe O (Jh (o':=0) Un40 O KI O O) (Qe O (Jh (o':=0) Un37 O JY O O) (Qe O (Jw (vs:= [_,_]) Un34 O JY O (Ji (Jm)) O O) (Qe O (YN keyT hgd Un123 Y3 O O (Ji (Ji (Jm)))) (Qe O (QA Un161 O O (by simp)) ?_))))))))
       refine Qe O (Jd O) (JJ (JK (Jf (JL [(39,_),(6,_),(5,_),(0,_),(1,_)] (.m5 O O O O O) (JQ O O (Jc (Ja (Lq (Jd O) (Je (Jf (Jn (JM (Jr ?_)))))))))))))
       refine ⟨_,[_,_,_],[],fun Z w hs=> .tmp O .nil,?_,fun Z w hs=>hs.out (Sk (Sd (Sk2 (Sr)))) Tt2⟩
       try simp only [Bp,Bq] at *
       refine ⟨congrArg (Value.int .i64) ?_,O,O⟩
       unfold fitsF fitsT fitsRest
       first | (simp_all;done) | (simp_all;omega) | (repeat' split;all_goals first | rfl | omega | (simp_all;done) | (simp_all;omega))
def slC (x:List Rg×Option Addr×Nat):Value:= .slice x.2.1 x.1.length x.2.2
def slsF (ys:List (List Rg×Option Addr×Nat)):Fact:=AllF ys fun x=>RdF rgD x.2.1 x.2.2 x.1
structure MvI (ents:List Ent) (at_ n:Int) (k:Nat) (ys:List (List Rg×Option Addr×Nat)):Prop where
 le:k≤ents.length
 len:ys.length=k
 eq:movedAll ents at_ n=(match movedAll (ents.drop k) at_ n with | .error e=> .error e | .ok ls=> .ok (ys.map Prod.fst++ls))
theorem MvI.err {ents:List Ent} {at_ n:Int} {k:Nat} {ys:List (List Rg×Option Addr×Nat)} (h:MvI ents at_ n k ys) (hk:k<ents.length) (h1:(thrF ents[k].now at_ n).2≠0):movedAll ents at_ n= .error (thrF ents[k].now at_ n).2:=by
 rw [h.eq,List.drop_eq_getElem_cons hk,movedAll,if_pos h1]
theorem MvI.next {ents:List Ent} {at_ n:Int} {k:Nat} {ys:List (List Rg×Option Addr×Nat)} (h:MvI ents at_ n k ys) (hk:k<ents.length) (h1: ¬(thrF ents[k].now at_ n).2≠0) (A:Option Addr) (c:Nat):MvI ents at_ n (k+1) (ys++ [((thrF ents[k].now at_ n).1,A,c)]):=by
 refine ⟨hk,by simp [h.len],?_⟩
 rw [h.eq,List.drop_eq_getElem_cons hk,movedAll,if_neg h1]
 cases movedAll (ents.drop (k+1)) at_ n with
 | error e=>rfl
 | ok ls=>simp
theorem MvI.done {ents:List Ent} {at_ n:Int} {k:Nat} {ys:List (List Rg×Option Addr×Nat)} (h:MvI ents at_ n k ys) (hk: ¬k<ents.length):movedAll ents at_ n= .ok (ys.map Prod.fst):=by
 rw [h.eq,List.drop_eq_nil_of_le (by have:=h.le;omega)]
 simp [movedAll]
theorem sls_reps {ys:List (List Rg×Option Addr×Nat)} {Z:Nat→Prop} {w:World} (h:(slsF ys).holds Z w):Reps (rsl.rep Z w) (ys.map Prod.fst) (ys.map fun x=> [slC x]):=by
 induction ys with
 | nil=>exact .nil
 | cons y ys ih=>exact .cons ⟨y.2.1,y.2.2,rfl,h y List.mem_cons_self⟩ (ih fun x hx=>h x (List.mem_cons_of_mem _ hx))
theorem sls_flat (ys:List (List Rg×Option Addr×Nat)):(ys.map fun x=> [slC x]).flatten=ys.map slC:=by
 induction ys with
 | nil=>rfl
 | cons y ys ih=>simp [ih]
def MvP (r:Except Int (List (List Rg))) (ps:List Part):Value→List Part→List Fact→Prop:=fun v Lo fs=>Lo=ps∧
 match r with
 | .error e=>v= .tuple #[.slice none 0 0, .int .i64 e] ∧fs= []
 | .ok ls=> ∃A c,v= .tuple #[.slice A ls.length c, .int .i64 0] ∧fs= [RdF rsl A c ls]
theorem Ey (h m cap:Nat) (A:Option Addr) (H:Hist) (L:List MR) (hr:HR H L) (at_ n:Int):Sp Tryz.prog 117 [.pointer (some ⟨h,0,none⟩), .int .i64 at_, .int .i64 n] [hdP h A H.ops.length cap m H.total,mpP m L,mkP L] [RdF opD A cap H.ops,AllF L nowF] (MvP (movedAll H.ents at_ n) [hdP h A H.ops.length cap m H.total,mpP m L,mkP L]):=by
 have hol:=KY H
 have hlen:=hr.len
 refine Sp.of (n:=55) ⟨_,Tryz.func117,O,O,O,O⟩ (Nat.le_of_ble_eq_true O) fun Ps As=>Jc (Ja (Lq (Jd O) (Lq (Jd O) (Je (Jf (Jc (Ja (Lq (Jb O) (Lq (JB O) (Lq (Jh (o':=0) Un125 O YV O O) (Lq (Jj Un44 O O Jm O) (Lq (J7 Un44 O) ?_))))))))))))
 refine Jg O (ZK Un199 Yd O O O (by omega) (by unfold maxLen;omega) (by decide) fun bo=>Lq (Jd O) (Je (Jf (Jc (Jc (Ja (Lq (Jb O) (Lq (JB O) (Lq (Jh (o':=0) Un125 O YV O O) (Lq (Jj Un44 O O (Ji (Jm)) O) (Lq (J7 Un44 O) (Lq (Jb O) (Je (Jf ?_))))))))))))))
 refine JL [(24,_),(23,_),(22,_),(8,_),(7,_),(6,_),(0,_),(1,_),(2,_)] (.m9 rfl rfl rfl rfl rfl rfl rfl rfl rfl) (JO (Kf (A:=slsF []) (fun Z w hs x hx=>by cases hx) ?_))
 refine Ki (α:=Nat×List (List Rg×Option Addr×Nat)) (fun (k,ys)=>H.ops.length-k)
  (fun (k,ys)=> [(0, .pointer (some ⟨h,0,none⟩)),(1, .int .i64 at_),(2, .int .i64 n),(8, .slice (some ⟨bo,0,none⟩) H.ops.length H.ops.length),(22, .slice A H.ops.length cap),(23, .int .i64 H.ops.length),(24, .int .i64 k)])
  (fun (k,ys)=>([(bo,JD (ys.map slC++List.replicate (H.ops.length-k) (Value.slice none 0 0)) 38)] ::hdP h A H.ops.length cap m H.total::mpP m L::mkP L::Ps))
  (fun (k,ys)=>(slsF ys::RdF opD A cap H.ops::AllF L nowF::As))
  (fun (k,ys)=>MvI H.ents at_ n k ys)
  (0,[]) ?_ (.m7 rfl rfl rfl rfl rfl rfl rfl) (Sk4 (Sr)) (fun _ h=>h) ?_
 ·exact ⟨Nat.zero_le _,rfl,by cases hq:movedAll H.ents at_ n<;>simp [hq]⟩
 ·rintro ⟨k,ys⟩ hI
  refine Jc (Ja (Lq (Ku O O) (Je (Jf (Jc (Jy O (fun h25=> ?_) (fun h25=> ?_)))))))
  ·refine Jp (Jf (Jc (JO (Jc ?_))))
   try simp only [Bp,Bq] at *
   have hke:k<H.ents.length:=by omega
   have hk:k<H.ops.length:=by omega
   have hop:=QB hke
   refine Kh (k:=k) Mm1 (List.getElem?_eq_getElem hk) (op_open _) fun b4 q4 y4 e4=> ?_
   cases e4
   refine Ja (Lq (Jb O) (Lq (Kc Un44 JF O O (by omega) (by omega)) (Lq (Kq (k:=0) (vs:= [_,_,_,_,_,_,_,_,_]) Un40 O JF O Mm0 O O O) (Jg O (Jv (cs:= [_,_,_,_,_,_,_,_,_]) JF O (by decide) fun b10=>Lq (Jd O) (Jg O (Jq (cs':= [_,_,_,_,_,_,_,_,_]) (vs:= [_,_,_,_,_,_,_,_,_]) JF O O O O O (Nat.le_of_ble_eq_true O) .z (Je (Jf (Jc ?_))))))))))
   obtain ⟨jm,xm,hjm,hxm,hgm⟩:=hr.look hke
   obtain ⟨xk,xb,xA,xc⟩:=xm
   obtain rfl:xk=markAt k H.ents[k] :=hxm
   rw [←hop] at hgm
   refine E8 _ Mm4 (List.mem_of_getElem? hjm) (JI _ _ [] (.c 0 0 (.c 1 0 (.c 2 0 (.c 3 0 (.c 4 0 (.c 5 0 (.c 6 0 (.c 7 0 (.c 8 0 (.c 9 0 (.c 10 0 (.c 11 0 (.c 12 0 (.c 13 2 (.c 14 0 (.c 15 0 (.c 16 0 (.c 17 0 (.c 18 0 .nil))))))))))))))))))) mixed (fun _ _ _ _ h=>h) (Sk5 (Sr)) (fun _ h=>h) (by kernel_rfl) (by decide) fun ws Z0=>Qe O (Jb O) (Qe O (JB O) (Qe O (Jh (o':=1) Un125 O YY O O) (Qe O (Jj Un123 O O (Ji (Ji (Jm))) O) (Qe O (Jh (o':=0) Un40 O KI O O) (Qe O (Jh (o':=0) Un37 O JY O O) ?_))))))
   refine Qe O (Jw (vs:= [_,_]) Un34 O JY O Jm O O) (Qe O (YN keyT hgm Un123 Y3 O O (Ji (Ji (Ji (Jm))))) (Qe O (JB O) (Qe O (Jh (o':=1) Un165 O Yd O O) (Qe O (Jj Un38 O O (Ji (Ji (Ji (Ji (ownI (Yq hjm)))))) O) (Qe O (Jb O) (Qe O (Jb O) (Js O O (Jo (V8 xA xc H.ents[k].now at_ n (hr.now _ (List.getElem_mem hke))) (.n3 O O O) (by decide) (Jl Mm1 Jx) fun _ _ _ q9=>?_))))))))
   obtain ⟨A3,c3,rfl,rfl,rfl⟩:=q9
   refine ⟨⟨(Sk5 (Sr)),Mm1⟩,?_⟩
   refine Qe O (Jb O) (Qe O (Jk (vs:= [_,_]) O O) (Qe O (Jk (vs:= [_,_]) O O) (Qe O (Jd O) (Qe O (Jd O) (JJ (JK (Jf (Jc (Jc (Ja (Lq (Jb O) (Lq (Kp O O) (Je (Jf ?_))))))))))))))
   refine Jy O (fun h47=> ?_) (fun h47=> ?_)
   ·refine Jc (Ja (Lq (Jb O) (Lq (Jd O) (Lq (Jd O) (Je (Jf (Jn (Jr (JM (Jr (Jr (JM (Jr ?_)))))))))))))
    refine ⟨_,[_,_,_],[],fun Z w hs=> .tmp O (.tmp O .nil),?_,fun Z w hs=>hs.out (Sd2 (Sk3 (Sr))) Tt6⟩
    try simp only [Bp,Bq] at *
    refine ⟨O,?_⟩
    rw [hI.err hke (by omega)]
    exact ⟨O,O⟩
   ·refine Jp (Jf ?_)
    try simp only [Bp,Bq] at *
    have hrep:List.replicate (H.ops.length-k) (Value.slice none 0 0)= .slice none 0 0::List.replicate (H.ops.length-(k+1)) (Value.slice none 0 0):=by rw [show H.ops.length-k=(H.ops.length-(k+1))+1 from by omega,List.replicate_succ]
    have hyl:=hI.len
    refine Ja (Lq (Jb O) (Lq (Jb O) (Lq (Jb O) (Lq (Yv Un199 Yd O O (by omega) (by omega)) (Jg O (K8 Yd O O O (by rw [List.length_append,List.length_map,List.length_replicate];omega) .z1 (Je (J9 (Jf ?_)))))))))
    have hcell:(ys.map slC++List.replicate (H.ops.length-k) (Value.slice none 0 0)).set ((k:Int).toNat* 1) (.slice A3 (thrF (H.ents[k].now) at_ n).1.length c3)=(ys++ [((thrF H.ents[k].now at_ n).1,A3,c3)]).map slC++List.replicate (H.ops.length-(k+1)) (Value.slice none 0 0):=by
     have hk0:(k:Int).toNat* 1=(ys.map slC).length:=by rw [List.length_map];omega
     rw [hk0,List.set_append_right _ _ (Nat.le_refl _),Nat.sub_self,hrep];simp [slC]
    refine Kf (A:=slsF (ys++ [((thrF H.ents[k].now at_ n).1,A3,c3)])) (fun Z w hs x hx=> ?_) ?_
    ·rcases List.mem_append.1 hx with hx | hx
     ·exact hs.facts _ Mm5 x hx
     ·obtain rfl:=List.mem_singleton.1 hx;exact hs.facts _ Mm0
    rw [hcell]
    refine Ja (Lq (JZ O O (wr64 (by omega))) (Lq (Jb O) (Je (Ko ?_))))
    refine ⟨(k+1,ys++ [((thrF H.ents[k].now at_ n).1,A3,c3)]),?_,(.m7 O O O O O O O),(Sd (Sk4 (Sr))),(Jl Mm0 Tt7)⟩
    exact ⟨by show H.ops.length-(k+1)<H.ops.length-k;omega,hI.next hke (by omega) A3 c3⟩
  ·refine Kr (JR (JR (Kg (Jf (Jc ?_)))))
   try simp only [Bp,Bq] at *
   have hyl:=hI.len
   have hle:=hI.le
   have hdone:=hI.done (by omega)
   refine Kf (A:=RepsF rsl (ys.map Prod.fst) (ys.map fun x=> [slC x])) (fun Z w hs=>sls_reps (hs.facts _ Mm0)) ?_
   have hrow:Row 38 rsl.sz (.slice (some ⟨bo,0,none⟩) H.ops.length H.ops.length) H.ops.length (ys.map fun x=> [slC x]).flatten [(bo,JD (ys.map slC++List.replicate (H.ops.length-k) (Value.slice none 0 0)) 38)] :=by
    rw [sls_flat]
    exact ⟨by rw [List.length_map];show _=_*1;omega, .inr ⟨bo,_,_,rfl,rfl,by rw [List.length_append,List.length_map,List.length_replicate];show _=_*1;omega,Nat.le_refl _,by unfold maxLen;omega⟩⟩
   refine KW (e:=rsl) (css:=ys.map fun x=> [slC x]) (xs:=ys.map Prod.fst) hrow .z (by rw [List.length_map];omega) Mm0 fun Ao co eo=> ?_
   obtain ⟨rfl,_,rfl⟩:=Value.slice.inj eo
   refine Ja (Lq (Jb O) (Lq (Jd O) (Lq (Jd O) (Je (Jf (Jn ?_))))))
   refine ⟨_,[_,_,_],[_],fun Z w hs=> .tmp O (.tmp O .nil),?_,fun Z w hs=>hs.out (Sk3 (Sr)) (Jl Mm0 Tt3)⟩
   refine ⟨O,?_⟩
   rw [hdone]
   exact ⟨_,_,by rw [List.length_map,hyl,show k=H.ops.length from by omega];rfl,rfl⟩
def OpR (r:GOp) (ps:List Part):Value→List Part→List Fact→Prop:=fun v Lo fs=> ∃(A':Option Addr) (c':Nat),v=opV r A' c'∧Lo=ps∧fs= [RdF rgD A' c' r.rs]
theorem bd28_1Xw15 (x1_:Int) (w:World):(Instr.build 37 #[(1, .int .i64 x1_)]).run Tryz.prog w= .ok (.agg #[.int .i64 0, .int .i64 0, .int .i64 x1_]) w:=by kernel_rfl
theorem bd31_0_3Xw15 (x0_0a0:Int) (x0_0a1:Int) (x0_1:Int) (x3_A:Option Addr) (x3_n x3_c:Nat) (w:World):(Instr.build 40 #[(0, .agg #[.int .i64 x0_0a0, .int .i64 x0_0a1, .int .i64 x0_1]),(3, .slice x3_A x3_n x3_c)]).run Tryz.prog w= .ok (.agg #[.int .i64 x0_0a0, .int .i64 x0_0a1, .int .i64 x0_1, .int .i64 0, .string ⟨#[]⟩, .slice x3_A x3_n x3_c, .int .i64 0, .int .i64 0, .bool false]) w:=by kernel_rfl
theorem H4 (h m cap:Nat) (A:Option Addr) (H:Hist) (L:List MR) (hr:HR H L) (xs:List GOp) (tot:Int) (hx:xs=H.ops) (j k:Nat) (xb:Nat) (xA:Option Addr) (xc:Nat) (hk:k<H.ents.length) (hj:L[j]? =some ⟨markAt k H.ents[k],xb,xA,xc⟩) (on:Bool):Sp Tryz.prog 96 [.pointer (some ⟨h,0,none⟩), .pointer (some ⟨xb,0,none⟩), .bool on] [hdP h A xs.length cap m tot,mkP L] [RdF opD A cap xs,AllF L nowF] (OpR (turnF H.ents[k] on) [hdP h A xs.length cap m tot,mkP L]):=by
 subst hx
 have hol:=KY H
 have hlen:=hr.len
 refine Sp.of (n:=31) ⟨_,Tryz.func96,O,O,O,O⟩ (Nat.le_of_ble_eq_true O) fun Ps As=>Jc (Ja (Jg O (Jv (cs:= [_,_,_,_,_,_,_,_,_]) JF O (by decide) fun b6=>Je (Jf (Jc (Ja (Lq (Jd O) (Je (Jf (Jc (Jc ?_)))))))))))
 have hko:k<H.ops.length:=by omega
 have hop:=QB hk
 refine Kh (k:=k) Mm0 (List.getElem?_eq_getElem hko) (op_open _) fun bo qo yo eo=> ?_
 cases eo
 refine E8 _ Mm3 (List.mem_of_getElem? hj) (JI _ _ [] (.c 0 0 (.c 1 0 (.c 2 0 (.c 3 0 (.c 4 0 (.c 5 0 (.c 6 0 (.c 7 0 (.c 8 0 (.c 9 0 (.c 10 0 (.c 11 0 (.c 12 0 (.c 13 0 (.c 14 0 .nil))))))))))))))) mixed (fun _ _ _ _ h=>h) (Sk3 (Sr)) (fun _ h=>h) (by kernel_rfl) (by decide) fun ws Z0=>Qe O (Jb O) (Qe O (JB O) (Qe O (Jh (o':=0) Un125 O YV O O) (Qe O (Jj Un44 O O (Ji (Jm)) O) (Qe O (Jb O) (Qe O (JB O) (Qe O (Jh (o':=0) Un165 O ti3 O O) (Qe O (Jj (v:= .int .i64 (k:Int)) Un3 O O (Ji (Ji (ownI (Yq hj)))) O) ?_))))))))
 refine Qe O (Kc Un44 JF O O (by omega) (by omega)) (Qe O (Jh (o':=_+0) Un40 O KI O O) (Qe O (Jh (o':=_+2) Un37 O Yu O O) (Qe O (Ks (j:=2) Un35 O O Mm1 O O) (Qe O (Ka O O) (Qe O (Jb O) (Qe O (q_beql' Un4 O O) (JJ (JK (Jf (JL [(22,_),(7,_),(6,_),(1,_)] (.m4 O O O O) ?_))))))))))
 refine Jy O (fun h22=> ?_) (fun h22=> ?_)
 ·refine Ja (Lq (Jd O) (Je (Jf (Jc (Ja (Lq (Jb O) (Lq (JV (.n1 O) (bd28_1Xw15 _)) (Lq (Jb O) (Lq (JB O) (Lq (Jh (o':=1) Un165 O Yd O O) (Lq (Jj Un38 O O (Ji (Ji (ownI (Yq hj)))) O) (Lq (JV (.n2 O O) (bd31_0_3Xw15 _ _ _ _ _ _)) ?_))))))))))))
  refine Jg rfl (Jo (Y1 { zeroOp with kind:=2,rs:=H.ents[k].now } xA xc (hr.now _ (List.getElem_mem hk))) (.n1 rfl) (by decide) (Jl Mm1 Jx) fun _ _ _ q9=>?_)
  obtain ⟨A1,c1,rfl,rfl,rfl⟩:=q9
  refine Jg O (Jq (cs':= [_,_,_,_,_,_,_,_,_]) (vs:= [_,_,_,_,_,_,_,_,_]) JF O O O O O (Nat.le_of_ble_eq_true O) .z (Je (Jf (Jn ?_))))
  refine ⟨_,[_,_],[_],fun Z w hs=>JS hs Un40 O JF O Jm O .nil,?_,fun Z w hs=>hs.out (Sd (Sk2 (Sr))) (Jl Mm0 Tt5)⟩
  try simp only [Bp,Bq] at *
  rw [hop] at h22
  have hT:turnF H.ents[k] on= { zeroOp with kind:=2,rs:=H.ents[k].now } :=by unfold turnF;cases on<;>simp_all
  exact ⟨A1,c1,by rw [hT];rfl,O,by rw [hT]⟩
 ·refine Jp (Jf (Jc (Ja (Lq (Jb rfl) (Lq (JV (.n1 rfl) (bd28_1Xw15 _)) (Lq (Jb rfl) (Lq (JB rfl) (Lq (Jh (o':=1) Un165 rfl Yd rfl rfl) (Lq (Jj Un38 rfl rfl (Ji (Ji (ownI (Yq hj)))) rfl) (Lq (JV (.n2 rfl rfl) (bd31_0_3Xw15 _ _ _ _ _ _)) (Jg rfl (Jo (Y1 { zeroOp with kind:=3,rs:=H.ents[k].now } xA xc (hr.now _ (List.getElem_mem hk))) (.n1 rfl) (by decide) (Jl Mm1 Jx) fun _ _ _ q9=>?_))))))))))))
  obtain ⟨A1,c1,rfl,rfl,rfl⟩:=q9
  refine Jg O (Jq (cs':= [_,_,_,_,_,_,_,_,_]) (vs:= [_,_,_,_,_,_,_,_,_]) JF O O O O O (Nat.le_of_ble_eq_true O) .z (Je (Jf (Jn ?_))))
  refine ⟨_,[_,_],[_],fun Z w hs=>JS hs Un40 O JF O Jm O .nil,?_,fun Z w hs=>hs.out (Sd (Sk2 (Sr))) (Jl Mm0 Tt5)⟩
  try simp only [Bp,Bq] at *
  rw [hop] at h22
  have hT:turnF H.ents[k] on= { zeroOp with kind:=3,rs:=H.ents[k].now } :=by unfold turnF;cases on<;>simp_all
  exact ⟨A1,c1,by rw [hT];rfl,O,by rw [hT]⟩
def TdP (H:Hist) (i:Nat) (o:GOp) (h m cap:Nat) (A:Option Addr) (L:List MR):Value→List Part→List Fact→Prop:=fun v Lo fs=>
 ∃(L':List MR) (A':Option Addr) (c':Nat),HR ⟨(turnedF H i o).1,H.total⟩ L'∧keys L'=keys L∧v=opV (turnedF H i o).2 A' c'∧Lo= [hdP h A H.ops.length cap m H.total,mpP m L,mkP L'] ∧fs= [RdF rgD A' c' (turnedF H i o).2.rs,AllF L' nowF]
structure TdI (H:Hist) (i:Nat) (o:GOp) (k:Nat):Prop where
 le:k≤(H.ops.drop i).length
 eq:Qh (H.ents.drop i) o.tc o.tn=Qh (H.ents.drop (i+k)) o.tc o.tn
theorem Xq (e:Ent) (l:List Ent) (c n:Int):Qh (e::l) c n=((decide (e.op.kind=4) && (decide (e.op.tc=c) && decide (e.op.tn=n))) || Qh l c n):=rfl
theorem TdI.hit {H:Hist} {i:Nat} {o:GOp} {k:Nat} (h:TdI H i o k) (hk:i+k<H.ents.length) (h1:H.ents[i+k].op.kind=4∧H.ents[i+k].op.tc=o.tc∧H.ents[i+k].op.tn=o.tn):Qh (H.ents.drop i) o.tc o.tn=true:=by
 rw [h.eq,List.drop_eq_getElem_cons hk,Xq];simp [h1]
theorem TdI.next {H:Hist} {i:Nat} {o:GOp} {k:Nat} (h:TdI H i o k) (hk:i+k<H.ents.length) (h1: ¬(H.ents[i+k].op.kind=4∧H.ents[i+k].op.tc=o.tc∧H.ents[i+k].op.tn=o.tn)):TdI H i o (k+1):=by
 refine ⟨by rw [List.length_drop,KY];omega,?_⟩
 rw [h.eq,List.drop_eq_getElem_cons hk,Xq]
 have:(decide (H.ents[i+k].op.kind=4) && (decide (H.ents[i+k].op.tc=o.tc) && decide (H.ents[i+k].op.tn=o.tn)))=false:=by
  rw [Bool.eq_false_iff];intro hh;simp at hh;exact h1 hh
 rw [this,Bool.false_or];rfl
theorem TdI.done {H:Hist} {i:Nat} {o:GOp} {k:Nat} (h:TdI H i o k) (hk: ¬i+k<H.ents.length):Qh (H.ents.drop i) o.tc o.tn=false:=by
 rw [h.eq,List.drop_eq_nil_of_le (by omega)];rfl
theorem HB {H:Hist} {i:Nat} {o:GOp} (h:Qh (H.ents.drop i) o.tc o.tn=true):turnedF H i o=(H.ents,zeroOp):=by unfold turnedF;rw [if_pos h]
theorem HA {H:Hist} {i:Nat} {o:GOp} {k:Nat} (h:Qh (H.ents.drop i) o.tc o.tn=false) (hw:J5 H.ents o.tc o.tn=some k) (hk:k<H.ents.length) (h2:H.ents[k].off= !o.on):turnedF H i o=(H.ents,zeroOp):=by
 unfold turnedF;rw [if_neg (by rw [h];decide),hw];simp only [List.getElem?_eq_getElem hk,if_pos h2]
theorem Hz {H:Hist} {i:Nat} {o:GOp} {k:Nat} (h:Qh (H.ents.drop i) o.tc o.tn=false) (hw:J5 H.ents o.tc o.tn=some k) (hk:k<H.ents.length) (h2: ¬H.ents[k].off= !o.on):turnedF H i o=(H.ents.set k (offE H.ents[k] (!o.on)),turnF H.ents[k] o.on):=by
 unfold turnedF;rw [if_neg (by rw [h];decide),hw];simp only [List.getElem?_eq_getElem hk,if_neg h2]
theorem bd31Xw15 (w:World):(Instr.build 40 #[]).run Tryz.prog w= .ok (.agg #[.int .i64 0, .int .i64 0, .int .i64 0, .int .i64 0, .string ⟨#[]⟩, .slice none 0 0, .int .i64 0, .int .i64 0, .bool false]) w:=by kernel_rfl
theorem H3 (h m cap:Nat) (A:Option Addr) (H:Hist) (L:List MR) (hr:HR H L) (i:Nat) (hi:i≤H.ents.length) (o:GOp) (Ao:Option Addr) (co k:Nat) (hw:J5 H.ents o.tc o.tn=some k):Sp Tryz.prog 118 [.pointer (some ⟨h,0,none⟩), .int .i64 i,opV o Ao co] [hdP h A H.ops.length cap m H.total,mpP m L,mkP L] [RdF opD A cap H.ops,AllF L nowF] (TdP H i o h m cap A L):=by
 have hol:=KY H
 have hlen:=hr.len
 obtain ⟨hk,j,x,hc,hn,hj,hm,hg⟩:=hr.look1 hw
 obtain ⟨xm,xb,xA,xc⟩:=x
 obtain rfl:xm=markAt k H.ents[k] :=hm
 refine Sp.of (n:=61) ⟨_,Tryz.func118,O,O,O,O⟩ (Nat.le_of_ble_eq_true O) fun Ps As=>Jc (Ja (Jg O (J1 (cs:= [_,_,_,_,_,_,_,_,_]) O O (by decide) fun b5=>Jg O (Jv (cs:= [_,_,_,_,_,_,_,_,_]) JF O (by decide) fun b6=>Je (Jf (Jc (Jc (Kf (A:=RdF rgD none 0 []) (fun Z w hs=>RdS.nil _ _ _) (V5 Mm1 fun hcap hcap2=> ?_)))))))))
 obtain ⟨B,hB⟩: ∃B,B=cutA A i cap 9:=⟨_,rfl⟩
 have hdl:H.ops.length-i=(H.ops.drop i).length:=by rw [List.length_drop]
 refine Kf (A:=RdF opD B (cap-i) (H.ops.drop i)) (fun Z w hs=>by rw [hB];have h1:=RdS.cut (lo:=i) (hi:=H.ops.length) (m:=cap) (hs.facts _ Mm1) (by omega) (by omega) (by omega) (Nat.le_refl _);rw [List.take_length] at h1;exact h1) (Ja (Lq (Jb O) (Lq (JB O) (Lq (Jh (o':=0) Un125 O YV O O) (Lq (Jj Un44 O O (Ji (Ji (Jm))) O) (Lq (Jb O) (Lq (G4 Un44 JF O O (by omega) (by omega)) (Lq (J7 Un44 O) (Lq (Jb O) ?_)))))))))
 refine Je (Jf (JO ?_))
 refine Ki (α:=Nat) (fun q=>(H.ops.drop i).length-q)
  (fun q=> [(0, .pointer (some ⟨h,0,none⟩)),(5, .pointer (some ⟨b5,0,none⟩)),(6, .pointer (some ⟨b6,0,none⟩)),(15, .slice B (H.ops.drop i).length (cap-i)),(16, .int .i64 (H.ops.drop i).length),(17, .int .i64 q)])
  (fun q=>([(b6,JD (opC zeroOp none 0) 40)] :: [(b5,JD (opC o Ao co) 40)] ::hdP h A H.ops.length cap m H.total::mpP m L::mkP L::Ps))
  (fun q=>(RdF opD B (cap-i) (H.ops.drop i)::RdF rgD none 0 [] ::RdF opD A cap H.ops::AllF L nowF::As))
  (fun q=>TdI H i o q)
  0 ?_ (.m6 rfl rfl rfl (by rw [hB,←hdl];rfl) (by rw [←hdl];rfl) rfl) (Sk5 (Sr)) (fun _ h=>h) ?_
 ·exact ⟨Nat.zero_le _,O⟩
 ·rintro q hI
  refine Jc (Ja (Lq (Ku O O) (Je (Jf (Jc (Jy O (fun h18=> ?_) (fun h18=> ?_)))))))
  ·refine Jp (Jf (Jc (JO (Jc ?_))))
   try simp only [Bp,Bq] at *
   have hq:q<(H.ops.drop i).length:=by omega
   have hqe:i+q<H.ents.length:=by rw [List.length_drop] at hq;omega
   have hop:(H.ops.drop i)[q] =H.ents[i+q].op:=by rw [List.getElem_drop,QB]
   refine Kh (k:=q) Mm0 (List.getElem?_eq_getElem hq) (op_open _) fun b3 q3 y3 e3=> ?_
   cases e3
   refine Ja (Lq (Kc Un44 JF O O (by omega) (by omega)) (Lq (Kq (k:=0) (vs:= [_,_,_,_,_,_,_,_,_]) Un40 O JF O Mm0 O O O) (Jg O (Jv (cs:= [_,_,_,_,_,_,_,_,_]) JF O (by decide) fun b8=>Jg O (Jq (cs':= [_,_,_,_,_,_,_,_,_]) (vs:= [_,_,_,_,_,_,_,_,_]) JF O O O O O (Nat.le_of_ble_eq_true O) .z (Je (Jf (Jc (Ja (Lq (Jh (o':=0) Un40 O KI O O) (Lq (Jh (o':=2) Un37 O Yu O O) (Lq (Jj Un35 O O Jm O) (Lq (Ka O O) ?_)))))))))))))
   refine Lq (Jb O) (JU (t:=25) O (fun g25=> ?_) (fun g25=> ?_))
   ·refine Lg O O O g25 (Jh (o':=6) Un40 O JY O O) (Lg O O O g25 (Jw (vs:= [_,_]) Un34 O JY O Jm O O) (Lg O O O g25 (Jh (o':=6) Un40 O JY O O) (Lg O O O g25 (Jw (vs:= [_,_]) Un34 O JY O (Ji (Ji (Jm))) O O) (Lg O O O g25 (Qd O O (eq34 _ _ _ _)) (Lq (JH O g25 O) (Je (Jf (Jy O (fun h31=> ?_) (fun h31=> ?_)))))))))
    ·refine Jc (Ja (Lq (JV .nil (bd31Xw15)) (Jg O (Jq (cs':= [_,_,_,_,_,_,_,_,_]) (vs:= [_,_,_,_,_,_,_,_,_]) JF O O O O O (Nat.le_of_ble_eq_true O) .z1 (Je (Jf (Jn (JM (Jr (Jr (JM (Jr ?_))))))))))))
     refine ⟨_,[_,_,_],[_,_],fun Z w hs=>JS hs Un40 O JF O (Ji (Jm)) O .nil,?_,fun Z w hs=>hs.out (Sd3 (Sk3 (Sr))) (Jl Mm3 (Jl Mm5 Tt4))⟩
     try simp only [Bp,Bq] at *
     have hF:turnedF H i o=_:=HB (hI.hit hqe (by rw [←hop];exact ⟨g25,h31.1,h31.2⟩))
     exact ⟨L,none,0,by rw [hF];exact hr,O,by rw [hF];rfl,O,by rw [hF];rfl⟩
    ·refine Jp (J9 (Jf (Ja (Lq (JZ O O (wr64 (by omega))) (Lq (Jb O) (Je (Ko ?_)))))))
     try simp only [Bp,Bq] at *
     refine ⟨q+1,?_,(.m6 O O O O O O),(Sd (Sk5 (Sr))),Tt2⟩
     exact ⟨by omega,hI.next hqe (fun ⟨e1,e2,e3⟩=>by rw [←hop] at e1 e2 e3;first | exact absurd e1 g25 | (rcases h31 with h31 | h31;exact h31 e2;exact h31 e3))⟩
   ·refine Ln O O O g25 (Ln O O O g25 (Ln O O O g25 (Ln O O O g25 (Ln O O O g25 (Lq (JA O g25 O) (Je (Jf (Jz O O (Jp (J9 (Jf (Ja (Lq (JZ O O (wr64 (by omega))) (Lq (Jb O) (Je (Ko ?_))))))))))))))))
    try simp only [Bp,Bq] at *
    refine ⟨q+1,?_,(.m6 O O O O O O),(Sd (Sk5 (Sr))),Tt2⟩
    exact ⟨by omega,hI.next hqe (fun ⟨e1,e2,e3⟩=>by rw [←hop] at e1 e2 e3;first | exact absurd e1 g25 | (rcases h31 with h31 | h31;exact h31 e2;exact h31 e3))⟩
  ·refine Kr (JR (JR (Kg (Jf (Jc (JI _ _ [] (.c 0 0 (.c 1 0 (.c 2 0 (.c 3 0 (.c 4 0 (.c 5 0 (.c 6 0 (.c 7 0 .nil)))))))) mixed (fun _ _ _ _ h=>h) (Sk5 (Sr)) (fun _ h=>h) (by kernel_rfl) (by decide) fun ws Z0=>Qe O (Jb O) (Qe O (JB O) (Qe O (Jh (o':=1) Un125 O YY O O) (Qe O (Jj Un123 O O (Ji (Ji (Jm))) O) (Qe O (Jh (o':=6) Un40 O JY O O) (Qe O (Jw (vs:= [_,_]) Un34 O JY O (Ji (Jm)) O O) (Qe O (YN keyT hg Un123 Y3 O O (Ji (Ji (Ji (Jm))))) (Qe O (Jd O) ?_)))))))))))))
   refine JJ (JK (Jf (JL [(9,_),(0,_),(5,_),(6,_)] (.m4 O O O O) (Jc (Jc (JI _ _ [] (.c 0 0 (.c 1 0 (.c 2 0 (.c 3 0 (.c 4 0 (.c 5 0 (.c 6 0 (.c 7 0 .nil)))))))) mixed (fun _ _ _ _ h=>h) (Sk5 (Sr)) (fun _ h=>h) (by kernel_rfl) (by decide) fun ws Z0=>Qe O (Jb O) (Qe O (JB O) (Qe O (Jh (o':=2) Un165 O ti4 O O) (Qe O (Jj (v:= .bool H.ents[k].off) Un4 O O (Ji (Ji (Ji (Ji (ownI (Yq hj)))))) O) (Qe O (Jh (o':=8) Un40 O ti4 O O) ?_))))))))))
   refine Qe O (Jj Un4 O O (Ji (Jm)) O) (Qe O (KC O) (Qe O (q_beql' Un4 O O) (JJ (JK (Jf (Jy O (fun h48=> ?_) (fun h48=> ?_)))))))
   ·refine Jc (Ja (Lq (JV .nil (bd31Xw15)) (Jg O (Jq (cs':= [_,_,_,_,_,_,_,_,_]) (vs:= [_,_,_,_,_,_,_,_,_]) JF O O O O O (Nat.le_of_ble_eq_true O) .z (Je (Jf (Jn (Jr ?_))))))))
    refine ⟨_,[_,_,_],[_,_],fun Z w hs=>JS hs Un40 O JF O Jm O .nil,?_,fun Z w hs=>hs.out (Sd2 (Sk3 (Sr))) (Jl Mm3 (Jl Mm5 Tt4))⟩
    try simp only [Bp,Bq] at *
    have hF:turnedF H i o=_:=HA (hI.done (by have:=hI.le;rw [List.length_drop] at this;omega)) hw hk (by simpa using h48)
    exact ⟨L,none,0,by rw [hF];exact hr,O,by rw [hF];rfl,O,by rw [hF];rfl⟩
   ·refine Jp (Jf (Jc (Ja (Lq (Jb O) (Lq (Jh (o':=8) Un40 O ti4 O O) (Lq (Jj Un4 O O (Ji (Jm)) O) (Lq (KC O) (Lq (JB O) (Lq (Jh (o':=2) Un165 O ti4 O O) (Jg O (Xg (i:=j) ti4 O O O (XH hj) .z2 .z4 (Je (Jf (JL [(9,_),(0,_),(5,_),(6,_)] (.m4 O O O O) ?_))))))))))))))
    refine Jc ?_
    try simp only [Bp,Bq] at *
    have hmk:(mkP L).set j (xb,JD [.int .i64 (markAt k H.ents[k]).num, .slice xA (markAt k H.ents[k]).now.length xc, .bool (!o.on)] 165)=mkP (L.set j ⟨markAt k (offE H.ents[k] (!o.on)),xb,xA,xc⟩):=by rw [G7];rfl
    rw [hmk]
    have hr':=hr.upd hk hj rfl (offE H.ents[k] (!o.on)) rfl (hr.now H.ents[k] (List.getElem_mem hk)) xA xc
    refine Kf (A:=AllF (L.set j ⟨markAt k (offE H.ents[k] (!o.on)),xb,xA,xc⟩) nowF) (fun Z w hs=>G6 (hs.facts _ Mm5) (hs.facts _ Mm5 ⟨markAt k H.ents[k],xb,xA,xc⟩ (List.mem_of_getElem? hj))) (Ja (Lq (Jb O) (Lq (Jb O) (Lq (Jh (o':=8) Un40 O ti4 O O) (Lq (Jj Un4 O O (Ji (Jm)) O) ?_)))))
    refine Jg rfl (J4 (H4 h m cap A _ _ hr' H.ops H.total (Gb hk (offE H.ents[k] (!o.on)) rfl H.total).symm j k xb xA xc (by simpa using hk) (by rw [List.getElem?_set_self (by rcases Nat.lt_or_ge j L.length with hh | hh;exact hh;rw [List.getElem?_eq_none hh] at hj;cases hj)];simp) o.on) (.n3 rfl rfl rfl) (by decide) .z2 .z3 (Jl Mm5 (Jl Mm0 Jx)) fun _ _ _ q9=>?_)
    obtain ⟨A1,c1,rfl,rfl,rfl⟩:=q9
    refine Jg O (Jq (cs':= [_,_,_,_,_,_,_,_,_]) (vs:= [_,_,_,_,_,_,_,_,_]) JF O O O O O (Nat.le_of_ble_eq_true O) .z2 (Je (Jf (Jn ?_))))
    refine ⟨_,[_,_,_],[_,_],fun Z w hs=>JS hs Un40 O JF O (Ji (Ji (Jm))) O .nil,?_,fun Z w hs=>(((hs.pick .z1).pick .z4).pick .z2).out (Sk3 (Sd2 (Sr))) (Jl Mm0 (Jl Mm1 Tt6))⟩
    have hF:=Hz (hI.done (by have:=hI.le;rw [List.length_drop] at this;omega)) hw hk (by simpa using h48)
    refine ⟨L.set j ⟨markAt k (offE H.ents[k] (!o.on)),xb,xA,xc⟩,A1,c1,by rw [hF];exact hr',X8 hj O O O,?_,O,?_⟩
    ·rw [hF];simp only [List.getElem_set_self];rfl
    ·rw [hF];simp only [List.getElem_set_self];rfl
end Go.Proofs.YthkkklphanidjaaGreatDoor
