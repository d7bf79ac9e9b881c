/- Part of the proof that this claim's law answers true, whatever its arguments. Condition: the laid variables hold what their initialisers lay (the card ties that to the program's text). -/
import Derived.Laws.OwnMore
import Derived.Test.YthkkklphanidjaaGreatDoorQD
set_option maxRecDepth 10000
set_option linter.unusedVariables false
set_option linter.unusedSimpArgs false
open Go.Proofs.Tryz renaming underlying1→Un1,underlying3→Un3,underlying4→Un4,underlying9→Un9,underlying20→Un20,underlying21→Un21,underlying23→Un23,underlying24→Un24,underlying26→Un26,underlying27→Un27,underlying29→Un29,underlying34→Un34,underlying35→Un35,underlying37→Un37,underlying38→Un38,underlying40→Un40,underlying42→Un42,underlying43→Un43,underlying44→Un44,underlying45→Un45,underlying47→Un47,underlying54→Un54,underlying55→Un55,underlying56→Un56,underlying58→Un58,underlying61→Un61,underlying63→Un63,underlying65→Un65,underlying86→Un86,underlying92→Un92,underlying114→Un114,underlying117→Un117,underlying121→Un121,underlying123→Un123,underlying125→Un125,underlying126→Un126,underlying128→Un128,underlying132→Un132,underlying134→Un134,underlying138→Un138,underlying143→Un143,underlying144→Un144,underlying149→Un149,underlying152→Un152,underlying153→Un153,underlying155→Un155,underlying161→Un161,underlying165→Un165,underlying169→Un169,underlying185→Un185,underlying186→Un186,underlying188→Un188,underlying194→Un194,underlying199→Un199,underlying233→Un233
namespace Go.Proofs.YthkkklphanidjaaGreatDoor
open Go Go.GW
def u8w (x:Int):Int:=IntKind.u8.wrap x
def encI (r:Int):List Int:=
 if IntKind.u32.wrap r≤127 then [u8w r]
 else if IntKind.u32.wrap r≤2047 then [bits .or .u8 192 (u8w (r.fdiv (2 ^ 6))),bits .or .u8 128 (bits .and .u8 (u8w r) 63)]
 else if IntKind.u32.wrap r<55296∨(57343<IntKind.u32.wrap r∧IntKind.u32.wrap r≤65535) then [bits .or .u8 224 (u8w (r.fdiv (2 ^ 12))),bits .or .u8 128 (bits .and .u8 (u8w (r.fdiv (2 ^ 6))) 63),bits .or .u8 128 (bits .and .u8 (u8w r) 63)]
 else if IntKind.u32.wrap r>65535∧IntKind.u32.wrap r≤1114111 then [bits .or .u8 240 (u8w (r.fdiv (2 ^ 18))),bits .or .u8 128 (bits .and .u8 (u8w (r.fdiv (2 ^ 12))) 63),bits .or .u8 128 (bits .and .u8 (u8w (r.fdiv (2 ^ 6))) 63),bits .or .u8 128 (bits .and .u8 (u8w r) 63)]
 else [239,191,189]
theorem u8_range (x:Int):0≤IntKind.u8.wrap x∧IntKind.u8.wrap x<256:=by
 have h:IntKind.u8.wrap x=x % 256:=rfl
 rw [h];omega
theorem or_range (a b:Int):0≤bits .or .u8 a b∧bits .or .u8 a b<256:=u8_range _
theorem encI_by (r:Int):By (encI r):=by
 have h1:=u8_range r
 intro x hx
 unfold encI at hx
 split at hx
 ·simp only [List.mem_singleton] at hx;subst hx;exact h1
 ·split at hx
  ·simp only [List.mem_cons,List.not_mem_nil,or_false] at hx;rcases hx with rfl | rfl<;>exact or_range _ _
  ·split at hx
   ·simp only [List.mem_cons,List.not_mem_nil,or_false] at hx;rcases hx with rfl | rfl | rfl<;>exact or_range _ _
   ·split at hx
    ·simp only [List.mem_cons,List.not_mem_nil,or_false] at hx;rcases hx with rfl | rfl | rfl | rfl<;>exact or_range _ _
    ·simp only [List.mem_cons,List.not_mem_nil,or_false] at hx;omega
theorem Gd (r:Int):1≤(encI r).length∧(encI r).length≤4:=by
 unfold encI
 split
 ·simp
 ·split
  ·simp
  ·split
   ·simp
   ·split<;>simp
theorem GJ {a b:List Int} (ha:By a) (hb:By b):By (a++b):=fun x hx=>(List.mem_append.1 hx).elim (ha x) (hb x)
abbrev blP (b:Nat) (ad:Option Addr) (v:Value):Part:= [(b,JD [.pointer ad,v] 155)]
theorem cv32 (x:Int) (w:World):(convert 21 222 (.int .i32 x)).run Tryz.prog w= .ok (.int .u32 (IntKind.u32.wrap x)) w:=by kernel_rfl
theorem cv8 (x:Int) (w:World):(convert 21 5 (.int .i32 x)).run Tryz.prog w= .ok (.int .u8 (u8w x)) w:=by kernel_rfl
theorem bs122_2 (a b:Int) (w:World):(Instr.buildSlice 153 2 #[(0, .int .u8 a),(1, .int .u8 b)]).run Tryz.prog w= .ok (.slice (some ⟨w.heap.size,0,none⟩) 2 2) (w.alloc (JD [.int .u8 a, .int .u8 b] 5)):=by kernel_rfl
theorem bs122_3 (a b c:Int) (w:World):(Instr.buildSlice 153 3 #[(0, .int .u8 a),(1, .int .u8 b),(2, .int .u8 c)]).run Tryz.prog w= .ok (.slice (some ⟨w.heap.size,0,none⟩) 3 3) (w.alloc (JD [.int .u8 a, .int .u8 b, .int .u8 c] 5)):=by kernel_rfl
theorem bs122_4 (a b c d:Int) (w:World):(Instr.buildSlice 153 4 #[(0, .int .u8 a),(1, .int .u8 b),(2, .int .u8 c),(3, .int .u8 d)]).run Tryz.prog w= .ok (.slice (some ⟨w.heap.size,0,none⟩) 4 4) (w.alloc (JD [.int .u8 a, .int .u8 b, .int .u8 c, .int .u8 d] 5)):=by kernel_rfl
theorem Jbc (v:Value) (w:World):(callFunc 127 #[v]).run Tryz.prog w= .ok (.value v) w:=by kernel_rfl
def BwP (us:List Int):Value→List Part→List Fact→Prop:=fun v Lo fs=> ∃p,Row 5 1 v us.length (ints .u8 us) p∧Lo= [p] ∧fs= []
theorem ZH (v:Value) (us:List Int) (p:Part) (r:Int) (hr:Row 5 1 v us.length (ints .u8 us) p) (hb:us.length≤1073741824) (hn: ¬IntKind.u32.wrap r≤127):Sp Tryz.prog 128 [v, .int .i32 r] [p] [] (BwP (us++encI r)):=by
 refine Sp.of (n:=78) ⟨_,Tryz.func128,O,O,O,O⟩ (Nat.le_of_ble_eq_true O) fun Ps As=>Jc (Ja (Lq (Jd O) (Je (Jf (Jc (Ja (Lq (Jb O) (Lq (Yo O (cv32 _)) (Lq (Jd O) (Je (Jf (JO (Jc (Ja (Lq (Jb O) (Lq (YK O O) ?_))))))))))))))))
 refine Lq (Jd O) (Je (Jf (Jy O (fun h11=> ?_) (fun h11=> ?_))))
 ·refine Jc (Ja (Lq (Jb O) (Lq (Jb O) (Lq (Vq O O (by decide) O) (Lq (Yo O (cv8 _)) (Lq (VI O O O) (Lq (Jb O) (Lq (Yo O (cv8 _)) (Lq (Vj O O O) (Lq (VI O O O) ?_))))))))))
  refine Jg O (Yx (cs:= [_,_]) (.n2 O O) (fun w=>bs122_2 _ _ w) (by decide) fun b23=>Jg O (Yt (m:=2) (news:= [_,_]) Un153 ti5 O (by decide) O O hr Jm O O (by omega) (by unfold maxLen;omega) (by decide) (DelAt.perm .z1) fun v24 p24 hr24=>Lq (Jd O) (Je (Jf (Jn (JM ?_))))))
  refine ⟨_,[_],[],fun Z w hs=> .tmp O .nil,?_,fun Z w hs=>hs.out (Sk (Sd (Sr))) (fun _ h=>h)⟩
  try simp only [Bp,Bq] at *
  refine ⟨_,?_,O,O⟩
  unfold encI
  rw [if_neg (by omega),if_pos (by omega)]
  rw [List.length_append,KX]
  exact hr24
 ·refine Jc (Jc (Ja (Lq (Jb O) (Lq (Ku O O) (Lq (Jd O) (Je (Jf (Jy O (fun h25=> ?_) (fun h25=> ?_)))))))))
  ·refine Jp (Jf (JQ O h25 (Jc (Ja (Lq (Jb O) (Lq (Jb O) (Lq (Vq O O (by decide) O) (Lq (Yo O (cv8 _)) (Lq (VI O O O) (Lq (Jb O) (Lq (Vq O O (by decide) O) ?_)))))))))))
   refine Lq (Yo O (cv8 _)) (Lq (Vj O O O) (Lq (VI O O O) (Lq (Jb O) (Lq (Yo O (cv8 _)) (Lq (Vj O O O) (Lq (VI O O O) (Jg O (Yx (cs:= [_,_,_]) (.n3 O O O) (fun w=>bs122_3 _ _ _ w) (by decide) fun b48=>Jg O (Yt (m:=3) (news:= [_,_,_]) Un153 ti5 O (by decide) O O hr Jm O O (by omega) (by unfold maxLen;omega) (by decide) (DelAt.perm .z1) fun v49 p49 hr49=>Lq (Jd O) ?_)))))))))
   refine Je (Jf (Jn (JM ?_)))
   refine ⟨_,[_],[],fun Z w hs=> .tmp O .nil,?_,fun Z w hs=>hs.out (Sk (Sd (Sr))) (fun _ h=>h)⟩
   try simp only [Bp,Bq] at *
   refine ⟨_,?_,O,O⟩
   unfold encI
   rw [if_neg (by omega),if_neg (by omega),if_pos (by omega)]
   rw [List.length_append,KX]
   exact hr49
  ·refine Ja (Lq (Jb O) (Lq (Ku O O) (Lq (Jb O) (JU (t:=30) O (fun g30=> ?_) (fun g30=> ?_)))))
   ·refine Lg O O O g30 (Jb O) (Lg O O O g30 (YK O O) (Lq (JH O g30 O) (Lq (Jd O) (Je (Jf (Jy O (fun h25=> ?_) (fun h25=> ?_)))))))
    ·refine Jc (Ja (Lq (Jb O) (Lq (Jb O) (Lq (Vq O O (by decide) O) (Lq (Yo O (cv8 _)) (Lq (VI O O O) (Lq (Jb O) (Lq (Vq O O (by decide) O) (Lq (Yo O (cv8 _)) (Lq (Vj O O O) ?_))))))))))
     refine Lq (VI O O O) (Lq (Jb O) (Lq (Yo O (cv8 _)) (Lq (Vj O O O) (Lq (VI O O O) (Jg O (Yx (cs:= [_,_,_]) (.n3 O O O) (fun w=>bs122_3 _ _ _ w) (by decide) fun b48=>Jg O (Yt (m:=3) (news:= [_,_,_]) Un153 ti5 O (by decide) O O hr Jm O O (by omega) (by unfold maxLen;omega) (by decide) (DelAt.perm .z1) fun v49 p49 hr49=>Lq (Jd O) (Je (Jf (Jn (JM ?_)))))))))))
     refine ⟨_,[_],[],fun Z w hs=> .tmp O .nil,?_,fun Z w hs=>hs.out (Sk (Sd (Sr))) (fun _ h=>h)⟩
     try simp only [Bp,Bq] at *
     refine ⟨_,?_,O,O⟩
     unfold encI
     rw [if_neg (by omega),if_neg (by omega),if_pos (by omega)]
     rw [List.length_append,KX]
     exact hr49
    ·refine Jc (Ja (Lq (Jb O) (Lq (Ke O O) (Lq (Jb O) (JU (t:=53) O (fun g53=> ?_) (fun g53=> ?_))))))
     ·refine Lg O O O g53 (Jb O) (Lg O O O g53 (YK O O) (Lq (JH O g53 O) (Lq (Jd O) (Je (Jf (Jy O (fun h50=> ?_) (fun h50=> ?_)))))))
      ·refine Jc (Ja (Lq (Jb O) (Lq (Jb O) (Lq (Vq O O (by decide) O) (Lq (Yo O (cv8 _)) (Lq (VI O O O) (Lq (Jb O) (Lq (Vq O O (by decide) O) (Lq (Yo O (cv8 _)) (Lq (Vj O O O) ?_))))))))))
       refine Lq (VI O O O) (Lq (Jb O) (Lq (Vq O O (by decide) O) (Lq (Yo O (cv8 _)) (Lq (Vj O O O) (Lq (VI O O O) (Lq (Jb O) (Lq (Yo O (cv8 _)) (Lq (Vj O O O) (Lq (VI O O O) ?_)))))))))
       refine Jg O (Yx (cs:= [_,_,_,_]) (.n4 O O O O) (fun w=>bs122_4 _ _ _ _ w) (by decide) fun b76=>Jg O (Yt (m:=4) (news:= [_,_,_,_]) Un153 ti5 O (by decide) O O hr Jm O O (by omega) (by unfold maxLen;omega) (by decide) (DelAt.perm .z1) fun v77 p77 hr77=>Lq (Jd O) (Je (Jf (Jn (JM ?_))))))
       refine ⟨_,[_],[],fun Z w hs=> .tmp O .nil,?_,fun Z w hs=>hs.out (Sk (Sd (Sr))) (fun _ h=>h)⟩
       try simp only [Bp,Bq] at *
       refine ⟨_,?_,O,O⟩
       unfold encI
       rw [if_neg (by omega),if_neg (by omega),if_neg (by omega),if_pos (by omega)]
       rw [List.length_append,KX]
       exact hr77
      ·refine Jc (Ja (Lq (Jb O) (Jg O (Yx (cs:= [_,_,_]) (.n3 O O O) (fun w=>bs122_3 _ _ _ w) (by decide) fun b9=>Jg O (Yt (m:=3) (news:= [_,_,_]) Un153 ti5 O (by decide) O O hr Jm O O (by omega) (by unfold maxLen;omega) (by decide) (DelAt.perm .z1) fun v10 p10 hr10=>Lq (Jd O) (Je (Jf (Jn (JM ?_)))))))))
       refine ⟨_,[_],[],fun Z w hs=> .tmp O .nil,?_,fun Z w hs=>hs.out (Sk (Sd (Sr))) (fun _ h=>h)⟩
       try simp only [Bp,Bq] at *
       refine ⟨_,?_,O,O⟩
       unfold encI
       rw [if_neg (by omega),if_neg (by omega),if_neg (by omega),if_neg (by omega)]
       rw [List.length_append,KX]
       exact hr10
     ·refine Ln O O O g53 (Ln O O O g53 (Lq (JA O g53 O) (Lq (Jd O) (Je (Jf (Jz O O (Jc (Ja (Lq (Jb O) (Jg O (Yx (cs:= [_,_,_]) (.n3 O O O) (fun w=>bs122_3 _ _ _ w) (by decide) fun b9=>Jg O (Yt (m:=3) (news:= [_,_,_]) Un153 ti5 O (by decide) O O hr Jm O O (by omega) (by unfold maxLen;omega) (by decide) (DelAt.perm .z1) fun v10 p10 hr10=>Lq (Jd O) (Je (Jf (Jn (JM ?_))))))))))))))))
      refine ⟨_,[_],[],fun Z w hs=> .tmp O .nil,?_,fun Z w hs=>hs.out (Sk (Sd (Sr))) (fun _ h=>h)⟩
      try simp only [Bp,Bq] at *
      refine ⟨_,?_,O,O⟩
      unfold encI
      rw [if_neg (by omega),if_neg (by omega),if_neg (by omega),if_neg (by omega)]
      rw [List.length_append,KX]
      exact hr10
   ·refine Ln O O O g30 (Ln O O O g30 (Lq (JA O g30 O) (Lq (Jd O) (Je (Jf (Jz O O (Jc (Ja (Lq (Jb O) (Lq (Ke O O) (Lq (Jb O) (JU (t:=53) O (fun g53=> ?_) (fun g53=> ?_)))))))))))))
    ·refine Lg O O O g53 (Jb O) (Lg O O O g53 (YK O O) (Lq (JH O g53 O) (Lq (Jd O) (Je (Jf (Jy O (fun h50=> ?_) (fun h50=> ?_)))))))
     ·refine Jc (Ja (Lq (Jb O) (Lq (Jb O) (Lq (Vq O O (by decide) O) (Lq (Yo O (cv8 _)) (Lq (VI O O O) (Lq (Jb O) (Lq (Vq O O (by decide) O) (Lq (Yo O (cv8 _)) (Lq (Vj O O O) ?_))))))))))
      refine Lq (VI O O O) (Lq (Jb O) (Lq (Vq O O (by decide) O) (Lq (Yo O (cv8 _)) (Lq (Vj O O O) (Lq (VI O O O) (Lq (Jb O) (Lq (Yo O (cv8 _)) (Lq (Vj O O O) (Lq (VI O O O) ?_)))))))))
      refine Jg O (Yx (cs:= [_,_,_,_]) (.n4 O O O O) (fun w=>bs122_4 _ _ _ _ w) (by decide) fun b76=>Jg O (Yt (m:=4) (news:= [_,_,_,_]) Un153 ti5 O (by decide) O O hr Jm O O (by omega) (by unfold maxLen;omega) (by decide) (DelAt.perm .z1) fun v77 p77 hr77=>Lq (Jd O) (Je (Jf (Jn (JM ?_))))))
      refine ⟨_,[_],[],fun Z w hs=> .tmp O .nil,?_,fun Z w hs=>hs.out (Sk (Sd (Sr))) (fun _ h=>h)⟩
      try simp only [Bp,Bq] at *
      refine ⟨_,?_,O,O⟩
      unfold encI
      rw [if_neg (by omega),if_neg (by omega),if_neg (by omega),if_pos (by omega)]
      rw [List.length_append,KX]
      exact hr77
     ·refine Jc (Ja (Lq (Jb O) (Jg O (Yx (cs:= [_,_,_]) (.n3 O O O) (fun w=>bs122_3 _ _ _ w) (by decide) fun b9=>Jg O (Yt (m:=3) (news:= [_,_,_]) Un153 ti5 O (by decide) O O hr Jm O O (by omega) (by unfold maxLen;omega) (by decide) (DelAt.perm .z1) fun v10 p10 hr10=>Lq (Jd O) (Je (Jf (Jn (JM ?_)))))))))
      refine ⟨_,[_],[],fun Z w hs=> .tmp O .nil,?_,fun Z w hs=>hs.out (Sk (Sd (Sr))) (fun _ h=>h)⟩
      try simp only [Bp,Bq] at *
      refine ⟨_,?_,O,O⟩
      unfold encI
      rw [if_neg (by omega),if_neg (by omega),if_neg (by omega),if_neg (by omega)]
      rw [List.length_append,KX]
      exact hr10
    ·refine Ln O O O g53 (Ln O O O g53 (Lq (JA O g53 O) (Lq (Jd O) (Je (Jf (Jz O O (Jc (Ja (Lq (Jb O) (Jg O (Yx (cs:= [_,_,_]) (.n3 O O O) (fun w=>bs122_3 _ _ _ w) (by decide) fun b9=>Jg O (Yt (m:=3) (news:= [_,_,_]) Un153 ti5 O (by decide) O O hr Jm O O (by omega) (by unfold maxLen;omega) (by decide) (DelAt.perm .z1) fun v10 p10 hr10=>Lq (Jd O) (Je (Jf (Jn (JM ?_))))))))))))))))
     refine ⟨_,[_],[],fun Z w hs=> .tmp O .nil,?_,fun Z w hs=>hs.out (Sk (Sd (Sr))) (fun _ h=>h)⟩
     try simp only [Bp,Bq] at *
     refine ⟨_,?_,O,O⟩
     unfold encI
     rw [if_neg (by omega),if_neg (by omega),if_neg (by omega),if_neg (by omega)]
     rw [List.length_append,KX]
     exact hr10
theorem HQ (v:Value) (us:List Int) (p:Part) (r:Int) (hr:Row 5 1 v us.length (ints .u8 us) p) (hb:us.length≤1073741824):Sp Tryz.prog 114 [v, .int .i32 r] [p] [] (BwP (us++encI r)):=by
 refine Sp.of (n:=16) ⟨_,Tryz.func114,O,O,O,O⟩ (Nat.le_of_ble_eq_true O) fun Ps As=>Jc (Ja (Lq (Jd O) (Je (Jf (Jc (Jc (Ja (Lq (Jb O) (Lq (Yo O (cv32 _)) (Lq (YK O O) (Je (Jf (Jy O (fun h7=> ?_) (fun h7=> ?_))))))))))))))
 ·refine Jc (Ja (Lq (Jb O) (Lq (Jb O) (Lq (Yo O (cv8 _)) (Jg O (KP (cs:= [_]) Un153 ti5 (by decide) (by decide) O O O O (by decide) fun b11=>Jg O (KV (news:= [_]) Un153 ti5 O (by decide) O O hr Jm O O (by omega) (by unfold maxLen;omega) (by decide) (DelAt.perm .z1) fun v12 p12 hr12=>Lq (Jd O) (Je (Jf (Jn (Jr ?_)))))))))))
  refine ⟨_,[_],[],fun Z w hs=> .tmp O .nil,?_,fun Z w hs=>hs.out (Sk (Sd (Sr))) (fun _ h=>h)⟩
  try simp only [Bp,Bq] at *
  refine ⟨_,?_,O,O⟩
  unfold encI
  rw [if_pos (by omega)]
  rw [List.length_append,KX]
  exact hr12
 ·refine Jp (Jf (Jc (Ja (Lq (Jb O) (Lq (Jb O) (Jg O (JX (ZH v us p r hr hb (by simpa using h7)) (.n2 O O) (by decide) .z Jx fun _ _ _ q9=>?_)))))))
  obtain ⟨p15,hr15,rfl,rfl⟩:=q9
  refine Lq (Jd O) (Je (Jf (Jn ?_)))
  refine ⟨_,[_],[],fun Z w hs=> .tmp O .nil,?_,fun Z w hs=>hs.out (Sk (Sr)) (fun _ h=>h)⟩
  exact ⟨_,hr15,O,O⟩
theorem Ja4 (b:Nat) (ad A:Option Addr) (n c:Nat):Sp Tryz.prog 87 [.pointer (some ⟨b,0,none⟩)] [blP b ad (.slice A n c)] [] (fun v Lo fs=>v= .int .i64 n∧Lo= [blP b ad (.slice A n c)] ∧fs= []):=by
 refine Sp.of (n:=8) ⟨_,Tryz.func87,O,O,O,O⟩ (Nat.le_of_ble_eq_true O) fun Ps As=>Jc (Ja (Lq (Jd O) (Je (Jf (Jc (Ja (Lq (Jb O) (Lq (JB O) (Lq (Jh (o':=1) Un155 O Vi O O) (Lq (Jj Un153 O O Jm O) (Lq (J7 Un153 O) (Lq (Jd O) ?_))))))))))))
 refine Je (Jf (Jn ?_))
 refine ⟨_,[_],[],fun Z w hs=> .tmp O .nil,?_,fun Z w hs=>hs.out (Sk (Sr)) (fun _ h=>h)⟩
 exact ⟨O,O,O⟩
theorem EH (b:Nat) (ad:Option Addr) (v:Value):Sp Tryz.prog 89 [.pointer (some ⟨b,0,none⟩)] [blP b ad v] [] (fun u Lo fs=>u= .tuple #[] ∧Lo= [blP b none (.slice none 0 0)] ∧fs= []):=by
 refine Sp.of (n:=8) ⟨_,Tryz.func89,O,O,O,O⟩ (Nat.le_of_ble_eq_true O) fun Ps As=>Jc (Ja (Lq (Jb O) (Lq (JB O) (Lq (Jh (o':=0) Un155 O XQ O O) (Jg O (JN XQ O O O .z .z (Je (Jf (Ja (Lq (Jb O) (Lq (JB O) (Lq (Jh (o':=1) Un155 O Vi O O) ?_))))))))))))
 refine Jg O (JN Vi O O O .z1 .z (Je ?_))
 refine ⟨_,[_],[],fun Z w hs=> .nil,?_,fun Z w hs=>hs.out (Sk (Sr)) (fun _ h=>h)⟩
 exact ⟨O,O,O⟩
theorem bcopy_0 (b:Nat) (v:Value):Sp Tryz.prog 113 [.pointer (some ⟨b,0,none⟩)] [blP b none v] [] (fun u Lo fs=>u= .tuple #[] ∧Lo= [blP b (some ⟨b,0,none⟩) v] ∧fs= []):=by
 refine Sp.of (n:=20) ⟨_,Tryz.func113,O,O,O,O⟩ (Nat.le_of_ble_eq_true O) fun Ps As=>Jc (Ja (Lq (Jb O) (Lq (JB O) (Lq (Jh (o':=0) Un155 O XQ O O) (Lq (Jj Un152 O O Jm O) (Lq (KK Un152 O O (by simp)) (Je (Jf (JQ O O (Ja (Lq (Jb O) (Lq (Jb O) ?_))))))))))))
 refine Lq (EQ (j:=_) Un152 Un169 O (by decide) O Jm (Nat.succ_pos _)) (Lq (Zl (Jbc _) O) (Lq (G3 (j:=_) Un169 Un152 O O Jm (by kernel_rfl)) (Lq (JB O) (Lq (Jh (o':=0) Un155 O XQ O O) (Jg O (JN XQ O O O .z .z (Je ?_)))))))
 refine ⟨_,[_],[],fun Z w hs=> .nil,?_,fun Z w hs=>hs.out (Sk (Sr)) (fun _ h=>h)⟩
 exact ⟨O,O,O⟩
theorem bcopy_1 (b:Nat) (v:Value):Sp Tryz.prog 113 [.pointer (some ⟨b,0,none⟩)] [blP b (some ⟨b,0,none⟩) v] [] (fun u Lo fs=>u= .tuple #[] ∧Lo= [blP b (some ⟨b,0,none⟩) v] ∧fs= []):=by
 refine Sp.of (n:=20) ⟨_,Tryz.func113,O,O,O,O⟩ (Nat.le_of_ble_eq_true O) fun Ps As=>Jc (Ja (Lq (Jb O) (Lq (JB O) (Lq (Jh (o':=0) Un155 O XQ O O) (Lq (Jj Un152 O O Jm O) (Lq (KK Un152 O O (by simp)) (Je (Jf (Jz O O (Jc (Ja (Lq (Jb O) (Lq (JB O) ?_)))))))))))))
 refine Lq (Jh (o':=0) Un155 O XQ O O) (Lq (Jj Un152 O O Jm O) (Lq (Jb O) (Lq (EU (j:=_) Un152 O O O) (Je (Jf (Jz O O (Jp ?_)))))))
 refine ⟨_,[_],[],fun Z w hs=> .nil,?_,fun Z w hs=>hs.out (Sk (Sr)) (fun _ h=>h)⟩
 exact ⟨O,O,O⟩
theorem Jaa (b:Nat) (ad:Option Addr) (v:Value) (h:ad=none∨ad=some ⟨b,0,none⟩):Sp Tryz.prog 113 [.pointer (some ⟨b,0,none⟩)] [blP b ad v] [] (fun u Lo fs=>u= .tuple #[] ∧Lo= [blP b (some ⟨b,0,none⟩) v] ∧fs= []):=by
 rcases h with rfl | rfl
 ·exact bcopy_0 b v
 ·exact bcopy_1 b v
theorem EG (b:Nat) (ad:Option Addr) (v:Value) (us:List Int) (p:Part) (r:Int) (had:ad=none∨ad=some ⟨b,0,none⟩) (hr:Row 5 1 v us.length (ints .u8 us) p) (hb:us.length≤1073741824):Sp Tryz.prog 92 [.pointer (some ⟨b,0,none⟩), .int .i32 r] [blP b ad v,p] [] (fun u Lo fs=> ∃v' p',Row 5 1 v' (us++encI r).length (ints .u8 (us++encI r)) p'∧Lo= [blP b (some ⟨b,0,none⟩) v',p'] ∧fs= []):=by
 have hel:=Gd r
 obtain ⟨Av,cv,rfl⟩:=hr.slice
 refine Sp.of (n:=30) ⟨_,Tryz.func92,O,O,O,O⟩ (Nat.le_of_ble_eq_true O) fun Ps As=>Jc (Ja (Lq (Jd O) (Lq (Jd O) (Je (Jf (Jc (Ja (Lq (Jb O) (Jg O (JX (Jaa b ad _ had) (.n1 O) (by decide) .z Jx fun _ _ _ q9=>?_))))))))))
 obtain ⟨rfl,rfl,rfl⟩:=q9
 refine Je (Jf (Jc (Ja (Lq (Jb O) (Lq (JB O) (Lq (Jh (o':=1) Un155 O Vi O O) (Lq (Jj Un153 O O Jm O) (Lq (J7 Un153 O) (Lq (Jd O) (Je (Jf (Jc (Ja (Lq (Jb O) (Lq (Jb O) ?_)))))))))))))))
 refine Lq (JB O) (Lq (Jh (o':=1) Un155 O Vi O O) (Lq (Jj Un153 O O Jm O) (Lq (Jb O) (Jg O (JX (HQ _ us p r hr hb) (.n2 O O) (by decide) .z1 Jx fun _ _ _ q9=>?_)))))
 obtain ⟨p2,hr2,rfl,rfl⟩:=q9
 obtain ⟨A2,c2,rfl⟩:=hr2.slice
 refine Lq (JB O) (Lq (Jh (o':=1) Un155 O Vi O O) (Jg O (JN Vi O O O .z1 .z1 (Je (Jf (JL [(6,_),(5,_),(4,_),(0,_)] (.m4 O O O O) (Jc (Jt .z (Jt .z1 (Ja (Lq (Jb O) ?_)))))))))))
 refine Lq (JB O) (Lq (Jh (o':=1) Un155 O Vi O O) (Lq (Jj Un153 O O Jm O) (Lq (J7 Un153 O) (Lq (Jb O) (Lq (KS O O O) (Lq (Jd O) (Lq (Jd O) (Je (Jf (Jn ?_))))))))))
 refine ⟨_,[_,_],[],fun Z w hs=> .tmp O (.tmp O .nil),?_,fun Z w hs=>hs.out (Sk2 (Sr)) (fun _ h=>h)⟩
 exact ⟨_,_,hr2,O,O⟩
theorem ZD (b:Nat) (ad:Option Addr) (v:Value) (us:List Int) (p:Part) (hr:Row 5 1 v us.length (ints .u8 us) p) (hb:us.length≤1073741824) (hby:By us) (hne:us≠ []):Sp Tryz.prog 88 [.pointer (some ⟨b,0,none⟩)] [blP b ad v,p] [] (fun u Lo fs=>u= .string (strOf us)∧Lo= [blP b ad v] ∧fs= []):=by
 have hl0:=List.length_pos_iff.2 hne
 obtain ⟨hl,⟨_,h0,_⟩ | ⟨bb,cap,jk,rfl,rfl,h1,h2,h3⟩⟩:=hr
 ·omega
 refine Sp.of (n:=14) ⟨_,Tryz.func88,O,O,O,O⟩ (Nat.le_of_ble_eq_true O) fun Ps As=>Jc (Ja (Lq (Jd O) (Je (Jf (Jc (JI _ _ [] (.c 0 0 (.c 1 0 (.c 2 0 (.c 3 0 (.c 4 0 (.c 5 0 (.c 6 0 (.c 7 0 (.c 8 0 (.c 9 0 (.c 10 2 (.c 11 0 .nil)))))))))))) mixed (fun _ _ _ _ h=>h) (Sk (Sd (Sr))) (fun _ h=>h) (by kernel_rfl) (by decide) fun ws Z0=>Qe O (Jb O) (Qe O (JB O) (Qe O (Jh (o':=1) Un155 O Vi O O) (Qe O (Jj Un153 O O Jm O) (Qe O (Ev (by omega) O) ?_))))))))))
 refine Qe O (Jb O) (Qe O (JB O) (Qe O (Jh (o':=1) Un155 O Vi O O) (Qe O (Jj Un153 O O Jm O) (Qe O (J7 Un153 O) (Js O O (Xx (e:=5) (T:=5) Un194 O hby hne (by omega) O O (by decide) .z1 ?_))))))
 refine ⟨⟨(Sk (Sr)),Mm0⟩,?_⟩
 refine Qe O (Jd O) (JJ (JK (Jf (Jn ?_))))
 refine ⟨_,[_],[],fun Z w hs=> .tmp O .nil,?_,fun Z w hs=>hs.out (Sk (Sr)) Tt1⟩
 exact ⟨O,O,O⟩
abbrev Rn:=ByteArray×Int
def runC (x:Rn):List Value:= [.string x.1, .int .i64 x.2]
def runD:De Rn where
 sz:=2
 rep _ _ x cs:=cs=runC x
 len h:=by subst h;rfl
 one h:=by subst h;rfl
 stable _ _ _ _ _ h:=h
theorem Ep (u:Rn): ∀Z w cs,runD.rep Z w u cs→ ∃y:Unit,cs=runC u∧ ∀B∈([] :List Fact),B.holds Z w:=fun _ _ _ h=>⟨(),h,fun _ h=>by cases h⟩
structure RS where
 rs:List Rn
 hid:Int
 bs:List Int
def flushF (s:RS):RS:=if s.bs= [] then s else ⟨s.rs++ [(strOf s.bs,s.hid)],s.hid,[]⟩
def turnR (s:RS) (hid:Int):RS:=if hid=s.hid then s else { flushF s with hid:=hid }
def pieceF (s:RS) (rs:List Int) (hid:Int):RS:= { turnR s hid with bs:=(turnR s hid).bs++rs.flatMap encI }
def cellF (s:RS) (c:Ce):RS:=pieceF s [c.1] c.2
theorem flush_bs (s:RS):(flushF s).bs= [] :=by
 unfold flushF;split
 ·assumption
 ·rfl
theorem turnR_hid (s:RS) (hid:Int):(turnR s hid).hid=hid:=by
 unfold turnR;split
 ·rename_i h;exact h.symm
 ·rfl
theorem turnR_same {s:RS} {hid:Int} (h:s.hid=hid):turnR s hid=s:=by unfold turnR;rw [if_pos h.symm]
theorem X4 (s:RS) (rs:List Int) (hid:Int):(pieceF s rs hid).hid=hid:=turnR_hid s hid
theorem Gw (s:RS) (a b:List Int) (hid:Int):pieceF (pieceF s a hid) b hid=pieceF s (a++b) hid:=by
 have h:=X4 s a hid
 unfold pieceF at h ⊢
 rw [turnR_same h]
 simp [List.flatMap_append]
theorem piece_cells (hid:Int): ∀(rs:List Int) (s:RS),rs≠ [] →pieceF s rs hid=(cellsOf rs hid).foldl cellF s
 | [],s,h=>absurd rfl h
 | [r],s,_=>rfl
 | r::r2::rs,s,_=>by
  have ih:=piece_cells hid (r2::rs) (cellF s (r,hid)) (by simp)
  show _=(cellsOf (r2::rs) hid).foldl cellF (cellF s (r,hid))
  rw [←ih]
  show _=pieceF (pieceF s [r] hid) (r2::rs) hid
  rw [Gw];rfl
def rowF (X:List Ce):RS:=X.foldl cellF ⟨[],0,[]⟩
theorem XW (X:List Ce) {rs:List Int} (hid:Int) (h:rs≠ []):rowF (X++cellsOf rs hid)=pieceF (rowF X) rs hid:=by
 unfold rowF;rw [List.foldl_append,piece_cells hid rs _ h]
def runsF (X:List Ce):List Rn:=(flushF (rowF X)).rs
theorem E3:By [] :=fun x hx=>by cases hx
structure RsB (s:RS) (n:Nat):Prop where
 by_:By s.bs
 bl:s.bs.length≤4*n
 rl:s.rs.length+(if s.bs= [] then 0 else 1)≤n
theorem RsB.flush {s:RS} {n:Nat} (h:RsB s n):RsB (flushF s) n∧(flushF s).rs.length≤n:=by
 have hr:=h.rl
 unfold flushF
 split
 ·rename_i hb
  exact ⟨h,by rw [if_pos hb] at hr;omega⟩
 ·rename_i hb
  rw [if_neg hb] at hr
  exact ⟨⟨E3,by simp,by simpa using hr⟩,by simpa using hr⟩
theorem RsB.turn {s:RS} {n:Nat} (h:RsB s n) (hid:Int):RsB (turnR s hid) n:=by
 unfold turnR
 split
 ·exact h
 ·exact ⟨h.flush.1.by_,h.flush.1.bl,h.flush.1.rl⟩
theorem Ec: ∀rs:List Int,By (rs.flatMap encI)
 | [] =>E3
 | r::rs=>by rw [List.flatMap_cons];exact GJ (encI_by r) (Ec rs)
theorem QI: ∀rs:List Int,(rs.flatMap encI).length≤4*rs.length
 | [] =>by simp
 | r::rs=>by
  have:=QI rs;have:=Gd r
  rw [List.flatMap_cons,List.length_append,List.length_cons];omega
theorem RsB.piece {s:RS} {n:Nat} (h:RsB s n) {rs:List Int} (hid:Int) (hne:rs≠ []):RsB (pieceF s rs hid) (n+rs.length):=by
 have ht:=h.turn hid
 have h4:=QI rs
 have hl:=List.length_pos_iff.2 hne
 have hb:=ht.bl
 have hr:=ht.rl
 refine ⟨GJ ht.by_ (Ec rs),?_,?_⟩
 ·show ((turnR s hid).bs++rs.flatMap encI).length≤_
  rw [List.length_append];omega
 ·show (turnR s hid).rs.length+_≤_
  split at hr<;>split<;>omega
theorem GY (X:List Ce):RsB (rowF X) X.length:=by
 have key: ∀(X:List Ce) (s:RS) (n:Nat),RsB s n→RsB (X.foldl cellF s) (n+X.length):=by
  intro X
  induction X with
  | nil=>intro s n h;exact h
  | cons c X ih=>
   intro s n h
   have:=ih (cellF s c) (n+1) (h.piece c.2 (by simp))
   rw [List.foldl_cons,List.length_cons,show n+(X.length+1)=n+1+X.length from by omega]
   exact this
 have:=key X ⟨[],0,[]⟩ 0 ⟨E3,by simp,by simp⟩
 rw [Nat.zero_add] at this
 exact this
abbrev rcP (b:Nat) (v:Value):Part:= [(b,JD [v] 43)]
abbrev hcP (b:Nat) (x:Int):Part:= [(b,JD [.int .i64 x] 3)]
def clR (bB bR bH:Nat):Value:= .func (.func 86) #[] #[.pointer (some ⟨bB,0,none⟩), .pointer (some ⟨bR,0,none⟩), .pointer (some ⟨bH,0,none⟩)]
abbrev fcP (bF bB bR bH:Nat):Part:= [(bF,JD [clR bB bR bH] 1)]
def rnL (bB bR bH bF:Nat) (ad:Option Addr) (v:Value) (p:Part) (rv:Value) (rp:Part) (x:Int):List Part:= [blP bB ad v,p,rcP bR rv,rp,hcP bH x,fcP bF bB bR bH]
structure RunS (bB:Nat) (s:RS) (ad:Option Addr) (v:Value) (p:Part) (rv:Value) (rp:Part):Prop where
 ad:ad=none∨ad=some ⟨bB,0,none⟩
 row:Row 5 1 v s.bs.length (ints .u8 s.bs) p
 rr:Row 121 2 rv s.rs.length (Kb runC s.rs) rp
def RunI (bB bR bH bF:Nat) (X:List Ce) (q:Part):Prop:= ∃ad v p rv rp,RunS bB (rowF X) ad v p rv rp∧q=(rnL bB bR bH bF ad v p rv rp (rowF X).hid).flatten
def K3 (X:List Ce):List Int:=(X.filter fun c=>decide (c.2=0)).map (·.1)
def J8 (X:List Ce):Nat:=X.countP fun c=>decide (c.2=0)
def vbs (X:List Ce):List Int:=(K3 X).flatMap encI
def textF (X:List Ce):ByteArray:=strOf (vbs X)
theorem KM (X:List Ce):(K3 X).length=J8 X:=by unfold K3 J8;rw [List.length_map,List.countP_eq_length_filter]
theorem Yk (X Y:List Ce):K3 (X++Y)=K3 X++K3 Y:=by unfold K3;simp
theorem Km (X Y:List Ce):J8 (X++Y)=J8 X+J8 Y:=by unfold J8;rw [List.countP_append]
theorem Kn (X:List Ce):J8 X≤X.length:=List.countP_le_length
theorem XO (X Y:List Ce):vbs (X++Y)=vbs X++vbs Y:=by unfold vbs;rw [Yk,List.flatMap_append]
theorem QN (rs:List Int):K3 (cellsOf rs 0)=rs:=by
 unfold K3 cellsOf
 rw [List.filter_eq_self.2 (by simp),List.map_map]
 exact List.map_id _
theorem XN {X:List Ce} (h: ∀c∈X,c.2≠0):K3 X= [] :=by
 unfold K3
 rw [List.filter_eq_nil_iff.2 (by simpa using h)];rfl
theorem VW {X:List Ce} (h: ∀c∈X,c.2≠0):J8 X=0:=by rw [←KM,XN h];rfl
theorem cells_hid (rs:List Int) {hid:Int} (h:hid≠0): ∀c∈cellsOf rs hid,c.2≠0:=fun c hc=>by
 unfold cellsOf at hc
 obtain ⟨x,_,rfl⟩:=List.mem_map.1 hc
 exact h
theorem vbs_by (X:List Ce):By (vbs X):=Ec _
theorem Hb (X:List Ce):(vbs X).length≤4*X.length:=by
 have h1:=QI (K3 X)
 have h2:=Kn X
 rw [←KM] at h2
 unfold vbs;omega
theorem XL {X R:List Ce} (h:X<+:R):J8 X≤J8 R:=by
 obtain ⟨Y,rfl⟩:=h
 rw [Km];omega
theorem Hy {X R:List Ce} (h:X<+:R) (e:J8 R≤J8 X):K3 R=K3 X:=by
 obtain ⟨Y,rfl⟩:=h
 rw [Km] at e
 rw [Yk,show K3 Y= [] from List.length_eq_zero_iff.1 (by rw [KM];omega),List.append_nil]
def shownF (s:Sm):Int:=if s.mn=0 then s.am else 0
theorem Wf.shown {t:Tr} (h:Wf t):shownF (allF t)=J8 t.row:=by
 cases t with
 | nil=>rfl
 | nd s l rs hid r plus=>
  obtain ⟨h1,h2,h3,h4,h5,h6,h7⟩:=h
  obtain ⟨g1,g2,g3,g4,g5,g6⟩:=h5
  show shownF s=J8 (up plus (l.row++(cellsOf rs hid++r.row)))
  unfold shownF
  by_cases hm:s.mn=0
  ·rw [if_pos hm,g4,hm];rfl
  ·rw [if_neg hm,VW];rfl
   intro c hc
   have:=g2 c hc
   have:=(h7 c hc).1
   obtain ⟨d,hd,e⟩:=g3
   have:=(h7 d hd).1
   omega
theorem hid_of_shown {X:List Ce} (h:J8 X=0): ∀c∈X,c.2≠0:=fun c hc=>by
 have:=List.countP_eq_zero.1 h c hc
 simpa using this
structure Fst (X:List Ce) (k:Nat):Prop where
 le:k≤X.length
 hid: ∀c∈X.take k,c.2≠0
structure GoI (R:List Ce) (t:Tr) (k:Nat):Prop where
 wf:Wf t
 pos:0<J8 t.row
 at_: ∃B,R.drop k=t.row++B
 le:k≤R.length
 hid: ∀c∈R.take k,c.2≠0
theorem GoI.zero {t:Tr} (wt:Wf t) (h:0<J8 t.row):GoI t.row t 0:=⟨wt,h,⟨[],by simp⟩,Nat.zero_le _,fun c hc=>by simp at hc⟩
theorem GoI.ne {R:List Ce} {t:Tr} {k:Nat} (h:GoI R t k):t≠ .nil:=fun e=>by
 have:=h.pos
 rw [e] at this
 exact absurd this (by simp [Tr.row,J8])
theorem GoI.bd {R:List Ce} {t:Tr} {k:Nat} (h:GoI R t k):k+t.row.length≤R.length:=by
 obtain ⟨B,hB⟩:=h.at_
 have:=congrArg List.length hB
 rw [List.length_drop,List.length_append] at this
 have:=h.le
 omega
theorem take_more {R A C:List Ce} {k:Nat} (hk:k≤R.length) (h:R.drop k=A++C):R.take (k+A.length)=R.take k++A∧R.drop (k+A.length)=C∧k+A.length≤R.length:=by
 have e:R=R.take k++(A++C):=by rw [←h,List.take_append_drop]
 have hl:(R.take k).length=k:=by rw [List.length_take];omega
 have h3:=congrArg List.length h
 rw [List.length_drop,List.length_append] at h3
 refine ⟨?_,?_,by omega⟩
 ·conv=>lhs;rw [e]
  rw [show k+A.length=(R.take k).length+A.length from by rw [hl],List.take_length_add_append,List.take_left]
 ·conv=>lhs;rw [e]
  rw [show k+A.length=(R.take k).length+A.length from by rw [hl],List.drop_length_add_append,List.drop_left]
theorem GoI.left {R:List Ce} {t l:Tr} {k:Nat} {C:List Ce} (h:GoI R t k) (wl:Wf l) (e:t.row=l.row++C) (hp:0<J8 l.row):GoI R l k:=by
 obtain ⟨B,hB⟩:=h.at_
 exact ⟨wl,hp,⟨C++B,by rw [hB,e,List.append_assoc]⟩,h.le,h.hid⟩
theorem GoI.own {R:List Ce} {t:Tr} {k:Nat} {L C:List Ce} (h:GoI R t k) (e:t.row=L++C) (hz:J8 L=0):Fst R (k+L.length):=by
 obtain ⟨B,hB⟩:=h.at_
 obtain ⟨t1,t2,t3⟩:=take_more (A:=L) (C:=C++B) h.le (by rw [hB,e,List.append_assoc])
 refine ⟨t3,fun c hc=> ?_⟩
 rw [t1] at hc
 rcases List.mem_append.1 hc with hc | hc
 ·exact h.hid c hc
 ·exact hid_of_shown hz c hc
theorem GoI.right {R:List Ce} {t r:Tr} {k:Nat} {L M:List Ce} (h:GoI R t k) (wr:Wf r) (e:t.row=L++(M++r.row)) (hz:J8 L=0) (hm: ∀c∈M,c.2≠0):GoI R r (k+L.length+M.length):=by
 obtain ⟨B,hB⟩:=h.at_
 have hp:=h.pos
 rw [e,Km,Km,hz,VW hm] at hp
 obtain ⟨t1,t2,t3⟩:=take_more (A:=L++M) (C:=r.row++B) h.le (by rw [hB,e];simp)
 rw [List.length_append,←Nat.add_assoc] at t1 t2 t3
 refine ⟨wr,by omega,⟨B,t2⟩,t3,fun c hc=> ?_⟩
 rw [t1] at hc
 rcases List.mem_append.1 hc with hc | hc
 ·exact h.hid c hc
 ·rcases List.mem_append.1 hc with hc | hc
  ·exact hid_of_shown hz c hc
  ·exact hm c hc
theorem Fst.vis {R X:List Ce} {k:Nat} {rs:List Int} (h:Fst R k) (hne:rs≠ []) (hp:X++cellsOf rs 0<+:R):k≤X.length:=by
 rcases Nat.lt_or_ge X.length k with hlt | hge
 ·exfalso
  obtain ⟨Y,rfl⟩:=hp
  obtain ⟨r,rs,rfl⟩:=List.exists_cons_of_ne_nil hne
  refine h.hid (r,0) ?_ O
  refine List.mem_of_getElem? (i:=X.length) ?_
  rw [List.getElem?_take,if_pos hlt,List.append_assoc,List.getElem?_append_right (Nat.le_refl _),Nat.sub_self];rfl
 ·exact hge
theorem Fst.skip {R X:List Ce} {k:Nat} (h:Fst R k) (hp:X<+:R) (hl:X.length≤k):K3 X= [] :=by
 refine XN fun c hc=>h.hid c ?_
 obtain ⟨Y,rfl⟩:=hp
 rw [List.take_append,List.take_of_length_le hl]
 exact List.mem_append_left _ hc
theorem bd127_0_1Xw47 (x0_:ByteArray) (x1_:Int) (w:World):(Instr.build 121 #[(0, .string x0_),(1, .int .i64 x1_)]).run Tryz.prog w= .ok (.agg #[.string x0_, .int .i64 x1_]) w:=by kernel_rfl
theorem Hp (bB bR bH:Nat) (s:RS) (ad:Option Addr) (v:Value) (p:Part) (rv:Value) (rp:Part) (hs:RunS bB s ad v p rv rp) (hby:By s.bs) (hbl:s.bs.length≤1073741824) (hrl:s.rs.length≤1073741824):Sp Tryz.prog 86 [.pointer (some ⟨bB,0,none⟩), .pointer (some ⟨bR,0,none⟩), .pointer (some ⟨bH,0,none⟩)] [blP bB ad v,p,rcP bR rv,rp,hcP bH s.hid] [] (fun u Lo fs=>u= .tuple #[] ∧fs= [] ∧ ∃rv' rp',Row 121 2 rv' (flushF s).rs.length (Kb runC (flushF s).rs) rp'∧Lo= [blP bB none (.slice none 0 0),rcP bR rv',rp',hcP bH s.hid]):=by
 obtain ⟨Av,cv,rfl⟩:=hs.row.slice
 obtain ⟨Ar,cr,rfl⟩:=hs.rr.slice
 refine Sp.of (n:=12) ⟨_,Tryz.func86,O,O,O,O⟩ (Nat.le_of_ble_eq_true O) fun Ps As=>Jc (Jc (Ja (Jg O (JX (Ja4 bB ad Av s.bs.length cv) (.n1 O) (by decide) .z Jx fun _ _ _ q9=>?_))))
 obtain ⟨rfl,rfl,rfl⟩:=q9
 refine Lq (Ke O O) (Je (Jf (Jy O (fun h4=> ?_) (fun h4=> ?_))))
 ·refine JI _ _ [6] (.c 0 0 (.c 2 0 (.c 1 2 (.c 3 0 (.c 4 2 (.c 5 2 (.c 6 3 .nil))))))) mixed (fun _ _ _ _ h=>h) (Sd2 (Sk (Sd (Sk (Sr))))) (fun _ h=>h) (by kernel_rfl) (by decide) fun ws Z0=>Qe O (Jj Un43 O O Jm O) (Qe O (Jj Un3 O O (Ji (Jm)) O) (Js O O (J4 (ZD bB ad _ s.bs p hs.row (by omega) hby (by intro e;rw [e] at h4;simp at h4)) (.n1 O) (by decide) .z .z Jx fun _ _ _ q9=>?_)))
  obtain ⟨rfl,rfl,rfl⟩:=q9
  refine ⟨⟨(Sd (Sk (Sd (Sk (Sr))))),Mm0⟩,?_⟩
  refine Qe O (JV (.n2 O O) (bd127_0_1Xw47 _ _)) (Js O O (KP (cs:= [_,_]) Un43 GA (by decide) (by decide) O O O O (by decide) fun b9=> ?_))
  refine ⟨⟨(Sd2 (Sk (Sd (Sk (Sr))))),Mm0⟩,?_⟩
  refine Js O O (KV (news:= [_,_]) Un43 GA O (by decide) O O hs.rr Jm O O (by omega) (by unfold maxLen;omega) (by decide) (DelAt.perm .z3) fun v10 p10 hr10=> ?_)
  obtain ⟨A10,c10,rfl⟩:=hr10.slice
  refine ⟨⟨(Sd3 (Sk2 (Sr))),Mm0⟩,?_⟩
  refine JJ (J2 O O (JN ZR O O O .z .z3 (JK (Jf (Ja (Jg O (JX (EH bB ad _) (.n1 O) (by decide) .z2 Jx fun _ _ _ q9=>?_)))))))
  obtain ⟨rfl,rfl,rfl⟩:=q9
  refine Je ?_
  refine ⟨_,[_,_,_,_],[],fun Z w hs=> .nil,?_,fun Z w hs=>((((hs.pick .z4).pick .z2).pick .z4).pick .z3).out (Sk4 (Sd (Sr))) Tt1⟩
  have hf:flushF s=⟨s.rs++ [(strOf s.bs,s.hid)],s.hid,[]⟩:=by unfold flushF;rw [if_neg (by intro e;rw [e] at h4;simp at h4)]
  refine ⟨O,O,_,_,?_,O⟩
  rw [hf]
  simp only [List.length_append,YG,VF]
  exact hr10
 ·refine Jp (Jf (Ja (Jg O (JX (EH bB ad _) (.n1 O) (by decide) .z Jx fun _ _ _ q9=>?_))))
  obtain ⟨rfl,rfl,rfl⟩:=q9
  refine Je ?_
  refine ⟨_,[_,_,_,_],[],fun Z w hs=> .nil,?_,fun Z w hs=>hs.out (Sk (Sd (Sk3 (Sr)))) (fun _ h=>h)⟩
  have hb0:s.bs= [] :=by simpa using h4
  have hf:flushF s=s:=by unfold flushF;rw [if_pos hb0]
  refine ⟨O,O,_,_,?_,O⟩
  rw [hf];exact hs.rr
theorem rune_open (u:Int): ∀Z w cs,runeD.rep Z w u cs→ ∃y:Unit,cs= [.int .i32 u] ∧ ∀B∈([] :List Fact),B.holds Z w:=fun _ _ _ h=>⟨(),h,fun _ h=>by cases h⟩
theorem Jba (bB bR bH bF:Nat) (s:RS) (ad:Option Addr) (v:Value) (p:Part) (rv:Value) (rp:Part) (hs:RunS bB s ad v p rv rp) (n:Nat) (hB:RsB s n) (hn:n≤2097152) (x:Int) (rs:List Int) (hid:Int) (A:Option Addr) (c:Nat) (hl:rs.length≤2097152):Sp Tryz.prog 91 [.int .i64 x,pcV rs hid A c, .pointer (some ⟨bH,0,none⟩), .pointer (some ⟨bF,0,none⟩), .pointer (some ⟨bB,0,none⟩)] [blP bB ad v,p,rcP bR rv,rp,hcP bH s.hid,fcP bF bB bR bH] [RdF runeD A c rs] (fun u Lo fs=>u= .bool true∧fs= [] ∧ ∃ad' v' p' rv' rp',RunS bB (pieceF s rs hid) ad' v' p' rv' rp'∧Lo=rnL bB bR bH bF ad' v' p' rv' rp' hid):=by
 have hbt:=hB.turn hid
 have hbl:=hbt.bl
 refine Sp.of (n:=28) ⟨_,Tryz.func91,O,O,O,O⟩ (Nat.le_of_ble_eq_true O) fun Ps As=>Jc (Ja (Jg O (J1 (cs:= [_,_]) O O (by decide) fun b6=>Lq (Jd O) (Je (Jf ?_)))))
 refine Ej (α:=RS×Option Addr×Value×Part×Value×Part)
  (fun (t,ad4,v4,p4,rv4,rp4)=> [(4, .pointer (some ⟨bB,0,none⟩)),(6, .pointer (some ⟨b6,0,none⟩))])
  (fun (t,ad4,v4,p4,rv4,rp4)=>([(b6,JD (pcC rs hid A c) 134)] ::blP bB ad4 v4::p4::rcP bR rv4::rp4::hcP bH hid::fcP bF bB bR bH::Ps))
  (fun (t,ad4,v4,p4,rv4,rp4)=>(RdF runeD A c rs::As))
  (fun (t,ad4,v4,p4,rv4,rp4)=>RunS bB t ad4 v4 p4 rv4 rp4∧t=turnR s hid) ?_ ?_
 ·refine Jc (Ja (Lq (Jh (o':=1) Un134 O ti3 O O) (Lq (Jj Un3 O O Jm O) (Lq (Jj Un3 O O (Ji (Ji (Ji (Ji (Ji (Jm)))))) O) (Lq (Kp O O) (Je (Jf (Jy O (fun h13=> ?_) (fun h13=> ?_)))))))))
  ·refine Jc (Jt .z5 (Jt .z5 (Jt .z5 (Jt .z5 (Jt .z5 (Ja (Lq (Jj Un1 O O (Ji (Ji (Ji (Ji (Ji (Ji (Jm))))))) O) (Jg O (Qv (caps:= [_,_,_]) O (Hp bB bR bH s ad v p rv rp hs hB.by_ (by have:=hB.bl;omega) (by have:=hB.rl;omega)) .nil (by decide) (List.Perm.refl _) Jx fun u2 Lo fs hres=> ?_)))))))))
   obtain ⟨rfl,rfl,rv2,rp2,hr2,rfl⟩:=hres
   refine Je (Jf (KE (Jt .z4 (Jt .z4 (Jt .z4 (Jt .z3 (Jt .z4 (Jt .z5 (Ja (Lq (Jh (o':=1) Un134 O ti3 O O) ?_))))))))))
   refine Lq (Jj Un3 O O Jm O) (Jg O (JN ti3 O O O .z .z5 (Je (Ko ?_))))
   refine ⟨({ flushF s with hid:=hid },none, .slice none 0 0,[],rv2,rp2),?_,(.m2 rfl rfl),(Sk7 (Sr)),(fun _ h=>h)⟩
   refine ⟨⟨.inl O,?_,hr2⟩,?_⟩
   ·show Row 5 1 _ (flushF s).bs.length (ints .u8 (flushF s).bs) _
    rw [flush_bs];exact Row.nil 5 1
   ·unfold turnR;rw [if_neg (by simpa using h13)]
  ·refine Jp (Ko ?_)
   obtain rfl:hid=s.hid:=by simpa using h13
   refine ⟨(s,ad,v,p,rv,rp),?_,(.m2 O O),(Sk7 (Sr)),(fun _ h=>h)⟩
   exact ⟨hs,(turnR_same O).symm⟩
 ·rintro ⟨t,ad4,v4,p4,rv4,rp4⟩ hM
  have htb:t.bs.length≤4*n:=by rw [hM.2];exact hbl
  refine Jc (Jc (Ja (Lq (Jh (o':=0) Un134 O Yb O O) (Lq (Jj Un132 O O Jm O) (Lq (J7 Un132 O) (Lq (Jb O) (Je (Jf (JO ?_)))))))))
  refine Ki (α:=Nat×Option Addr×Value×Part) (fun (k,ad5,v5,p5)=>rs.length-k)
   (fun (k,ad5,v5,p5)=> [(4, .pointer (some ⟨bB,0,none⟩)),(19, .slice A rs.length c),(20, .int .i64 rs.length),(21, .int .i64 k)])
   (fun (k,ad5,v5,p5)=>(blP bB ad5 v5::p5::rcP bR rv4::rp4::hcP bH hid::fcP bF bB bR bH::Ps))
   (fun (k,ad5,v5,p5)=>(RdF runeD A c rs::As))
   (fun (k,ad5,v5,p5)=>k≤rs.length∧(ad5=none∨ad5=some ⟨bB,0,none⟩)∧Row 5 1 v5 (t.bs++(rs.take k).flatMap encI).length (ints .u8 (t.bs++(rs.take k).flatMap encI)) p5)
   (0,ad4,v4,p4) ?_ (.m4 rfl rfl rfl rfl) (Sd (Sk6 (Sr))) (fun _ h=>h) ?_
  ·refine ⟨Nat.zero_le _,hM.1.ad,?_⟩
   rw [List.take_zero,List.flatMap_nil,List.append_nil];exact hM.1.row
  ·rintro ⟨k,ad5,v5,p5⟩ hI
   have hle:=hI.1
   have hlb:(t.bs++(rs.take k).flatMap encI).length≤1073741824:=by
    have h4:=QI (rs.take k)
    rw [List.length_take] at h4
    rw [List.length_append];omega
   refine Jc (Ja (Lq (Ku O O) (Je (Jf (Jc (Jy O (fun h22=> ?_) (fun h22=> ?_)))))))
   ·refine Jp (Jf (Jc (JO (Jc ?_))))
    try simp only [Bp,Bq] at *
    have hk:k<rs.length:=by omega
    refine Kh (k:=k) Mm0 (List.getElem?_eq_getElem hk) (rune_open _) fun bx qx yx ex=> ?_
    cases ex
    refine Ja (Lq (Kc Un132 VX O O (by omega) (by omega)) (Lq (Ks (j:=0) Un21 O O Mm0 O O) (Lq (Jd O) (Je (Jf (Ja (Lq (Jb O) (Jg O (J4 (EG bB ad5 v5 (t.bs++(rs.take k).flatMap encI) p5 rs[k] hI.2.1 hI.2.2 hlb) (.n2 O O) (by decide) .z .z Jx fun _ _ _ q9=>?_)))))))))
    obtain ⟨v6,p6,hr6,rfl,rfl⟩:=q9
    refine Je (J9 (Jf (Ja (Lq (JZ O O (wr64 (by omega)) (c:=((k+1:Nat):Int))) (Lq (Jb O) (Je (Ko ?_)))))))
    refine ⟨(k+1,some ⟨bB,0,none⟩,v6,p6),?_,(.m4 O O O O),(Sk6 (Sr)),Tt1⟩
    refine ⟨by show rs.length-(k+1)<rs.length-k;omega,by omega, .inr rfl,?_⟩
    have e:t.bs++(rs.take (k+1)).flatMap encI=t.bs++(rs.take k).flatMap encI++encI rs[k] :=by rw [List.take_succ_eq_append_getElem hk,List.flatMap_append,List.append_assoc];simp
    rw [e];exact hr6
   ·refine Kr (JR (JR (Kg (Jf (Jc (Ja (Lq (Jd O) (Je (Jf (Jn ?_))))))))))
    refine ⟨_,[_,_,_,_,_,_],[],fun Z w hs=> .tmp O .nil,?_,fun Z w hs=>hs.out (Sk6 (Sr)) (fun _ h=>h)⟩
    simp only [decide_eq_false_iff_not] at h22
    obtain rfl:k=rs.length:=by omega
    have hrow:=hI.2.2
    rw [List.take_length] at hrow
    refine ⟨O,O,ad5,v5,p5,rv4,rp4,⟨hI.2.1,?_,?_⟩,O⟩
    ·show Row 5 1 v5 ((turnR s hid).bs++rs.flatMap encI).length (ints .u8 ((turnR s hid).bs++rs.flatMap encI)) p5
     rw [←hM.2];exact hrow
    ·show Row 121 2 rv4 (turnR s hid).rs.length (Kb runC (turnR s hid).rs) rp4
     rw [←hM.2];exact hM.1.rr
theorem EK {P:Program} {n:Dm} {R:Post} {l:Fr} {Ps:List Part} {As:List Fact} {c:Code} {A:Option Addr} {t:Tr} (hA:TrF A t∈As) (ht:t≠ .nil)
  (h: ∀(b:Nat) (Al Ar Ac:Option Addr) (rs:List Int) (cc:Nat) (hid plus:Int),A=some ⟨b,0,none⟩→WC P n c R l Ps (FzA b 0 (ndC (allF t) Al Ar Ac rs cc hid plus)::As)):WC P n c R l Ps As:=by
 cases t with
 | nil=>exact absurd rfl ht
 | nd s lt rs hid rt plus=>
  intro Z w a hs ha
  obtain ⟨b,Al,Ar,Ac,cc,e,g1,g2,g3,g4,g5⟩:trRep Z w (.nd s lt rs hid rt plus) A:=hs.facts _ hA
  exact h b Al Ar Ac rs cc hid plus e Z w a (hs.addFact (A:=FzA b 0 (ndC s Al Ar Ac rs cc hid plus)) ⟨g1,g2⟩) ha
theorem wf_pos {t:Tr} (hw:Wf t) (ht:t≠ .nil):0<t.row.length:=by
 cases t with
 | nil=>exact absurd rfl ht
 | nd s l rs hid r plus=>
  have h:=List.length_pos_iff.2 hw.opened.ne
  simp only [Tr.row,Qk,List.length_append,Ju];omega
def CbOk (fn:FuncId) (caps:List Value) (I:List Ce→Part→Prop) (B:Nat):Prop:= ∀(X:List Ce) (q:Part) (x:Int) (rs:List Int) (hid:Int) (A:Option Addr) (c:Nat),I X q→rs≠ [] →X.length+rs.length≤B→Sp Tryz.prog fn ([.int .i64 x,pcV rs hid A c] ++caps) [q] [RdF runeD A c rs] (fun v Lo fs=>v= .bool true∧fs= [] ∧ ∃q',Lo= [q'] ∧I (X++cellsOf rs hid) q')
def WkP (I:List Ce→Part→Prop) (X:List Ce):Value→List Part→List Fact→Prop:=fun v Lo fs=>v= .bool true∧fs= [] ∧ ∃q',Lo= [q'] ∧I X q'
theorem walk_0 (fn:FuncId) (caps:List Value) (I:List Ce→Part→Prop) (X:List Ce) (q:Part) (x:Int) (hI:I X q):Sp Tryz.prog 90 [.pointer none, .int .i64 x, .int .i64 0, .func (.func fn) #[] caps.toArray] [q] [TrF none .nil] (WkP I X):=by
 refine Sp.of (n:=66) ⟨_,Tryz.func90,O,O,O,O⟩ (Nat.le_of_ble_eq_true O) fun Ps As=>Jc (Ja (Lq (Jd O) (Je (Jf (Jc (Jc (Ja (Lq (Jb O) (Lq (KK Un126 O O (by simp)) (Lq (Jb O) (Ln O O O O (Ln O O O O (Ln O O O O ?_)))))))))))))
 refine Ln O O O O (Ln O O O O (Ln O O O O (Ln O O O O (Ln O O O O (Ln O O O O (Lq (JH O O O) (Je (Jf (JL [(25,_),(8,_),(0,_),(1,_),(2,_),(3,_)] (.m6 O O O O O O) (JQ O O (Jc (Ja ?_))))))))))))
 refine Lq (Jd O) (Je (Jf (Jn (Jr ?_))))
 refine ⟨_,[_],[],fun Z w hs=> .tmp O .nil,?_,fun Z w hs=>hs.out (Sk (Sr)) (fun _ h=>h)⟩
 exact ⟨O,O,_,O,hI⟩
theorem fd112_0Xw48 (x0:Int) (x1:Int) (x2:Int) (x3:Int) (x4:Int) (x5:Int) (w:World):(Instr.field 138 (.agg #[.int .i64 x0, .int .i64 x1, .int .i64 x2, .int .i64 x3, .int .i64 x4, .int .i64 x5]) 0).run Tryz.prog w= .ok (.int .i64 x0) w:=by kernel_rfl
theorem walk_n (fn:FuncId) (caps:List Value) (I:List Ce→Part→Prop) (B:Nat) (hB:B≤1073741824) (hcb:CbOk fn caps I B) (N:Nat): ∀(A:Option Addr) (t:Tr) (X:List Ce) (q:Part) (wt:Wf t),t.size≤N→X.length+t.row.length≤B→I X q→Sp Tryz.prog 90 [.pointer A, .int .i64 X.length, .int .i64 0, .func (.func fn) #[] caps.toArray] [q] [TrF A t] (WkP I (X++t.row)):=by
 induction N using Nat.strongRecOn
 rename_i N ih
 intro A t X q wt hN hb hI
 by_cases nt:t= .nil
 ·subst nt
  have h0:=walk_0 fn caps I (X++ []) q X.length (by rw [List.append_nil];exact hI)
  refine ⟨h0.enters,fun Z w Ps As hs=> ?_⟩
  obtain rfl:A=none:=hs.facts _ (by simp:TrF A .nil∈ [TrF A .nil] ++As)
  exact h0.calls Z w Ps As hs
 have hpos:=wf_pos wt nt
 refine Sp.of (n:=66) ⟨_,Tryz.func90,O,O,O,O⟩ (Nat.le_of_ble_eq_true O) fun Ps As=>EK Mm0 nt fun b Al Ar Ac rs0 cc hid0 plus0 e=> ?_
 cases e
 refine Jc (Ja (Lq (Jd O) (Je (Jf (Jc (Jc (Ja (Lq (Jb O) (Lq (KK Un126 O O (by simp)) (Lq (Jb O) (Lg O O O O (Jb O) (Lg O O O O (Jb O) (Lg O O O O (JB O) (Lg O O O O (Jh (o':=_+0) Un188 O Kz O O) ?_))))))))))))))
 refine Lg O O O O (Jh (o':=_+0) Un138 O ti3 O O) (Lg O O O O (Ks (j:=0) Un3 O O Mm0 O O) (Lg O O O O (JZ O O (by rw [wt.tot];exact wr64 (by omega)) (c:=((X.length+t.row.length:Nat):Int))) (Lg O O O O (Jb O) (Lg O O O O (YK O O) (Lq (JA O O O) (Je (Jf (Jz O (by simp;omega) (Jp (Jf (Jc (Ja (Lq (Jb O) ?_)))))))))))))
 refine Jg O (Jo (open_r (some ⟨b,0,none⟩) t wt nt (by omega)) (.n1 O) (by decide) (Jl Mm1 Jx) fun _ _ _ q9=>?_)
 obtain ⟨B1,l1,s1,k1,C1,d1,D1,m1,rfl,rfl,rfl,wl1,wm1,n1,h1,r1,zl1,zm1⟩:=q9
 have e1:=congrArg List.length r1
 simp only [List.length_append,Ju] at e1
 have n1p:=List.length_pos_iff.2 n1
 refine Lq (Jb O) (Lq (Jk (vs:= [_,_,_]) O O) (Lq (Jk (vs:= [_,_,_]) O O) (Lq (Jk (vs:= [_,_,_]) O O) (Jg O (Jv (cs:= [_,_]) J3 O (by decide) fun b10=>Lq (Jd O) (Jg O (Jq (cs':= [_,_]) (vs:= [_,_]) J3 O O O O O (Nat.le_of_ble_eq_true O) .z (Lq (Jd O) (Je (Jf (Jc (Jc (Ja (Lq (Jb O) ?_))))))))))))))
 refine Lq (Jb O) (Lq (Jb O) (Lq (Jb O) (Jg O (JX (ih l1.size (by omega) B1 l1 X q wl1 (Nat.le_refl _) (by omega) hI) (.n4 O O O O) (by decide) .z1 (Jl Mm0 Jx) fun _ _ _ q9=>?_))))
 obtain ⟨rfl,rfl,q1,rfl,hI1⟩:=q9
 refine Lq (KC O) (Je (Jf (Jz O O (Jp (Jf (Jc (Ja (Lq (Jb O) (Lq (Jb O) (Jg O (Jo (YD B1 l1) (.n1 O) (by decide) (Jl Mm0 Jx) fun _ _ _ q9=>?_)))))))))))
 obtain ⟨rfl,rfl,rfl⟩:=q9
 refine Lq (Yn O (fd112_0Xw48 _ _ _ _ _ _)) (Lq (JZ O O (by rw [wl1.tot];exact wr64 (by omega)) (c:=((X.length+l1.row.length:Nat):Int))) (Lq (Jd O) (Je (Jf (Jc (Jc (Jt .z (Ja (Lq (Jb O) (Lq (Jh (o':=0) Un134 O Yb O O) (Lq (Jj Un132 O O (Ji (Jm)) O) (Lq (J7 Un132 O) ?_))))))))))))
 refine Lq (JZ O O (wr64 (by omega)) (c:=((X.length+l1.row.length+s1.length:Nat):Int))) (Lq (Jb O) (Lq (Ke O O) (Lq (Jb O) (Lg O O O (by simp;omega) (Jb O) (Lg O O O (by simp;omega) (Jb O) (Lg O O O (by simp;omega) (Jw (vs:= [_,_]) Un134 O J3 O (Ji (Jm)) O O) (Kk O O O (by simp;omega) (Qv (caps:=caps) O (hcb (X++l1.row) q1 _ s1 k1 C1 d1 hI1 n1 (by rw [List.length_append];omega)) (.n2 O O) (by decide) (List.Perm.refl _) (Jl Mm1 Jx) fun u7 Lo fs hres=> ?_))))))))
 obtain ⟨rfl,rfl,q2,rfl,hI2⟩:=hres
 refine Lg O O O (by simp;omega) (KC O) (Lq (JH O (by simp;omega) O) (Je (Jf (JL [(56,_),(12,_),(11,_),(10,_),(8,_),(2,_),(3,_)] (.m7 O O O O O O O) (Jz O O (Jp (Jf (Jc (Ja (Lq (Jb O) (Lq (Jb O) (Lq (Jh (o':=0) Un134 O Yb O O) (Lq (Jj Un132 O O (Ji (Jm)) O) (Lq (J7 Un132 O) ?_))))))))))))))
 refine Lq (JZ rfl rfl (by rw [show (X++l1.row++cellsOf s1 k1).length=X.length+l1.row.length+s1.length from by rw [List.length_append,List.length_append,Ju]];exact wr64 (by omega)) (c:=(((X++l1.row++cellsOf s1 k1).length:Nat):Int))) (Lq (Jb rfl) (Lq (Jb rfl) (Jg rfl (JX (ih m1.size (by omega) D1 m1 (X++l1.row++cellsOf s1 k1) q2 wm1 (Nat.le_refl _) (by rw [List.length_append,List.length_append,Ju];omega) hI2) (.n4 rfl rfl rfl rfl) (by decide) .z (Jl Mm2 Jx) fun _ _ _ q9=>?_))))
 obtain ⟨rfl,rfl,q3,rfl,hI3⟩:=q9
 refine Lq (Jd O) (Je (Jf (Jn ?_)))
 refine ⟨_,[_],[],fun Z w hs=> .tmp O .nil,?_,fun Z w hs=>hs.out (Sk (Sd (Sr))) Tt4⟩
 refine ⟨O,O,q3,O,?_⟩
 rw [r1,←List.append_assoc,←List.append_assoc];exact hI3
theorem XD (s:Sm):Sp Tryz.prog 78 [smV s] [] [] (Is (.int .i64 (shownF s))):=by
 refine Sp.of (n:=8) ⟨_,Tryz.func78,O,O,O,O⟩ (Nat.le_of_ble_eq_true O) fun Ps As=>Jc (Ja (Jg O (J1 (cs:= [_,_,_,_,_,_]) O O (by decide) fun b1=>Lq (Jd O) (Je (Jf (Jc (Jc (Ja (Lq (Jh (o':=3) Un138 O ti3 O O) (Lq (Jj Un3 O O Jm O) (Lq (Ka O O) (Je (Jf (Jy O (fun h5=> ?_) (fun h5=> ?_)))))))))))))))
 ·refine Jc (Ja (Lq (Jh (o':=4) Un138 O ti3 O O) (Lq (Jj Un3 O O Jm O) (Lq (Jd O) (Je (Jf (Jn (Jr ?_))))))))
  refine ⟨_,[],[],fun Z w hs=> .tmp O .nil,?_,fun Z w hs=>hs.out (Sd (Sr)) (fun _ h=>h)⟩
  try simp only [Bp,Bq] at *
  exact ⟨congrArg (Value.int .i64) (by unfold shownF;first | rw [if_pos h5] | rw [if_neg h5]),O,O⟩
 ·refine Jp (Jf (Jc (Ja (Lq (Jd O) (Je (Jf (Jn ?_)))))))
  refine ⟨_,[],[],fun Z w hs=> .tmp O .nil,?_,fun Z w hs=>hs.out (Sd (Sr)) (fun _ h=>h)⟩
  try simp only [Bp,Bq] at *
  exact ⟨congrArg (Value.int .i64) (by unfold shownF;first | rw [if_pos h5] | rw [if_neg h5]),O,O⟩
theorem YJ (b:Nat) (A:Option Addr) (t:Tr) (wt:Wf t):Sp Tryz.prog 59 [.pointer (some ⟨b,0,none⟩)] [rpP b A] [TrF A t] (fun v Lo fs=>v= .int .i64 (J8 t.row:Nat)∧Lo= [rpP b A] ∧fs= []):=by
 refine Sp.of (n:=9) ⟨_,Tryz.func59,O,O,O,O⟩ (Nat.le_of_ble_eq_true O) fun Ps As=>Jc (Ja (Lq (Jd O) (Je (Jf (Jc (Ja (Lq (Jb O) (Lq (JB O) (Lq (Jh (o':=0) Un128 O YX O O) (Lq (Jj Un126 O O Jm O) (Jg O (Jo (YD A t) (.n1 O) (by decide) (Jl Mm0 Jx) fun _ _ _ q9=>?_))))))))))))
 obtain ⟨rfl,rfl,rfl⟩:=q9
 refine Jg O (Jo (XD (allF t)) (.n1 O) (by decide) Jx fun _ _ _ q9=>?_)
 obtain ⟨rfl,rfl,rfl⟩:=q9
 refine Lq (Jd O) (Je (Jf (Jn ?_)))
 refine ⟨_,[_],[],fun Z w hs=> .tmp O .nil,?_,fun Z w hs=>hs.out (Sk (Sr)) (fun _ h=>h)⟩
 exact ⟨congrArg (Value.int .i64) wt.shown,O,O⟩
theorem fd112_0Xw53 (x0:Int) (x1:Int) (x2:Int) (x3:Int) (x4:Int) (x5:Int) (w:World):(Instr.field 138 (.agg #[.int .i64 x0, .int .i64 x1, .int .i64 x2, .int .i64 x3, .int .i64 x4, .int .i64 x5]) 0).run Tryz.prog w= .ok (.int .i64 x0) w:=by kernel_rfl
theorem HC (b:Nat) (A:Option Addr) (t:Tr) (wt:Wf t) (hb:t.row.length≤1048576) (h0:0<J8 t.row):Sp Tryz.prog 44 [.pointer (some ⟨b,0,none⟩), .int .i64 0] [rpP b A] [TrF A t] (fun v Lo fs=> ∃k:Nat,Fst t.row k∧v= .tuple #[.int .i64 k, .int .i64 0] ∧Lo= [rpP b A] ∧fs= []):=by
 refine Sp.of (n:=73) ⟨_,Tryz.func44,O,O,O,O⟩ (Nat.le_of_ble_eq_true O) fun Ps As=>Jc (Ja (Lq (Jd O) (Lq (Jd O) (Je (Jf (Jc (Jc (Ja (Lq (Jb O) (Lq (Ku O O) (Lq (Jb O) (Lg O O O O (Jb O) (Lg O O O O (Jb O) ?_)))))))))))))
 refine Kk O O O O (JX (YJ b A t wt) (.n1 O) (by decide) .z (Jl Mm0 Jx) fun _ _ _ q9=>?_)
 obtain ⟨rfl,rfl,rfl⟩:=q9
 refine Lg O O O O (Ke O O) (Lq (JA O O O) (Je (Jf (Jz O (by simp) (Jp (Jf (Jc (Jc (Ja (Lq (Jb O) (Lq (Jb O) (Jg O (JX (YJ b A t wt) (.n1 O) (by decide) .z (Jl Mm0 Jx) fun _ _ _ q9=>?_)))))))))))))
 obtain ⟨rfl,rfl,rfl⟩:=q9
 refine Lq (Ka O O) (Je (Jf (Jz O (by simp;omega) (Jp (Jf (Jc (Ja (Lq (Jd O) (Je (Jf (Jc (Ja (Lq (Jb O) (Lq (JB O) (Lq (Jh (o':=0) Un128 O YX O O) (Lq (Jj Un126 O O Jm O) ?_))))))))))))))))
 refine Lq (Jd O) (Je (Jf (JO ?_)))
 refine Ki (α:=Nat×Option Addr×Tr) (fun (k,D,z)=>z.size)
  (fun (k,D,z)=> [(0, .pointer (some ⟨b,0,none⟩)),(1, .int .i64 0),(6, .int .i64 k),(7, .pointer D)])
  (fun (k,D,z)=>(rpP b A::Ps))
  (fun (k,D,z)=>(TrF D z::TrF A t::As))
  (fun (k,D,z)=>GoI t.row z k)
  (0,A,t) ?_ (.m4 rfl rfl rfl rfl) (Sk (Sr)) (Jl Mm0 (fun _ h=>h)) ?_
 ·exact GoI.zero wt h0
 ·rintro ⟨k,D,z⟩ hI
  have hbd:=hI.bd
  refine JO (Jc (Ja (Lq (Jb O) (Jg O (Jo (open_r D z hI.wf hI.ne (by omega)) (.n1 O) (by decide) (Jl Mm0 Jx) fun _ _ _ q9=>?_)))))
  obtain ⟨B1,l1,s1,k1,C1,d1,D1,m1,rfl,rfl,rfl,wl1,wm1,n1,h1,r1,zl1,zm1⟩:=q9
  have e1:=congrArg List.length r1
  simp only [List.length_append,Ju] at e1
  have n1p:=List.length_pos_iff.2 n1
  refine Lq (Jb O) (Lq (Jk (vs:= [_,_,_]) O O) (Lq (Jk (vs:= [_,_,_]) O O) (Lq (Jk (vs:= [_,_,_]) O O) (Jg O (Jv (cs:= [_,_]) J3 O (by decide) fun b9=>Lq (Jd O) (Jg O (Jq (cs':= [_,_]) (vs:= [_,_]) J3 O O O O O (Nat.le_of_ble_eq_true O) .z (Lq (Jd O) (Je (Jf (Jc (Ja (Lq (Jb O) ?_)))))))))))))
  refine Jg O (Jo (YD B1 l1) (.n1 O) (by decide) (Jl Mm0 Jx) fun _ _ _ q9=>?_)
  obtain ⟨rfl,rfl,rfl⟩:=q9
  refine Jg O (Jo (XD (allF l1)) (.n1 O) (by decide) Jx fun _ _ _ q9=>?_)
  obtain ⟨rfl,rfl,rfl⟩:=q9
  rw [wl1.shown]
  refine Lq (Jd O) (Je (Jf (Jc (Jc (Ja (Lq (Jb O) (Lq (Jb O) (Lq (Ku O O) (Je (Jf (Jy O (fun h41=> ?_) (fun h41=> ?_))))))))))))
  ·refine Jc (Ja (Lq (Jb O) (Lq (Jd O) (Je (Jf (Kr (JR (Kg (Ko ?_)))))))))
   refine ⟨(k,B1,l1),?_,(.m4 O O O O),(Sd (Sk (Sr))),(Jl Mm0 Tt4)⟩
   simp only [decide_eq_true_eq] at h41
   exact ⟨zl1,hI.left wl1 r1 (by omega)⟩
  ·have hz:J8 l1.row=0:=by simp only [decide_eq_false_iff_not] at h41;omega
   refine Jp (Jf (Jc (Ja (Lq (Jb O) (Lq (Jb O) (Lq (KS O O (by rw [hz];exact wr64 (by omega)) (c:=0)) (Lq (Jd O) (Je (Jf (Jc (Ja (Lq (Jb O) (Lq (Jb O) (Jg O (Jo (YD B1 l1) (.n1 O) (by decide) (Jl Mm0 Jx) fun _ _ _ q9=>?_)))))))))))))))
   obtain ⟨rfl,rfl,rfl⟩:=q9
   refine Lq (Yn O (fd112_0Xw53 _ _ _ _ _ _)) (Lq (JZ O O (by rw [wl1.tot];exact wr64 (by omega)) (c:=((k+l1.row.length:Nat):Int))) (Lq (Jd O) (Je (Jf (Jc (Jc (Ja (Lq (Jh (o':=1) Un134 O ti3 O O) (Lq (Jj Un3 O O Jm O) (Lq (Ka O O) (Je (Jf (Jy O (fun h53=> ?_) (fun h53=> ?_))))))))))))))
   ·refine Jc (Jc (Ja (Lq (Jb O) (Lq (Jh (o':=0) Un134 O Yb O O) (Lq (Jj Un132 O O Jm O) (Lq (J7 Un132 O) (Lq (Ku O O) (Je (Jf (JQ O (by simp;omega) (Jc (Ja (Lq (Jb O) ?_)))))))))))))
    refine Lq (Jb O) (Lq (JZ O O (wr64 (by omega)) (c:=((k+l1.row.length:Nat):Int))) (Lq (Jd O) (Lq (Jd O) (Je (Jf (Jn (Jr (Jr (JM (Jr (JM ?_)))))))))))
    refine ⟨_,[_],[],fun Z w hs=> .tmp O (.tmp O .nil),?_,fun Z w hs=>hs.out (Sd (Sk (Sr))) Tt4⟩
    have hg:=hI.own r1 hz
    exact ⟨_,hg,O,O,O⟩
   ·refine Jp (Jf (Jc (Ja (Lq (Jb O) (Lq (Jh (o':=0) Un134 O Yb O O) (Lq (Jj Un132 O O Jm O) (Lq (J7 Un132 O) (Lq (JZ O O (wr64 (by omega)) (c:=((k+l1.row.length+s1.length:Nat):Int))) (Lq (Jd O) (Je (Jf (Ja (Lq (Jb O) (Lq (Jd O) ?_))))))))))))))
    refine Je (J9 (Ko ?_))
    refine ⟨(k+l1.row.length+s1.length,D1,m1),?_,(.m4 O O O O),(Sd (Sk (Sr))),(Jl Mm2 Tt4)⟩
    have hk0:k1≠0:=by simpa using h53
    have hg:=hI.right wm1 r1 hz (cells_hid s1 hk0)
    rw [Ju] at hg
    exact ⟨zm1,hg⟩
theorem Zd (bB:Nat) (us:List Int) (ad:Option Addr) (v:Value) (p:Part) (had:ad=none∨ad=some ⟨bB,0,none⟩) (hr:Row 5 1 v us.length (ints .u8 us) p) (hu:us.length≤8388608) (x:Int) (rs:List Int) (A:Option Addr) (c:Nat) (hl:rs.length≤2097152):Sp Tryz.prog 109 [.int .i64 x, .slice A rs.length c, .pointer (some ⟨bB,0,none⟩)] [blP bB ad v,p] [RdF runeD A c rs] (fun u Lo fs=>u= .tuple #[] ∧fs= [] ∧ ∃ad' v' p',(ad'=none∨ad'=some ⟨bB,0,none⟩)∧Row 5 1 v' (us++rs.flatMap encI).length (ints .u8 (us++rs.flatMap encI)) p'∧Lo= [blP bB ad' v',p']):=by
 refine Sp.of (n:=16) ⟨_,Tryz.func109,O,O,O,O⟩ (Nat.le_of_ble_eq_true O) fun Ps As=>Jc (Ja (Lq (Jb O) (Lq (J7 Un132 O) (Lq (Jb O) (Je (Jf (JO ?_)))))))
 refine Ki (α:=Nat×Option Addr×Value×Part) (fun (k,ad5,v5,p5)=>rs.length-k)
  (fun (k,ad5,v5,p5)=> [(2, .pointer (some ⟨bB,0,none⟩)),(7, .slice A rs.length c),(8, .int .i64 rs.length),(9, .int .i64 k)])
  (fun (k,ad5,v5,p5)=>(blP bB ad5 v5::p5::Ps))
  (fun (k,ad5,v5,p5)=>(RdF runeD A c rs::As))
  (fun (k,ad5,v5,p5)=>k≤rs.length∧(ad5=none∨ad5=some ⟨bB,0,none⟩)∧Row 5 1 v5 (us++(rs.take k).flatMap encI).length (ints .u8 (us++(rs.take k).flatMap encI)) p5)
  (0,ad,v,p) ?_ (.m4 rfl rfl rfl rfl) (Sk2 (Sr)) (fun _ h=>h) ?_
 ·refine ⟨Nat.zero_le _,had,?_⟩
  rw [List.take_zero,List.flatMap_nil,List.append_nil];exact hr
 ·rintro ⟨k,ad5,v5,p5⟩ hI
  have hle:=hI.1
  have hlb:(us++(rs.take k).flatMap encI).length≤1073741824:=by
   have h4:=QI (rs.take k)
   rw [List.length_take] at h4
   rw [List.length_append];omega
  refine Jc (Ja (Lq (Ku O O) (Je (Jf (Jc (Jy O (fun h10=> ?_) (fun h10=> ?_)))))))
  ·refine Jp (Jf (Jc (JO (Jc ?_))))
   try simp only [Bp,Bq] at *
   have hk:k<rs.length:=by omega
   refine Kh (k:=k) Mm0 (List.getElem?_eq_getElem hk) (rune_open _) fun bx qx yx ex=> ?_
   cases ex
   refine Ja (Lq (Kc Un132 VX O O (by omega) (by omega)) (Lq (Ks (j:=0) Un21 O O Mm0 O O) (Lq (Jd O) (Je (Jf (Ja (Lq (Jb O) (Jg O (J4 (EG bB ad5 v5 (us++(rs.take k).flatMap encI) p5 rs[k] hI.2.1 hI.2.2 hlb) (.n2 O O) (by decide) .z .z Jx fun _ _ _ q9=>?_)))))))))
   obtain ⟨v6,p6,hr6,rfl,rfl⟩:=q9
   refine Je (J9 (Jf (Ja (Lq (JZ O O (wr64 (by omega)) (c:=((k+1:Nat):Int))) (Lq (Jb O) (Je (Ko ?_)))))))
   refine ⟨(k+1,some ⟨bB,0,none⟩,v6,p6),?_,(.m4 O O O O),(Sk2 (Sr)),Tt1⟩
   refine ⟨by show rs.length-(k+1)<rs.length-k;omega,by omega, .inr rfl,?_⟩
   have e:us++(rs.take (k+1)).flatMap encI=us++(rs.take k).flatMap encI++encI rs[k] :=by rw [List.take_succ_eq_append_getElem hk,List.flatMap_append,List.append_assoc];simp
   rw [e];exact hr6
  ·refine Kr (JR (JR (Kg ?_)))
   refine ⟨_,[_,_],[],fun Z w hs=> .nil,?_,fun Z w hs=>hs.out (Sk2 (Sr)) (fun _ h=>h)⟩
   simp only [decide_eq_false_iff_not] at h10
   obtain rfl:k=rs.length:=by omega
   have hrow:=hI.2.2
   rw [List.take_length] at hrow
   exact ⟨O,O,ad5,v5,p5,hI.2.1,hrow,O⟩
theorem HT {α:Type} {e:De α} {P:Program} {n:Dm} {R:Post} {l:Fr} {Ps:List Part} {As:List Fact} {c:Code} {A:Option Addr} {cap:Nat} {xs:List α} (hA:RdF e A cap xs∈As) (h:WC P n c R l Ps (RdF e (cutA A 0 cap e.sz) cap xs::As)):WC P n c R l Ps As:=by
 have:=fun h'=>V4 (P:=P) (n:=n) (R:=R) (l:=l) (Ps:=Ps) (c:=c) xs.length hA (Nat.le_refl _) h'
 rw [List.take_length] at this
 exact this h
def clT (bB:Nat):Value:= .func (.func 109) #[] #[.pointer (some ⟨bB,0,none⟩)]
abbrev seP (bS bB:Nat):Part:= [(bS,JD [clT bB] 144)]
def txtL (bF bL bS bB:Nat) (F:Nat) (left:Int) (ad:Option Addr) (v:Value) (p:Part):List Part:= [hcP bF F,hcP bL left,seP bS bB,blP bB ad v,p]
structure TxS (bB:Nat) (us:List Int) (ad:Option Addr) (v:Value) (p:Part):Prop where
 ad:ad=none∨ad=some ⟨bB,0,none⟩
 row:Row 5 1 v us.length (ints .u8 us) p
def TxI (bF bL bS bB:Nat) (F:Nat) (R X:List Ce) (q:Part):Prop:= ∃ad v p,TxS bB (vbs X) ad v p∧q=(txtL bF bL bS bB F ((J8 R:Int)-J8 X) ad v p).flatten
def TxJ (bF bL bS bB:Nat) (F:Nat) (R:List Ce) (q:Part):Prop:= ∃left ad v p,TxS bB (vbs R) ad v p∧q=(txtL bF bL bS bB F left ad v p).flatten
theorem btw_h (bF bL bS bB F:Nat) (left:Int) (ad:Option Addr) (v:Value) (p:Part) (x:Int) (rs:List Int) (hid:Int) (A:Option Addr) (c:Nat) (hh:0<hid):Sp Tryz.prog 108 [.int .i64 x,pcV rs hid A c, .pointer (some ⟨bF,0,none⟩), .pointer (some ⟨bL,0,none⟩), .pointer (some ⟨bS,0,none⟩)] (txtL bF bL bS bB F left ad v p) [RdF runeD A c rs] (fun u Lo fs=>u= .bool true∧fs= [] ∧Lo=txtL bF bL bS bB F left ad v p):=by
 refine Sp.of (n:=39) ⟨_,Tryz.func108,O,O,O,O⟩ (Nat.le_of_ble_eq_true O) fun Ps As=>Jc (Ja (Jg O (J1 (cs:= [_,_]) O O (by decide) fun b6=>Lq (Jd O) (Je (Jf (Jc (Jc (Ja (Lq (Jh (o':=1) Un134 O ti3 O O) (Lq (Jj Un3 O O Jm O) (Lq (Ke O O) (Je (Jf (JQ O (by simpa using hh) ?_))))))))))))))
 refine Jc (Ja (Lq (Jd O) (Je (Jf (Jn (Jr ?_))))))
 refine ⟨_,[_,_,_,_,_],[],fun Z w hs=> .tmp O .nil,?_,fun Z w hs=>hs.out (Sd (Sk5 (Sr))) (fun _ h=>h)⟩
 exact ⟨O,O,O⟩
theorem btw_v (bF bL bS bB F:Nat) (left:Int) (us:List Int) (ad:Option Addr) (v:Value) (p:Part) (hs:TxS bB us ad v p) (hu:us.length≤8388608) (x:Nat) (rs:List Int) (A:Option Addr) (c:Nat) (hF:F≤x) (hx:x≤1048576) (hl:rs.length≤1048576) (hl2:(rs.length:Int)≤left) (hl3:left≤1048576):Sp Tryz.prog 108 [.int .i64 x,pcV rs 0 A c, .pointer (some ⟨bF,0,none⟩), .pointer (some ⟨bL,0,none⟩), .pointer (some ⟨bS,0,none⟩)] (txtL bF bL bS bB F left ad v p) [RdF runeD A c rs] (fun u Lo fs=>u= .bool (decide (left-rs.length>0))∧fs= [] ∧ ∃ad' v' p',TxS bB (us++rs.flatMap encI) ad' v' p'∧Lo=txtL bF bL bS bB F (left-rs.length) ad' v' p'):=by
 refine Sp.of (n:=39) ⟨_,Tryz.func108,O,O,O,O⟩ (Nat.le_of_ble_eq_true O) fun Ps As=>Jc (Ja (Jg O (J1 (cs:= [_,_]) O O (by decide) fun b6=>Lq (Jd O) (Je (Jf (Jc (Jc (Ja (Lq (Jh (o':=1) Un134 O ti3 O O) (Lq (Jj Un3 O O Jm O) (Lq (Ke O O) (Je (Jf (Jz O O (Jp (Jf (Jc (Ja (Lq (Jj Un3 O O (Ji (Jm)) O) ?_)))))))))))))))))))
 refine Lq (Jb O) (Lq (KS O O (wr64 (by omega))) (Lq (VM O O) (Lq (Jd O) (Je (Jf (Jc (Gt Mm0 fun hcap=>V3 0 Mm0 (Nat.zero_le _) ?_)))))))
 have hm0:max (0:Int) ((F:Int)-x)=0:=by omega
 refine Ja (Lq (Jh (o':=0) Un134 O Yb O O) (Lq (Jj Un132 O O Jm O) (Lq (Jb O) (Lq (Vr (j:=0) (m:=rs.length) (by omega) (by omega) Un132 VX O O (by omega) (by omega)) (Lq (Jd O) (Je (Jf (Jc (HT Mm0 ?_)))))))))
 have hmn:min left (rs.length:Int)=rs.length:=by omega
 refine Ja (Lq (Jb O) (Lq (Jj Un3 O O (Ji (Ji (Jm))) O) (Lq (Jb O) (Lq (J7 Un132 O) (Lq (XY O O) (Lq (Vs (m:=rs.length) (by omega) Un132 VX O O (by omega) (by omega)) (Lq (Jd O) (Je (Jf (Jc (Jt .z5 ?_)))))))))))
 refine Jt .z5 (Ja (Lq (Jj Un144 O O (Ji (Ji (Ji (Ji (Ji (Jm)))))) O) (Lq (Jb O) (Lq (Jb O) (Lq (JZ O O (wr64 (by omega))) (Lq (Jb O) (Jg O (Qv (caps:= [_]) O (Zd bB us ad v p hs.ad hs.row hu _ rs _ _ (by omega)) (.n2 O O) (by decide) (List.Perm.refl _) (Jl Mm0 Jx) fun u6 Lo fs hres=> ?_))))))))
 obtain ⟨rfl,rfl,ad2,v2,p2,had2,hr2,rfl⟩:=hres
 refine Je (Jf (Jc (Ja (Lq (Jj Un3 O O (Ji (Ji (Ji (Ji (Jm))))) O) (Lq (Jb O) (Lq (J7 Un132 O) (Lq (KS O O (wr64 (by omega))) (Jg O (JN ti3 O O O .z .z4 (Je (Jf (Jc (Ja (Lq (Jj Un3 O O (Ji (Ji (Ji (Ji (Jm))))) O) (Lq (Ke O O) (Lq (Jd O) ?_))))))))))))))))
 refine Je (Jf (Jn ?_))
 refine ⟨_,[_,_,_,_,_],[],fun Z w hs=> .tmp O .nil,?_,fun Z w hs=>(((((hs.pick .z1).pick .z1).pick .z5).pick .z5).pick .z5).out (Sk5 (Sd (Sr))) Tt2⟩
 exact ⟨O,O,ad2,v2,p2,⟨had2,hr2⟩,O⟩
def CbF (fn:FuncId) (caps:List Value) (I:List Ce→Part→Prop) (J:Part→Prop) (R:List Ce) (lo:Nat):Prop:= ∀(X:List Ce) (q:Part) (rs:List Int) (hid:Int) (A:Option Addr) (c:Nat),I X q→rs≠ [] →0≤hid→X++cellsOf rs hid<+:R→lo<X.length+rs.length→Sp Tryz.prog fn ([.int .i64 X.length,pcV rs hid A c] ++caps) [q] [RdF runeD A c rs] (fun v Lo fs=>fs= [] ∧ ∃q',Lo= [q'] ∧((v= .bool true∧I (X++cellsOf rs hid) q')∨(v= .bool false∧J q')))
def WkF (I:List Ce→Part→Prop) (J:Part→Prop) (X:List Ce):Value→List Part→List Fact→Prop:=fun v Lo fs=>fs= [] ∧ ∃q',Lo= [q'] ∧((v= .bool true∧I X q')∨(v= .bool false∧J q'))
theorem walkf_0 (fn:FuncId) (caps:List Value) (I:List Ce→Part→Prop) (J:Part→Prop) (X:List Ce) (q:Part) (x y:Int) (hI:I X q):Sp Tryz.prog 90 [.pointer none, .int .i64 x, .int .i64 y, .func (.func fn) #[] caps.toArray] [q] [TrF none .nil] (WkF I J X):=by
 refine Sp.of (n:=66) ⟨_,Tryz.func90,O,O,O,O⟩ (Nat.le_of_ble_eq_true O) fun Ps As=>Jc (Ja (Lq (Jd O) (Je (Jf (Jc (Jc (Ja (Lq (Jb O) (Lq (KK Un126 O O (by simp)) (Lq (Jb O) (Ln O O O O (Ln O O O O (Ln O O O O ?_)))))))))))))
 refine Ln O O O O (Ln O O O O (Ln O O O O (Ln O O O O (Ln O O O O (Ln O O O O (Lq (JH O O O) (Je (Jf (JL [(25,_),(8,_),(0,_),(1,_),(2,_),(3,_)] (.m6 O O O O O O) (JQ O O (Jc (Ja ?_))))))))))))
 refine Lq (Jd O) (Je (Jf (Jn (Jr ?_))))
 refine ⟨_,[_],[],fun Z w hs=> .tmp O .nil,?_,fun Z w hs=>hs.out (Sk (Sr)) (fun _ h=>h)⟩
 exact ⟨O,_,O, .inl ⟨O,hI⟩⟩
theorem fd112_0Xw54 (x0:Int) (x1:Int) (x2:Int) (x3:Int) (x4:Int) (x5:Int) (w:World):(Instr.field 138 (.agg #[.int .i64 x0, .int .i64 x1, .int .i64 x2, .int .i64 x3, .int .i64 x4, .int .i64 x5]) 0).run Tryz.prog w= .ok (.int .i64 x0) w:=by kernel_rfl
theorem walk_f (fn:FuncId) (caps:List Value) (I:List Ce→Part→Prop) (J:Part→Prop) (R:List Ce) (lo:Nat) (hR:R.length≤1048576) (hlo:lo≤R.length) (hcb:CbF fn caps I J R lo) (hskip: ∀X Y q,I X q→X++Y<+:R→(X++Y).length≤lo→I (X++Y) q) (N:Nat): ∀(A:Option Addr) (t:Tr) (X:List Ce) (q:Part) (wt:Wf t),t.size≤N→X++t.row<+:R→I X q→Sp Tryz.prog 90 [.pointer A, .int .i64 X.length, .int .i64 lo, .func (.func fn) #[] caps.toArray] [q] [TrF A t] (WkF I J (X++t.row)):=by
 induction N using Nat.strongRecOn
 rename_i N ih
 intro A t X q wt hN hpre hI
 by_cases nt:t= .nil
 ·subst nt
  have h0:=walkf_0 fn caps I J (X++ []) q X.length lo (by rw [List.append_nil];exact hI)
  refine ⟨h0.enters,fun Z w Ps As hs=> ?_⟩
  obtain rfl:A=none:=hs.facts _ (by simp:TrF A .nil∈ [TrF A .nil] ++As)
  exact h0.calls Z w Ps As hs
 have hpos:=wf_pos wt nt
 have hpl:=hpre.length_le
 rw [List.length_append] at hpl
 refine Sp.of (n:=66) ⟨_,Tryz.func90,O,O,O,O⟩ (Nat.le_of_ble_eq_true O) fun Ps As=>EK Mm0 nt fun b Al Ar Ac rs0 cc hid0 plus0 e=> ?_
 cases e
 refine Jc (Ja (Lq (Jd O) (Je (Jf (Jc (Jc (Ja (Lq (Jb O) (Lq (KK Un126 O O (by simp)) (Lq (Jb O) (Lg O O O O (Jb O) (Lg O O O O (Jb O) (Lg O O O O (JB O) (Lg O O O O (Jh (o':=_+0) Un188 O Kz O O) ?_))))))))))))))
 refine Lg O O O O (Jh (o':=_+0) Un138 O ti3 O O) (Lg O O O O (Ks (j:=0) Un3 O O Mm0 O O) (Lg O O O O (JZ O O (by rw [wt.tot];exact wr64 (by omega)) (c:=((X.length+t.row.length:Nat):Int))) (Lg O O O O (Jb O) (Lg O O O O (YK O O) (Lq (JA O O O) (Je (Jf (Jy O (fun h25=> ?_) (fun h25=> ?_)))))))))
 ·refine Jc (Ja (Lq (Jd O) (Je (Jf (Jn (Jr ?_))))))
  refine ⟨_,[_],[],fun Z w hs=> .tmp O .nil,?_,fun Z w hs=>hs.out (Sk (Sr)) Tt1⟩
  exact ⟨O,_,O, .inl ⟨O,hskip X t.row q hI hpre (by rw [List.length_append];simp only [decide_eq_true_eq] at h25;omega)⟩⟩
 ·refine Jp (Jf (Jc (Ja (Lq (Jb O) (Jg O (Jo (open_r (some ⟨b,0,none⟩) t wt nt (by omega)) (.n1 O) (by decide) (Jl Mm1 Jx) fun _ _ _ q9=>?_))))))
  obtain ⟨B1,l1,s1,k1,C1,d1,D1,m1,rfl,rfl,rfl,wl1,wm1,n1,h1,r1,zl1,zm1⟩:=q9
  have e1:=congrArg List.length r1
  simp only [List.length_append,Ju] at e1
  have n1p:=List.length_pos_iff.2 n1
  have hp3:X++l1.row++cellsOf s1 k1++m1.row<+:R:=by have:=hpre;rw [r1,←List.append_assoc,←List.append_assoc] at this;exact this
  have hp2:X++l1.row++cellsOf s1 k1<+:R:=(List.prefix_append _ _).trans hp3
  have hp1:X++l1.row<+:R:=(List.prefix_append _ _).trans hp2
  have eX1:(X++l1.row).length=X.length+l1.row.length:=List.length_append
  have eX2:(X++l1.row++cellsOf s1 k1).length=X.length+l1.row.length+s1.length:=by rw [List.length_append,eX1,Ju]
  refine Lq (Jb O) (Lq (Jk (vs:= [_,_,_]) O O) (Lq (Jk (vs:= [_,_,_]) O O) (Lq (Jk (vs:= [_,_,_]) O O) (Jg O (Jv (cs:= [_,_]) J3 O (by decide) fun b10=>Lq (Jd O) (Jg O (Jq (cs':= [_,_]) (vs:= [_,_]) J3 O O O O O (Nat.le_of_ble_eq_true O) .z (Lq (Jd O) (Je (Jf (Jc (Jc (Jt .z1 ?_)))))))))))))
  refine Ja (Lq (Jb O) (Lq (Jb O) (Lq (Jb O) (Lq (Jb O) (Jg O (Y2 (ih l1.size (by omega) B1 l1 X q wl1 (Nat.le_refl _) hp1 hI) (.n4 O O O O) (by decide) (List.Perm.refl _) (Jl Mm0 Jx) fun u4 Lo fs hres=> ?_))))))
  obtain ⟨rfl,q1,rfl,hv⟩:=hres
  rcases hv with ⟨rfl,hI1⟩ | ⟨rfl,hJ⟩
  ·refine Lq (KC O) (Je (Jf (Jz O O (Jp (Jf (Jc (Ja (Lq (Jb O) (Lq (Jb O) (Jg O (Jo (YD B1 l1) (.n1 O) (by decide) (Jl Mm0 Jx) fun _ _ _ q9=>?_)))))))))))
   obtain ⟨rfl,rfl,rfl⟩:=q9
   refine Lq (Yn O (fd112_0Xw54 _ _ _ _ _ _)) (Lq (JZ O O (by rw [wl1.tot,eX1];exact wr64 (by omega)) (c:=(((X++l1.row).length:Nat):Int))) (Lq (Jd O) (Je (Jf (Jc (Jc (Jt .z (Ja (Lq (Jb O) (Lq (Jh (o':=0) Un134 O Yb O O) (Lq (Jj Un132 O O (Ji (Jm)) O) (Lq (J7 Un132 O) ?_))))))))))))
   refine Lq (JZ O O (by rw [eX1];exact wr64 (by omega)) (c:=((X.length+l1.row.length+s1.length:Nat):Int))) (Lq (Jb O) (Lq (Ke O O) (Lq (Jb O) (JU (t:=50) O (fun g50=> ?_) (fun g50=> ?_)))))
   ·refine Lg O O O g50 (Jb O) (Lg O O O g50 (Jb O) (Lg O O O g50 (Jw (vs:= [_,_]) Un134 O J3 O (Ji (Jm)) O O) (Kk O O O g50 (Qv (caps:=caps) O (hcb (X++l1.row) q1 s1 k1 C1 d1 hI1 n1 h1.1 hp2 (by simp only [decide_eq_true_eq] at g50;omega)) (.n2 O O) (by decide) (List.Perm.refl _) (Jl Mm1 Jx) fun u7 Lo fs hres=> ?_))))
    obtain ⟨rfl,q2,rfl,hv⟩:=hres
    rcases hv with ⟨rfl,hI2⟩ | ⟨rfl,hJ⟩
    ·refine Lg O O O g50 (KC O) (Lq (JH O g50 O) (Je (Jf (JL [(56,_),(12,_),(11,_),(10,_),(8,_),(2,_),(3,_)] (.m7 O O O O O O O) (Jz O O (Jp (Jf (Jc (Jt .z (Ja (Lq (Jb O) (Lq (Jb O) (Lq (Jh (o':=0) Un134 O Yb O O) ?_)))))))))))))
     refine Lq (Jj Un132 O O (Ji (Jm)) O) (Lq (J7 Un132 O) (Lq (JZ O O (by rw [eX1,eX2];exact wr64 (by omega)) (c:=(((X++l1.row++cellsOf s1 k1).length:Nat):Int))) (Lq (Jb O) (Lq (Jb O) (Jg O (Y2 (ih m1.size (by omega) D1 m1 (X++l1.row++cellsOf s1 k1) q2 wm1 (Nat.le_refl _) hp3 hI2) (.n4 O O O O) (by decide) (List.Perm.refl _) (Jl Mm2 Jx) fun _ _ _ q9=>?_))))))
     obtain ⟨rfl,q3,rfl,hv3⟩:=q9
     refine Lq (Jd O) (Je (Jf (Jn ?_)))
     refine ⟨_,[_],[],fun Z w hs=> .tmp O .nil,?_,fun Z w hs=>hs.out (Sk (Sd (Sr))) Tt4⟩
     refine ⟨O,q3,O,?_⟩
     rw [r1,←List.append_assoc,←List.append_assoc];exact hv3
    ·refine Lg O O O g50 (KC O) (Lq (JH O g50 O) (Je (Jf (JL [(56,_),(12,_),(11,_),(10,_),(8,_),(2,_),(3,_)] (.m7 O O O O O O O) (JQ O O (Jc (Ja (Lq (Jd O) (Je (Jf (Jn (Jr ?_))))))))))))
     refine ⟨_,[_],[],fun Z w hs=> .tmp O .nil,?_,fun Z w hs=>hs.out (Sk (Sd (Sr))) Tt4⟩
     exact ⟨O,_,O, .inr ⟨O,hJ⟩⟩
   ·refine Ln O O O g50 (Ln O O O g50 (Ln O O O g50 (Ln O O O g50 (Ln O O O g50 (Lq (JA O g50 O) (Je (Jf (JL [(56,_),(12,_),(11,_),(10,_),(8,_),(2,_),(3,_)] (.m7 O O O O O O O) (Jz O O (Jp (Jf (Jc ?_))))))))))))
    have hI2:=hskip (X++l1.row) (cellsOf s1 k1) q1 hI1 hp2 (by simp only [decide_eq_false_iff_not] at g50;omega)
    refine Jt .z (Ja (Lq (Jb O) (Lq (Jb O) (Lq (Jh (o':=0) Un134 O Yb O O) (Lq (Jj Un132 O O (Ji (Jm)) O) (Lq (J7 Un132 O) (Lq (JZ O O (by rw [eX1,eX2];exact wr64 (by omega)) (c:=(((X++l1.row++cellsOf s1 k1).length:Nat):Int))) (Lq (Jb O) (Lq (Jb O) ?_)))))))))
    refine Jg O (Y2 (ih m1.size (by omega) D1 m1 (X++l1.row++cellsOf s1 k1) q1 wm1 (Nat.le_refl _) hp3 hI2) (.n4 O O O O) (by decide) (List.Perm.refl _) (Jl Mm2 Jx) fun _ _ _ q9=>?_)
    obtain ⟨rfl,q3,rfl,hv3⟩:=q9
    refine Lq (Jd O) (Je (Jf (Jn ?_)))
    refine ⟨_,[_],[],fun Z w hs=> .tmp O .nil,?_,fun Z w hs=>hs.out (Sk (Sd (Sr))) Tt4⟩
    refine ⟨O,q3,O,?_⟩
    rw [r1,←List.append_assoc,←List.append_assoc];exact hv3
  ·refine Lq (KC O) (Je (Jf (JQ O O (Jc (Ja (Lq (Jd O) (Je (Jf (Jn (Jr ?_))))))))))
   refine ⟨_,[_],[],fun Z w hs=> .tmp O .nil,?_,fun Z w hs=>hs.out (Sk (Sd (Sr))) Tt4⟩
   exact ⟨O,_,O, .inr ⟨O,hJ⟩⟩
theorem vbs_ne {X:List Ce} (h:0<J8 X):vbs X≠ [] :=fun e=>by
 unfold vbs at e
 rw [←KM] at h
 obtain ⟨r,rs,hr⟩:=List.exists_cons_of_ne_nil (List.length_pos_iff.1 h)
 rw [hr,List.flatMap_cons] at e
 have:=Gd r
 have e2:=(List.append_eq_nil_iff.1 e).1
 rw [e2] at this
 simp at this
theorem txCb (bF bL bS bB F:Nat) (R:List Ce) (hF:Fst R F) (hR:R.length≤1048576):CbF 108 [.pointer (some ⟨bF,0,none⟩), .pointer (some ⟨bL,0,none⟩), .pointer (some ⟨bS,0,none⟩)] (TxI bF bL bS bB F R) (TxJ bF bL bS bB F R) R F:=by
 rintro X q rs hid A c ⟨ad,v,p,hs,rfl⟩ hne hh hp hlo
 have hpl:=hp.length_le
 rw [List.length_append,Ju] at hpl
 rcases Int.lt_or_eq_of_le hh with h | h
 ·refine (btw_h bF bL bS bB F ((J8 R:Int)-J8 X) ad v p X.length rs hid A c h).flat.mono ?_
  rintro u Lo fs ⟨Lo',⟨rfl,rfl,rfl⟩,rfl⟩
  have hz:=cells_hid rs (show hid≠0 by omega)
  refine ⟨O,_,O, .inl ⟨O,ad,v,p,?_,?_⟩⟩
  ·have e:vbs (X++cellsOf rs hid)=vbs X:=by rw [XO];unfold vbs;rw [XN hz];simp
   rw [e];exact hs
  ·rw [Km,VW hz,Nat.add_zero]
 ·subst h
  have hx:=hF.vis hne hp
  have hv:J8 (X++cellsOf rs 0)=J8 X+rs.length:=by rw [Km,←KM (cellsOf rs 0),QN]
  have hvp:=XL hp
  have hvR:=Kn R
  have hbl:=Hb X
  refine (btw_v bF bL bS bB F ((J8 R:Int)-J8 X) (vbs X) ad v p hs (by omega) X.length rs A c hx (by omega) (by omega) (by omega) (by omega)).flat.mono ?_
  rintro u Lo fs ⟨Lo',⟨rfl,rfl,ad',v',p',hs',rfl⟩,rfl⟩
  have e:vbs (X++cellsOf rs 0)=vbs X++rs.flatMap encI:=by rw [XO];unfold vbs;rw [QN]
  refine ⟨O,_,O,?_⟩
  by_cases hl:(J8 R:Int)-J8 X-rs.length>0
  ·refine .inl ⟨by rw [decide_eq_true hl],ad',v',p',by rw [e];exact hs',?_⟩
   rw [hv,show (J8 R:Int)-((J8 X+rs.length:Nat):Int)=(J8 R:Int)-J8 X-rs.length from by omega]
  ·refine .inr ⟨by rw [decide_eq_false hl],_,ad',v',p',?_,O⟩
   have e2:vbs R=vbs (X++cellsOf rs 0):=by unfold vbs;rw [Hy hp (by omega)]
   rw [e2,e];exact hs'
theorem ZO (bF bL bS bB F:Nat) (R:List Ce):TxI bF bL bS bB F R [] (txtL bF bL bS bB F (J8 R) none (.slice none 0 0) []).flatten:=
 ⟨none,_,[],⟨.inl rfl,Row.nil _ _⟩,by rw [show J8 [] =0 from rfl];simp⟩
theorem txSkip (bF bL bS bB F:Nat) (R:List Ce) (hF:Fst R F): ∀X Y q,TxI bF bL bS bB F R X q→X++Y<+:R→(X++Y).length≤F→TxI bF bL bS bB F R (X++Y) q:=by
 rintro X Y q ⟨ad,v,p,hs,rfl⟩ hp hl
 have h1:=hF.skip hp hl
 have h2:=hF.skip ((List.prefix_append X Y).trans hp) (by rw [List.length_append] at hl;omega)
 refine ⟨ad,v,p,?_,?_⟩
 ·have e:vbs (X++Y)=vbs X:=by unfold vbs;rw [h1,h2]
  rw [e];exact hs
 ·have e:J8 (X++Y)=J8 X:=by rw [←KM,←KM,h1,h2]
  rw [e]
theorem G2 {P:Program} {l:Fr} {Ps:List Part} {As:List Fact} {d:Option Tmp} {ty:TypeId} {pos:String} {aft:Array Edge} {g:Option (Nat×Bool)} {T:TypeId} {x:Operand} {m c:Nat} (hx:evs l x=some (.slice none m c)):QR P l Ps As ⟨d, .call ⟨.builtin .unsafeSliceData,#[x],#[T]⟩,ty,pos,aft,g⟩ (.pointer none):=fun Z w ρ hs hρ=>by
 simp only [execOp,resolve,invoke,List.map_toArray,List.map_cons,List.map_nil,hρ _ _ hx,Sem.run_bind,Sem.run_pure,Result.andThen_ok]
 show ((do pure (Next.value (←Builtin.unsafeSliceData_ #[T] ty #[.slice none m c])):Sem Next)).run P w=_
 rw [Sem.run_bind,Lib.run_unsafeSliceData_nil];rfl
theorem Xw {P:Program} {l:Fr} {Ps:List Part} {As:List Fact} {d:Option Tmp} {ty:TypeId} {pos:String} {aft:Array Edge} {g:Option (Nat×Bool)} {pt it:TypeId} {x y:Operand} {p:Option Addr} (hx:evs l x=some (.pointer p)) (hy:evs l y=some (.int .i64 0)):QR P l Ps As ⟨d, .call ⟨.builtin .unsafeString,#[x,y],#[pt,it]⟩,ty,pos,aft,g⟩ (.string .empty):=fun Z w ρ hs hρ=>by
 simp only [execOp,resolve,invoke,List.map_toArray,List.map_cons,List.map_nil,hρ _ _ hx,hρ _ _ hy,Sem.run_bind,Sem.run_pure,Result.andThen_ok]
 show ((do pure (Next.value (←Builtin.unsafeString_ #[pt,it] ty #[.pointer p, .int .i64 0])):Sem Next)).run P w=_
 rw [Sem.run_bind,Lib.run_unsafeString_none];rfl
theorem bstr_0 (b:Nat) (ad:Option Addr):Sp Tryz.prog 88 [.pointer (some ⟨b,0,none⟩)] [blP b ad (.slice none 0 0)] [] (fun u Lo fs=>u= .string .empty∧Lo= [blP b ad (.slice none 0 0)] ∧fs= []):=by
 refine Sp.of (n:=14) ⟨_,Tryz.func88,O,O,O,O⟩ (Nat.le_of_ble_eq_true O) fun Ps As=>Jc (Ja (Lq (Jd O) (Je (Jf (Jc (JI _ _ [] (.c 0 0 (.c 1 0 (.c 2 0 (.c 3 0 (.c 4 0 (.c 5 0 (.c 6 0 (.c 7 0 (.c 8 0 (.c 9 0 (.c 10 2 (.c 11 0 .nil)))))))))))) mixed (fun _ _ _ _ h=>h) (Sk (Sr)) (fun _ h=>h) (by kernel_rfl) (by decide) fun ws Z0=>Qe O (Jb O) (Qe O (JB O) (Qe O (Jh (o':=1) Un155 O Vi O O) (Qe O (Jj Un153 O O Jm O) (Qe O (G2 O) ?_))))))))))
 refine Qe O (Jb O) (Qe O (JB O) (Qe O (Jh (o':=1) Un155 O Vi O O) (Qe O (Jj Un153 O O Jm O) (Qe O (J7 Un153 O) (Js O O (Vz (Xw O O) (by decide) ?_))))))
 refine ⟨⟨(Sk (Sr)),Mm0⟩,?_⟩
 refine Qe O (Jd O) (JJ (JK (Jf (Jn ?_))))
 refine ⟨_,[_],[],fun Z w hs=> .tmp O .nil,?_,fun Z w hs=>hs.out (Sk (Sr)) Tt1⟩
 exact ⟨O,O,O⟩
theorem between_0 (b bB:Nat):Sp Tryz.prog 80 [.pointer (some ⟨b,0,none⟩), .int .i64 0, .int .i64 0,clT bB] [] [] (Is (.tuple #[])):=by
 refine Sp.of (n:=30) ⟨_,Tryz.func80,O,O,O,O⟩ (Nat.le_of_ble_eq_true O) fun Ps As=>Jc (Ja (Jg O (J1 (cs:= [_]) O O (by decide) fun b7=>Je (Jf (Jc (Jc (Ja (Lq (Jb O) (Lq (Jb O) (Lq (Ka O O) (Je (Jf (JQ O O (Jn (Jr ?_)))))))))))))))
 refine ⟨_,[],[],fun Z w hs=> .nil,?_,fun Z w hs=>hs.out (Sd (Sr)) (fun _ h=>h)⟩
 exact ⟨O,O,O⟩
theorem between_1 (b:Nat) (A:Option Addr) (t:Tr) (wt:Wf t) (hb:t.row.length≤1048576) (h0:0<J8 t.row) (bB:Nat):Sp Tryz.prog 80 [.pointer (some ⟨b,0,none⟩), .int .i64 0, .int .i64 (J8 t.row:Nat),clT bB] [rpP b A,blP bB none (.slice none 0 0),[]] [TrF A t] (fun u Lo fs=>u= .tuple #[] ∧fs= [] ∧ ∃q bF bL bS F left ad v p,TxS bB (vbs t.row) ad v p∧q=(txtL bF bL bS bB F left ad v p).flatten∧Lo= [rpP b A,q]):=by
 refine Sp.of (n:=30) ⟨_,Tryz.func80,O,O,O,O⟩ (Nat.le_of_ble_eq_true O) fun Ps As=>Jc (Ja (Jg O (J1 (cs:= [_]) O O (by decide) fun b7=>Je (Jf (Jc (Jc (Ja (Lq (Jb O) (Lq (Jb O) (Lq (Ka O O) (Je (Jf (Jz O (by simp;omega) (Jp (Jf (Jc (Ja ?_)))))))))))))))))
 refine Lq (Jb O) (Lq (Jb O) (Jg O (JX (HC b A t wt hb h0) (.n2 O O) (by decide) .z1 (Jl Mm0 Jx) fun _ _ _ q9=>?_)))
 obtain ⟨F,hF,rfl,rfl,rfl⟩:=q9
 have hFle:=hF.le
 have hvl:=Kn t.row
 refine Lq (Jb O) (Lq (Jk (vs:= [_,_]) O O) (Lq (Jk (vs:= [_,_]) O O) (Jg O (Jv (cs:= [_]) ti3 O (by decide) fun b8=>Jg O (JN ti3 O O O .z .z (Lq (Jd O) (Je (Jf (Jc (Ja (Lq (Jb O) (Lq (Jb O) (Lq (KS O O (wr64 (by omega)) (c:=((J8 t.row:Nat):Int))) ?_)))))))))))))
 refine Jg O (Jv (cs:= [_]) ti3 O (by decide) fun b10=>Jg O (JN ti3 O O O .z .z (Je (Jf (Jt .z5 (Jt .z5 (Jt .z5 (Jt .z3 (Jt .z4 (JI _ _ [] (.c 0 0 (.c 1 0 (.c 2 0 (.c 3 0 (.c 5 0 (.c 4 2 (.c 6 2 .nil))))))) mixed (fun _ _ _ _ h=>h) (Sd5 (Sk (Sr))) (fun _ h=>h) (by kernel_rfl) (by decide) fun ws Z0=>Qe O (Jb O) ?_))))))))))
 refine Qe O (JB O) (Qe O (Jh (o':=0) Un128 O YX O O) (Qe O (Jj Un126 O O Jm O) (Qe O (QX (.n3 O O O)) (Js O O (Vz (Jj Un3 O O Jm O) (by decide) ?_)))))
 refine ⟨⟨(Sd5 (Sk (Sr))),Mm0⟩,?_⟩
 refine Js O O (Y2 (walk_f 108 _ _ _ t.row F hb hFle (txCb b8 b10 b7 bB F t.row hF hb) (txSkip b8 b10 b7 bB F t.row hF) t.size A t [] _ wt (Nat.le_refl _) (List.prefix_refl _) (ZO b8 b10 b7 bB F t.row)) (.n4 O O O O) (by decide) (List.Perm.refl _) (Jl Mm1 Jx) fun u4 Lo fs hres=> ?_)
 obtain ⟨rfl,q1,rfl,hv⟩:=hres
 refine ⟨⟨(Sd2 (Sk (Sr))),Mm0⟩,?_⟩
 refine JJ (JK ?_)
 refine ⟨_,[_,_],[],fun Z w hs=> .nil,?_,fun Z w hs=>((hs.pick .z).pick .z2).out (Sk2 (Sd (Sr))) Tt1⟩
 refine ⟨O,O,?_⟩
 rcases hv with ⟨_,ad,v,p,hs,rfl⟩ | ⟨_,left,ad,v,p,hs,rfl⟩
 ·exact ⟨_,b8,b10,b7,F,_,ad,v,p,hs,O,O⟩
 ·exact ⟨_,b8,b10,b7,F,left,ad,v,p,hs,O,O⟩
theorem slice_0 (b:Nat) (A:Option Addr) (t:Tr) (wt:Wf t) (hb:t.row.length≤1048576) (h0:J8 t.row=0):Sp Tryz.prog 82 [.pointer (some ⟨b,0,none⟩), .int .i64 0, .int .i64 (J8 t.row:Nat)] [rpP b A] [TrF A t] (fun u Lo fs=>u= .tuple #[.string (textF t.row), .int .i64 0] ∧Lo= [rpP b A] ∧fs= []):=by
 refine Sp.of (n:=28) ⟨_,Tryz.func82,O,O,O,O⟩ (Nat.le_of_ble_eq_true O) fun Ps As=>Jc (Ja (Lq (Jd O) (Lq (Jd O) (Je (Jf (Jc (Jc (Ja (Lq (Jb O) (Lq (Ku O O) (Lq (Jb O) (Lg O O O O (Jb O) (Lg O O O O (Jb O) ?_)))))))))))))
 refine Lg O O O O (Ke O O) (Lq (JA O O O) (Lq (Jb O) (Lg O O O (by simp) (Jb O) (Lg O O O (by simp) (Jb O) (Kk O O O (by simp) (JX (YJ b A t wt) (.n1 O) (by decide) .z (Jl Mm0 Jx) fun _ _ _ q9=>?_))))))
 obtain ⟨rfl,rfl,rfl⟩:=q9
 refine Lg O O O (by simp) (Ke O O) (Lq (JA O (by simp) O) (Je (Jf (Jz O (by simp) (Jp (Jf (Jc (Ja (Jg O (Jv (cs:= [_,_]) H8 O (by decide) fun b8=>Je (Jf (Jc ?_))))))))))))
 rw [h0]
 refine Ja (Lq (Jb O) (Lq (Jb O) (Lq (Jb O) (Lq (QX (.n1 O)) (Jg O (Jo (between_0 b b8) (.n4 O O O O) (by decide) Jx fun _ _ _ q9=>?_))))))
 obtain ⟨rfl,rfl,rfl⟩:=q9
 refine Je (Jf (Jc (Ja (Jg O (JX (bstr_0 b8 none) (.n1 O) (by decide) .z Jx fun _ _ _ q9=>?_)))))
 obtain ⟨rfl,rfl,rfl⟩:=q9
 refine Lq (Jd O) (Lq (Jd O) (Je (Jf (Jn ?_))))
 refine ⟨_,[_],[],fun Z w hs=> .tmp O (.tmp O .nil),?_,fun Z w hs=>hs.out (Sd (Sk (Sr))) (fun _ h=>h)⟩
 have e:textF t.row= .empty:=by
  have hz:K3 t.row= [] :=List.length_eq_zero_iff.1 (by rw [KM];exact h0)
  unfold textF vbs;rw [hz];rfl
 rw [e];exact ⟨rfl,rfl,rfl⟩
theorem slice_1 (b:Nat) (A:Option Addr) (t:Tr) (wt:Wf t) (hb:t.row.length≤1048576) (h0:0<J8 t.row):Sp Tryz.prog 82 [.pointer (some ⟨b,0,none⟩), .int .i64 0, .int .i64 (J8 t.row:Nat)] [rpP b A] [TrF A t] (fun u Lo fs=>u= .tuple #[.string (textF t.row), .int .i64 0] ∧Lo= [rpP b A] ∧fs= []):=by
 refine Sp.of (n:=28) ⟨_,Tryz.func82,O,O,O,O⟩ (Nat.le_of_ble_eq_true O) fun Ps As=>Jc (Ja (Lq (Jd O) (Lq (Jd O) (Je (Jf (Jc (Jc (Ja (Lq (Jb O) (Lq (Ku O O) (Lq (Jb O) (Lg O O O O (Jb O) (Lg O O O O (Jb O) ?_)))))))))))))
 refine Lg O O O O (Ke O O) (Lq (JA O O O) (Lq (Jb O) (Lg O O O (by simp) (Jb O) (Lg O O O (by simp) (Jb O) (Kk O O O (by simp) (JX (YJ b A t wt) (.n1 O) (by decide) .z (Jl Mm0 Jx) fun _ _ _ q9=>?_))))))
 obtain ⟨rfl,rfl,rfl⟩:=q9
 refine Lg O O O (by simp) (Ke O O) (Lq (JA O (by simp) O) (Je (Jf (Jz O (by simp) (Jp (Jf (Jc (Ja (Jg O (Jv (cs:= [_,_]) H8 O (by decide) fun b8=>Je (Jf (Jc (KE (Jt .z (Jt .z1 ?_)))))))))))))))
 refine Jt .z2 (Ja (Lq (Jb O) (Lq (Jb O) (Lq (Jb O) (Lq (QX (.n1 O)) (Jg O (Y2 (between_1 b A t wt hb h0 b8) (.n4 O O O O) (by decide) (List.Perm.refl _) (Jl Mm0 Jx) fun _ _ _ q9=>?_)))))))
 obtain ⟨rfl,rfl,q1,bF,bL,bS,F,left,ad,v,p,hs,hq1,rfl⟩:=q9
 refine Je (Jf (Jc (Jt .z1 ?_)))
 subst hq1
 refine Xf (Qs:=txtL bF bL bS b8 F left ad v p) (Ja (Jg O (J4 (ZD b8 ad v (vbs t.row) p hs.row (by have:=Hb t.row;omega) (vbs_by _) (vbs_ne h0)) (.n1 O) (by decide) .z3 .z3 Jx fun _ _ _ q9=>?_)))
 obtain ⟨rfl,rfl,rfl⟩:=q9
 refine Lq (Jd O) (Lq (Jd O) (Je (Jf (Jn ?_))))
 refine ⟨_,[_],[],fun Z w hs=> .tmp O (.tmp O .nil),?_,fun Z w hs=>hs.out (Sd4 (Sk (Sr))) (fun _ h=>h)⟩
 exact ⟨O,O,O⟩
theorem ZT (b:Nat) (A:Option Addr) (t:Tr) (wt:Wf t) (hb:t.row.length≤1048576):Sp Tryz.prog 82 [.pointer (some ⟨b,0,none⟩), .int .i64 0, .int .i64 (J8 t.row:Nat)] [rpP b A] [TrF A t] (fun u Lo fs=>u= .tuple #[.string (textF t.row), .int .i64 0] ∧Lo= [rpP b A] ∧fs= []):=by
 rcases Nat.eq_zero_or_pos (J8 t.row) with h | h
 ·exact slice_0 b A t wt hb h
 ·exact slice_1 b A t wt hb h
theorem Jat (b:Nat) (A:Option Addr) (t:Tr) (wt:Wf t) (hb:t.row.length≤1048576):Sp Tryz.prog 50 [.pointer (some ⟨b,0,none⟩)] [rpP b A] [TrF A t] (fun u Lo fs=>u= .string (textF t.row)∧Lo= [rpP b A] ∧fs= []):=by
 refine Sp.of (n:=13) ⟨_,Tryz.func50,O,O,O,O⟩ (Nat.le_of_ble_eq_true O) fun Ps As=>Jc (Ja (Lq (Jd O) (Je (Jf (Jc (Ja (Lq (Jb O) (Lq (Jb O) (Jg O (JX (YJ b A t wt) (.n1 O) (by decide) .z (Jl Mm0 Jx) fun _ _ _ q9=>?_))))))))))
 obtain ⟨rfl,rfl,rfl⟩:=q9
 refine Jg O (JX (ZT b A t wt hb) (.n3 O O O) (by decide) .z (Jl Mm0 Jx) fun _ _ _ q9=>?_)
 obtain ⟨rfl,rfl,rfl⟩:=q9
 refine Lq (Jb O) (Lq (Jk (vs:= [_,_]) O O) (Lq (Jk (vs:= [_,_]) O O) (Lq (Jd O) (Lq (Jd O) (Je (Jf (Jc (Ja (Lq (Jb O) (Lq (Jd O) (Je (Jf (Jn ?_)))))))))))))
 refine ⟨_,[_],[],fun Z w hs=> .tmp O .nil,?_,fun Z w hs=>hs.out (Sk (Sr)) (fun _ h=>h)⟩
 exact ⟨O,O,O⟩
theorem Zt (h m cap:Nat) (A:Option Addr) (H:Hist) (L:List MR) (hr:HR H L) (i0 i1:Int) (k:Nat) (hw:J5 H.ents i0 i1=some k):Sp Tryz.prog 85 [.pointer (some ⟨h,0,none⟩), .agg #[.int .i64 i0, .int .i64 i1]] [hdP h A H.ops.length cap m H.total,mpP m L,mkP L] [] (fun u Lo fs=>u= .tuple #[.int .i64 k, .int .i64 0] ∧Lo= [hdP h A H.ops.length cap m H.total,mpP m L,mkP L] ∧fs= []):=by
 have hol:=KY H
 have hlen:=hr.len
 obtain ⟨hk,j,x,hc,hn,hj,hm,hg⟩:=hr.look1 hw
 obtain ⟨xm,xb,xA,xc⟩:=x
 obtain rfl:xm=markAt k H.ents[k] :=hm
 refine Sp.of (n:=19) ⟨_,Tryz.func85,O,O,O,O⟩ (Nat.le_of_ble_eq_true O) fun Ps As=>Jc (Ja (Jg O (J1 (cs:= [_,_]) O O (by decide) fun b3=>Lq (Jd O) (Lq (Jd O) (Je (Jf (Jc (JI _ _ [] (.c 0 0 (.c 1 0 (.c 2 0 (.c 3 0 (.c 4 0 (.c 5 0 (.c 6 0 .nil))))))) mixed (fun _ _ _ _ h=>h) (Sk4 (Sr)) (fun _ h=>h) (by kernel_rfl) (by decide) fun ws Z0=>Qe O (Jb O) (Qe O (JB O) (Qe O (Jh (o':=1) Un125 O YY O O) ?_))))))))))
 refine Qe O (Jj Un123 O O (Ji (Jm)) O) (Qe O (Jw (vs:= [_,_]) Un34 O JY O Jm O O) (Qe O (YN keyT hg Un123 Y3 O O (Ji (Ji (Jm)))) (Qe O (Jd O) (JJ (JK (Jf (Jc (Jc (Ja (Lq (Jb O) (Lq (KK Un161 O O (by simp)) (Je (Jf (JL [(14,_),(6,_),(5,_),(4,_)] (.m4 O O O O) ?_))))))))))))))
 refine Jz O O (Jp (Jf (Jc (Ja (Lq (Jb O) (Lq (JB O) (Lq (Jh (o':=0) Un165 O ti3 O O) (Lq (Jj (v:= .int .i64 k) Un3 O O (Ji (Ji (Ji (ownI (Yq hj))))) O) (Lq (Jd O) (Lq (Jd O) (Je (Jf (Jn ?_)))))))))))))
 refine ⟨_,[_,_,_],[],fun Z w hs=> .tmp O (.tmp O .nil),?_,fun Z w hs=>hs.out (Sd (Sk3 (Sr))) Tt1⟩
 exact ⟨O,O,O⟩
theorem Ja2 (h m cap:Nat) (A:Option Addr) (H:Hist) (L:List MR) (hr:HR H L) (i0 i1:Int) (k:Nat) (hw:J5 H.ents i0 i1=some k) (hk4: ∀e,H.ents[k]? =some e→e.op.kind≠4):Sp Tryz.prog 95 [.pointer (some ⟨h,0,none⟩), .agg #[.int .i64 i0, .int .i64 i1]] [hdP h A H.ops.length cap m H.total,mpP m L,mkP L] [RdF opD A cap H.ops] (fun u Lo fs=> ∃(hk:k<H.ents.length) (j xb:Nat) (xA:Option Addr) (xc:Nat),L[j]? =some ⟨markAt k H.ents[k],xb,xA,xc⟩∧u= .tuple #[.pointer (some ⟨xb,0,none⟩), .int .i64 0] ∧Lo= [hdP h A H.ops.length cap m H.total,mpP m L,mkP L] ∧fs= []):=by
 have hol:=KY H
 have hlen:=hr.len
 obtain ⟨hk,j,x,hc,hn,hj,hm,hg⟩:=hr.look1 hw
 obtain ⟨xm,xb,xA,xc⟩:=x
 obtain rfl:xm=markAt k H.ents[k] :=hm
 refine Sp.of (n:=29) ⟨_,Tryz.func95,O,O,O,O⟩ (Nat.le_of_ble_eq_true O) fun Ps As=>Jc (Ja (Jg O (J1 (cs:= [_,_]) O O (by decide) fun b3=>Lq (Jd O) (Lq (Jd O) (Je (Jf (Jc (JI _ _ [] (.c 0 0 (.c 1 0 (.c 2 0 (.c 3 0 (.c 4 0 (.c 5 0 (.c 6 0 .nil))))))) mixed (fun _ _ _ _ h=>h) (Sk4 (Sr)) (fun _ h=>h) (by kernel_rfl) (by decide) fun ws Z0=>Qe O (Jb O) (Qe O (JB O) (Qe O (Jh (o':=1) Un125 O YY O O) ?_))))))))))
 refine Qe O (Jj Un123 O O (Ji (Jm)) O) (Qe O (Jw (vs:= [_,_]) Un34 O JY O Jm O O) (Qe O (YN keyT hg Un123 Y3 O O (Ji (Ji (Jm)))) (Qe O (Jd O) (JJ (JK (Jf (Jc (Jc (Ja (Lq (Jb O) (Lq (KK Un161 O O (by simp)) (Je (Jf (JL [(14,_),(6,_),(5,_),(4,_),(0,_)] (.m5 O O O O O) ?_))))))))))))))
 refine Jz O O (Jp (Jf (Jc (Jc ?_))))
 have hko:k<H.ops.length:=by omega
 have hop:=QB hk
 refine Kh (k:=k) Mm1 (List.getElem?_eq_getElem hko) (op_open _) fun b4 q4 y4 e4=> ?_
 cases e4
 refine JI _ _ [] (.c 0 0 (.c 1 0 (.c 2 0 (.c 3 0 (.c 4 0 (.c 5 0 (.c 6 0 (.c 7 0 (.c 8 0 (.c 9 0 (.c 10 0 (.c 11 0 (.c 12 0 .nil))))))))))))) mixed (fun _ _ _ _ h=>h) (Sk4 (Sr)) (fun _ h=>h) (by kernel_rfl) (by decide) fun ws Z0=>Qe O (Jb O) (Qe O (JB O) (Qe O (Jh (o':=0) Un125 O YV O O) (Qe O (Jj Un44 O O (Ji (Jm)) O) (Qe O (Jb O) (Qe O (JB O) (Qe O (Jh (o':=0) Un165 O ti3 O O) (Qe O (Jj (v:= .int .i64 k) Un3 O O (Ji (Ji (Ji (ownI (Yq hj))))) O) (Qe O (Kc Un44 JF O O (by omega) (by omega)) ?_))))))))
 refine Qe O (Jh (o':=_+0) Un40 O KI O O) (Qe O (Jh (o':=_+2) Un37 O Yu O O) (Qe O (Ks (j:=2) Un35 O O Mm0 O O) (Qe O (Ka O O) (JJ (JK (Jf (JL [(27,_),(6,_),(5,_),(4,_)] (.m4 O O O O) (Jz O (by simp only [beq_eq_false_iff_ne,ne_eq];rw [hop];exact hk4 _ (List.getElem?_eq_getElem hk)) ?_))))))))
 refine Jp (Jf (Jc (Ja (Lq (Jb O) (Lq (Jd O) (Lq (Jd O) (Je (Jf (Jn ?_)))))))))
 refine ⟨_,[_,_,_],[],fun Z w hs=> .tmp O (.tmp O .nil),?_,fun Z w hs=>hs.out (Sd (Sk3 (Sr))) Tt4⟩
 exact ⟨hk,j,xb,xA,xc,hj,O,O,O⟩
theorem bd31Xw51 (w:World):(Instr.build 40 #[]).run Tryz.prog w= .ok (.agg #[.int .i64 0, .int .i64 0, .int .i64 0, .int .i64 0, .string ⟨#[]⟩, .slice none 0 0, .int .i64 0, .int .i64 0, .bool false]) w:=by kernel_rfl
theorem EA (h m cap:Nat) (A:Option Addr) (H:Hist) (L:List MR) (hr:HR H L) (i0 i1:Int) (k:Nat) (hw:J5 H.ents i0 i1=some k) (hk4: ∀e,H.ents[k]? =some e→e.op.kind≠4) (on:Bool):Sp Tryz.prog 65 [.pointer (some ⟨h,0,none⟩), .agg #[.int .i64 i0, .int .i64 i1], .bool on] [hdP h A H.ops.length cap m H.total,mpP m L,mkP L] [RdF opD A cap H.ops,AllF L nowF] (fun u Lo fs=> ∃(hk:k<H.ents.length) (Ae:Option Addr) (ce:Nat),Lo= [hdP h A H.ops.length cap m H.total,mpP m L,mkP L] ∧((H.ents[k].off=on∧u= .tuple #[opV (turnF H.ents[k] on) Ae ce, .int .i64 0] ∧fs= [RdF rgD Ae ce (turnF H.ents[k] on).rs])∨(H.ents[k].off≠on∧u= .tuple #[opV zeroOp none 0, .int .i64 62] ∧fs= []))):=by
 have hol:=KY H
 have hlen:=hr.len
 refine Sp.of (n:=31) ⟨_,Tryz.func65,O,O,O,O⟩ (Nat.le_of_ble_eq_true O) fun Ps As=>Jc (Ja (Jg O (J1 (cs:= [_,_]) O O (by decide) fun b4=>Jg O (Jv (cs:= [_,_,_,_,_,_,_,_,_]) JF O (by decide) fun b6=>Lq (Jd O) (Je (Jf (Jc (Ja (Lq (Jb O) (Lq (Jw (vs:= [_,_]) Un34 O JY O (Ji (Jm)) O O) (Jg O (Ky (Ja2 h m cap A H L hr i0 i1 k hw hk4) (.n2 O O) (by decide) .z2 .z2 .z2 (Jl Mm0 Jx) fun _ _ _ q9=>?_))))))))))))
 obtain ⟨hk,j,xb,xA,xc,hj,rfl,rfl,rfl⟩:=q9
 refine Lq (Jb O) (Lq (Jk (vs:= [_,_]) O O) (Lq (Jk (vs:= [_,_]) O O) (Lq (Jd O) (Lq (Jd O) (Je (Jf (JL [(9,_),(8,_),(7,_),(6,_),(0,_),(2,_)] (.m6 O O O O O O) (Jc (Jc (Ja (Lq (Jb O) (Lq (Kp O O) ?_))))))))))))
 refine Je (Jf (Jz O O (Jp (Jf (Jc (Jc (Ja (Lq (Jb O) (Lq (JB O) (Lq (Jh (o':=2) Un165 O ti4 O O) (Lq (Jj (v:= .bool H.ents[k].off) Un4 O O (Ji (Ji (ownI (Yq hj)))) O) (Lq (Jb O) (Lq (q_bneq' Un4 O O) (Je (Jf (JL [(25,_),(8,_),(7,_),(6,_),(0,_),(2,_)] (.m6 O O O O O O) (Jy O (fun h25=> ?_) (fun h25=> ?_))))))))))))))))))
 ·refine Jc (Ja (Lq (JV .nil (bd31Xw51)) (Jg O (Jq (cs':= [_,_,_,_,_,_,_,_,_]) (vs:= [_,_,_,_,_,_,_,_,_]) JF O O O O O (Nat.le_of_ble_eq_true O) .z3 (Lq (Jd O) (Je (Jf (Jn (Jr ?_)))))))))
  refine ⟨_,[_,_,_],[],fun Z w hs=>JS hs Un40 O JF O (Ji (Ji (Ji (Jm)))) O (.tmp O .nil),?_,fun Z w hs=>hs.out (Sk3 (Sd2 (Sr))) (fun _ h=>h)⟩
  exact ⟨hk,none,0,O, .inr ⟨by simpa using h25,O,O⟩⟩
 ·refine Jp (Jf (Jc (Ja (Lq (Jb O) (Lq (Jb O) (Lq (Jb O) (Jg O (J4 (H4 h m cap A H L hr H.ops H.total O j k xb xA xc hk hj on) (.n3 O O O) (by decide) .z .z1 (Jl Mm0 (Jl Mm1 Jx)) fun _ _ _ q9=>?_))))))))
  obtain ⟨A1,c1,rfl,rfl,rfl⟩:=q9
  refine Jg O (Jq (cs':= [_,_,_,_,_,_,_,_,_]) (vs:= [_,_,_,_,_,_,_,_,_]) JF O O O O O (Nat.le_of_ble_eq_true O) .z3 (Lq (Jd O) (Je (Jf (Jn ?_)))))
  refine ⟨_,[_,_,_],[_],fun Z w hs=>JS hs Un40 O JF O (Ji (Ji (Ji (Jm)))) O (.tmp O .nil),?_,fun Z w hs=>(((hs.pick .z1).pick .z2).pick .z2).out (Sk3 (Sd2 (Sr))) (fun _ h=>h)⟩
  exact ⟨hk,A1,c1,O, .inl ⟨by simpa using h25,O,O⟩⟩
theorem K1 (d h b:Nat) (cs:List Value) (T:TypeId) (B:Option Addr) (t:Tr) (wt:Wf t):Sp Tryz.prog 24 [.pointer (some ⟨d,0,none⟩)] [[(d,JD (.pointer (some ⟨h,0,none⟩):: .pointer (some ⟨b,0,none⟩)::cs) T)],rpP b B] [TrF B t] (fun v Lo fs=>v= .int .i64 (J8 t.row:Nat)∧Lo= [[(d,JD (.pointer (some ⟨h,0,none⟩):: .pointer (some ⟨b,0,none⟩)::cs) T)],rpP b B] ∧fs= []):=by
 refine Sp.of (n:=8) ⟨_,Tryz.func24,O,O,O,O⟩ (Nat.le_of_ble_eq_true O) fun Ps As=>Jc (Ja (Lq (Jd O) (Je (Jf (Jc (Ja (Lq (Jb O) (Lq (JB O) (Lq (Jh (o':=1) Un58 O Gu O O) (Lq (Jj Un56 O O Jm O) (Jg O (JX (YJ b B t wt) (.n1 O) (by decide) .z1 (Jl Mm0 Jx) fun _ _ _ q9=>?_))))))))))))
 obtain ⟨rfl,rfl,rfl⟩:=q9
 refine Lq (Jd O) (Je (Jf (Jn ?_)))
 refine ⟨_,[_,_],[],fun Z w hs=> .tmp O .nil,?_,fun Z w hs=>((hs.pick .z).pick .z1).out (Sk2 (Sr)) (fun _ h=>h)⟩
 exact ⟨O,O,O⟩
theorem VZ (d h b:Nat) (cs:List Value) (T:TypeId) (B:Option Addr) (t:Tr) (wt:Wf t) (hb:t.row.length≤1048576):Sp Tryz.prog 15 [.pointer (some ⟨d,0,none⟩)] [[(d,JD (.pointer (some ⟨h,0,none⟩):: .pointer (some ⟨b,0,none⟩)::cs) T)],rpP b B] [TrF B t] (fun v Lo fs=>v= .string (textF t.row)∧Lo= [[(d,JD (.pointer (some ⟨h,0,none⟩):: .pointer (some ⟨b,0,none⟩)::cs) T)],rpP b B] ∧fs= []):=by
 refine Sp.of (n:=8) ⟨_,Tryz.func15,O,O,O,O⟩ (Nat.le_of_ble_eq_true O) fun Ps As=>Jc (Ja (Lq (Jd O) (Je (Jf (Jc (Ja (Lq (Jb O) (Lq (JB O) (Lq (Jh (o':=1) Un58 O Gu O O) (Lq (Jj Un56 O O Jm O) (Jg O (JX (Jat b B t wt hb) (.n1 O) (by decide) .z1 (Jl Mm0 Jx) fun _ _ _ q9=>?_))))))))))))
 obtain ⟨rfl,rfl,rfl⟩:=q9
 refine Lq (Jd O) (Je (Jf (Jn ?_)))
 refine ⟨_,[_,_],[],fun Z w hs=> .tmp O .nil,?_,fun Z w hs=>((hs.pick .z).pick .z1).out (Sk2 (Sr)) (fun _ h=>h)⟩
 exact ⟨O,O,O⟩
theorem YF (d h m b k cap:Nat) (cs:List Value) (T:TypeId) (A:Option Addr) (tot:Int):Sp Tryz.prog 23 [.pointer (some ⟨d,0,none⟩)] [[(d,JD (.pointer (some ⟨h,0,none⟩):: .pointer (some ⟨b,0,none⟩)::cs) T)],hdP h A k cap m tot] [] (fun v Lo fs=>v= .int .i64 k∧Lo= [[(d,JD (.pointer (some ⟨h,0,none⟩):: .pointer (some ⟨b,0,none⟩)::cs) T)],hdP h A k cap m tot] ∧fs= []):=by
 refine Sp.of (n:=8) ⟨_,Tryz.func23,O,O,O,O⟩ (Nat.le_of_ble_eq_true O) fun Ps As=>Jc (Ja (Lq (Jd O) (Je (Jf (Jc (Ja (Lq (Jb O) (Lq (JB O) (Lq (Jh (o':=0) Un58 O Vm O O) (Lq (Jj Un55 O O Jm O) (Jg O (JX (Eb h m k cap A tot) (.n1 O) (by decide) .z1 Jx fun _ _ _ q9=>?_))))))))))))
 obtain ⟨rfl,rfl,rfl⟩:=q9
 refine Lq (Jd O) (Je (Jf (Jn ?_)))
 refine ⟨_,[_,_],[],fun Z w hs=> .tmp O .nil,?_,fun Z w hs=>((hs.pick .z).pick .z1).out (Sk2 (Sr)) (fun _ h=>h)⟩
 exact ⟨O,O,O⟩
def RPutP (d h m b:Nat) (cs:List Value) (T:TypeId) (X:List Ce) (H2:Hist) (eff:GOp):Value→List Part→List Fact→Prop:=fun v Lo fs=> ∃(L2:List MR) (A2:Option Addr) (cap2:Nat) (B2:Option Addr) (t2:Tr) (Ae:Option Addr) (ce:Nat),v= .tuple #[opV eff Ae ce, .nilIface] ∧HR H2 L2∧Wf t2∧t2.row=J6 eff X∧Lo= [[(d,JD (.pointer (some ⟨h,0,none⟩):: .pointer (some ⟨b,0,none⟩)::cs) T)],hdP h A2 H2.ops.length cap2 m H2.total,mpP m L2,mkP L2,rpP b B2] ∧fs= [RdF rgD Ae ce eff.rs,RdF opD A2 cap2 H2.ops,AllF L2 nowF,TrF B2 t2]
theorem Gl (X:List Ce):J6 zeroOp X=X:=by
 unfold J6
 simp [zeroOp]
theorem XU (d h m b:Nat) (cs:List Value) (T:TypeId) (H:Hist) (L:List MR) (A:Option Addr) (cap:Nat) (B:Option Addr) (t:Tr) (n:Nat) (X:List Ce) (i:Nat) (o:GOp) (Ao:Option Addr) (co:Nat) (H2:Hist) (eff:GOp) (hr:HR H L) (wt:Wf t) (hX:t.row=X) (hD:DI n H X) (hT:TkD H X n i o H2 eff):Sp Tryz.prog 68 [.pointer (some ⟨d,0,none⟩), .int .i64 i,opV o Ao co] [[(d,JD (.pointer (some ⟨h,0,none⟩):: .pointer (some ⟨b,0,none⟩)::cs) T)],hdP h A H.ops.length cap m H.total,mpP m L,mkP L,rpP b B] [barF,RdF opD A cap H.ops,AllF L nowF,TrF B t,RdF rgD Ao co o.rs] (RPutP d h m b cs T X H2 eff):=by
 have hnl:=hD.len
 have hol:H.ops.length=H.ents.length:=by simp [Hist.ops]
 have hle:=hD.le
 have hrow:=hD.row
 have htot:=hD.tot0
 rw [←hX] at hrow
 refine Sp.of (n:=46) ⟨_,Tryz.func68,O,O,O,O⟩ (Nat.le_of_ble_eq_true O) fun Ps As=>Jc (Ja (Jg O (J1 (cs:= [_,_,_,_,_,_,_,_,_]) O O (by decide) fun b5=>Jg O (Jv (cs:= [_,_,_,_,_,_,_,_,_]) JF O (by decide) fun b6=>Lq (Jd O) (Je (Jf (Jc (Jc (Ja (Lq (Jb O) (Lq (JB O) (Lq (Jh (o':=0) Un58 O Vm O O) (Lq (Jj Un55 O O (Ji (Ji (Jm))) O) ?_)))))))))))))
 refine Jg O (JX (Eb h m H.ops.length cap A H.total) (.n1 O) (by decide) .z3 Jx fun _ _ _ q9=>?_)
 obtain ⟨rfl,rfl,rfl⟩:=q9
 refine Lq (Yl O O) (Je (Jf (Jz O (by have:=hT.lt;simp;omega) (Jp (Jf (Jc (JI _ _ [11] (.c 0 0 (.c 1 0 (.c 2 0 (.c 3 0 (.c 4 0 (.c 5 0 (.b (.c 6 2 (.c 7 0 (.c 8 0 (.c 9 1 (.c 10 2 (.c 11 3 (.c 12 1 .nil))))))) (.c 10 2 (.c 6 2 (.c 7 0 (.c 8 0 (.c 9 1 (.c 11 3 (.c 12 1 .nil)))))))))))))) mixed (fun _ _ _ _ h=>h) (Sd (Sk3 (Sd2 (Sk (Sr))))) (fun _ h=>h) (by kernel_rfl) (by decide) fun ws Z0=>Qe O (Jb O) (Qe O (JB O) (Qe O (Jh (o':=0) Un58 O Vm O O) (Qe O (Jj Un55 O O (Ji (Ji (Jm))) O) (Qe O (Jb O) ?_)))))))))))
 refine Qe O (Jw (vs:= [_,_,_,_,_,_,_,_,_]) Un40 O JF O (Ji (Jm)) O O) (KN ?_ ?_)
 ·refine Js O O (Ky (Jan h m cap A H L hr i o Ao co hT.fit (by have:=hD.le;omega)) (.n3 O O O) (by decide) .z .z3 .z3 (Jl Mm1 (Jl Mm2 (Jl Mm3 (Jl Mm5 Jx)))) fun _ _ _ q9=>?_)
  obtain ⟨L2,A8,cap2,Ae,ce,hr2,rfl,rfl,rfl⟩:=q9
  rw [hT.put] at hr2 ⊢
  dsimp only at hr2 ⊢
  refine ⟨⟨(Sd3 (Sk4 (Sr))),Mm3⟩,?_⟩
  refine Qe O (Jb O) (Qe O (Jk (vs:= [_,_]) O O) (YW O (Jk (vs:= [_,_]) O O) (by decide) (Js O O (Jv (cs:= [_,_,_,_,_,_,_,_,_]) JF O (by decide) fun b8=> ?_))))
  refine ⟨⟨(Sd4 (Sk4 (Sr))),Mm3⟩,?_⟩
  refine JJ (J2 O O (Jq (cs':= [_,_,_,_,_,_,_,_,_]) (vs:= [_,_,_,_,_,_,_,_,_]) JF O O O O O (Nat.le_of_ble_eq_true O) .z (YM O (Jd O) (by decide) (JK (Jf (Jc (Jc (Ja (Lq (Jb O) (Lq (Kp O O) (Je (Jf (Jz O O (Jp (Jf (Jc (Jc (Ja (Lq (Jh (o':=0) Un40 O KI O O) (Lq (Jh (o':=2) Un37 O Yu O O) (Lq (Jj Un35 O O Jm O) ?_)))))))))))))))))))))
  refine Lq (Kp O O) (Je (Jf (Jy O (fun h38=> ?_) (fun h38=> ?_))))
  ·refine JI _ _ [] (.c 0 0 (.c 1 0 (.c 2 0 (.c 3 0 (.c 4 0 (.c 5 2 .nil)))))) mixed (fun _ _ _ _ h=>h) (Sk7 (Sd (Sr))) (fun _ h=>h) (by kernel_rfl) (by decide) fun ws Z0=>Qe O (Jb O) (Qe O (JB O) (Qe O (Jh (o':=1) Un58 O Gu O O) (Qe O (Jj Un56 O O (Ji (Ji (Ji (Ji (Ji (Ji (Jm))))))) O) (Qe O (Jw (vs:= [_,_,_,_,_,_,_,_,_]) Un40 O JF O Jm O O) ?_))))
   refine Js O O (JX (Ht b B Ae ce t eff wt (by omega) (by rw [hX];exact hT.app (by simpa using h38)) (by have:=hT.text;have:=hT.tx;omega) (by have:=hT.rs;omega)) (.n2 O O) (by decide) .z7 (Jl Mm5 (Jl Mm8 (Jl Mm1 Jx))) fun _ _ _ q9=>?_)
   obtain ⟨Bn,tn,rfl,rfl,rfl,wtn,rtn⟩:=q9
   refine ⟨⟨(Sd (Sk7 (Sr))),Mm1⟩,?_⟩
   refine JJ (JK (Jf (Jc (Ja (Lq (Jw (vs:= [_,_,_,_,_,_,_,_,_]) Un40 O JF O (Ji (Jm)) O O) (Jg O (Jq (cs':= [_,_,_,_,_,_,_,_,_]) (vs:= [_,_,_,_,_,_,_,_,_]) JF O O O O O (Nat.le_of_ble_eq_true O) .z5 (Lq (Jd O) (Je (Jf (Jn ?_)))))))))))
   refine ⟨_,[_,_,_,_,_],[_,_,_,_],fun Z w hs=>JS hs Un40 O JF O (Ji (Ji (Ji (Ji (Ji (Jm)))))) O (.tmp O .nil),?_,fun Z w hs=>(((((hs.pick .z).pick .z4).pick .z4).pick .z4).pick .z7).out (Sk5 (Sd3 (Sr))) (Jl Mm2 (Jl Mm3 (Jl Mm4 (Jl Mm0 Tt6))))⟩
   exact ⟨L2,A8,cap2,Bn,tn,Ae,ce,O,hr2,wtn,by rw [rtn,hX],O,O⟩
  ·refine Jp (Jf (Jc (Ja (Lq (Jw (vs:= [_,_,_,_,_,_,_,_,_]) Un40 O JF O Jm O O) (Jg O (Jq (cs':= [_,_,_,_,_,_,_,_,_]) (vs:= [_,_,_,_,_,_,_,_,_]) JF O O O O O (Nat.le_of_ble_eq_true O) .z4 (Lq (Jd O) (Je (Jf (Jn ?_))))))))))
   refine ⟨_,[_,_,_,_,_],[_,_,_,_],fun Z w hs=>JS hs Un40 O JF O (Ji (Ji (Ji (Ji (Jm))))) O (.tmp O .nil),?_,fun Z w hs=>(((((hs.pick .z7).pick .z4).pick .z4).pick .z4).pick .z7).out (Sk5 (Sd3 (Sr))) (Jl Mm0 (Jl Mm1 (Jl Mm2 (Jl Mm7 Tt4))))⟩
   exact ⟨L2,A8,cap2,B,t,Ae,ce,O,hr2,wt,by rw [(hT.noEff (by simpa using h38)).1,Gl,hX],O,O⟩
 ·refine Js O O (Jv (cs:= [_,_,_,_,_,_,_,_,_]) JF O (by decide) fun b8=> ?_)
  refine ⟨⟨(Sd2 (Sk3 (Sd2 (Sk (Sr))))),Mm0⟩,?_⟩
  refine Js O O (Ky (Jan h m cap A H L hr i o Ao co hT.fit (by have:=hD.le;omega)) (.n3 O O O) (by decide) .z1 .z4 .z4 (Jl Mm1 (Jl Mm2 (Jl Mm3 (Jl Mm5 Jx)))) fun _ _ _ q9=>?_)
  obtain ⟨L2,A8,cap2,Ae,ce,hr2,rfl,rfl,rfl⟩:=q9
  rw [hT.put] at hr2 ⊢
  dsimp only at hr2 ⊢
  refine ⟨⟨(Sd4 (Sk4 (Sr))),Mm3⟩,?_⟩
  refine Qe O (Jb O) (Qe O (Jk (vs:= [_,_]) O O) (YW O (Jk (vs:= [_,_]) O O) (by decide) (JJ (J2 O O (Jq (cs':= [_,_,_,_,_,_,_,_,_]) (vs:= [_,_,_,_,_,_,_,_,_]) JF O O O O O (Nat.le_of_ble_eq_true O) .z3 (YM O (Jd O) (by decide) (JK (Jf (Jc (Jc (Ja (Lq (Jb O) (Lq (Kp O O) (Je (Jf (Jz O O (Jp (Jf (Jc (Jc (Ja ?_)))))))))))))))))))))
  refine Lq (Jh (o':=0) Un40 O KI O O) (Lq (Jh (o':=2) Un37 O Yu O O) (Lq (Jj Un35 O O (Ji (Ji (Ji (Jm)))) O) (Lq (Kp O O) (Je (Jf (Jy O (fun h38=> ?_) (fun h38=> ?_)))))))
  ·refine JI _ _ [] (.c 0 0 (.c 1 0 (.c 2 0 (.c 3 0 (.c 4 0 (.c 5 2 .nil)))))) mixed (fun _ _ _ _ h=>h) (Sk7 (Sd (Sr))) (fun _ h=>h) (by kernel_rfl) (by decide) fun ws Z0=>Qe O (Jb O) (Qe O (JB O) (Qe O (Jh (o':=1) Un58 O Gu O O) (Qe O (Jj Un56 O O (Ji (Ji (Ji (Ji (Ji (Ji (Jm))))))) O) (Qe O (Jw (vs:= [_,_,_,_,_,_,_,_,_]) Un40 O JF O (Ji (Ji (Ji (Jm)))) O O) ?_))))
   refine Js O O (JX (Ht b B Ae ce t eff wt (by omega) (by rw [hX];exact hT.app (by simpa using h38)) (by have:=hT.text;have:=hT.tx;omega) (by have:=hT.rs;omega)) (.n2 O O) (by decide) .z7 (Jl Mm5 (Jl Mm8 (Jl Mm1 Jx))) fun _ _ _ q9=>?_)
   obtain ⟨Bn,tn,rfl,rfl,rfl,wtn,rtn⟩:=q9
   refine ⟨⟨(Sd (Sk7 (Sr))),Mm1⟩,?_⟩
   refine JJ (JK (Jf (Jc (Ja (Lq (Jw (vs:= [_,_,_,_,_,_,_,_,_]) Un40 O JF O (Ji (Ji (Ji (Ji (Jm))))) O O) (Jg O (Jq (cs':= [_,_,_,_,_,_,_,_,_]) (vs:= [_,_,_,_,_,_,_,_,_]) JF O O O O O (Nat.le_of_ble_eq_true O) .z5 (Lq (Jd O) (Je (Jf (Jn ?_)))))))))))
   refine ⟨_,[_,_,_,_,_],[_,_,_,_],fun Z w hs=>JS hs Un40 O JF O (Ji (Ji (Ji (Ji (Ji (Jm)))))) O (.tmp O .nil),?_,fun Z w hs=>(((((hs.pick .z).pick .z3).pick .z3).pick .z3).pick .z7).out (Sk5 (Sd3 (Sr))) (Jl Mm2 (Jl Mm3 (Jl Mm4 (Jl Mm0 Tt6))))⟩
   exact ⟨L2,A8,cap2,Bn,tn,Ae,ce,O,hr2,wtn,by rw [rtn,hX],O,O⟩
  ·refine Jp (Jf (Jc (Ja (Lq (Jw (vs:= [_,_,_,_,_,_,_,_,_]) Un40 O JF O (Ji (Ji (Ji (Jm)))) O O) (Jg O (Jq (cs':= [_,_,_,_,_,_,_,_,_]) (vs:= [_,_,_,_,_,_,_,_,_]) JF O O O O O (Nat.le_of_ble_eq_true O) .z4 (Lq (Jd O) (Je (Jf (Jn ?_))))))))))
   refine ⟨_,[_,_,_,_,_],[_,_,_,_],fun Z w hs=>JS hs Un40 O JF O (Ji (Ji (Ji (Ji (Jm))))) O (.tmp O .nil),?_,fun Z w hs=>(((((hs.pick .z7).pick .z3).pick .z3).pick .z3).pick .z7).out (Sk5 (Sd3 (Sr))) (Jl Mm0 (Jl Mm1 (Jl Mm2 (Jl Mm7 Tt4))))⟩
   exact ⟨L2,A8,cap2,B,t,Ae,ce,O,hr2,wt,by rw [(hT.noEff (by simpa using h38)).1,Gl,hX],O,O⟩
def dkT (u cl ce op rec made:Int) (put:List Int) (gap:Int) (s:Nat):List Value:= .int .i64 u:: .int .i64 cl:: .int .i64 ce:: .int .i64 op:: .int .i64 rec:: .int .i64 made::(ints .i64 put++ [.int .i64 gap, .pointer (some ⟨s,0,none⟩)])
abbrev dkP (d h b:Nat) (u cl ce op rec made:Int) (put:List Int) (gap:Int) (s:Nat):Part:= [(d,JD (.pointer (some ⟨h,0,none⟩):: .pointer (some ⟨b,0,none⟩)::dkT u cl ce op rec made put gap s) 65)]
theorem dk17 {a b u cl ce op rec made x y:Value} {put:List Int} (h:put.length=9):(a::b::u::cl::ce::op::rec::made::(ints .i64 put++ [x,y]))[17]? =some x:=by
 have:(ints .i64 put).length=9:=by unfold ints;rw [List.length_map];exact h
 show (ints .i64 put++ [x,y])[9]? =some x
 rw [List.getElem?_append_right (by omega),this];rfl
theorem dk18 {a b u cl ce op rec made x y:Value} {put:List Int} (h:put.length=9):(a::b::u::cl::ce::op::rec::made::(ints .i64 put++ [x,y]))[18]? =some y:=by
 have:(ints .i64 put).length=9:=by unfold ints;rw [List.length_map];exact h
 show (ints .i64 put++ [x,y])[10]? =some y
 rw [List.getElem?_append_right (by omega),this];rfl
theorem dkset17 {a b u cl ce op rec made x y z:Value} {put:List Int} (h:put.length=9):(a::b::u::cl::ce::op::rec::made::(ints .i64 put++ [x,y])).set 17 z=a::b::u::cl::ce::op::rec::made::(ints .i64 put++ [z,y]):=by
 have:(ints .i64 put).length=9:=by unfold ints;rw [List.length_map];exact h
 simp only [List.set_cons_succ]
 rw [List.set_append_right _ _ (by omega),this];rfl
theorem place_0 (d h b:Nat) (u cl ce op rec made:Int) (put:List Int) (gap:Int) (s:Nat) (B:Option Addr) (t:Tr) (wt:Wf t) (nm:ByteArray) (p:Int) (hp:0≤p∧p≤J8 t.row):Sp Tryz.prog 40 [.pointer (some ⟨d,0,none⟩), .string nm, .int .i64 p] [dkP d h b u cl ce op rec made put gap s,rpP b B] [TrF B t] (fun v Lo fs=>v= .tuple #[] ∧Lo= [dkP d h b u cl ce op rec made put gap s,rpP b B] ∧fs= []):=by
 refine Sp.of (n:=16) ⟨_,Tryz.func40,O,O,O,O⟩ (Nat.le_of_ble_eq_true O) fun Ps As=>Jc (Ja (Lq (Jb O) (Lq (Jb O) (Lq (JB O) (Lq (Jh (o':=0) Un65 O Ym O O) (Jg O (J4 (K1 d h b _ _ B t wt) (.n1 O) (by decide) .z .z (Jl Mm0 Jx) fun _ _ _ q9=>?_)))))))
 obtain ⟨rfl,rfl,rfl⟩:=q9
 refine Jg O (Jo (KG p 0 (J8 t.row)) (.n3 O O O) (by decide) Jx fun _ _ _ q9=>?_)
 obtain ⟨rfl,rfl,rfl⟩:=q9
 refine Lq (KC O) (Je (Jf (Jz O (by rw [decide_eq_true hp];rfl) (Jp ?_))))
 refine ⟨_,[_,_],[],fun Z w hs=> .nil,?_,fun Z w hs=>hs.out (Sk2 (Sr)) (fun _ h=>h)⟩
 exact ⟨O,O,O⟩
theorem room_0 (d h b:Nat) (u cl ce op rec made:Int) (put:List Int) (gap:Int) (s:Nat) (nm:ByteArray) (p:Int) (hm:made<op):Sp Tryz.prog 43 [.pointer (some ⟨d,0,none⟩), .string nm, .int .i64 p] [dkP d h b u cl ce op rec made put gap s] [] (fun v Lo fs=>v= .tuple #[] ∧Lo= [dkP d h b u cl ce op rec made put gap s] ∧fs= []):=by
 refine Sp.of (n:=19) ⟨_,Tryz.func43,O,O,O,O⟩ (Nat.le_of_ble_eq_true O) fun Ps As=>Jc (JI _ _ [] (.c 0 0 (.c 1 0 (.c 2 0 (.c 3 0 (.c 4 0 (.c 5 0 (.c 6 0 (.c 7 0 (.c 8 0 (.c 9 0 .nil)))))))))) mixed (fun _ _ _ _ h=>h) (Sk (Sr)) (fun _ h=>h) (by kernel_rfl) (by decide) fun ws Z0=>Qe O (Jb O) (Qe O (JB O) (Qe O (Jh (o':=7) Un65 O ti3 O O) (Qe O (Jj Un3 O O Jm O) (Qe O (Jb O) (Qe O (JB O) (Qe O (Jh (o':=3) Un65 O QO O O) ?_)))))))
 refine Qe O (Jh (o':=5) Un23 O ti3 O O) (Qe O (Jj Un3 O O Jm O) (Qe O (Yl O O) (JJ (JK (Jf (Jz O (by simpa using hm) (Jp ?_)))))))
 refine ⟨_,[_],[],fun Z w hs=> .nil,?_,fun Z w hs=>hs.out (Sk (Sr)) Tt1⟩
 exact ⟨O,O,O⟩
def MkP (d h m b:Nat) (u cl ce op rec made:Int) (put:List Int) (gap:Int) (s:Nat) (X:List Ce) (H2:Hist) (eff o:GOp) (Ao:Option Addr) (co:Nat):Value→List Part→List Fact→Prop:=fun v Lo fs=> ∃(L2:List MR) (A2:Option Addr) (cap2:Nat) (B2:Option Addr) (t2:Tr),v=opV o Ao co∧HR H2 L2∧Wf t2∧t2.row=J6 eff X∧Lo= [dkP d h b u cl ce op rec (made+1) put gap s,hdP h A2 H2.ops.length cap2 m H2.total,mpP m L2,mkP L2,rpP b B2] ∧fs= [RdF opD A2 cap2 H2.ops,AllF L2 nowF,TrF B2 t2]
theorem bd46_0_1Xg3 (x0_:Int) (x1_:Int) (w:World):(Instr.build 34 #[(0, .int .i64 x0_),(1, .int .i64 x1_)]).run Tryz.prog w= .ok (.agg #[.int .i64 x0_, .int .i64 x1_]) w:=by kernel_rfl
theorem G8 (d h m b:Nat) (u cl ce op rec made:Int) (put:List Int) (gap:Int) (s:Nat) (H:Hist) (L:List MR) (A:Option Addr) (cap:Nat) (B:Option Addr) (t:Tr) (n:Nat) (X:List Ce) (o:GOp) (Ao:Option Addr) (co:Nat) (H2:Hist) (eff:GOp) (hr:HR H L) (wt:Wf t) (hX:t.row=X) (hD:DI n H X) (hT:TkD H X n n { o with c:=u,n:=made+1 } H2 eff) (hm:0≤made∧made≤4096):Sp Tryz.prog 45 [.pointer (some ⟨d,0,none⟩),opV o Ao co] [dkP d h b u cl ce op rec made put gap s,hdP h A H.ops.length cap m H.total,mpP m L,mkP L,rpP b B] [barF,RdF opD A cap H.ops,AllF L nowF,TrF B t,RdF rgD Ao co o.rs] (MkP d h m b u cl ce op rec made put gap s X H2 eff { o with c:=u,n:=made+1 } Ao co):=by
 have hnl:=hD.len
 have hol:H.ops.length=H.ents.length:=by simp [Hist.ops]
 have hon:H.ops.length=n:=by omega
 subst hon
 refine Sp.of (n:=42) ⟨_,Tryz.func45,O,O,O,O⟩ (Nat.le_of_ble_eq_true O) fun Ps As=>Jc (Ja (Jg O (J1 (cs:= [_,_,_,_,_,_,_,_,_]) O O (by decide) fun b3=>Jg O (Jv (cs:= [_,_,_,_,_,_,_,_,_]) JF O (by decide) fun b4=>Je (Jf (Jc (JI _ _ [12] (.c 0 0 (.c 1 0 (.c 2 0 (.c 3 0 (.c 4 0 (.c 5 0 (.c 6 0 (.c 7 0 (.c 8 0 (.c 9 0 (.c 10 0 (.c 11 0 (.c 12 3 .nil))))))))))))) mixed (fun _ _ _ _ h=>h) (Sk7 (Sr)) (fun _ h=>h) (by kernel_rfl) (by decide) fun ws Z0=>Qe O (Jb O) (Qe O (JB O) (Qe O (Jh (o':=2) Un65 O ti3 O O) ?_)))))))))
 refine Qe O (Jj Un3 O O (Ji (Ji (Jm))) O) (Qe O (Jb O) (Qe O (JB O) (Qe O (Jh (o':=7) Un65 O ti3 O O) (Qe O (Jj Un3 O O (Ji (Ji (Jm))) O) (Qe O (JZ O O (wr64 (by omega)) (c:=made+1)) (Qe O (JV (.n2 O O) (bd46_0_1Xg3 _ _)) (Qe O (Jh (o':=0) Un40 O KI O O) (Qe O (Jh (o':=0) Un37 O JY O O) (JJ (J2 O O (Jq (cs':= [_,_,_,_,_,_,_,_,_]) (vs:= [_,_]) JY O O O O O (Nat.le_of_ble_eq_true O) .z1 ?_)))))))))))
 refine JK (Jf (Jc (Jc (JI _ _ [13] (.c 0 0 (.c 1 0 (.c 2 0 (.c 3 0 (.c 4 0 (.c 5 0 (.c 7 0 (.b (.c 6 2 (.b (.c 8 2 (.c 9 0 (.c 10 0 (.c 11 1 (.c 12 2 (.c 13 3 (.c 14 1 .nil))))))) (.c 12 2 (.c 8 2 (.c 9 0 (.c 10 0 (.c 11 1 (.c 13 3 (.c 14 1 .nil))))))))) (.c 12 2 (.c 6 2 (.c 8 2 (.c 9 0 (.c 10 0 (.c 11 1 (.c 13 3 (.c 14 1 .nil)))))))))))))))) mixed (fun _ _ _ _ h=>h) (Sk2 (Sd5 (Sr))) (fun _ h=>h) (by kernel_rfl) (by decide) fun ws Z0=>Qe O (Jb O) (Qe O (JB O) (Qe O (Jh (o':=0) Un65 O Ym O O) (Qe O (Jb O) (Qe O (JB O) (Qe O (Jh (o':=0) Un65 O Ym O O) ?_)))))))))
 refine Qe O (Jw (vs:= [_,_,_,_,_,_,_,_,_]) Un40 O JF O (Ji (Jm)) O O) (KN ?_ ?_)
 ·refine Js O O (J4 (YF d h m b H.ops.length cap _ _ A H.total) (.n1 O) (by decide) .z2 .z2 Jx fun _ _ _ q9=>?_)
  obtain ⟨rfl,rfl,rfl⟩:=q9
  refine ⟨⟨(Sd2 (Sk2 (Sd3 (Sr)))),Mm0⟩,?_⟩
  refine KN ?_ ?_
  ·refine Js rfl rfl (JW (XU d h m b _ _ H L A cap B t _ X _ { o with c:=u,n:=made+1 } Ao co H2 eff hr wt hX hD hT) (.n3 rfl rfl rfl) (by decide) (.n5 .z .z .z2 .z2 .z2) (Jl Mm2 (Jl Mm3 (Jl Mm4 (Jl Mm5 (Jl Mm6 Jx))))) fun _ _ _ q9=>?_)
   obtain ⟨L2,A2,cap2,B2,t2,Ae,ce,rfl,hr2,wt2,hX2,rfl,rfl⟩:=q9
   refine ⟨⟨(Sd5 (Sk2 (Sr))),Mm4⟩,?_⟩
   refine Qe O (Jb O) (Qe O (Jk (vs:= [_,_]) O O) (YW O (Jk (vs:= [_,_]) O O) (by decide) (Js O O (Jv (cs:= [_,_,_,_,_,_,_,_,_]) JF O (by decide) fun b5=> ?_))))
   refine ⟨⟨(Sd6 (Sk2 (Sr))),Mm4⟩,?_⟩
   refine JJ (J2 O O (Jq (cs':= [_,_,_,_,_,_,_,_,_]) (vs:= [_,_,_,_,_,_,_,_,_]) JF O O O O O (Nat.le_of_ble_eq_true O) .z (YM O (Jd O) (by decide) (JK (Jf (Jc (Ja (Lq (Jb O) (Lq (Yf Un29 O) (Je (Jf (Jz O O (Jp (Jf (Jc (Ja (Lq (Jb O) (Lq (JB O) (Lq (Jh (o':=7) Un65 O ti3 O O) ?_)))))))))))))))))))
   refine Lq (Jj Un3 O O (Ji (Jm)) O) (Lq (JZ O O (wr64 (by omega)) (c:=made+1)) (Lq (JB O) (Lq (Jh (o':=7) Un65 O ti3 O O) (Jg O (JN ti3 O O O .z7 .z1 (Je (Jf (Jc (Ja (Lq (Jw (vs:= [_,_,_,_,_,_,_,_,_]) Un40 O JF O (Ji (Ji (Ji (Ji (Ji (Ji (Ji (Jm)))))))) O O) (Jg O (Jq (cs':= [_,_,_,_,_,_,_,_,_]) (vs:= [_,_,_,_,_,_,_,_,_]) JF O O O O O (Nat.le_of_ble_eq_true O) .z6 (Je (Jf (Jn ?_)))))))))))))))
   refine ⟨_,[_,_,_,_,_],[_,_,_],fun Z w hs=>JS hs Un40 O JF O (Ji (Ji (Ji (Ji (Ji (Ji (Jm))))))) O .nil,?_,fun Z w hs=>hs.out (Sd (Sk5 (Sd2 (Sr)))) (Jl Mm1 (Jl Mm2 (Jl Mm3 Tt6)))⟩
   exact ⟨L2,A2,cap2,B2,t2,O,hr2,wt2,hX2,O,O⟩
  ·refine Js O O (Jv (cs:= [_,_,_,_,_,_,_,_,_]) JF O (by decide) fun b5=> ?_)
   refine ⟨⟨(Sd3 (Sk2 (Sd3 (Sr)))),Mm0⟩,?_⟩
   refine Js rfl rfl (JW (XU d h m b _ _ H L A cap B t _ X _ { o with c:=u,n:=made+1 } Ao co H2 eff hr wt hX hD hT) (.n3 rfl rfl rfl) (by decide) (.n5 .z1 .z1 .z3 .z3 .z3) (Jl Mm2 (Jl Mm3 (Jl Mm4 (Jl Mm5 (Jl Mm6 Jx))))) fun _ _ _ q9=>?_)
   obtain ⟨L2,A2,cap2,B2,t2,Ae,ce,rfl,hr2,wt2,hX2,rfl,rfl⟩:=q9
   refine ⟨⟨(Sd6 (Sk2 (Sr))),Mm4⟩,?_⟩
   refine Qe O (Jb O) (Qe O (Jk (vs:= [_,_]) O O) (YW O (Jk (vs:= [_,_]) O O) (by decide) (JJ (J2 O O (Jq (cs':= [_,_,_,_,_,_,_,_,_]) (vs:= [_,_,_,_,_,_,_,_,_]) JF O O O O O (Nat.le_of_ble_eq_true O) .z5 (YM O (Jd O) (by decide) (JK (Jf (Jc (Ja (Lq (Jb O) (Lq (Yf Un29 O) (Je (Jf (Jz O O (Jp (Jf (Jc (Ja ?_)))))))))))))))))))
   refine Lq (Jb O) (Lq (JB O) (Lq (Jh (o':=7) Un65 O ti3 O O) (Lq (Jj Un3 O O Jm O) (Lq (JZ O O (wr64 (by omega)) (c:=made+1)) (Lq (JB O) (Lq (Jh (o':=7) Un65 O ti3 O O) (Jg O (JN ti3 O O O .z7 .z (Je (Jf (Jc (Ja (Lq (Jw (vs:= [_,_,_,_,_,_,_,_,_]) Un40 O JF O (Ji (Ji (Ji (Ji (Ji (Ji (Ji (Jm)))))))) O O) ?_)))))))))))))
   refine Jg O (Jq (cs':= [_,_,_,_,_,_,_,_,_]) (vs:= [_,_,_,_,_,_,_,_,_]) JF O O O O O (Nat.le_of_ble_eq_true O) .z6 (Je (Jf (Jn ?_))))
   refine ⟨_,[_,_,_,_,_],[_,_,_],fun Z w hs=>JS hs Un40 O JF O (Ji (Ji (Ji (Ji (Ji (Ji (Jm))))))) O .nil,?_,fun Z w hs=>hs.out (Sk5 (Sd3 (Sr))) (Jl Mm1 (Jl Mm2 (Jl Mm3 Tt6)))⟩
   exact ⟨L2,A2,cap2,B2,t2,O,hr2,wt2,hX2,O,O⟩
 ·refine Js O O (Jv (cs:= [_,_,_,_,_,_,_,_,_]) JF O (by decide) fun b5=> ?_)
  refine ⟨⟨(Sd (Sk2 (Sd5 (Sr)))),Mm0⟩,?_⟩
  refine Js O O (J4 (YF d h m b H.ops.length cap _ _ A H.total) (.n1 O) (by decide) .z3 .z3 Jx fun _ _ _ q9=>?_)
  obtain ⟨rfl,rfl,rfl⟩:=q9
  refine ⟨⟨(Sd3 (Sk2 (Sd3 (Sr)))),Mm0⟩,?_⟩
  refine Js rfl rfl (JW (XU d h m b _ _ H L A cap B t _ X _ { o with c:=u,n:=made+1 } Ao co H2 eff hr wt hX hD hT) (.n3 rfl rfl rfl) (by decide) (.n5 .z .z .z3 .z3 .z3) (Jl Mm2 (Jl Mm3 (Jl Mm4 (Jl Mm5 (Jl Mm6 Jx))))) fun _ _ _ q9=>?_)
  obtain ⟨L2,A2,cap2,B2,t2,Ae,ce,rfl,hr2,wt2,hX2,rfl,rfl⟩:=q9
  refine ⟨⟨(Sd6 (Sk2 (Sr))),Mm4⟩,?_⟩
  refine Qe O (Jb O) (Qe O (Jk (vs:= [_,_]) O O) (YW O (Jk (vs:= [_,_]) O O) (by decide) (JJ (J2 O O (Jq (cs':= [_,_,_,_,_,_,_,_,_]) (vs:= [_,_,_,_,_,_,_,_,_]) JF O O O O O (Nat.le_of_ble_eq_true O) .z5 (YM O (Jd O) (by decide) (JK (Jf (Jc (Ja (Lq (Jb O) (Lq (Yf Un29 O) (Je (Jf (Jz O O (Jp (Jf (Jc (Ja ?_)))))))))))))))))))
  refine Lq (Jb O) (Lq (JB O) (Lq (Jh (o':=7) Un65 O ti3 O O) (Lq (Jj Un3 O O Jm O) (Lq (JZ O O (wr64 (by omega)) (c:=made+1)) (Lq (JB O) (Lq (Jh (o':=7) Un65 O ti3 O O) (Jg O (JN ti3 O O O .z7 .z (Je (Jf (Jc (Ja (Lq (Jw (vs:= [_,_,_,_,_,_,_,_,_]) Un40 O JF O (Ji (Ji (Ji (Ji (Ji (Ji (Ji (Jm)))))))) O O) ?_)))))))))))))
  refine Jg O (Jq (cs':= [_,_,_,_,_,_,_,_,_]) (vs:= [_,_,_,_,_,_,_,_,_]) JF O O O O O (Nat.le_of_ble_eq_true O) .z6 (Je (Jf (Jn ?_))))
  refine ⟨_,[_,_,_,_,_],[_,_,_],fun Z w hs=>JS hs Un40 O JF O (Ji (Ji (Ji (Ji (Ji (Ji (Jm))))))) O .nil,?_,fun Z w hs=>hs.out (Sk5 (Sd3 (Sr))) (Jl Mm1 (Jl Mm2 (Jl Mm3 Tt6)))⟩
  exact ⟨L2,A2,cap2,B2,t2,O,hr2,wt2,hX2,O,O⟩
structure Pth (X:List Ce) (p k:Nat):Prop where
 le:k≤X.length
 ct:J8 (X.take k)=p
 at_:p<J8 X→ ∃r,X[k]? =some (r,0)
 fin:p=J8 X→k=X.length
structure GoP (R:List Ce) (t:Tr) (p q k:Nat):Prop where
 wf:Wf t
 pos:q<J8 t.row
 at_: ∃B,R.drop k=t.row++B
 le:k≤R.length
 ct:J8 (R.take k)+q=p
theorem GoP.zero {t:Tr} (wt:Wf t) {p:Nat} (h:p<J8 t.row):GoP t.row t p p 0:=⟨wt,h,⟨[],by simp⟩,Nat.zero_le _,by simp [J8]⟩
theorem GoP.ne {R:List Ce} {t:Tr} {p q k:Nat} (h:GoP R t p q k):t≠ .nil:=fun e=>by
 have:=h.pos
 rw [e] at this
 exact absurd this (by simp [Tr.row,J8])
theorem GoP.bd {R:List Ce} {t:Tr} {p q k:Nat} (h:GoP R t p q k):k+t.row.length≤R.length:=by
 obtain ⟨B,hB⟩:=h.at_
 have:=congrArg List.length hB
 rw [List.length_drop,List.length_append] at this
 have:=h.le
 omega
theorem GoP.left {R:List Ce} {t l:Tr} {p q k:Nat} {C:List Ce} (h:GoP R t p q k) (wl:Wf l) (e:t.row=l.row++C) (hp:q<J8 l.row):GoP R l p q k:=by
 obtain ⟨B,hB⟩:=h.at_
 exact ⟨wl,hp,⟨C++B,by rw [hB,e,List.append_assoc]⟩,h.le,h.ct⟩
theorem Yc (rs:List Int):J8 (cellsOf rs 0)=rs.length:=by rw [←KM,QN]
theorem Vo (rs:List Int) {hid:Int} (h:hid≠0):J8 (cellsOf rs hid)=0:=VW (cells_hid rs h)
theorem GoP.own {R:List Ce} {t:Tr} {p q k:Nat} {L C:List Ce} {rs:List Int} (h:GoP R t p q k) (e:t.row=L++(cellsOf rs 0++C)) (h1:J8 L≤q) (h2:q-J8 L<rs.length):Pth R p (k+L.length+(q-J8 L)):=by
 obtain ⟨B,hB⟩:=h.at_
 have e1:R.drop k=(L++(cellsOf rs 0).take (q-J8 L))++((cellsOf rs 0).drop (q-J8 L)++(C++B)):=by
  rw [hB,e];simp only [List.append_assoc]
  rw [←List.append_assoc (List.take _ _),List.take_append_drop]
 obtain ⟨t1,t2,t3⟩:=take_more h.le e1
 have hl:(cellsOf rs 0).length=rs.length:=Ju ..
 rw [List.length_append,List.length_take,hl,Nat.min_eq_left (by omega),←Nat.add_assoc] at t1 t2 t3
 have hd:(cellsOf rs 0).drop (q-J8 L)=cellsOf (rs.drop (q-J8 L)) 0:=by unfold cellsOf;rw [List.map_drop]
 have ht:(cellsOf rs 0).take (q-J8 L)=cellsOf (rs.take (q-J8 L)) 0:=by unfold cellsOf;rw [List.map_take]
 obtain ⟨x,xs,hx⟩:=List.exists_cons_of_ne_nil (l:=rs.drop (q-J8 L)) (fun e=>by have:=congrArg List.length e;rw [List.length_drop,List.length_nil] at this;omega)
 rw [hd,hx] at t2
 have hg:R[k+L.length+(q-J8 L)]? =some (x,0):=by
  have:=congrArg (fun l=>l[0]?) t2
  simp only [List.getElem?_drop,Nat.add_zero] at this
  rw [this];rfl
 have hct:=h.ct
 refine ⟨t3,?_,fun _=>⟨x,hg⟩,fun hp=> ?_⟩
 ·rw [t1,Km,Km,ht,Yc,List.length_take];omega
 ·exfalso
  have h5:R=R.take (k+L.length+(q-J8 L))++R.drop (k+L.length+(q-J8 L)):=(List.take_append_drop ..).symm
  have h6:=congrArg J8 h5
  rw [Km,t1,Km,Km,ht,Yc,List.length_take,t2,Km] at h6
  have h7:J8 (cellsOf (x::xs) 0)=xs.length+1:=Yc _
  omega
theorem GoP.right {R:List Ce} {t r:Tr} {p q k:Nat} {L M:List Ce} (h:GoP R t p q k) (wr:Wf r) (e:t.row=L++(M++r.row)) (h1:J8 L+J8 M≤q):GoP R r p (q-J8 L-J8 M) (k+L.length+M.length):=by
 obtain ⟨B,hB⟩:=h.at_
 have hp:=h.pos
 rw [e,Km,Km] at hp
 obtain ⟨t1,t2,t3⟩:=take_more (A:=L++M) (C:=r.row++B) h.le (by rw [hB,e];simp)
 rw [List.length_append,←Nat.add_assoc] at t1 t2 t3
 have hct:=h.ct
 refine ⟨wr,by omega,⟨B,t2⟩,t3,?_⟩
 rw [t1,Km,Km];omega
theorem Pth.end_ (X:List Ce):Pth X (J8 X) X.length:=⟨Nat.le_refl _,by rw [List.take_length],fun h=>absurd h (Nat.lt_irrefl _),fun _=>rfl⟩
structure GoS (R:List Ce) (t:Tr) (c0 c s:Nat):Prop where
 wf:Wf t
 le:c≤t.row.length
 ct:s+J8 (t.row.take c)=J8 (R.take c0)
theorem GoS.bd {R:List Ce} {t:Tr} {c0 c s:Nat} (h:GoS R t c0 c s):s≤R.length:=by
 have h1:=h.ct
 have h2:=Kn (R.take c0)
 rw [List.length_take] at h2;omega
theorem GoS.left {R:List Ce} {t l:Tr} {c0 c s:Nat} {C:List Ce} (h:GoS R t c0 c s) (wl:Wf l) (e:t.row=l.row++C) (hc:c≤l.row.length):GoS R l c0 c s:=by
 have:=h.ct
 rw [e,List.take_append_of_le_length hc] at this
 exact ⟨wl,hc,this⟩
theorem GoS.own {R:List Ce} {t:Tr} {c0 c s:Nat} {L C:List Ce} {rs:List Int} {hid:Int} (h:GoS R t c0 c s) (e:t.row=L++(cellsOf rs hid++C)) (h1:L.length<c) (h2:c≤L.length+rs.length):s+J8 L+(if hid=0 then c-L.length else 0)=J8 (R.take c0):=by
 have:=h.ct
 obtain ⟨m,rfl⟩: ∃m,c=L.length+m:=⟨c-L.length,by omega⟩
 rw [e,List.take_length_add_append,List.take_append_of_le_length (by rw [Ju];omega),Km] at this
 have ht:(cellsOf rs hid).take m=cellsOf (rs.take m) hid:=by unfold cellsOf;rw [List.map_take]
 rw [ht] at this
 split
 ·rename_i h0;subst h0
  rw [Yc,List.length_take] at this;omega
 ·rename_i h0
  rw [Vo _ h0] at this;omega
theorem GoS.right {R:List Ce} {t r:Tr} {c0 c s:Nat} {L M:List Ce} (h:GoS R t c0 c s) (wr:Wf r) (e:t.row=L++(M++r.row)) (h1:L.length+M.length≤c):GoS R r c0 (c-L.length-M.length) (s+J8 L+J8 M):=by
 have h2:=h.ct
 have h3:=h.le
 obtain ⟨m,rfl⟩: ∃m,c=L.length+(M.length+m):=⟨c-L.length-M.length,by omega⟩
 rw [e,List.take_length_add_append,List.take_length_add_append,Km,Km] at h2
 rw [e,List.length_append,List.length_append] at h3
 rw [show L.length+(M.length+m)-L.length-M.length=m from by omega]
 exact ⟨wr,by omega,by omega⟩
theorem fd149_0Xg4 (x0:Int) (x1:Int) (x2:Int) (x3:Int) (x4:Int) (x5:Int) (w:World):(Instr.field 138 (.agg #[.int .i64 x0, .int .i64 x1, .int .i64 x2, .int .i64 x3, .int .i64 x4, .int .i64 x5]) 0).run Tryz.prog w= .ok (.int .i64 x0) w:=by kernel_rfl
theorem totalOf_g (b:Nat) (A:Option Addr) (t:Tr) (wt:Wf t) (hb:t.row.length≤1048576) (p:Nat) (hp:p≤J8 t.row):Sp Tryz.prog 44 [.pointer (some ⟨b,0,none⟩), .int .i64 p] [rpP b A] [TrF A t] (fun v Lo fs=> ∃k:Nat,Pth t.row p k∧v= .tuple #[.int .i64 k, .int .i64 0] ∧Lo= [rpP b A] ∧fs= []):=by
 refine Sp.of (n:=73) ⟨_,Tryz.func44,O,O,O,O⟩ (Nat.le_of_ble_eq_true O) fun Ps As=>Jc (Ja (Lq (Jd O) (Lq (Jd O) (Je (Jf (Jc (Jc (Ja (Lq (Jb O) (Lq (Ku O O) (Lq (Jb O) (Lg O O O (decide_eq_false (by omega)) (Jb O) (Lg O O O (decide_eq_false (by omega)) (Jb O) ?_)))))))))))))
 refine Kk O O O (decide_eq_false (by omega)) (JX (YJ b A t wt) (.n1 O) (by decide) .z (Jl Mm0 Jx) fun _ _ _ q9=>?_)
 obtain ⟨rfl,rfl,rfl⟩:=q9
 refine Lg O O O (decide_eq_false (by omega)) (Ke O O) (Lq (JA O (decide_eq_false (by omega)) O) (Je (Jf (Jz O (decide_eq_false (by omega)) (Jp (Jf (Jc (Jc (Ja (Lq (Jb O) (Lq (Jb O) (Jg O (JX (YJ b A t wt) (.n1 O) (by decide) .z (Jl Mm0 Jx) fun _ _ _ q9=>?_)))))))))))))
 obtain ⟨rfl,rfl,rfl⟩:=q9
 refine Lq (Ka O O) (Je (Jf (Jy O (fun h23=> ?_) (fun h23=> ?_))))
 ·have hpe:p=J8 t.row:=by simp at h23;omega
  refine Jc (Ja (Lq (Jb O) (Jg O (JX (Qc b A t wt) (.n1 O) (by decide) .z (Jl Mm0 Jx) fun _ _ _ q9=>?_))))
  obtain ⟨rfl,rfl,rfl⟩:=q9
  refine Lq (Jd O) (Lq (Jd O) (Je (Jf (Jn (Jr ?_)))))
  refine ⟨_,[_],[],fun Z w hs=> .tmp O (.tmp O .nil),?_,fun Z w hs=>hs.out (Sk (Sr)) (fun _ h=>h)⟩
  subst hpe
  exact ⟨_,Pth.end_ _,O,O,O⟩
 ·have hpl:p<J8 t.row:=by simp at h23;omega
  refine Jp (Jf (Jc (Ja (Lq (Jd O) (Je (Jf (Jc (Ja (Lq (Jb O) (Lq (JB O) (Lq (Jh (o':=0) Un128 O YX O O) (Lq (Jj Un126 O O Jm O) (Lq (Jd O) (Je (Jf (JO ?_))))))))))))))))
  refine Ki (α:=Nat×Nat×Option Addr×Tr) (fun (q,k,D,z)=>z.size)
   (fun (q,k,D,z)=> [(0, .pointer (some ⟨b,0,none⟩)),(1, .int .i64 q),(6, .int .i64 k),(7, .pointer D)])
   (fun (q,k,D,z)=>(rpP b A::Ps))
   (fun (q,k,D,z)=>(TrF D z::TrF A t::As))
   (fun (q,k,D,z)=>GoP t.row z p q k)
   (p,0,A,t) ?_ (.m4 rfl rfl rfl rfl) (Sk (Sr)) (Jl Mm0 (fun _ h=>h)) ?_
  ·exact GoP.zero wt hpl
  ·rintro ⟨q,k,D,z⟩ hI
   have hbd:=hI.bd
   have hps:=hI.pos
   have hvz:=Kn z.row
   refine JO (Jc (Ja (Lq (Jb O) (Jg O (Jo (open_r _ z hI.wf hI.ne (by omega)) (.n1 O) (by decide) (Jl Mm0 Jx) fun _ _ _ q9=>?_)))))
   obtain ⟨B1,l1,s1,k1,C1,d1,D1,m1,rfl,rfl,rfl,wl1,wm1,n1,h1,r1,zl1,zm1⟩:=q9
   have e1:=congrArg List.length r1
   simp only [List.length_append,Ju] at e1
   have n1p:=List.length_pos_iff.2 n1
   have vl1:=Kn l1.row
   refine Lq (Jb O) (Lq (Jk (vs:= [_,_,_]) O O) (Lq (Jk (vs:= [_,_,_]) O O) (Lq (Jk (vs:= [_,_,_]) O O) (Jg O (Jv (cs:= [_,_]) J3 O (by decide) fun b9=>Lq (Jd O) (Jg O (Jq (cs':= [_,_]) (vs:= [_,_]) J3 O O O O O (Nat.le_of_ble_eq_true O) .z (Lq (Jd O) (Je (Jf (Jc (Ja (Lq (Jb O) ?_)))))))))))))
   refine Jg O (Jo (YD B1 l1) (.n1 O) (by decide) (Jl Mm0 Jx) fun _ _ _ q9=>?_)
   obtain ⟨rfl,rfl,rfl⟩:=q9
   refine Jg O (Jo (XD (allF l1)) (.n1 O) (by decide) Jx fun _ _ _ q9=>?_)
   obtain ⟨rfl,rfl,rfl⟩:=q9
   rw [wl1.shown]
   refine Lq (Jd O) (Je (Jf (Jc (Jc (Ja (Lq (Jb O) (Lq (Jb O) (Lq (Ku O O) (Je (Jf (Jy O (fun h41=> ?_) (fun h41=> ?_))))))))))))
   ·refine Jc (Ja (Lq (Jb O) (Lq (Jd O) (Je (Jf (Kr (JR (Kg (Ko ?_)))))))))
    refine ⟨(q,k,B1,l1),?_,(.m4 O O O O),(Sd (Sk (Sr))),(Jl Mm0 Tt4)⟩
    simp only [decide_eq_true_eq] at h41
    exact ⟨zl1,hI.left wl1 r1 (by omega)⟩
   ·have h41n:J8 l1.row≤q:=by simp only [decide_eq_false_iff_not] at h41;omega
    refine Jp (Jf (Jc (Ja (Lq (Jb O) (Lq (Jb O) (Lq (KS O O (by rw [wr64 (by omega)];omega) (c:=((q-J8 l1.row:Nat):Int))) (Lq (Jd O) (Je (Jf (Jc (Ja (Lq (Jb O) (Lq (Jb O) (Jg O (Jo (YD B1 l1) (.n1 O) (by decide) (Jl Mm0 Jx) fun _ _ _ q9=>?_)))))))))))))))
    obtain ⟨rfl,rfl,rfl⟩:=q9
    refine Lq (Yn O (fd149_0Xg4 _ _ _ _ _ _)) (Lq (JZ O O (by rw [wl1.tot];exact wr64 (by omega)) (c:=((k+l1.row.length:Nat):Int))) (Lq (Jd O) (Je (Jf (Jc (Jc (Ja (Lq (Jh (o':=1) Un134 O ti3 O O) (Lq (Jj Un3 O O Jm O) (Lq (Ka O O) (Je (Jf (Jy O (fun h53=> ?_) (fun h53=> ?_))))))))))))))
    ·have hk0:k1=0:=by simpa using h53
     subst hk0
     refine Jc (Jc (Ja (Lq (Jb O) (Lq (Jh (o':=0) Un134 O Yb O O) (Lq (Jj Un132 O O Jm O) (Lq (J7 Un132 O) (Lq (Ku O O) (Je (Jf (Jy O (fun h58=> ?_) (fun h58=> ?_)))))))))))
     ·have h58n:q-J8 l1.row<s1.length:=by simp only [decide_eq_true_eq] at h58;omega
      refine Jc (Ja (Lq (Jb O) (Lq (Jb O) (Lq (JZ O O (by exact wr64 (by omega)) (c:=((k+l1.row.length+(q-J8 l1.row):Nat):Int))) (Lq (Jd O) (Lq (Jd O) (Je (Jf (Jn (Jr (Jr (JM (Jr (JM ?_))))))))))))))
      refine ⟨_,[_],[],fun Z w hs=> .tmp O (.tmp O .nil),?_,fun Z w hs=>hs.out (Sd (Sk (Sr))) Tt4⟩
      exact ⟨_,hI.own r1 h41n h58n,O,O,O⟩
     ·have h58n:s1.length≤q-J8 l1.row:=by simp only [decide_eq_false_iff_not] at h58;omega
      refine Jp (Jf (Ja (Lq (Jb O) (Lq (Jh (o':=0) Un134 O Yb O O) (Lq (Jj Un132 O O Jm O) (Lq (J7 Un132 O) (Lq (KS O O (by rw [wr64 (by omega)];omega) (c:=((q-J8 l1.row-s1.length:Nat):Int))) (Lq (Jd O) (Je (Jf (Jc (Ja (Lq (Jb O) (Lq (Jh (o':=0) Un134 O Yb O O) ?_))))))))))))))
      refine Lq (Jj Un132 O O Jm O) (Lq (J7 Un132 O) (Lq (JZ O O (by exact wr64 (by omega)) (c:=((k+l1.row.length+s1.length:Nat):Int))) (Lq (Jd O) (Je (Jf (Ja (Lq (Jb O) (Lq (Jd O) (Je (J9 (Ko ?_)))))))))))
      refine ⟨(q-J8 l1.row-s1.length,k+l1.row.length+s1.length,D1,m1),?_,(.m4 O O O O),(Sd (Sk (Sr))),(Jl Mm2 Tt4)⟩
      have hg:=hI.right wm1 r1 (by rw [Yc];omega)
      rw [Ju,Yc] at hg
      exact ⟨zm1,hg⟩
    ·have hk0:k1≠0:=by simpa using h53
     refine Jp (Jf (Jc (Ja (Lq (Jb O) (Lq (Jh (o':=0) Un134 O Yb O O) (Lq (Jj Un132 O O Jm O) (Lq (J7 Un132 O) (Lq (JZ O O (by exact wr64 (by omega)) (c:=((k+l1.row.length+s1.length:Nat):Int))) (Lq (Jd O) (Je (Jf (Ja (Lq (Jb O) (Lq (Jd O) ?_))))))))))))))
     refine Je (J9 (Ko ?_))
     refine ⟨(q-J8 l1.row,k+l1.row.length+s1.length,D1,m1),?_,(.m4 O O O O),(Sd (Sk (Sr))),(Jl Mm2 Tt4)⟩
     have hv:=Vo s1 hk0
     have hg:=hI.right wm1 r1 (by rw [hv];omega)
     rw [Ju,hv,Nat.sub_zero] at hg
     exact ⟨zm1,hg⟩
theorem Gv (b:Nat) (A:Option Addr) (t:Tr) (wt:Wf t) (hb:t.row.length≤1048576) (c0:Nat) (hp:c0≤t.row.length):Sp Tryz.prog 55 [.pointer (some ⟨b,0,none⟩), .int .i64 c0] [rpP b A] [TrF A t] (fun v Lo fs=>v= .tuple #[.int .i64 (J8 (t.row.take c0):Nat), .int .i64 0] ∧Lo= [rpP b A] ∧fs= []):=by
 refine Sp.of (n:=72) ⟨_,Tryz.func55,O,O,O,O⟩ (Nat.le_of_ble_eq_true O) fun Ps As=>Jc (Ja (Lq (Jd O) (Lq (Jd O) (Je (Jf (Jc (Jc (Ja (Lq (Jb O) (Lq (Ku O O) (Lq (Jb O) (Lg O O O (decide_eq_false (by omega)) (Jb O) (Lg O O O (decide_eq_false (by omega)) (Jb O) ?_)))))))))))))
 refine Kk O O O (decide_eq_false (by omega)) (JX (Qc b A t wt) (.n1 O) (by decide) .z (Jl Mm0 Jx) fun _ _ _ q9=>?_)
 obtain ⟨rfl,rfl,rfl⟩:=q9
 refine Lg O O O (decide_eq_false (by omega)) (Ke O O) (Lq (JA O (decide_eq_false (by omega)) O) (Je (Jf (Jz O (decide_eq_false (by omega)) (Jp (Jf (Jc (Ja (Lq (Jd O) (Je (Jf (Jc (Ja (Lq (Jb O) (Lq (JB O) (Lq (Jh (o':=0) Un128 O YX O O) ?_))))))))))))))))
 refine Lq (Jj Un126 O O Jm O) (Lq (Jd O) (Je (Jf (Jc (JO ?_)))))
 refine Ki (α:=Nat×Nat×Option Addr×Tr) (fun (c,s,D,z)=>z.size)
  (fun (c,s,D,z)=> [(0, .pointer (some ⟨b,0,none⟩)),(1, .int .i64 c),(6, .int .i64 s),(7, .pointer D)])
  (fun (c,s,D,z)=>(rpP b A::Ps))
  (fun (c,s,D,z)=>(TrF D z::TrF A t::As))
  (fun (c,s,D,z)=>z.row.length≤t.row.length∧GoS t.row z c0 c s)
  (c0,0,A,t) ?_ (.m4 rfl rfl rfl rfl) (Sk (Sr)) (Jl Mm0 (fun _ h=>h)) ?_
 ·exact ⟨Nat.le_refl _,wt,hp,Nat.zero_add _⟩
 ·rintro ⟨c,s,D,z⟩ ⟨hzl,hI⟩
  have hbd:=hI.bd
  have hps:=hI.le
  have hvz:=Kn z.row
  refine Jc (Jc ?_)
  by_cases hzz:z= .nil
  ·rw [hzz]
   refine VH Mm0 fun e=> ?_
   subst e
   refine Ja (Lq (Jb O) (Lq (QA Un126 O O (by simp)) (Je (Jf (Jz O O (Kr (JR (JR (Kg (Jf (Jc (Ja (Lq (Jb O) (Lq (Jd O) (Lq (Jd O) (Je (Jf (Jn ?_))))))))))))))))))
   refine ⟨_,[_],[],fun Z w hs=> .tmp O (.tmp O .nil),?_,fun Z w hs=>hs.out (Sk (Sr)) Tt1⟩
   subst hzz
   have h9:=hI.ct
   simp only [Tr.row,List.take_nil] at h9
   exact ⟨by rw [←h9];rfl,O,O⟩
  ·refine Vf Mm0 hzz fun _ e=> ?_
   subst e
   refine Ja (Lq (Jb O) (Lq (QA Un126 O O (by simp)) (Je (Jf (JQ O O (Jp (Jf (JO (Jc (Ja (Lq (Jb O) (Jg O (Jo (open_r _ z hI.wf hzz (by omega)) (.n1 O) (by decide) (Jl Mm0 Jx) fun _ _ _ q9=>?_)))))))))))))
   obtain ⟨B1,l1,s1,k1,C1,d1,D1,m1,rfl,rfl,rfl,wl1,wm1,n1,h1,r1,zl1,zm1⟩:=q9
   have e1:=congrArg List.length r1
   simp only [List.length_append,Ju] at e1
   have n1p:=List.length_pos_iff.2 n1
   have vl1:=Kn l1.row
   refine Lq (Jb O) (Lq (Jk (vs:= [_,_,_]) O O) (Lq (Jk (vs:= [_,_,_]) O O) (Lq (Jk (vs:= [_,_,_]) O O) (Jg O (Jv (cs:= [_,_]) J3 O (by decide) fun b9=>Lq (Jd O) (Jg O (Jq (cs':= [_,_]) (vs:= [_,_]) J3 O O O O O (Nat.le_of_ble_eq_true O) .z (Lq (Jd O) (Je (Jf (Jc (Ja (Lq (Jb O) ?_)))))))))))))
   refine Jg O (Jo (YD B1 l1) (.n1 O) (by decide) (Jl Mm0 Jx) fun _ _ _ q9=>?_)
   obtain ⟨rfl,rfl,rfl⟩:=q9
   refine Lq (Yn O (fd149_0Xg4 _ _ _ _ _ _)) (Lq (Jd O) (Je (Jf (Jc (Jc ?_)))))
   rw [wl1.tot]
   refine Ja (Lq (Jb O) (Lq (Jb O) (Lq (YK O O) (Je (Jf (Jy O (fun h37=> ?_) (fun h37=> ?_)))))))
   ·refine Jc (Ja (Lq (Jb O) (Lq (Jd O) (Je (Jf (Kr (JR (Kg (Ko ?_)))))))))
    refine ⟨(c,s,B1,l1),?_,(.m4 O O O O),(Sd (Sk (Sr))),(Jl Mm0 Tt4)⟩
    simp only [decide_eq_true_eq] at h37
    exact ⟨zl1,by show l1.row.length≤_;omega,hI.left wl1 r1 (by omega)⟩
   ·have h37n:l1.row.length<c:=by simp only [decide_eq_false_iff_not] at h37;omega
    refine Jp (Jf (Jc (Ja (Lq (Jb O) (Lq (Jb O) (Jg O (Jo (YD B1 l1) (.n1 O) (by decide) (Jl Mm0 Jx) fun _ _ _ q9=>?_)))))))
    obtain ⟨rfl,rfl,rfl⟩:=q9
    refine Jg O (Jo (XD (allF l1)) (.n1 O) (by decide) Jx fun _ _ _ q9=>?_)
    obtain ⟨rfl,rfl,rfl⟩:=q9
    rw [wl1.shown]
    refine Lq (JZ O O (by exact wr64 (by omega)) (c:=((s+J8 l1.row:Nat):Int))) (Lq (Jd O) (Je (Jf (Jc (Jc (Ja (Lq (Jh (o':=1) Un134 O ti3 O O) (Lq (Jj Un3 O O Jm O) (Lq (Ka O O) (Je (Jf (Jy O (fun h46=> ?_) (fun h46=> ?_)))))))))))))
    ·have hk0:k1=0:=by simpa using h46
     subst hk0
     refine Ja (Lq (Jb O) (Lq (Jb O) (Lq (Jb O) (Lq (KS O O (wr64 (by omega))) (Lq (Jh (o':=0) Un134 O Yb O O) (Lq (Jj Un132 O O Jm O) (Lq (J7 Un132 O) (Lq (XY O O) (Lq (JZ O O (wr64 (by omega))) ?_)))))))))
     refine Lq (Jd O) (Je (Jf (Jc (Jc (Ja (Lq (Jb O) (Lq (Jb O) (Lq (Jh (o':=0) Un134 O Yb O O) (Lq (Jj Un132 O O Jm O) (Lq (J7 Un132 O) (Lq (JZ O O (wr64 (by omega))) (Lq (YK O O) (Je (Jf ?_))))))))))))))
     refine Jy O (fun h62=> ?_) (fun h62=> ?_)
     ·have h62n:c≤l1.row.length+s1.length:=by simp only [decide_eq_true_eq] at h62;omega
      refine Kr (JR (GL O (JR (Kg (Jf (Jc (Ja (Lq (Jb O) (Lq (Jd O) (Lq (Jd O) (Je (Jf (Jn ?_)))))))))))))
      refine ⟨_,[_],[],fun Z w hs=> .tmp O (.tmp O .nil),?_,fun Z w hs=>hs.out (Sd (Sk (Sr))) Tt4⟩
      have h9:=hI.own r1 (by omega) (by omega)
      rw [if_pos rfl] at h9
      refine ⟨congrArg (fun x=>Value.tuple #[Value.int .i64 x,Value.int .i64 0]) ?_,O,O⟩
      rw [←h9];omega
     ·have h62n:l1.row.length+s1.length<c:=by simp only [decide_eq_false_iff_not] at h62;omega
      refine Jp (Jf (Jc (Ja (Lq (Jb O) (Lq (Jb O) (Lq (Jh (o':=0) Un134 O Yb O O) (Lq (Jj Un132 O O Jm O) (Lq (J7 Un132 O) (Lq (JZ O O (wr64 (by omega))) (Lq (KS O O (by rw [wr64 (by omega)];omega) (c:=((c-l1.row.length-s1.length:Nat):Int))) (Lq (Jd O) (Je (Jf (Ja ?_))))))))))))))
      refine Lq (Jb O) (Lq (Jd O) (Je (J9 (Ko ?_))))
      have hm:min ((c:Int)-(l1.row.length:Int)) (s1.length:Int)=s1.length:=by omega
      rw [hm]
      refine ⟨(c-l1.row.length-s1.length,s+J8 l1.row+s1.length,D1,m1),?_,(.m4 O O O O),(Sd (Sk (Sr))),(Jl Mm2 Tt4)⟩
      have hg:=hI.right wm1 r1 (by rw [Ju];omega)
      rw [Ju,Yc] at hg
      exact ⟨zm1,by show m1.row.length≤_;omega,hg⟩
    ·have hk0:k1≠0:=by simpa using h46
     refine Jp (Jf (Jc (Jc (Ja (Lq (Jb O) (Lq (Jb O) (Lq (Jh (o':=0) Un134 O Yb O O) (Lq (Jj Un132 O O Jm O) (Lq (J7 Un132 O) (Lq (JZ O O (wr64 (by omega))) (Lq (YK O O) (Je (Jf (Jy O (fun h62=> ?_) (fun h62=> ?_)))))))))))))))
     ·have h62n:c≤l1.row.length+s1.length:=by simp only [decide_eq_true_eq] at h62;omega
      refine Kr (JR (GL O (JR (Kg (Jf (Jc (Ja (Lq (Jb O) (Lq (Jd O) (Lq (Jd O) (Je (Jf (Jn ?_)))))))))))))
      refine ⟨_,[_],[],fun Z w hs=> .tmp O (.tmp O .nil),?_,fun Z w hs=>hs.out (Sd (Sk (Sr))) Tt4⟩
      have h9:=hI.own r1 (by omega) (by omega)
      rw [if_neg hk0] at h9
      refine ⟨congrArg (fun x=>Value.tuple #[Value.int .i64 x,Value.int .i64 0]) ?_,O,O⟩
      rw [←h9];omega
     ·have h62n:l1.row.length+s1.length<c:=by simp only [decide_eq_false_iff_not] at h62;omega
      refine Jp (Jf (Jc (Ja (Lq (Jb O) (Lq (Jb O) (Lq (Jh (o':=0) Un134 O Yb O O) (Lq (Jj Un132 O O Jm O) (Lq (J7 Un132 O) (Lq (JZ O O (wr64 (by omega))) (Lq (KS O O (by rw [wr64 (by omega)];omega) (c:=((c-l1.row.length-s1.length:Nat):Int))) (Lq (Jd O) (Je (Jf (Ja ?_))))))))))))))
      refine Lq (Jb O) (Lq (Jd O) (Je (J9 (Ko ?_))))
      refine ⟨(c-l1.row.length-s1.length,s+J8 l1.row,D1,m1),?_,(.m4 O O O O),(Sd (Sk (Sr))),(Jl Mm2 Tt4)⟩
      have hg:=hI.right wm1 r1 (by rw [Ju];omega)
      rw [Ju,Vo s1 hk0,Nat.add_zero] at hg
      exact ⟨zm1,by show m1.row.length≤_;omega,hg⟩
abbrev ocP (bO:Nat) (v:Value):Part:= [(bO,JD [v] 38)]
def VsP (bO:Nat) (ys:List Rg):Value→List Part→List Fact→Prop:=fun u Lo fs=>u= .tuple #[] ∧fs= [] ∧ ∃v' p',Row 143 2 v' ys.length (rgs ys) p'∧Lo= [ocP bO v',p']
theorem bd74_0_1Xg5 (x0_:Int) (x1_:Int) (w:World):(Instr.build 143 #[(0, .int .i64 x0_),(1, .int .i64 x1_)]).run Tryz.prog w= .ok (.agg #[.int .i64 x0_, .int .i64 x1_]) w:=by kernel_rfl
theorem vis1_1 (bO:Nat) (v:Value) (p:Part) (hr:Row 143 2 v 0 (rgs []) p) (x:Int) (hx:0≤x∧x≤1048576) (rs:List Int) (A:Option Addr) (c:Nat) (hl:rs.length≤1048576) (hn:0<rs.length):Sp Tryz.prog 81 [.int .i64 x, .slice A rs.length c, .pointer (some ⟨bO,0,none⟩)] [ocP bO v,p] [RdF runeD A c rs] (VsP bO (addF [] x (x+rs.length))):=by
 obtain ⟨A2,cap2,rfl⟩:=hr.slice
 refine Sp.of (n:=38) ⟨_,Tryz.func81,O,O,O,O⟩ (Nat.le_of_ble_eq_true O) fun Ps As=>Jc (Ja (Lq (Jj Un38 O O Jm O) (Lq (J7 Un38 O) (Lq (Jd O) (Je (Jf (Jc (Jc (Ja (Lq (Jb O) (Lq (Ke O O) (Lq (Jb O) (Ln O O O O ?_)))))))))))))
 refine Ln O O O O (Ln O O O O (Ln O O O O (Ln O O O O (Ln O O O O (Ln O O O O (Ln O O O O (Lq (JA O O O) (Je (Jf (Jz O O (Jp (Jf (Ja (Lq (Jj Un38 O O Jm O) ?_))))))))))))))
 refine Lq (Jb O) (Lq (Jb O) (Lq (Jb O) (Lq (J7 Un132 O) (Lq (JZ O O (wr64 (by omega))) (Lq (JV (.n2 O O) (bd74_0_1Xg5 _ _)) (Jg O (KP (cs:= [_,_]) Un38 KB (by decide) (by decide) O O O O (by decide) fun b36=>Jg O (KV (news:= [_,_]) Un38 KB O (by decide) O O hr Jm O O (by omega) (by unfold maxLen;omega) (by decide) (DelAt.perm .z2) fun v37 p37 hr37=> ?_))))))))
 obtain ⟨As37,cs37,es37⟩:=hr37.slice
 subst es37
 refine Jg O (JN Yd O O O .z .z2 (Je ?_))
 refine ⟨_,[_,_],[],fun Z w hs=> .nil,?_,fun Z w hs=>((hs.pick .z).pick .z2).out (Sk2 (Sd (Sr))) (fun _ h=>h)⟩
 exact ⟨O,O,_,p37,by rw [Gm (by omega),QV];exact hr37,O⟩
theorem vis1_2 (bO:Nat) (v:Value) (p:Part) (ys:List Rg) (r:Rg) (hr:Row 143 2 v (ys++ [r]).length (rgs (ys++ [r])) p) (hb:ys.length≤1000000) (x:Int) (hx:0≤x∧x≤1048576) (rs:List Int) (A:Option Addr) (c:Nat) (hl:rs.length≤1048576) (hn:0<rs.length) (hj:r.hi=x):Sp Tryz.prog 81 [.int .i64 x, .slice A rs.length c, .pointer (some ⟨bO,0,none⟩)] [ocP bO v,p] [RdF runeD A c rs] (VsP bO (addF (ys++ [r]) x (x+rs.length))):=by
 have hn:(ys++ [r]).length=ys.length+1:=by simp
 obtain ⟨hlen,⟨_,h0,_⟩ | ⟨b,cap,jk,rfl,rfl,h1,h2,h3⟩⟩:=hr
 ·omega
 have hcs:(rgs (ys++ [r])++jk).length=((ys++ [r]).length)*2+jk.length:=by rw [List.length_append,hlen]
 have hix:((((ys++ [r]).length:Nat):Int)-1).toNat=ys.length:=by omega
 refine Sp.of (n:=38) ⟨_,Tryz.func81,O,O,O,O⟩ (Nat.le_of_ble_eq_true O) fun Ps As=>Jc (Ja (Lq (Jj Un38 O O Jm O) (Lq (J7 Un38 O) (Lq (Jd O) (Je (Jf (Jc (Jc (Ja (Lq (Jb O) (Lq (Ke O O) (Lq (Jb O) (Lg O O O (by simp) (Jj Un38 O O Jm O) ?_)))))))))))))
 refine Lg O O O (by simp) (Jb O) (Lg O O O (by simp) (KS O O (wr64 (by omega))) (Lg O O O (by simp) (Yv Un38 KB O O (by omega) (by omega)) (Lg O O O (by simp) (Jh (o':=_+1) Un143 O ti3 O O) (Lg O O O (by simp) (Jj Un3 O O (Ji (Jm)) (by rw [hix];exact rgs_last ys r jk)) (Lg O O O (by simp) (Jb O) (Lg O O O (by simp) (Ka O O) (Lq (JH O (by simp) O) (Je (Jf (JQ O (by simpa using hj) ?_))))))))))
 refine Jc (Ja (Lq (Jj Un38 O O Jm O) (Lq (Jb O) (Lq (KS O O (wr64 (by omega))) (Lq (Jb O) (Lq (Jb O) (Lq (J7 Un132 O) (Lq (JZ O O (wr64 (by omega))) (Lq (Yv Un38 KB O O (by omega) (by omega)) (Lq (Jh (o':=_+1) Un143 O ti3 O O) ?_))))))))))
 refine Jg O (K8 ti3 O O O (by rw [hcs,hix];omega) .z1 (Je (Jf (Jn (Jr ?_)))))
 refine ⟨_,[_,_],[],fun Z w hs=> .nil,?_,fun Z w hs=>hs.out (Sk2 (Sr)) (fun _ h=>h)⟩
 have e:max r.hi (x+rs.length)=x+rs.length:=by omega
 refine ⟨O,O,_,_,?_,O⟩
 rw [Xe (by omega) (by omega),hix,Hj,e,show (ys++ [r]).length=(ys++ [(⟨r.lo,x+rs.length⟩:Rg)]).length from by simp]
 refine ⟨Yy _, .inr ⟨b,cap,jk,O,O,?_,by simpa using h2,h3⟩⟩
 rw [List.length_append,Yy] at h1 ⊢
 simpa using h1
theorem vis1_3 (bO:Nat) (v:Value) (p:Part) (ys:List Rg) (r:Rg) (hr:Row 143 2 v (ys++ [r]).length (rgs (ys++ [r])) p) (hb:ys.length≤1000000) (x:Int) (hx:0≤x∧x≤1048576) (rs:List Int) (A:Option Addr) (c:Nat) (hl:rs.length≤1048576) (hn:0<rs.length) (hj:r.hi<x):Sp Tryz.prog 81 [.int .i64 x, .slice A rs.length c, .pointer (some ⟨bO,0,none⟩)] [ocP bO v,p] [RdF runeD A c rs] (VsP bO (addF (ys++ [r]) x (x+rs.length))):=by
 have hr0:=hr
 have hn:(ys++ [r]).length=ys.length+1:=by simp
 obtain ⟨hlen,⟨_,h0,_⟩ | ⟨b,cap,jk,rfl,rfl,h1,h2,h3⟩⟩:=hr
 ·omega
 have hcs:(rgs (ys++ [r])++jk).length=((ys++ [r]).length)*2+jk.length:=by rw [List.length_append,hlen]
 have hix:((((ys++ [r]).length:Nat):Int)-1).toNat=ys.length:=by omega
 refine Sp.of (n:=38) ⟨_,Tryz.func81,O,O,O,O⟩ (Nat.le_of_ble_eq_true O) fun Ps As=>Jc (Ja (Lq (Jj Un38 O O Jm O) (Lq (J7 Un38 O) (Lq (Jd O) (Je (Jf (Jc (Jc (Ja (Lq (Jb O) (Lq (Ke O O) (Lq (Jb O) (Lg O O O (by simp) (Jj Un38 O O Jm O) ?_)))))))))))))
 refine Lg O O O (by simp) (Jb O) (Lg O O O (by simp) (KS O O (wr64 (by omega))) (Lg O O O (by simp) (Yv Un38 KB O O (by omega) (by omega)) (Lg O O O (by simp) (Jh (o':=_+1) Un143 O ti3 O O) (Lg O O O (by simp) (Jj Un3 O O (Ji (Jm)) (by rw [hix];exact rgs_last ys r jk)) (Lg O O O (by simp) (Jb O) (Lg O O O (by simp) (Ka O O) (Lq (JH O (by simp) O) (Je (Jf (Jz O (by simp;omega) ?_))))))))))
 refine Jp (Jf (Ja (Lq (Jj Un38 O O Jm O) (Lq (Jb O) (Lq (Jb O) (Lq (Jb O) (Lq (J7 Un132 O) (Lq (JZ O O (wr64 (by omega))) (Lq (JV (.n2 O O) (bd74_0_1Xg5 _ _)) (Jg O (KP (cs:= [_,_]) Un38 KB (by decide) (by decide) O O O O (by decide) fun b36=>Jg O (KV (news:= [_,_]) Un38 KB O (by decide) O O hr0 Jm O O (by omega) (by unfold maxLen;omega) (by decide) (DelAt.perm .z2) fun v37 p37 hr37=> ?_))))))))))))
 obtain ⟨As37,cs37,es37⟩:=hr37.slice
 subst es37
 refine Jg O (JN Yd O O O .z .z2 (Je ?_))
 refine ⟨_,[_,_],[],fun Z w hs=> .nil,?_,fun Z w hs=>((hs.pick .z).pick .z2).out (Sk2 (Sd (Sr))) (fun _ h=>h)⟩
 exact ⟨rfl,rfl,_,p37,by rw [Xd (by omega) (by omega),Qp (ys++ [r]),QV,show (ys++ [r] ++ [(⟨x,x+rs.length⟩:Rg)]).length=(ys++ [r]).length+1 from List.length_append];exact hr37,rfl⟩
theorem Jas (bO:Nat) (v:Value) (p:Part) (xs:List Rg) (hr:Row 143 2 v xs.length (rgs xs) p) (hb:xs.length≤1000000) (x:Int) (hx:0≤x∧x≤1048576) (rs:List Int) (A:Option Addr) (c:Nat) (hl:rs.length≤1048576) (hn:0<rs.length) (hj: ∀r,xs.getLast? =some r→r.hi≤x):Sp Tryz.prog 81 [.int .i64 x, .slice A rs.length c, .pointer (some ⟨bO,0,none⟩)] [ocP bO v,p] [RdF runeD A c rs] (VsP bO (addF xs x (x+rs.length))):=by
 rcases List.eq_nil_or_concat xs with rfl | ⟨ys,r,rfl⟩
 ·exact vis1_1 bO v p hr x hx rs A c hl hn
 ·rw [List.concat_eq_append] at *
  have hb':ys.length≤1000000:=by simp at hb;omega
  have h1:=hj r (by simp)
  rcases Int.lt_or_eq_of_le h1 with h | h
  ·exact vis1_3 bO v p ys r hr hb' x hx rs A c hl hn h
  ·exact vis1_2 bO v p ys r hr hb' x hx rs A c hl hn h
def visPf (a:Int):List Ce→List Int
 | [] => []
 | c::X=>if c.2=0 then a::visPf (a+1) X else visPf (a+1) X
def visP (X:List Ce):List Int:=visPf 0 X
theorem Qi: ∀(a:Int) (X Y:List Ce),visPf a (X++Y)=visPf a X++visPf (a+X.length) Y
 | a,[],Y=>by simp [visPf]
 | a,c::X,Y=>by
  have ih:=Qi (a+1) X Y
  simp only [List.cons_append,visPf,List.length_cons,ih]
  have e:a+1+(X.length:Int)=a+((X.length+1:Nat):Int):=by omega
  rw [e];split<;>rfl
theorem VV: ∀(a:Int) (X:List Ce),(visPf a X).length=J8 X
 | a,[] =>rfl
 | a,c::X=>by
  have ih:=VV (a+1) X
  have e:J8 (c::X)=J8 X+(if c.2=0 then 1 else 0):=by unfold J8;rw [List.countP_cons];simp
  simp only [visPf,e]
  split<;>simp [ih]
theorem YQ (X:List Ce):(visP X).length=J8 X:=VV 0 X
def runI (a:Int) (n:Nat):List Int:=(List.range n).map fun (j:Nat)=>a+j
theorem runI_succ (a:Int) (n:Nat):runI a (n+1)=a::runI (a+1) n:=by
 unfold runI
 rw [List.range_succ_eq_map,List.map_cons,List.map_map]
 congr 1
 ·omega
 ·apply List.map_congr_left;intro j _;simp only [Function.comp_apply,Nat.succ_eq_add_one];omega
theorem Es (a:Int) (n:Nat):(runI a n).length=n:=by unfold runI;simp
theorem runI_drop (a:Int): ∀(n j:Nat),j≤n→(runI a n).drop j=runI (a+j) (n-j)
 | n,0,_=>by simp
 | 0,j+1,h=>by omega
 | n+1,j+1,h=>by
  rw [runI_succ,List.drop_succ_cons,runI_drop (a+1) n j (by omega),show n+1-(j+1)=n-j from by omega]
  congr 1;omega
theorem runI_take (a:Int): ∀(n m:Nat),(runI a n).take m=runI a (min n m)
 | n,0=>by simp [runI]
 | 0,m+1=>by simp [runI]
 | n+1,m+1=>by rw [runI_succ,List.take_succ_cons,runI_take _ n m,show min (n+1) (m+1)=min n m+1 by omega,runI_succ]
theorem visPf_cells (a:Int): ∀(rs:List Int),visPf a (cellsOf rs 0)=runI a rs.length
 | [] =>rfl
 | r::rs=>by
  have ih:=visPf_cells (a+1) rs
  rw [List.length_cons,runI_succ,←ih]
  rfl
theorem visPf_hid: ∀(a:Int) {X:List Ce},(∀c∈X,c.2≠0)→visPf a X= []
 | a,[],_=>rfl
 | a,c::X,h=>by
  simp only [visPf,if_neg (h c List.mem_cons_self)]
  exact visPf_hid (a+1) fun d hd=>h d (List.mem_cons_of_mem _ hd)
theorem visP_vis (X:List Ce) (rs:List Int):visP (X++cellsOf rs 0)=visP X++runI X.length rs.length:=by unfold visP;rw [Qi,visPf_cells,Int.zero_add]
theorem visP_hid (X:List Ce) {Y:List Ce} (h: ∀c∈Y,c.2≠0):visP (X++Y)=visP X:=by unfold visP;rw [Qi,visPf_hid _ h,List.append_nil]
theorem visP_prefix {X R:List Ce} (h:X<+:R):visP X<+:visP R:=by obtain ⟨Y,rfl⟩:=h;unfold visP;rw [Qi];exact List.prefix_append _ _
theorem Vt (lo:Int) (n:Nat):KA [⟨lo,lo+n⟩] =runI lo n:=by
 rw [Vu]
 have:(lo+(n:Int)-lo).toNat=n:=by omega
 unfold runI
 simp [KA,this]
structure VisR (lo n:Nat) (X:List Ce) (xs:List Rg):Prop where
 pls:Pls X.length xs
 pl:KA xs=((visP X).drop lo).take n
theorem VisR.nil (lo n:Nat):VisR lo n [] [] :=⟨⟨trivial,fun r h=>by cases h⟩,by simp [visP,visPf,KA]⟩
theorem Pls.wide {T T':Int} {xs:List Rg} (h:Pls T xs) (hT:T≤T'):Pls T' xs:=⟨h.norm,fun r hr=>by have:=h.below r hr;omega⟩
theorem VisR.hid {lo n:Nat} {X Y:List Ce} {xs:List Rg} (h:VisR lo n X xs) (hY: ∀c∈Y,c.2≠0):VisR lo n (X++Y) xs:=
 ⟨h.pls.wide (by rw [List.length_append];omega),by rw [visP_hid X hY];exact h.pl⟩
theorem VisR.skip {lo n F:Nat} {R X Y:List Ce} {xs:List Rg} (h:VisR lo n X xs) (hF:Pth R lo F) (hp:X++Y<+:R) (hl:(X++Y).length≤F):VisR lo n (X++Y) xs:=by
 have h1:J8 (X++Y)≤lo:=by
  have h2:X++Y<+:R.take F:=by
   obtain ⟨Z,rfl⟩:=hp
   rw [List.take_append,List.take_of_length_le hl];exact List.prefix_append _ _
  have:=XL h2
  rw [hF.ct] at this;exact this
 have h2:=h1
 rw [Km] at h2
 refine ⟨h.pls.wide (by rw [List.length_append];omega),?_⟩
 rw [h.pl,List.drop_of_length_le (by rw [YQ];omega),List.drop_of_length_le (by rw [YQ];omega)]
theorem VisR.left {lo n:Nat} {X:List Ce} {xs:List Rg} (h:VisR lo n X xs):(KA xs).length=min n (J8 X-lo):=by rw [h.pl,List.length_take,List.length_drop,YQ]
theorem last_below {T:Int} {xs:List Rg} (h:Pls T xs): ∀r,xs.getLast? =some r→r.hi≤T:=fun r hr=>h.below r (List.mem_of_getLast? hr)
theorem last_lo {T:Int} {xs:List Rg} (h:Pls T xs):LastLe xs T:=fun r hr=>by
 have hm:=List.mem_of_getLast? hr
 have h1:=h.below r hm
 have key: ∀ {b:Int} {xs:List Rg},NormB b xs→ ∀r∈xs,r.lo<r.hi:=by
  intro b xs
  induction xs generalizing b with
  | nil=>intro _ r hr;cases hr
  | cons a l ih=>
   intro hn r hr
   rcases List.mem_cons.1 hr with rfl | hr
   ·exact hn.2.1
   ·exact ih hn.2.2 r hr
 have:=key h.norm r hm
 omega
theorem X2 {T:Int} {xs:List Rg} (h:Pls T xs) {a:Int} (ha:T≤a) (h0:0≤a) (m:Nat):KA (addF xs a (a+m))=KA xs++runI a m∧Pls (a+m) (addF xs a (a+m)):=by
 have hL:=last_lo h
 obtain ⟨a1,a2,a3,a4,a5⟩:=Eh (b:=0) (lo:=a) (hi:=a+m) h.norm h0 (fun _ r hr=>by have:=hL r hr;omega)
 have hpl:Pls (a+m) (addF xs a (a+m)):=⟨a1,a3 _ (fun r hr=>by have:=h.below r hr;omega) (fun _=>Int.le_refl _)⟩
 refine ⟨VR (Qb a1) ?_ fun q=> ?_,hpl⟩
 ·rw [List.pairwise_append]
  refine ⟨Qb h.norm,?_,?_⟩
  ·rw [←Vt]
   rcases Nat.eq_zero_or_pos m with rfl | hm
   ·simp [KA,show (a+(0:Int)-a).toNat=0 from by omega]
   ·exact Qb (b:=a) ⟨Int.le_refl _,by show a<a+(m:Int);omega,trivial⟩
  ·intro x hx y hy
   obtain ⟨r,hr,h1,h2⟩:=mem_places.1 hx
   have:=h.below r hr
   rw [←Vt] at hy
   obtain ⟨s,hs,h3,h4⟩:=mem_places.1 hy
   have hs:=List.mem_singleton.1 hs
   subst hs
   simp only at h3
   omega
 ·rw [mem_places,a2,List.mem_append,mem_places,←Vt,mem_places]
  constructor
  ·rintro (h | h)
   ·exact .inl h
   ·exact .inr ⟨_,List.mem_singleton.2 O,h⟩
  ·rintro (h | ⟨s,hs,h⟩)
   ·exact .inl h
   ·have hs:=List.mem_singleton.1 hs
    subst hs;exact .inr h
theorem VisR.vis {lo n F:Nat} {R X:List Ce} {rs:List Int} {xs:List Rg} (h:VisR lo n X xs) (hF:Pth R lo F) (hp:X++cellsOf rs 0<+:R) (hlo:F<X.length+rs.length) (hleft:(KA xs).length<n) {j m:Nat} (hj:j=F-X.length) (hm:m=min (n-(KA xs).length) (rs.length-j)):
  VisR lo n (X++cellsOf rs 0) (addF xs ((X.length+j:Nat):Int) (((X.length+j:Nat):Int)+m)):=by
 have hl:=h.left
 have hct:=hF.ct
 have hlj:lo-J8 X=j:=by
  by_cases hx:F≤X.length
  ·have h1:R.take F<+:X:=by
    obtain ⟨Y,rfl⟩:=hp
    rw [List.append_assoc,List.take_append_of_le_length hx];exact List.take_prefix _ _
   have:=XL h1
   omega
  ·obtain ⟨Y,rfl⟩:=hp
   have e:(X++cellsOf rs 0++Y).take F=X++cellsOf (rs.take (F-X.length)) 0:=by
    rw [List.append_assoc,List.take_append,List.take_of_length_le (by omega),List.take_append_of_le_length (by rw [Ju];omega)]
    congr 1;unfold cellsOf;rw [List.map_take]
   rw [e,Km,Yc,List.length_take] at hct
   omega
 have hold:((visP X).drop lo).take n=(visP X).drop lo:=by
  apply List.take_of_length_le
  rw [List.length_drop,YQ];omega
 obtain ⟨p1,p2⟩:=X2 h.pls (a:=((X.length+j:Nat):Int)) (by omega) (by omega) m
 refine ⟨p2.wide (by rw [List.length_append,Ju];omega),?_⟩
 rw [p1,visP_vis,List.drop_append,YQ,hlj,runI_drop _ _ _ (by omega),List.take_append,hold,h.pl,hold,runI_take,List.length_drop,YQ]
 congr 1
 have e1:n-(J8 X-lo)=n-(KA xs).length:=by omega
 rw [e1,hm,Nat.min_comm]
 congr 1
def clV (bO:Nat):Value:= .func (.func 81) #[] #[.pointer (some ⟨bO,0,none⟩)]
abbrev sePv (bS bO:Nat):Part:= [(bS,JD [clV bO] 144)]
def vsL (bF bL bS bO:Nat) (F:Nat) (left:Int) (v:Value) (p:Part):List Part:= [hcP bF F,hcP bL left,sePv bS bO,ocP bO v,p]
def VsI (bF bL bS bO F lo n:Nat) (X:List Ce) (q:Part):Prop:= ∃xs v p,VisR lo n X xs∧(KA xs).length<n∧Row 143 2 v xs.length (rgs xs) p∧q=(vsL bF bL bS bO F ((n:Int)-(KA xs).length) v p).flatten
def VsJ (bF bL bS bO F lo n:Nat) (R:List Ce) (q:Part):Prop:= ∃xs v p left,VisR lo n R xs∧Row 143 2 v xs.length (rgs xs) p∧q=(vsL bF bL bS bO F left v p).flatten
theorem btwv_h (bF bL bS bO F:Nat) (left:Int) (v:Value) (p:Part) (x:Int) (rs:List Int) (hid:Int) (A:Option Addr) (c:Nat) (hh:0<hid):Sp Tryz.prog 108 [.int .i64 x,pcV rs hid A c, .pointer (some ⟨bF,0,none⟩), .pointer (some ⟨bL,0,none⟩), .pointer (some ⟨bS,0,none⟩)] (vsL bF bL bS bO F left v p) [RdF runeD A c rs] (fun u Lo fs=>u= .bool true∧fs= [] ∧Lo=vsL bF bL bS bO F left v p):=by
 refine Sp.of (n:=39) ⟨_,Tryz.func108,O,O,O,O⟩ (Nat.le_of_ble_eq_true O) fun Ps As=>Jc (Ja (Jg O (J1 (cs:= [_,_]) O O (by decide) fun b6=>Lq (Jd O) (Je (Jf (Jc (Jc (Ja (Lq (Jh (o':=1) Un134 O ti3 O O) (Lq (Jj Un3 O O Jm O) (Lq (Ke O O) (Je (Jf (JQ O (by simpa using hh) ?_))))))))))))))
 refine Jc (Ja (Lq (Jd O) (Je (Jf (Jn (Jr ?_))))))
 refine ⟨_,[_,_,_,_,_],[],fun Z w hs=> .tmp O .nil,?_,fun Z w hs=>hs.out (Sd (Sk5 (Sr))) (fun _ h=>h)⟩
 exact ⟨O,O,O⟩
theorem btwv_v (bF bL bS bO F:Nat) (left:Nat) (v:Value) (p:Part) (xs:List Rg) (hr:Row 143 2 v xs.length (rgs xs) p) (hb:xs.length≤1000000) (x:Nat) (rs:List Int) (A:Option Addr) (c:Nat) (hn0:0<rs.length) (hF:F<x+rs.length) (hx:x+rs.length≤1048576) (hl:0<left∧left≤1048576) (hj: ∀r,xs.getLast? =some r→r.hi≤x):Sp Tryz.prog 108 [.int .i64 x,pcV rs 0 A c, .pointer (some ⟨bF,0,none⟩), .pointer (some ⟨bL,0,none⟩), .pointer (some ⟨bS,0,none⟩)] (vsL bF bL bS bO F left v p) [RdF runeD A c rs] (fun u Lo fs=> ∃j m:Nat,j=F-x∧m=min left (rs.length-j)∧u= .bool (decide ((left:Int)-m>0))∧fs= [] ∧ ∃v2 p2,Row 143 2 v2 (addF xs ((x+j:Nat):Int) (((x+j:Nat):Int)+m)).length (rgs (addF xs ((x+j:Nat):Int) (((x+j:Nat):Int)+m))) p2∧Lo=vsL bF bL bS bO F ((left:Int)-m) v2 p2):=by
 refine Sp.of (n:=39) ⟨_,Tryz.func108,O,O,O,O⟩ (Nat.le_of_ble_eq_true O) fun Ps As=>Jc (Ja (Jg O (J1 (cs:= [_,_]) O O (by decide) fun b6=>Lq (Jd O) (Je (Jf (Jc (Jc (Ja (Lq (Jh (o':=1) Un134 O ti3 O O) (Lq (Jj Un3 O O Jm O) (Lq (Ke O O) (Je (Jf (Jz O O (Jp (Jf (Jc (Ja (Lq (Jj Un3 O O (Ji (Jm)) O) ?_)))))))))))))))))))
 refine Lq (Jb O) (Lq (KS O O (wr64 (by omega))) (Lq (VM O O) (Lq (Jd O) (Je (Jf (Jc (Gt Mm0 fun hcap=>V3 (F-x) Mm0 (by omega) ?_)))))))
 have hm0:max (0:Int) ((F:Int)-x)=((F-x:Nat):Int):=by omega
 refine Ja (Lq (Jh (o':=0) Un134 O Yb O O) (Lq (Jj Un132 O O Jm O) (Lq (Jb O) (Lq (Vr (j:=F-x) (m:=(rs.drop (F-x)).length) (by omega) (by rw [List.length_drop]) Un132 VX O O (by omega) (by omega)) (Lq (Jd O) (Je (Jf (Jc (V4 (min left (rs.length-(F-x))) Mm0 (by rw [List.length_drop];omega) ?_)))))))))
 have hll:((rs.drop (F-x)).take (min left (rs.length-(F-x)))).length=min left (rs.length-(F-x)):=by rw [List.length_take,List.length_drop];omega
 refine Ja (Lq (Jb O) (Lq (Jj Un3 O O (Ji (Ji (Jm))) O) (Lq (Jb O) (Lq (J7 Un132 O) (Lq (XY O O) (Lq (Vs (m:=((rs.drop (F-x)).take (min left (rs.length-(F-x)))).length) (by rw [hll];simp only [List.length_drop];omega) Un132 VX O O (by simp only [List.length_drop];omega) (by simp only [List.length_drop];omega)) (Lq (Jd O) (Je (Jf (Jc (Jt .z5 ?_)))))))))))
 refine Jt .z5 (Ja (Lq (Jj Un144 O O (Ji (Ji (Ji (Ji (Ji (Jm)))))) O) (Lq (Jb O) (Lq (Jb O) (Lq (JZ O O (wr64 (by omega))) (Lq (Jb O) ?_))))))
 have hl1:((rs.drop (F-x)).take (min left (rs.length-(F-x)))).length≤1048576:=by omega
 have hl2:0<((rs.drop (F-x)).take (min left (rs.length-(F-x)))).length:=by omega
 have hl3:0≤(x:Int)+max 0 ((F:Int)-x)∧(x:Int)+max 0 ((F:Int)-x)≤1048576:=by omega
 have hl4: ∀r,xs.getLast? =some r→r.hi≤(x:Int)+max 0 ((F:Int)-x):=fun r h=>by have:=hj r h;omega
 refine Jg O (Qv (caps:= [_]) O (Jas bO v p xs hr hb _ hl3 ((rs.drop (F-x)).take (min left (rs.length-(F-x)))) _ _ hl1 hl2 hl4) (.n2 O O) (by decide) (List.Perm.refl _) (Jl Mm0 Jx) fun u6 Lo fs hres=> ?_)
 obtain ⟨rfl,rfl,v2,p2,hr2,rfl⟩:=hres
 refine Je (Jf (Jc (Ja (Lq (Jj Un3 O O (Ji (Ji (Ji (Ji (Jm))))) O) (Lq (Jb O) (Lq (J7 Un132 O) (Lq (KS O O (wr64 (by omega))) (Jg O (JN ti3 O O O .z .z4 (Je (Jf (Jc (Ja (Lq (Jj Un3 O O (Ji (Ji (Ji (Ji (Jm))))) O) (Lq (Ke O O) (Lq (Jd O) ?_))))))))))))))))
 refine Je (Jf (Jn ?_))
 refine ⟨_,[_,_,_,_,_],[],fun Z w hs=> .tmp O .nil,?_,fun Z w hs=>(((((hs.pick .z1).pick .z1).pick .z5).pick .z5).pick .z5).out (Sk5 (Sd (Sr))) Tt2⟩
 have ex:(x:Int)+max 0 ((F:Int)-x)=((x+(F-x):Nat):Int):=by omega
 rw [hll,ex] at hr2
 refine ⟨F-x,_,O,O,by rw [hll];rfl,O,v2,p2,hr2,by rw [hll];rfl⟩
theorem vsCb (bF bL bS bO F lo n:Nat) (R:List Ce) (hF:Pth R lo F) (hR:R.length≤1048576) (hn:n≤1048576):CbF 108 [.pointer (some ⟨bF,0,none⟩), .pointer (some ⟨bL,0,none⟩), .pointer (some ⟨bS,0,none⟩)] (VsI bF bL bS bO F lo n) (VsJ bF bL bS bO F lo n R) R F:=by
 rintro X q rs hid A c ⟨xs,v,p,hV,hlt,hr,rfl⟩ hne hh hp hlo
 have hpl:=hp.length_le
 rw [List.length_append,Ju] at hpl
 rcases Int.lt_or_eq_of_le hh with h | h
 ·refine (btwv_h bF bL bS bO F ((n:Int)-(KA xs).length) v p X.length rs hid A c h).flat.mono ?_
  rintro u Lo fs ⟨Lo',⟨rfl,rfl,rfl⟩,rfl⟩
  exact ⟨O,_,O, .inl ⟨O,xs,v,p,hV.hid (cells_hid rs (by omega)),hlt,hr,O⟩⟩
 ·subst h
  have hxl:=hV.pls.len (by omega)
  have hs:=btwv_v bF bL bS bO F (n-(KA xs).length) v p xs hr (by omega) X.length rs A c (List.length_pos_iff.2 hne) hlo (by omega) (by omega) (last_below hV.pls)
  rw [show ((n-(KA xs).length:Nat):Int)=(n:Int)-(KA xs).length by omega] at hs
  refine hs.flat.mono ?_
  rintro u Lo fs ⟨Lo',⟨j,m,hj,hm,rfl,rfl,v2,p2,hr2,rfl⟩,rfl⟩
  have hV2:=hV.vis hF hp hlo hlt hj hm
  have hpa:=(X2 hV.pls (a:=((X.length+j:Nat):Int)) (by omega) (by omega) m).1
  have hla:=congrArg List.length hpa
  rw [List.length_append,Es] at hla
  refine ⟨O,_,O,?_⟩
  by_cases hc:(n:Int)-(KA xs).length-m>0
  ·refine .inl ⟨by rw [decide_eq_true hc],_,v2,p2,hV2,by omega,hr2,?_⟩
   rw [hla,show (n:Int)-(((KA xs).length+m:Nat):Int)=(n:Int)-(KA xs).length-m by omega]
  ·refine .inr ⟨by rw [decide_eq_false hc],_,v2,p2,_,?_,hr2,O⟩
   obtain ⟨Y,hY⟩:=visP_prefix hp
   obtain ⟨Z,hZ⟩:=hp
   have hfull:n≤((visP (X++cellsOf rs 0)).drop lo).length:=by
    have h5:=congrArg List.length hV2.pl
    rw [hla,List.length_take] at h5
    omega
   refine ⟨hV2.pls.wide (by rw [←hZ];simp only [List.length_append];omega),?_⟩
   have hlo2:lo≤(visP (X++cellsOf rs 0)).length:=by
    rw [List.length_drop] at hfull
    have:=Nat.pos_of_ne_zero (show n≠0 by omega)
    omega
   rw [hV2.pl,←hY,List.drop_append_of_le_length hlo2,List.take_append_of_le_length hfull]
theorem ZN (bF bL bS bO F lo n:Nat) (hn:0<n):VsI bF bL bS bO F lo n [] (vsL bF bL bS bO F n (.slice none 0 0) []).flatten:=
 ⟨[],_,[],VisR.nil lo n,by simpa [KA] using hn,Row.nil _ _,by simp [KA]⟩
theorem vsSkip (bF bL bS bO F lo n:Nat) (R:List Ce) (hF:Pth R lo F): ∀X Y q,VsI bF bL bS bO F lo n X q→X++Y<+:R→(X++Y).length≤F→VsI bF bL bS bO F lo n (X++Y) q:=by
 rintro X Y q ⟨xs,v,p,hV,hlt,hr,rfl⟩ hp hl
 exact ⟨xs,v,p,hV.skip hF hp hl,hlt,hr,O⟩
theorem betweenV_0 (b bO lo:Nat):Sp Tryz.prog 80 [.pointer (some ⟨b,0,none⟩), .int .i64 lo, .int .i64 lo,clV bO] [] [] (Is (.tuple #[])):=by
 refine Sp.of (n:=30) ⟨_,Tryz.func80,O,O,O,O⟩ (Nat.le_of_ble_eq_true O) fun Ps As=>Jc (Ja (Jg O (J1 (cs:= [_]) O O (by decide) fun b7=>Je (Jf (Jc (Jc (Ja (Lq (Jb O) (Lq (Jb O) (Lq (Ka O O) (Je (Jf (JQ O (by simp) (Jn (Jr ?_)))))))))))))))
 refine ⟨_,[],[],fun Z w hs=> .nil,?_,fun Z w hs=>hs.out (Sd (Sr)) (fun _ h=>h)⟩
 exact ⟨O,O,O⟩
theorem betweenV_1 (b:Nat) (A:Option Addr) (t:Tr) (wt:Wf t) (hb:t.row.length≤1048576) (lo n:Nat) (hn:0<n) (hln:lo+n≤J8 t.row) (bO:Nat):Sp Tryz.prog 80 [.pointer (some ⟨b,0,none⟩), .int .i64 lo, .int .i64 (lo+n:Nat),clV bO] [rpP b A,ocP bO (.slice none 0 0),[]] [TrF A t] (fun u Lo fs=>u= .tuple #[] ∧fs= [] ∧ ∃q bF bL bS F left xs v p,VisR lo n t.row xs∧Row 143 2 v xs.length (rgs xs) p∧q=(vsL bF bL bS bO F left v p).flatten∧Lo= [rpP b A,q]):=by
 have hvle:=Kn t.row
 refine Sp.of (n:=30) ⟨_,Tryz.func80,O,O,O,O⟩ (Nat.le_of_ble_eq_true O) fun Ps As=>Jc (Ja (Jg O (J1 (cs:= [_]) O O (by decide) fun b7=>Je (Jf (Jc (Jc (Ja (Lq (Jb O) (Lq (Jb O) (Lq (Ka O O) (Je (Jf (Jz O (by simp;omega) (Jp (Jf (Jc (Ja ?_)))))))))))))))))
 refine Lq (Jb O) (Lq (Jb O) (Jg O (JX (totalOf_g b A t wt hb lo (by omega)) (.n2 O O) (by decide) .z1 (Jl Mm0 Jx) fun _ _ _ q9=>?_)))
 obtain ⟨F,hF,rfl,rfl,rfl⟩:=q9
 have hFle:=hF.le
 have hvl:=Kn t.row
 refine Lq (Jb O) (Lq (Jk (vs:= [_,_]) O O) (Lq (Jk (vs:= [_,_]) O O) (Jg O (Jv (cs:= [_]) ti3 O (by decide) fun b8=>Jg O (JN ti3 O O O .z .z (Lq (Jd O) (Je (Jf (Jc (Ja (Lq (Jb O) (Lq (Jb O) (Lq (KS O O (by rw [wr64 (by omega)];omega) (c:=(n:Int))) ?_)))))))))))))
 refine Jg O (Jv (cs:= [_]) ti3 O (by decide) fun b10=>Jg O (JN ti3 O O O .z .z (Je (Jf (Jt .z5 (Jt .z5 (Jt .z5 (Jt .z3 (Jt .z4 (JI _ _ [] (.c 0 0 (.c 1 0 (.c 2 0 (.c 3 0 (.c 5 0 (.c 4 2 (.c 6 2 .nil))))))) mixed (fun _ _ _ _ h=>h) (Sd5 (Sk (Sr))) (fun _ h=>h) (by kernel_rfl) (by decide) fun ws Z0=>Qe O (Jb O) ?_))))))))))
 refine Qe O (JB O) (Qe O (Jh (o':=0) Un128 O YX O O) (Qe O (Jj Un126 O O Jm O) (Qe O (QX (.n3 O O O)) (Js O O (Vz (Jj Un3 O O Jm O) (by decide) ?_)))))
 refine ⟨⟨(Sd5 (Sk (Sr))),Mm0⟩,?_⟩
 refine Js O O (Y2 (walk_f 108 _ _ _ t.row F hb hFle (vsCb b8 b10 b7 bO F lo n t.row hF hb (by omega)) (vsSkip b8 b10 b7 bO F lo n t.row hF) t.size A t [] _ wt (Nat.le_refl _) (List.prefix_refl _) (ZN b8 b10 b7 bO F lo n hn)) (.n4 O O O O) (by decide) (List.Perm.refl _) (Jl Mm1 Jx) fun u4 Lo fs hres=> ?_)
 obtain ⟨rfl,q1,rfl,hv⟩:=hres
 refine ⟨⟨(Sd2 (Sk (Sr))),Mm0⟩,?_⟩
 refine JJ (JK ?_)
 refine ⟨_,[_,_],[],fun Z w hs=> .nil,?_,fun Z w hs=>((hs.pick .z).pick .z2).out (Sk2 (Sd (Sr))) Tt1⟩
 refine ⟨O,O,?_⟩
 rcases hv with ⟨_,xs,v,p,hV,_,hr,rfl⟩ | ⟨_,xs,v,p,left,hV,hr,rfl⟩
 ·exact ⟨_,b8,b10,b7,F,_,xs,v,p,hV,hr,O,O⟩
 ·exact ⟨_,b8,b10,b7,F,left,xs,v,p,hV,hr,O,O⟩
theorem visible_1 (b:Nat) (A:Option Addr) (t:Tr) (wt:Wf t) (hb:t.row.length≤60000) (lo n:Nat) (hn:0<n) (hln:lo+n≤J8 t.row):Sp Tryz.prog 48 [.pointer (some ⟨b,0,none⟩), .int .i64 lo, .int .i64 (lo+n:Nat)] [rpP b A] [TrF A t] (fun u Lo fs=> ∃(A2:Option Addr) (c:Nat) (xs:List Rg),VisR lo n t.row xs∧u= .tuple #[.slice A2 xs.length c, .int .i64 0] ∧Lo= [rpP b A] ∧fs= [RdF rgD A2 c xs]):=by
 have hvle:=Kn t.row
 refine Sp.of (n:=31) ⟨_,Tryz.func48,O,O,O,O⟩ (Nat.le_of_ble_eq_true O) fun Ps As=>Jc (Ja (Lq (Jd O) (Lq (Jd O) (Je (Jf (Jc (Jc (Ja (Lq (Jb O) (Lq (Ku O O) (Lq (Jb O) (Lg O O O (decide_eq_false (by omega)) (Jb O) (Lg O O O (decide_eq_false (by omega)) (Jb O) ?_)))))))))))))
 refine Lg O O O (decide_eq_false (by omega)) (Ke O O) (Lq (JA O (decide_eq_false (by omega)) O) (Lq (Jb O) (Lg O O O (decide_eq_false (by omega)) (Jb O) (Lg O O O (decide_eq_false (by omega)) (Jb O) (Kk O O O (decide_eq_false (by omega)) (JX (YJ b A t wt) (.n1 O) (by decide) .z (Jl Mm0 Jx) fun _ _ _ q9=>?_))))))
 obtain ⟨rfl,rfl,rfl⟩:=q9
 refine Lg O O O (decide_eq_false (by omega)) (Ke O O) (Lq (JA O (decide_eq_false (by omega)) O) (Je (Jf (Jz O (decide_eq_false (by omega)) (Jp (Jf (Jc (Ja (Jg O (Jv (cs:= [_]) Yd O (by decide) fun b8=>Je (Jf (Jc (KE (Jt .z (Jt .z1 ?_)))))))))))))))
 refine Jt .z2 (Ja (Lq (Jb O) (Lq (Jb O) (Lq (Jb O) (Lq (QX (.n1 O)) (Jg O (Y2 (betweenV_1 b A t wt (by omega) lo n hn hln b8) (.n4 O O O O) (by decide) (List.Perm.refl _) (Jl Mm0 Jx) fun _ _ _ q9=>?_)))))))
 obtain ⟨rfl,rfl,q1,bF,bL,bS,F,left,xs,v,p,hV,hr,hq1,rfl⟩:=q9
 refine Je (Jf (Jc (Jc (Jt .z1 ?_))))
 subst hq1
 obtain ⟨Av,cv,rfl⟩:=hr.slice
 have hxl:=hV.pls.len (by omega)
 refine Xf (Qs:=vsL bF bL bS b8 F left _ p) (Kf (A:=RepsF rgD xs (xs.map rgC)) (fun Z w _=>rgs_reps xs Z w) (Ja (Lq (Jj Un38 O O (Ji (Ji (Ji (Jm)))) O) (Lq (J7 Un38 O) (Lq (Ke O O) (Je (Jf (Jz O (decide_eq_false (by omega)) (Jp (Jf (Jc (KW (e:=rgD) (css:=xs.map rgC) hr .z4 O Mm0 fun A9 c9 e9=> ?_))))))))))))
 cases e9
 refine Ja (Lq (Jj Un38 O O (Ji (Ji (Ji (Jm)))) O) (Lq (Jd O) (Lq (Jd O) (Je (Jf (Jn ?_))))))
 refine ⟨_,[_],[_],fun Z w hs=> .tmp O (.tmp O .nil),?_,fun Z w hs=>hs.out (Sd4 (Sk (Sr))) (Jl Mm0 Tt2)⟩
 exact ⟨_,_,xs,hV,O,O,O⟩
theorem visible_0 (b:Nat) (A:Option Addr) (t:Tr) (wt:Wf t) (hb:t.row.length≤60000) (lo n:Nat) (hn:n=0) (hln:lo≤J8 t.row):Sp Tryz.prog 48 [.pointer (some ⟨b,0,none⟩), .int .i64 lo, .int .i64 (lo+n:Nat)] [rpP b A] [TrF A t] (fun u Lo fs=> ∃(A2:Option Addr) (c:Nat) (xs:List Rg),VisR lo n t.row xs∧u= .tuple #[.slice A2 xs.length c, .int .i64 0] ∧Lo= [rpP b A] ∧fs= [RdF rgD A2 c xs]):=by
 subst hn
 have hvle:=Kn t.row
 refine Sp.of (n:=31) ⟨_,Tryz.func48,O,O,O,O⟩ (Nat.le_of_ble_eq_true O) fun Ps As=>Jc (Ja (Lq (Jd O) (Lq (Jd O) (Je (Jf (Jc (Jc (Ja (Lq (Jb O) (Lq (Ku O O) (Lq (Jb O) (Lg O O O (decide_eq_false (by omega)) (Jb O) (Lg O O O (decide_eq_false (by omega)) (Jb O) ?_)))))))))))))
 refine Lg O O O (decide_eq_false (by omega)) (Ke O O) (Lq (JA O (decide_eq_false (by omega)) O) (Lq (Jb O) (Lg O O O (decide_eq_false (by omega)) (Jb O) (Lg O O O (decide_eq_false (by omega)) (Jb O) (Kk O O O (decide_eq_false (by omega)) (JX (YJ b A t wt) (.n1 O) (by decide) .z (Jl Mm0 Jx) fun _ _ _ q9=>?_))))))
 obtain ⟨rfl,rfl,rfl⟩:=q9
 refine Lg O O O (decide_eq_false (by omega)) (Ke O O) (Lq (JA O (decide_eq_false (by omega)) O) (Je (Jf (Jz O (decide_eq_false (by omega)) (Jp (Jf (Jc (Ja (Jg O (Jv (cs:= [_]) Yd O (by decide) fun b8=>Je (Jf (Jc (Ja (Lq (Jb O) (Lq (Jb O) (Lq (Jb O) ?_))))))))))))))))
 refine Lq (QX (.n1 O)) (Jg O (Jo (betweenV_0 b b8 lo) (.n4 O O O O) (by decide) Jx fun _ _ _ q9=>?_))
 obtain ⟨rfl,rfl,rfl⟩:=q9
 refine Je (Jf (Jc (Jc (Ja (Lq (Jj Un38 O O Jm O) (Lq (J7 Un38 O) (Lq (Ke O O) (Je (Jf (Jz O O (Jp (Jf (Jc (Kf (A:=RdF rgD none 0 []) (fun Z w _=>RdS.nil _ Z w) (Ja (Lq (Jj Un38 O O Jm O) (Lq (Jd O) (Lq (Jd O) ?_))))))))))))))))))
 refine Je (Jf (Jn ?_))
 refine ⟨_,[_],[_],fun Z w hs=> .tmp O (.tmp O .nil),?_,fun Z w hs=>hs.out (Sd (Sk (Sr))) (fun _ h=>h)⟩
 exact ⟨none,0,[],⟨⟨trivial,fun r h=>by cases h⟩,by simp [KA]⟩,rfl,rfl,rfl⟩
theorem Hw (b:Nat) (A:Option Addr) (t:Tr) (wt:Wf t) (hb:t.row.length≤60000) (lo n:Nat) (hln:lo+n≤J8 t.row):Sp Tryz.prog 48 [.pointer (some ⟨b,0,none⟩), .int .i64 lo, .int .i64 (lo+n:Nat)] [rpP b A] [TrF A t] (fun u Lo fs=> ∃(A2:Option Addr) (c:Nat) (xs:List Rg),VisR lo n t.row xs∧u= .tuple #[.slice A2 xs.length c, .int .i64 0] ∧Lo= [rpP b A] ∧fs= [RdF rgD A2 c xs]):=by
 rcases Nat.eq_zero_or_pos n with h | h
 ·exact visible_0 b A t wt hb lo n h (by omega)
 ·exact visible_1 b A t wt hb lo n h hln
end Go.Proofs.YthkkklphanidjaaGreatDoor
namespace Go.GW
open Go
section
variable {P:Program} {n:Dm} {R:Post} {l:Fr} {Ps Ps':List Part} {As:List Fact} {dd:Option Tmp} {ty:TypeId} {pos:String} {aft:Array Edge} {g:Option (Nat×Bool)} {K:Nx}
theorem Zm {T E:TypeId} {x lo hi' mx:Operand} {A:Option Addr} {len cap:Nat} {i j m:Int} {z:Option Value} {sz by_:Nat} (hu:P.underlying T=some (.slice E)) (ht:ti P E=some (z,sz,by_)) (hx:evs l x=some (.slice A len cap)) (hl:evs l lo=some (.int .i64 i)) (hi:evs l hi'=some (.int .i64 j)) (hm:evs l mx=some (.int .i64 m)) (h0:0≤i) (hij:i≤j) (hjm:j≤m) (h1:m≤cap):
    QR P l Ps As ⟨dd, .slice T x (some lo) (some hi') (some mx),ty,pos,aft,g⟩ (.slice (cutA A i.toNat m.toNat sz) (j.toNat - i.toNat) (m.toNat - i.toNat)):=fun Z w ρ hs hρ=>by
  have h2:i≤j.toNat:=by omega
  have h3:0≤j:=by omega
  have h4:0≤m:=by omega
  have h5:j≤m.toNat:=by omega
  have h6:j.toNat≤m.toNat:=by omega
  have h7:i.toNat≤j.toNat:=by omega
  have:=QG (P:=P) (A:=A) (len:=len) (cap:=cap) (lo:=i.toNat) (hi:=j.toNat) (m:=m.toNat) (vl:=some (.int .i64 i)) (vh:=some (.int .i64 j)) (vm:=some (.int .i64 m)) (w:=w) hu ht (by simp [Instr.sliceBounds,Instr.sliceBound,asIntOf,h0,h1,h3,h4,Int.toNat_of_nonneg];rw [if_pos (by omega),if_pos (by omega)])
  simp only [execOp,hρ _ _ hx,hρ _ _ hi,hρ _ _ hl,hρ _ _ hm,Option.map_some,Option.map_none,Sem.run_bind,this,Result.andThen_ok,Sem.run_pure]
theorem Ek {T E:TypeId} {d:Nat} {x y:Operand} {zv:Value} {sz by_ k m b cap c:Nat} {ad:Addr} {cs jk news:List Value} {Qs:List Part} (hu:P.underlying T=some (.slice E)) (ht:ti P E=some (some zv,sz,by_)) (hx:evs l x=some (.slice (some ⟨b,0,none⟩) k cap)) (hy:evs l y=some (.slice (some ad) m c))
    (hr:cs.length=k*sz) (hj:(cs++jk).length=cap*sz) (hk:k+m≤cap) (hc:cap≤maxLen) (hl:news.length=m*sz) (hn:m=0∨ ∃q,ad=⟨b,q,none⟩∧ ∀j u,news[j]? =some u→(cs++jk)[q+j]? =some u) (h1:news.all Value.oneCell'=true) (hd:d<n.sz) (hQ:([(b,JD (cs++jk) E)] ::Qs).flatten.Perm Ps.flatten)
    (h: ∀jk',((cs++news)++jk').length=cap*sz→K ((d, .slice (some ⟨b,0,none⟩) (k+m) cap)::l) ([(b,JD ((cs++news)++jk') E)] ::Qs) As):OW P n R l Ps As ⟨some d, .call ⟨.builtin .append,#[x,y],#[T,T]⟩,ty,pos,aft,g⟩ K:=
  K0 rfl hd fun Z w ρ hs hρ=>by
    have hs':=hs.permParts hQ
    have hrow:Row E sz (.slice (some ⟨b,0,none⟩) k cap) k cs [(b,JD (cs++jk) E)] :=⟨hr, .inr ⟨b,cap,jk,rfl,rfl,hj,by omega,hc⟩⟩
    have ht':=ht
    unfold ti at ht'
    cases hi:P.info? E with
    | none=>rw [hi] at ht';cases ht'
    | some i=>
      rw [hi] at ht'
      simp only [Option.map_some,Option.some.injEq,Prod.mk.injEq] at ht'
      have hcell: ∀j u,news[j]? =some u→w.cell? (ad.add j)=some u:=by
        rcases hn with rfl | ⟨q,rfl,hn⟩
        · rw [Nat.zero_mul] at hl
          rw [List.length_eq_zero_iff.1 hl];intro j u hu;simp at hu
        · intro j u hu
          have hca:CellsAt w b 0 (cs++jk):=hs'.cells Jm
          have:=hca.cell (hn j u hu)
          rw [KZ];simpa using this
      obtain ⟨w',g1,g2,g3⟩:=run_append_fits (P:=P) (w:=w) 0 T ty E i sz hu hi ht'.2.1 b k cap cs (hrow.owns hs') ad m c news hl hcell (fun u hu=>List.all_eq_true.1 h1 u hu) hk
      obtain ⟨p',k1,k2⟩:=Row.of_owns hs' hrow g2 g3 (.inl rfl)
      rcases k1.2 with ⟨e,_⟩ | ⟨b',cap',jk',e,rfl,e3,e4,e5⟩
      · cases e
      · simp only [Value.slice.injEq,Option.some.injEq,Addr.mk.injEq,and_true,true_and] at e
        obtain ⟨rfl,rfl⟩:=e
        exact ⟨_,w',Z,_,As,by rw [K5 (hρ _ _ hx) (hρ _ _ hy),Sem.run_bind,g1];rfl,k2,h jk' e3⟩
theorem HU {o:Oper} (ho:o.dst=none) (h: ∀Z w (ρ:Operand→Value),St Z w Ps As→(∀x v,evs l x=some v→ρ x=v)→ ∃v w' Z' Ps' As',(execOp ρ o).run P w= .ok (.value v) w'∧St Z' w' Ps' As'∧K l Ps' As'):OW P n R l Ps As o K:=by
  intro Z w a hs ha
  obtain ⟨v,w',Z',Ps',As',h1,h2,h3⟩:=h Z w a.eval hs fun x v hx=>ha.eval hx
  unfold Oper.wp
  rw [h1]
  exact ⟨l,Z',Ps',As',by rw [ho];exact ha.putN v,h2,h3⟩
theorem ZM {T E:TypeId} {x:Operand} {zv:Value} {sz by_ k b o c:Nat} {cs:List Value} {T':TypeId} {Qs:List Part} (hu:P.underlying T=some (.slice E)) (ht:ti P E=some (some zv,sz,by_)) (hz:zv.cells.size=sz) (h1:zv.cells.toList.all Value.oneCell'=true) (hx:evs l x=some (.slice (some ⟨b,o,none⟩) k c)) (hk:0<k) (ho:o+k*sz≤cs.length) (hQ:([(b,JD cs T')] ::Qs).flatten.Perm Ps.flatten)
    (h: ∀cs',cs'.length=cs.length→cs'.take o=cs.take o→K l ([(b,JD cs' T')] ::Qs) As):OW P n R l Ps As ⟨none, .call ⟨.builtin .clear,#[x],#[T]⟩,ty,pos,aft,g⟩ K:=
  HU rfl fun Z w ρ hs hρ=>by
    have hs':=hs.permParts hQ
    have hzl:((Builtin.zeroCells zv.cells k).toList).length=k*sz:=by rw [Array.length_toList,size_zeroCells,hz]
    have hone: ∀v∈(Builtin.zeroCells zv.cells k).toList,v.oneCell'=true:=by
      intro v hv
      have:v∈zv.cells.toList:=by
        rw [Array.mem_toList_iff] at hv ⊢
        unfold Builtin.zeroCells at hv
        obtain ⟨i,hi,rfl⟩:=Array.mem_map.1 hv
        rw [Array.mem_range] at hi
        have hp:0<zv.cells.size:=by
          rcases Nat.eq_zero_or_pos zv.cells.size with h | h
          · rw [h,Nat.mul_zero] at hi;omega
          · exact h
        have hm:=Nat.mod_lt i hp
        rw [getElem!_pos zv.cells (i % zv.cells.size) hm]
        exact Array.getElem_mem hm
      exact List.all_eq_true.1 h1 v this
    obtain ⟨w',g1,g2⟩:=Qn (P:=P) ((Builtin.zeroCells zv.cells k).toList) w cs o 0 hs' (by rw [hzl];omega) hone
    have e:=V9 ((Builtin.zeroCells zv.cells k).toList) cs o (by rw [hzl];omega)
    refine ⟨.tuple #[],w',Z,_,As,?_,g2,h _ (VL _ _ _) ?_⟩
    · obtain ⟨k,rfl⟩: ∃j,k=j+1:=⟨k-1,by omega⟩
      simp only [execOp,resolve,invoke,List.map_toArray,List.map_cons,List.map_nil,hρ _ _ hx,Sem.run_bind,Sem.run_pure,Result.andThen_ok]
      show ((do pure (Next.value (←Builtin.clear_ #[T] ty #[.slice (some ⟨b,o,none⟩) (k+1) c])):Sem Next)).run P w=_
      simp only [Builtin.clear_,Sem.run_bind,run_underlying hu,Result.andThen_ok,Qa ht,List.getElem?_toArray,List.getElem?_cons_zero,g1,Sem.run_pure]
    · rw [Nat.add_zero,e,List.append_assoc,List.take_append_of_le_length (by rw [List.length_take];omega),List.take_take,Nat.min_self]
theorem cutA_in {b o lo cap sz:Nat} (h:lo<cap):cutA (some ⟨b,o,none⟩) lo cap sz=some ⟨b,o+lo*sz,none⟩:=by
  unfold cutA;rw [if_neg (by omega),Option.map_some,KZ]
theorem cutA_ex (b o lo cap sz:Nat): ∃ad,cutA (some ⟨b,o,none⟩) lo cap sz=some ad∧(lo<cap→ad=⟨b,o+lo*sz,none⟩):=by
  by_cases h:lo<cap
  · exact ⟨_,cutA_in h,fun _=>O⟩
  · unfold cutA
    split
    · exact ⟨_,O,fun h'=>absurd h' h⟩
    · exact ⟨_,O,fun h'=>absurd h' h⟩
theorem Ew {T E:TypeId} {x lo hi':Operand} {b o len cap k m:Nat} {i j:Int} {z:Option Value} {sz by_:Nat} (hk:i.toNat=k) (hm:j.toNat - k=m) (hu:P.underlying T=some (.slice E)) (ht:ti P E=some (z,sz,by_)) (hx:evs l x=some (.slice (some ⟨b,o,none⟩) len cap)) (hl:evs l lo=some (.int .i64 i)) (hi:evs l hi'=some (.int .i64 j)) (h0:0≤i) (hij:i≤j) (h1:j≤cap) (hlt:k<cap):
    QR P l Ps As ⟨dd, .slice T x (some lo) (some hi') none,ty,pos,aft,g⟩ (.slice (some ⟨b,o+k*sz,none⟩) m (cap-k)):=by
  have:=X0 (P:=P) (l:=l) (Ps:=Ps) (As:=As) (dd:=dd) (ty:=ty) (pos:=pos) (aft:=aft) (g:=g) hk hm hu ht hx hl hi h0 hij h1
  rwa [cutA_in hlt] at this
theorem Jax {t t2:TypeId} {a1:Array TypeId} {a2:Array TypeId} {a3:Bool} {x:Operand} {c:Fn} {rs cs:Array Value} (hu:P.underlying t=some (.func a1 a2 a3)) (hx:evs l x=some (.func c rs cs)):QR P l Ps As ⟨dd, .binOp .eql t x (.const .nilFunc) t2,ty,pos,aft,g⟩ (.bool false):=fun Z w ρ hs hρ=>by
  have hy:ρ (.const .nilFunc)= .nilFunc:=hρ _ _ rfl
  have h0:binOp .eql t (.func c rs cs) .nilFunc=(do pure (.bool (←Op.equalIn (9999+1) t (.func c rs cs) .nilFunc))):=rfl
  have h1:eqGuard .eql t x (.const .nilFunc) (.func c rs cs) .nilFunc=pure ():=by unfold eqGuard;rfl
  have h2:(Op.equalIn (9999+1) t (.func c rs cs) .nilFunc).run P w= .ok false w:=by
    unfold Op.equalIn
    simp only [Sem.run_bind,run_underlying hu,Result.andThen_ok]
    rfl
  simp only [execOp,hρ _ _ hx,hy,h1,h0,Sem.run_bind,h2,Result.andThen_ok,Sem.run_pure]
end
end Go.GW
namespace Go.Proofs.YthkkklphanidjaaGreatDoor
open Go Go.GW
abbrev Id2:=Int×Int
def J0 (H:Hist) (on:Bool) (id:Id2):Bool:=match J5 H.ents id.1 id.2 with
 | none=>false
 | some k=>match H.ents[k]? with
  | none=>false
  | some e=>decide (e.op.kind≠4) && (!e.off==on)
theorem XR {H:Hist} {on:Bool} {id:Id2} (h:J5 H.ents id.1 id.2=none):J0 H on id=false:=by unfold J0;rw [h]
theorem QP {H:Hist} {on:Bool} {id:Id2} {k:Nat} (h:J5 H.ents id.1 id.2=some k) (hk:k<H.ents.length):J0 H on id=(decide (H.ents[k].op.kind≠4) && (!H.ents[k].off==on)):=by
 unfold J0;rw [h];simp only [List.getElem?_eq_getElem hk]
def effE (H:Hist) (id:Id2) (on:Bool):Int:=match J5 H.ents id.1 id.2 with
 | none=>60
 | some k=>match H.ents[k]? with
  | none=>60
  | some e=>if e.op.kind=4 then 63 else if e.off=on then 0 else 62
def pickF (ok:Id2→Bool):List Id2→Option (Nat×Id2)
 | [] =>none
 | x::l=>match pickF ok l with
  | some r=>some (r.1+1,r.2)
  | none=>if ok x then some (0,x) else none
theorem VS {ok:Id2→Bool} : ∀ {l:List Id2},(∀x∈l,ok x=false)→pickF ok l=none
 | [],_=>rfl
 | x::l,h=>by
  unfold pickF
  rw [VS fun y hy=>h y (List.mem_cons_of_mem _ hy)]
  simp [h x List.mem_cons_self]
theorem X5 {ok:Id2→Bool} : ∀ {l:List Id2} {k:Nat} (hk:k<l.length),ok l[k] =true→(∀j (hj:j<l.length),k<j→ok l[j] =false)→pickF ok l=some (k,l[k])
 | [],k,hk,_,_=>by simp at hk
 | x::l,0,hk,h1,h2=>by
  unfold pickF
  rw [VS fun y hy=>by
   obtain ⟨j,hj,rfl⟩:=List.mem_iff_getElem.1 hy
   exact h2 (j+1) (by simp;omega) (by omega)]
  simp only [List.getElem_cons_zero] at h1 ⊢
  rw [h1];rfl
 | x::l,k+1,hk,h1,h2=>by
  unfold pickF
  rw [X5 (l:=l) (k:=k) (by simpa using hk) (by simpa using h1) (fun j hj hkj=>by
   have:=h2 (j+1) (by simp;omega) (by omega)
   simpa using this)]
  simp
theorem Y8 {ok:Id2→Bool} : ∀ {l:List Id2} {k:Nat} {x:Id2},pickF ok l=some (k,x)→l[k]? =some x∧ok x=true
 | [],k,x,h=>by simp [pickF] at h
 | y::l,k,x,h=>by
  unfold pickF at h
  cases hp:pickF ok l with
  | some r=>
   rw [hp] at h
   simp only [Option.some.injEq,Prod.mk.injEq] at h
   obtain ⟨rfl,rfl⟩:=h
   have:=Y8 (l:=l) (k:=r.1) (x:=r.2) hp
   simpa using this
  | none=>
   rw [hp] at h
   simp only at h
   split at h
   ·rename_i h1
    simp only [Option.some.injEq,Prod.mk.injEq] at h
    obtain ⟨rfl,rfl⟩:=h
    exact ⟨O,h1⟩
   ·cases h
theorem Sp.thawRow {α:Type} {e:De α} {f:α→List Value} (hf: ∀Z w x,e.rep Z w x (f x)) {P:Program} {k:FuncId} {args:List Value} {Lin:List Part} {pre:List Fact} {res:Value→List Part→List Fact→Prop} {T:TypeId} {v:Value} {p:Part} {xs:List α} (hr:Row T e.sz v xs.length (Kb f xs) p)
  (h: ∀A c,v= .slice A xs.length c→Sp P k args Lin (RdF e A c xs::pre) res) (hres: ∀v Lo fs,res v Lo fs→fs= []):
  Sp P k args (p::Lin) pre (fun v Lo fs=> ∃Lo',res v Lo' [] ∧Lo=p::Lo'∧fs= []):=by
 rcases hr.2 with ⟨rfl,h0,rfl⟩ | ⟨b,cap,jk,rfl,rfl,h1,h2,h3⟩
 ·have hx:xs= [] :=List.length_eq_zero_iff.1 h0
  subst hx
  have hs:=h none 0 rfl
  refine ⟨hs.enters,fun Z w Ps As hst=> ?_⟩
  have h1:St Z w (Lin++Ps) ((RdF e none 0 [] ::pre)++As):=(hst.permParts (Ps':=Lin++Ps) (by simp)).addFact (A:=RdF e none 0 []) (RdS.nil e Z w)
  refine (hs.calls Z w Ps As h1).mono ?_
  rintro e' w' ⟨u,rfl,Z',Lo,fs,g1,g2⟩
  have hfs:=hres _ _ _ g1
  subst hfs
  exact ⟨u,O,Z',[] ::Lo,[],⟨Lo,g1,O,O⟩,(g2.subFacts (As':=pre++As) fun A hA=> .tail _ hA).permParts (by simp)⟩
 ·have hs:=(h (some ⟨b,0,none⟩) cap rfl).thaw (css:=xs.map f) (jk:=jk) (T':=T) hres ⟨h2,h3⟩
  refine ⟨hs.enters,fun Z w Ps As hst=> ?_⟩
  have h4:St Z w ([(b,JD ((xs.map f).flatten++jk) T)] ::Lin++Ps) ((RepsF e xs (xs.map f)::pre)++As):=hst.addFact (A:=RepsF e xs (xs.map f)) (G0 hf xs Z w)
  refine (hs.calls Z w Ps As h4).mono ?_
  rintro e' w' ⟨u,rfl,Z',Lo,fs,⟨Lo',g1,rfl,rfl⟩,g2⟩
  exact ⟨u,O,Z',_,[],⟨Lo',g1,O,O⟩,g2.subFacts (As':=pre++As) fun A hA=> .tail _ hA⟩
theorem Qm {xs:List Id2} :(Kb idC xs).length=xs.length*2:=by
 unfold Kb
 induction xs with
 | nil=>rfl
 | cons x xs ih=>simp only [List.map_cons,List.flatten_cons,List.length_append,ih,List.length_cons,idC,List.length_nil];omega
theorem EY (xs:List Id2):(Kb idC xs).all Value.oneCell'=true:=by
 unfold Kb
 induction xs with
 | nil=>rfl
 | cons x xs ih=>simp only [List.map_cons,List.flatten_cons,List.all_append,ih,Bool.and_true];rfl
theorem Xr (xs:List Id2) (k:Nat):Kb idC xs=Kb idC (xs.take k)++Kb idC (xs.drop k):=by rw [←YG,List.take_append_drop]
theorem Ez (xs:List Id2) (k:Nat):Kb idC (xs.eraseIdx k)=Kb idC (xs.take k)++Kb idC (xs.drop (k+1)):=by rw [List.eraseIdx_eq_take_drop_succ,YG]
def upF (ok:Id2→Bool) (U R:List Id2):Option Id2×List Id2×List Id2:=match pickF ok U with
 | none=>(none,U,R)
 | some (k,x)=>(some x,U.eraseIdx k,R++ [x])
def upI:Option Id2→Id2
 | none=>(0,0)
 | some x=>x
def upC:Option Id2→Int
 | none=>70
 | some _=>0
def upV (o:Option Id2):Value:= .tuple #[.agg #[.int .i64 (upI o).1, .int .i64 (upI o).2], .int .i64 (upC o)]
def pkV:Option (Nat×Id2)→Value
 | none=> .tuple #[.agg #[.int .i64 0, .int .i64 0], .int .i64 0, .int .i64 70]
 | some (k,x)=> .tuple #[.agg #[.int .i64 x.1, .int .i64 x.2], .int .i64 k, .int .i64 0]
end Go.Proofs.YthkkklphanidjaaGreatDoor
